/- Parts of the proof, joined into one text: Queue, TwR, AutS, ExprM, Toks, PosW, SlotS, TwnF. -/
import Derived.Test.YthnapjodmndlaaaPartKIJKDOCI
import Derived.Test.YthnapjodmndlaaaPartEJGNHGCK
import Derived.Test.YthnapjodmndlaaaPartLCJMOOFA
import Derived.WideKeyEntry
import Derived.Test.YthnapjodmndlaaaPartBGGGGECN
/- A slice of the call's own that may begin inside its block (a queue: cut at the front, appended to at the back). -/
namespace Go.Proofs.Ythnapjodmndlaaa
set_option linter.unusedVariables false
set_option linter.unusedSimpArgs false
open Go.ChangeShapes Go.WideShapes Go.ChangeAt Go.RowKit

def QRow (w : World) (lo : Nat) (e : TypeId) (k : Nat) (v : Value) (n : Nat) (xs : List Value) : Prop :=
  xs.length = n * k ∧
  ((v = .slice none 0 0 ∧ n = 0) ∨
   ∃ g o cap cur, v = .slice (some ⟨g, o, none⟩) n cap ∧ lo ≤ g ∧ w.heap[g]? = some (.cells cur e (0, 0)) ∧ n ≤ cap ∧ cap ≤ maxLen ∧ o + cap * k ≤ cur.size ∧ (cur.toList.drop o).take (n * k) = xs)

section
variable {w w' : World} {lo k n : Nat} {e : TypeId} {v : Value} {xs : List Value}
theorem QRow.of_own (h : w.ownsRow lo e k v n xs) : QRow w lo e k v n xs := by
  obtain ⟨hl, hs⟩ := h
  refine ⟨hl, ?_⟩
  rcases hs with hs | ⟨g, cap, cur, hv, hg, hh, hnc, hm, hsz, htk⟩
  · exact .inl hs
  · exact .inr ⟨g, 0, cap, cur, hv, hg, hh, hnc, hm, by omega, by simpa using htk⟩
theorem QRow.lt (h : QRow w lo e k v n xs) : ∀ g, v.ownBlock = some g → lo ≤ g ∧ g < w.heap.size := by
  intro g hg
  rcases h.2 with ⟨rfl, _⟩ | ⟨g', o, cap, cur, rfl, hl, hh, _⟩
  · cases hg
  · have : g' = g := by simpa [Value.ownBlock] using hg
    subst this
    refine ⟨hl, ?_⟩
    rcases Nat.lt_or_ge g' w.heap.size with hlt | hge
    · exact hlt
    · rw [Array.getElem?_eq_none hge] at hh; cases hh
theorem QRow.shape (h : QRow w lo e k v n xs) : ∃ A c, v = .slice A n c ∧ n ≤ c ∧ c ≤ maxLen := by
  rcases h.2 with ⟨rfl, rfl⟩ | ⟨g, o, cap, cur, rfl, _, _, h1, h2, _⟩
  · exact ⟨_, _, rfl, Nat.le_refl _, by unfold maxLen; omega⟩
  · exact ⟨_, _, rfl, h1, h2⟩
theorem QRow.block (h : QRow w lo e k v n xs) (hb : ∀ g, v.ownBlock = some g → w'.heap[g]? = w.heap[g]?) : QRow w' lo e k v n xs := by
  obtain ⟨hl, hs⟩ := h
  refine ⟨hl, ?_⟩
  rcases hs with hs | ⟨g, o, cap, cur, rfl, hg, hh, r⟩
  · exact .inl hs
  · exact .inr ⟨g, o, cap, cur, rfl, hg, (hb g rfl).trans hh, r⟩
theorem QRow.below (h : QRow w lo e k v n xs) {B : Nat} (hb : Below B w w') (hB : w.heap.size ≤ B) : QRow w' lo e k v n xs :=
  h.block fun g hg => hb.block g (by have := (h.lt g hg).2; omega)
theorem QRow.only (h : QRow w lo e k v n xs) {l r : Nat} (hb : Only l r w w') (ho : ∀ g, v.ownBlock = some g → g < l ∨ r ≤ g) : QRow w' lo e k v n xs :=
  h.block fun g hg => hb.block g (h.lt g hg).2 (ho g hg)
theorem QRow.alloc (h : QRow w lo e k v n xs) (o : Obj) : QRow (w.alloc o) lo e k v n xs :=
  h.block fun g hg => Below.heap_alloc w o g (h.lt g hg).2
theorem QRow.cell (h : QRow w lo e k v n xs) (hn : 0 < n) : ∃ g o c, v = .slice (some ⟨g, o, none⟩) n c ∧ lo ≤ g ∧ g < w.heap.size ∧ ∀ j u, xs[j]? = some u → w.cell? ⟨g, o + j, none⟩ = some u := by
  have hlt := h.lt
  obtain ⟨hl, hs⟩ := h
  rcases hs with ⟨_, h0⟩ | ⟨g, o, cap, cur, rfl, hg, hh, hnc, hm, hsz, htk⟩
  · omega
  · refine ⟨g, o, cap, rfl, hg, (hlt g rfl).2, fun j u hu => ?_⟩
    rw [cell_of_row w g (o + j) cur e (0, 0) hh]
    have hj : j < n * k := by rw [← hl]; exact (List.getElem?_eq_some_iff.1 hu).1
    rw [← htk, List.getElem?_take, if_pos hj, List.getElem?_drop] at hu
    simpa using hu
/-- v[1:] -/
theorem QRow.tail (h : QRow w lo e k v (n + 1) xs) {A : Option Addr} {c : Nat} (hv : v = .slice A (n + 1) c) : QRow w lo e k (.slice (if c = 1 then A else A.map (·.add k)) n (c - 1)) n (xs.drop k) := by
  obtain ⟨hl, hs⟩ := h
  refine ⟨by rw [List.length_drop, hl, Nat.succ_mul]; omega, ?_⟩
  rcases hs with ⟨_, h0⟩ | ⟨g, o, cap, cur, rfl, hg, hh, hnc, hm, hsz, htk⟩
  · omega
  · injection hv with h1 _ h3
    subst h1 h3
    by_cases hc : cap = 1
    · rw [if_pos hc]
      have hn0 : n = 0 := by omega
      subst hn0
      refine .inr ⟨g, o, _, cur, rfl, hg, hh, by omega, by omega, by subst hc; simp only [Nat.sub_self, Nat.zero_mul]; omega, ?_⟩
      have : xs.drop k = [] := by rw [List.drop_eq_nil_iff, hl]; omega
      rw [this]; simp
    · rw [if_neg hc]
      refine .inr ⟨g, o + k, cap - 1, cur, ?_, hg, hh, by omega, by omega, ?_, ?_⟩
      · simp only [Option.map_some, Addr.add]
        split
        · rename_i h0; subst h0; rfl
        · rfl
      · have : cap = (cap - 1) + 1 := by omega
        rw [this, Nat.succ_mul] at hsz
        omega
      · rw [← htk, List.drop_take, List.drop_drop, Nat.succ_mul]
        congr 1
        omega
end

section
variable {P : Program} (w : World)
theorem run_append_roomQ (t ty e : TypeId) (i : TypeInfo) (ht : P.underlying t = some (.slice e)) (hi : P.info? e = some i)
    (g o sLen sCap : Nat) (cur : Array Value) (hg : w.heap[g]? = some (.cells cur e (0, 0)))
    (a : Addr) (m c : Nat) (news : List Value) (hl : news.length = m * i.size) (hnews : ∀ j u, news[j]? = some u → w.cell? (a.add j) = some u) (h1 : ∀ u ∈ news, u.oneCell' = true)
    (hroom : sLen + m ≤ sCap) (hfit : o + sLen * i.size + news.length ≤ cur.size) :
    (Builtin.append_ #[t, t] ty #[.slice (some ⟨g, o, none⟩) sLen sCap, .slice (some a) m c]).run P w =
      .ok (.slice (some ⟨g, o, none⟩) (sLen + m) sCap) (w.setRow g (cur.toList.take (o + sLen * i.size) ++ news ++ cur.toList.drop (o + sLen * i.size + news.length)).toArray) := by
  have hf := run_firstCells_some (P := P) w i.size m a m c news hl hnews
  have hst := run_storeCells_at P g (o + sLen * i.size) e news 0 cur w hg (by simpa using hfit) h1
  simp only [Nat.add_zero] at hst
  have hadd : (⟨g, o, none⟩ : Addr).add (sLen * i.size) = ⟨g, o + sLen * i.size, none⟩ := by
    unfold Addr.add
    split
    · rename_i h0; rw [h0]; rfl
    · rfl
  simp [Builtin.append_, run_underlying ht, sizeOf, typeInfo, hi, Builtin.lenOf, hroom, hf, hadd, hst]

theorem run_appendQ (base : Nat) (t ty e : TypeId) (i : TypeInfo) (z : Value) (size bytes : Nat) (ht : P.underlying t = some (.slice e)) (hi : P.info? e = some i) (hz : i.zero = some z)
    (hsize : i.size = size) (hby : i.bytes = bytes) (hzs : z.cells.size = size) (hsz : 0 < size)
    (v : Value) (n : Nat) (xs : List Value) (hown : QRow w base e size v n xs)
    (a : Addr) (m c : Nat) (news : List Value) (hm0 : 0 < m) (hl : news.length = m * size) (hnews : ∀ j u, news[j]? = some u → w.cell? (a.add j) = some u) (h1 : ∀ u ∈ news, u.oneCell' = true)
    (h63 : n + m ≤ maxLen) (hbytes : (n + m) * bytes ≤ 140737488355328) (hbase : base ≤ w.heap.size) :
    ∃ v' w', (Builtin.append_ #[t, t] ty #[v, .slice (some a) m c]).run P w = .ok v' w' ∧ QRow w' base e size v' (n + m) (xs ++ news) ∧ w.grownBy w' v.ownBlock ∧ (v'.ownBlock = v.ownBlock ∨ v'.ownBlock = some w.heap.size) := by
  rcases hown.2 with ⟨rfl, rfl⟩ | ⟨g, o, cap, cur, rfl, hbg, hg, hnc, hcm, hcs, htake⟩
  · have hx : xs = [] := List.eq_nil_of_length_eq_zero (by simpa using hown.1)
    subst hx
    obtain ⟨v', w', hr, h2, h3, _, h5⟩ := run_append_own_at (P := P) w base t ty e i z size bytes ht hi hz hsize hby hzs hsz (.slice none 0 0) 0 [] (World.ownsRow_nil w base e size) a m c news hl hnews h1 h63 hbytes hbase
    exact ⟨v', w', hr, QRow.of_own h2, h3, h5⟩
  · subst hsize hby
    have hsmall : n + m ≤ 9223372036854775807 := by simp only [maxLen] at h63; omega
    have hlen : (xs ++ news).length = (n + m) * i.size := by rw [List.length_append, hown.1, hl, Nat.add_mul]
    by_cases hroom : n + m ≤ cap
    · have hfit : o + n * i.size + news.length ≤ cur.size := by
        rw [hl, Nat.add_assoc, ← Nat.add_mul]
        have := Nat.mul_le_mul_right i.size hroom
        omega
      have hr := run_append_roomQ (P := P) w t ty e i ht hi g o n cap cur hg a m c news hl hnews h1 hroom hfit
      refine ⟨_, _, hr, ⟨hlen, .inr ⟨g, o, cap, _, rfl, hbg, setRow_heap w g cur _ e _ hg, hroom, hcm, ?_, ?_⟩⟩, ⟨rfl, rfl, rfl, by simp, fun k _ hk => setRow_other w g k _ (fun e => hk (by simp [Value.ownBlock, e]))⟩, .inl rfl⟩
      · simp only [List.size_toArray, List.length_append, List.length_take, List.length_drop, Array.length_toList]
        omega
      · have h2 : (cur.toList.take (o + n * i.size)).drop o = xs := by rw [List.drop_take, Nat.add_sub_cancel_left]; exact htake
        have hle : o ≤ (cur.toList.take (o + n * i.size)).length := by rw [List.length_take, Array.length_toList]; omega
        rw [List.append_assoc, List.drop_append_of_le_length hle, h2, ← List.append_assoc, ← hlen]
        exact List.take_left
    · have holds : ∀ j u, xs[j]? = some u → w.cell? ((⟨g, o, none⟩ : Addr).add j) = some u := by
        intro j u hu
        have hj : j < n * i.size := by rw [← hown.1]; exact (List.getElem?_eq_some_iff.1 hu).1
        have hadd : (⟨g, o, none⟩ : Addr).add j = ⟨g, o + j, none⟩ := by
          unfold Addr.add
          split
          · rename_i h0; subst h0; rfl
          · rfl
        rw [hadd, cell_of_row w g (o + j) cur e (0, 0) hg]
        rw [← htake, List.getElem?_take, if_pos hj, List.getElem?_drop] at hu
        simpa using hu
      have hr := run_append_grow (P := P) w t ty e i z ht hi hz ⟨g, o, none⟩ n cap xs hown.1 holds a m c news hl hnews (by omega) (by omega) (growslice_fits (by omega) hbytes)
      have hge := grownCap_ge w (n + m) cap e
      have hcm2 : grownCap w (n + m) cap e ≤ maxLen := grownCap_le_maxLen w (n + m) cap e h63
      refine ⟨_, _, hr, ⟨hlen, .inr ⟨w.heap.size, 0, _, _, rfl, hbase, heap_alloc_new w.drew _, hge, hcm2, ?_, ?_⟩⟩, ⟨rfl, rfl, rfl, by simp, fun k hk _ => Below.heap_alloc w.drew _ k hk⟩, .inr rfl⟩
      · simp only [Array.size_append, List.size_toArray, size_zeroCells, hzs, hown.1, hl, ← Nat.add_mul, Nat.zero_add]
        apply Nat.le_of_eq
        congr 1
        omega
      · rw [List.drop_zero, Array.toList_append, Array.toList_append, ← hlen]
        exact List.take_left

/-- append(q, x): the one element was laid in a block of its own first -/
theorem wpList_appendQ1 {w : World} {α : Type} (E : α → List Value) {ops : Array Oper} {rest : List Oper} {o : Oper} {a : Act} {Q : Exit → Act → World → Prop} {t e : TypeId} {z : Value} {k bytes : Nat} (el : ElemOk P t e z k bytes)
    (hgd : o.guard = none) (s y : Operand) (ho : o.op = .call { callee := .builtin .append, args := #[s, y], argTypes := #[t, t] })
    (base : Nat) (v : Value) (xs : List α) (x : α) (cs : Array Value) (c H : Nat) (hs : a.eval s = v) (hown : QRow w base e k v xs.length (xs.flatMap E)) (hy : a.eval y = .slice (some ⟨H, 0, none⟩) 1 c) (hH : H = w.heap.size)
    (hcs : cs = (E x).toArray) (hE : (E x).length = k) (h1 : ∀ u ∈ E x, u.oneCell' = true) (hbytes : (xs.length + 1) * bytes ≤ 140737488355328) (hb0 : 0 < bytes) (hbase : base ≤ w.heap.size)
    (h : ∀ v' w', QRow w' base e k v' (xs ++ [x]).length ((xs ++ [x]).flatMap E) → Below base w w' → (v'.ownBlock = v.ownBlock ∨ ∃ g, v'.ownBlock = some g ∧ w.heap.size ≤ g) → (w.alloc (.cells cs e)).grownBy w' v.ownBlock → wpList P ops Q rest (a.put o.dst v') w') :
    wpList P ops Q (o :: rest) a (w.alloc (.cells cs e)) := by
  subst hcs hH
  obtain ⟨i, hi, hz0, hz1, hz2⟩ := info_parts el.info
  have hlen : xs.length + 1 ≤ 140737488355328 := Nat.le_trans (Nat.le_mul_of_pos_right _ hb0) hbytes
  obtain ⟨v', w', hr, h2, h3, h5⟩ := run_appendQ (P := P) (w.alloc (.cells (E x).toArray e)) base t o.type e i z k bytes el.und hi hz0 hz1 hz2 el.zc el.pos v xs.length (xs.flatMap E) (hown.alloc _) ⟨w.heap.size, 0, none⟩ 1 c (E x) (by omega) (by rw [hE, Nat.one_mul])
    (fun j u hu => by
      have hadd : (⟨w.heap.size, 0, none⟩ : Addr).add j = ⟨w.heap.size, j, none⟩ := by unfold Addr.add; split <;> simp_all
      rw [hadd, World.cell?_alloc_new]
      simpa using hu) h1 (by unfold maxLen; omega) hbytes (by simp; omega)
  refine wpList_plain hgd fun K hK => ?_
  unfold Oper.wp execOp
  simp only [ho, resolve, invoke, builtin, Sem.run_bind, Sem.run_pure, Result.andThen_ok, List.map_toArray, List.map_cons, List.map_nil, hs, hy, hr]
  refine hK _ _ (h v' w' (by simpa using h2) ((((Below.refl base w).alloc hbase _)).trans ((Below.refl _ _).grown h3 (by simp; omega) (fun g hg => (hown.lt g hg).1))) ?_ h3)
  rcases h5 with h5 | h5
  · exact .inl h5
  · exact .inr ⟨_, h5, by simp⟩
end
end Go.Proofs.Ythnapjodmndlaaa

/- What the program's twinDistances holds in memory while it finds the pairs: the list, the set, the map of those before. -/
namespace Go.Proofs.Ythnapjodmndlaaa
set_option linter.unusedVariables false
set_option linter.unusedSimpArgs false
open Go.ChangeShapes Go.WideShapes Go.ChangeAt Go.RowKit Go.Maps Go.ChangeMaps

set_option maxRecDepth 100000 in
theorem lawTwin : WideMaps.KeyLaw Try.prog 56 := deep_law_laid laidOutT (m := 5) (by decide) (of_decide_eq_true rowTwin) typeTwin wideTwin
/-- the entry of a key, then the store into it: as the store -/
theorem TwMap.entry {w : World} {b n : Nat} {f : Twn → Option Value} (h : TwMap w b n f) {T e : TypeId} (hT : Try.prog.underlying T = some (.map 56 e)) (hn : n < maxLen) {t : Twn} (ht : twLow t) {z : Value} (hz : ∀ u : World, (zeroValue e).run Try.prog u = .ok z u) {zd : DataW Unit} (hzd : encS z = some (zd, [])) :
    ∃ (st : Nat) (w1 : World), (Instr.mapEntry T (.map (some b)) (twV t)).run Try.prog w = .ok (.tuple #[(f t).getD z, goInt st]) w1 ∧ w.grownBy w1 (some b) ∧ w1.heap.size = w.heap.size ∧
      ∀ (w2 : World) (v : Value) (d : DataW Unit), w2.heap[b]? = w1.heap[b]? → encS v = some (d, []) → ∃ w3, (Instr.entryStore T (.map (some b)) (goInt st) v).run Try.prog w2 = .ok () w3 ∧ TwMap w3 b (n + 1) (updT f t v) ∧ w2.grownBy w3 (some b) := by
  have hlook := h.look hT (hz w) hzd ht
  have hput := fun (v : Value) (d : DataW Unit) (hv : encS v = some (d, [])) => h.put hT hn ht hv
  obtain ⟨D, ⟨es, clock, hb, F, hs, hD⟩, -⟩ := h
  obtain ⟨v0, st, es1, clock1, hrun, hval, hst⟩ := WideElems.entry_then_store lawTwin hT hz hb F (keyTwin ht)
  have hv0 : v0 = (f t).getD z := by
    rcases Maps.fit_look false keyedTwin hT (hz w) hb F (keyTwin ht) with ⟨hr, hno, -⟩ | ⟨e1, y, hm, hk, hr, -⟩
    · rw [hlook] at hr
      have hr : (f t).getD z = z := by injection hr
      rcases hval with ⟨e0, he0, hk0, rfl⟩ | ⟨-, rfl⟩
      · exact absurd hk0 (hno e0 he0)
      · exact hr.symm
    · rw [hlook] at hr
      have hr : (f t).getD z = e1.val := by injection hr
      rcases hval with ⟨e0, he0, hk0, rfl⟩ | ⟨hno, -⟩
      · rw [hr]
        obtain ⟨i, hi, hie⟩ := List.getElem_of_mem he0
        obtain ⟨j, hj, hje⟩ := List.getElem_of_mem hm
        have hn := F.stamped.2.2
        have h2 : (es.toList.map (·.key))[i]'(by rw [List.length_map]; exact hi) = (es.toList.map (·.key))[j]'(by rw [List.length_map]; exact hj) := by rw [List.getElem_map, List.getElem_map, hie, hje, hk0, hk]
        have h3 := (List.getElem_inj hn).1 h2
        subst h3
        rw [← hie, ← hje]
      · exact absurd hk (hno e1 hm)
  refine ⟨st, setBlock w b (.map es1 clock1), by rw [hrun, hv0], ⟨rfl, rfl, rfl, by simp [setBlock], fun i _ hi => heap_setBlock_other hb _ (fun e => hi (by rw [e]))⟩, by simp [setBlock], fun w2 v d hw2 hv => ?_⟩
  rw [heap_setBlock_same hb] at hw2
  obtain ⟨es', clock', hr2, hr3⟩ := hst w2 v hw2
  obtain ⟨w', hr4, h5, -⟩ := hput v d hv
  rw [hr3] at hr4
  have hw' : w' = setBlock w b (.map es' clock') := (Result.ok.inj hr4).2.symm
  subst hw'
  exact ⟨_, hr2, h5.block (by rw [heap_setBlock_same hw2, heap_setBlock_same hb]), ⟨rfl, rfl, rfl, by simp [setBlock], fun i _ hi => heap_setBlock_other hw2 _ (fun e => hi (by rw [e]))⟩⟩
abbrev nilT : Value := .slice none 0 0
def seenT (A : List Twn) : Twn → Option Value := fun t => if A.contains t = true then some (.bool true) else none
theorem seenT_snoc (A : List Twn) (t : Twn) : updT (seenT A) t (.bool true) = seenT (A ++ [t]) := by
  funext u
  rw [updT, seenT, seenT]
  by_cases h : u = t
  · subst h
    rw [if_pos rfl, if_pos (List.contains_iff_mem.2 (List.mem_append_right _ (List.mem_singleton.2 rfl)))]
  · rw [if_neg h]
    by_cases h2 : u ∈ A
    · rw [if_pos (List.contains_iff_mem.2 h2), if_pos (List.contains_iff_mem.2 (List.mem_append_left _ h2))]
    · rw [if_neg (fun e => h2 (List.contains_iff_mem.1 e)), if_neg (fun e => by exact (List.mem_append.1 (List.contains_iff_mem.1 e)).elim h2 fun h3 => h (List.mem_singleton.1 h3))]
structure TwR (lo : Nat) (w0 wr : World) (va : Value) (bs bb m : Nat) (A : List Twn) (F : Twn → Option Value) (B : Twn → List Twn) : Prop where
  all : wr.ownsRow lo 56 3 va A.length (A.flatMap cTw)
  seen : TwMap wr bs m (seenT A)
  bef : TwMap wr bb m F
  rows : ∀ t, wr.ownsRow lo 56 3 ((F t).getD nilT) (B t).length ((B t).flatMap cTw)
  apF : ∀ t u b, t ≠ u → ((F t).getD nilT).ownBlock = some b → ((F u).getD nilT).ownBlock ≠ some b
  apA : ∀ t b, ((F t).getD nilT).ownBlock = some b → va.ownBlock ≠ some b
  lb : lo ≤ bs ∧ lo ≤ bb
  ne : bs ≠ bb
  bl : ∀ t, (B t).length ≤ m
  bel : Below lo w0 wr
section
variable {lo : Nat} {w0 wr w3 w4 w5 : World} {va va' v' : Value} {bs bb m : Nat} {A : List Twn} {F : Twn → Option Value} {B : Twn → List Twn} {t u : Twn}
theorem TwR.mono (h : TwR lo w0 wr va bs bb m A F B) {m' : Nat} (hm : m ≤ m') : TwR lo w0 wr va bs bb m' A F B :=
  ⟨h.all, h.seen.mono hm, h.bef.mono hm, h.rows, h.apF, h.apA, h.lb, h.ne, fun t => Nat.le_trans (h.bl t) hm, h.bel⟩
theorem TwR.below (h : TwR lo w0 wr va bs bb m A F B) (hs : lo ≤ w0.heap.size) (hb : Below wr.heap.size wr w4) : TwR lo w0 w4 va bs bb m A F B :=
  ⟨ownsRow_below h.all hb (Nat.le_refl _), h.seen.below hb, h.bef.below hb, fun t => ownsRow_below (h.rows t) hb (Nat.le_refl _), h.apF, h.apA, h.lb, h.ne, h.bl, h.bel.trans (hb.mono (Nat.le_trans hs h.bel.size))⟩
/-- a row grew, and the map was told of it -/
theorem TwR.put (h : TwR lo w0 wr va bs bb m A F B) (hsz : wr.heap.size ≤ w3.heap.size) (hfr : ∀ k, k < wr.heap.size → k ≠ bb → ((F t).getD nilT).ownBlock ≠ some k → w3.heap[k]? = wr.heap[k]?) (hos : w3.os = wr.os ∧ w3.tape = wr.tape ∧ w3.output = wr.output) (hs : lo ≤ w0.heap.size)
    (hm : TwMap w3 bb (m + 1) (updT F t v')) (hrow : w3.ownsRow lo 56 3 v' (B t ++ [u]).length ((B t ++ [u]).flatMap cTw)) (hat : v'.ownBlock = ((F t).getD nilT).ownBlock ∨ ∃ b, v'.ownBlock = some b ∧ wr.heap.size ≤ b) :
    TwR lo w0 w3 va bs bb (m + 1) A (updT F t v') (putB B t u) := by
  have hlt : ∀ x b, ((F x).getD nilT).ownBlock = some b → lo ≤ b ∧ b < wr.heap.size := fun x b hb => (h.rows x).lt b hb
  have hla : ∀ b, va.ownBlock = some b → lo ≤ b ∧ b < wr.heap.size := fun b hb => h.all.lt b hb
  have hnb : ∀ x b, ((F x).getD nilT).ownBlock = some b → b ≠ bb := fun x b hb e => h.bef.notRow (h.rows x) (e ▸ hb)
  have hnA : ∀ b, va.ownBlock = some b → b ≠ bb := fun b hb e => h.bef.notRow h.all (e ▸ hb)
  have hF : ∀ x, x ≠ t → (updT F t v' x).getD nilT = (F x).getD nilT := fun x hx => by rw [updT, if_neg hx]
  have hFt : (updT F t v' t).getD nilT = v' := by rw [updT, if_pos rfl]; rfl
  refine ⟨?_, ?_, hm, fun x => ?_, fun x y b hxy hb => ?_, fun x b hb => ?_, h.lb, h.ne, fun x => ?_, ?_⟩
  · exact ownsRow_block h.all fun b hb => hfr b (hla b hb).2 (hnA b hb) (fun e => h.apA t b e hb)
  · refine (h.seen.mono (Nat.le_succ m)).block (hfr bs h.seen.lt h.ne (fun e => h.seen.notRow (h.rows t) e))
  · by_cases hx : x = t
    · subst hx
      rw [hFt, putB, if_pos rfl]
      exact hrow
    · rw [hF x hx, putB, if_neg hx]
      exact ownsRow_block (h.rows x) fun b hb => hfr b (hlt x b hb).2 (hnb x b hb) (fun e => h.apF t x b (Ne.symm hx) e hb)
  · by_cases hx : x = t
    · subst hx
      rw [hFt] at hb
      rw [hF y (Ne.symm hxy)]
      intro hy
      rcases hat with e | ⟨c, e, hge⟩
      · exact h.apF x y b hxy (by rw [← e]; exact hb) hy
      · rw [e] at hb
        cases hb
        have := (hlt y b hy).2
        omega
    · rw [hF x hx] at hb
      by_cases hy : y = t
      · subst hy
        rw [hFt]
        intro hy
        rcases hat with e | ⟨c, e, hge⟩
        · exact h.apF x y b hxy hb (by rw [← e]; exact hy)
        · rw [e] at hy
          cases hy
          have := (hlt x b hb).2
          omega
      · rw [hF y hy]
        exact h.apF x y b hxy hb
  · by_cases hx : x = t
    · subst hx
      rw [hFt] at hb
      intro hA
      rcases hat with e | ⟨c, e, hge⟩
      · exact h.apA x b (by rw [← e]; exact hb) hA
      · rw [e] at hb
        cases hb
        have := (hla b hA).2
        omega
    · rw [hF x hx] at hb
      exact h.apA x b hb
  · rw [putB]
    split
    · have := h.bl x
      rw [List.length_append, List.length_singleton]
      omega
    · exact Nat.le_succ_of_le (h.bl x)
  · refine h.bel.trans ⟨hos.1, hos.2.1, hos.2.2, hsz, fun k hk => hfr k ?_ ?_ ?_⟩
    · have := h.bel.size; omega
    · have := h.lb.2; omega
    · intro e
      have := (hlt t k e).1
      omega
/-- a new pair: the set was told of it, and the list grew -/
theorem TwR.add (h : TwR lo w0 wr va bs bb m A F B) (hs : lo ≤ w0.heap.size) (h4 : TwMap w4 bs (m + 1) (updT (seenT A) t (.bool true))) (hg4 : wr.grownBy w4 (some bs)) {o : Obj}
    (hrow : w5.ownsRow lo 56 3 va' (A ++ [t]).length ((A ++ [t]).flatMap cTw)) (hg : (w4.alloc o).grownBy w5 va.ownBlock) (hat : va'.ownBlock = va.ownBlock ∨ ∃ b, va'.ownBlock = some b ∧ w4.heap.size ≤ b) :
    TwR lo w0 w5 va' bs bb (m + 1) (A ++ [t]) F B := by
  have hlt : ∀ x b, ((F x).getD nilT).ownBlock = some b → lo ≤ b ∧ b < wr.heap.size := fun x b hb => (h.rows x).lt b hb
  have hla : ∀ b, va.ownBlock = some b → lo ≤ b ∧ b < wr.heap.size := fun b hb => h.all.lt b hb
  have hs4 := hg4.size
  have hfr : ∀ k, k < wr.heap.size → k ≠ bs → va.ownBlock ≠ some k → w5.heap[k]? = wr.heap[k]? := fun k hk h1 h2 => by
    rw [hg.block k (by simp; omega) (fun e => h2 e.symm), Below.heap_alloc _ _ _ (by omega), hg4.block k hk (fun e => h1 (by injection e))]
  have hsz : w4.heap.size ≤ w5.heap.size := by have := hg.size; simp at this; omega
  refine ⟨hrow, ?_, ?_, fun x => ?_, h.apF, fun x b hb hA => ?_, h.lb, h.ne, fun x => Nat.le_succ_of_le (h.bl x), ?_⟩
  · rw [← seenT_snoc]
    exact h4.block (by rw [hg.block bs (by have := h4.lt; simp; omega) (fun e => h.seen.notRow h.all e.symm), Below.heap_alloc _ _ _ h4.lt])
  · exact (h.bef.mono (Nat.le_succ m)).block (hfr bb h.bef.lt (Ne.symm h.ne) (fun e => h.bef.notRow h.all e))
  · exact ownsRow_block (h.rows x) fun b hb => hfr b (hlt x b hb).2 (fun e => h.seen.notRow (h.rows x) (e ▸ hb)) (h.apA x b hb)
  · rcases hat with e | ⟨c, e, hge⟩
    · exact h.apA x b hb (by rw [← e]; exact hA)
    · rw [e] at hA
      cases hA
      have := (hlt x b hb).2
      omega
  · refine h.bel.trans ⟨hg.os.trans hg4.os, hg.tape.trans hg4.tape, hg.output.trans hg4.output, by omega, fun k hk => hfr k ?_ ?_ ?_⟩
    · have := h.bel.size; omega
    · have := h.lb.1; omega
    · intro e
      have := (hla k e).1
      omega
end
/-- a list that stands apart and is read -/
structure AwR (lo3 hi3 : Nat) (wr : World) (va : Value) (F : Twn → Option Value) (bs bb : Nat) (vN : Value) (NX : List Twn) : Prop where
  a : ∀ b, va.ownBlock = some b → b < lo3 ∨ hi3 ≤ b
  f : ∀ t b, ((F t).getD nilT).ownBlock = some b → b < lo3 ∨ hi3 ≤ b
  sl : SlI lo3 hi3 wr cTw 3 vN NX
  le : hi3 ≤ wr.heap.size
  ms : bs < lo3
  mb : bb < lo3
section
variable {lo3 hi3 : Nat} {wr w3 w4 w5 : World} {va va' v' vN : Value} {bs bb : Nat} {F : Twn → Option Value} {NX : List Twn} {t : Twn}
theorem AwR.below (h : AwR lo3 hi3 wr va F bs bb vN NX) (hb : Below wr.heap.size wr w4) : AwR lo3 hi3 w4 va F bs bb vN NX :=
  ⟨h.a, h.f, h.sl.below hb h.le, Nat.le_trans h.le hb.size, h.ms, h.mb⟩
theorem AwR.put (h : AwR lo3 hi3 wr va F bs bb vN NX) (hsz : wr.heap.size ≤ w3.heap.size) (hfr : ∀ k, k < wr.heap.size → k ≠ bb → ((F t).getD nilT).ownBlock ≠ some k → w3.heap[k]? = wr.heap[k]?) (hat : v'.ownBlock = ((F t).getD nilT).ownBlock ∨ ∃ b, v'.ownBlock = some b ∧ wr.heap.size ≤ b) :
    AwR lo3 hi3 w3 va (updT F t v') bs bb vN NX := by
  have hmb := h.mb
  have hle := h.le
  refine ⟨h.a, fun x b hb => ?_, h.sl.keep_ fun b o h1 h2 => World.cell?_of_block (w := wr) (a := ⟨b, o, none⟩) (hfr b (by omega) (by omega) (fun e => by have := h.f t b e; omega)), Nat.le_trans h.le hsz, h.ms, h.mb⟩
  by_cases hx : x = t
  · subst hx
    rw [updT, if_pos rfl, Option.getD_some] at hb
    rcases hat with e | ⟨c, e, hge⟩
    · exact h.f x b (by rw [← e]; exact hb)
    · rw [e] at hb
      cases hb
      exact .inr (by omega)
  · rw [updT, if_neg hx] at hb
    exact h.f x b hb
theorem AwR.add (h : AwR lo3 hi3 wr va F bs bb vN NX) (hg4 : wr.grownBy w4 (some bs)) {o : Obj} (hg : (w4.alloc o).grownBy w5 va.ownBlock) (hat : va'.ownBlock = va.ownBlock ∨ ∃ b, va'.ownBlock = some b ∧ w4.heap.size ≤ b) : AwR lo3 hi3 w5 va' F bs bb vN NX := by
  have hms := h.ms
  have hle := h.le
  have hs4 := hg4.size
  have hs5 : w4.heap.size ≤ w5.heap.size := by have := hg.size; simp at this; omega
  refine ⟨fun b hb => ?_, h.f, h.sl.keep_ fun b o h1 h2 => World.cell?_of_block (w := wr) (a := ⟨b, o, none⟩) ?_, by omega, h.ms, h.mb⟩
  · rcases hat with e | ⟨c, e, hge⟩
    · exact h.a b (by rw [← e]; exact hb)
    · rw [e] at hb
      cases hb
      exact .inr (by omega)
  · show w5.heap[b]? = wr.heap[b]?
    rw [hg.block b (by simp; omega) (fun e => by have := h.a b e.symm; omega), Below.heap_alloc _ _ _ (by omega), hg4.block b (by omega) (fun e => by injection e; omega)]
end
/-- the map's block and one row have turned, nothing else -/
structure FrT (bb : Nat) (row : Option Nat) (X Y : World) : Prop where
  os : Y.os = X.os ∧ Y.tape = X.tape ∧ Y.output = X.output
  size : X.heap.size ≤ Y.heap.size
  block : ∀ k, k < X.heap.size → k ≠ bb → row ≠ some k → Y.heap[k]? = X.heap[k]?
section
variable {bb : Nat} {row : Option Nat} {X Y Y' : World}
theorem FrT.refl (bb : Nat) (row : Option Nat) (X : World) : FrT bb row X X := ⟨⟨rfl, rfl, rfl⟩, Nat.le_refl _, fun _ _ _ _ => rfl⟩
theorem FrT.drew (h : FrT bb row X Y) : FrT bb row X Y.drew := ⟨h.os, h.size, h.block⟩
theorem FrT.alloc (h : FrT bb row X Y) (o : Obj) : FrT bb row X (Y.alloc o) := ⟨h.os, by have := h.size; simp; omega, fun k hk h1 h2 => (Below.heap_alloc _ _ _ (by have := h.size; omega)).trans (h.block k hk h1 h2)⟩
theorem FrT.ent (h : FrT bb row X Y) (hg : Y.grownBy Y' (some bb)) : FrT bb row X Y' :=
  ⟨⟨hg.os.trans h.os.1, hg.tape.trans h.os.2.1, hg.output.trans h.os.2.2⟩, Nat.le_trans h.size hg.size, fun k hk h1 h2 => (hg.block k (by have := h.size; omega) (fun e => h1 (by injection e))).trans (h.block k hk h1 h2)⟩
theorem FrT.own (h : FrT bb row X Y) (hg : Y.grownBy Y' row) : FrT bb row X Y' :=
  ⟨⟨hg.os.trans h.os.1, hg.tape.trans h.os.2.1, hg.output.trans h.os.2.2⟩, Nat.le_trans h.size hg.size, fun k hk h1 h2 => (hg.block k (by have := h.size; omega) (fun e => h2 e.symm)).trans (h.block k hk h1 h2)⟩
theorem FrT.blk (h : FrT bb row X Y) {g : Nat} {t : TypeId} {cs : Array Value} (hz : Blk X g t cs) (h1 : g ≠ bb) (h2 : row ≠ some g) : Blk Y g t cs := (h.block g hz.lt h1 h2).trans hz
end
theorem QRow.notMap {w : World} {lo k n : Nat} {e : TypeId} {v : Value} {xs : List Value} (h : QRow w lo e k v n xs) {b m : Nat} {f : Twn → Option Value} (hm : TwMap w b m f) : v.ownBlock ≠ some b := by
  obtain ⟨es, clock, h1⟩ := hm.isMap
  rcases h.2 with ⟨rfl, -⟩ | ⟨g, o, cap, cur, rfl, -, hh, -⟩
  · simp [Value.ownBlock]
  · intro e1
    have e1 : some g = some b := by simpa [Value.ownBlock] using e1
    cases e1
    rw [h1] at hh
    cases hh
end Go.Proofs.Ythnapjodmndlaaa

/- The reference's functions on automata. -/
namespace Go.Proofs.Ythnapjodmndlaaa
set_option linter.unusedVariables false
set_option linter.unusedSimpArgs false
open Go.ChangeShapes Go.WideShapes Go.ChangeAt Go.RowKit
attribute [local go_sem] ext_cell ext_frozen ext_lt ext_lt1 ext_lt2 ext_lt3 ltn2 ltn3 ltn13 lts1 lts2 lts3

theorem l1In_any (n a b : Int) (w : World) : Calls Try.prog 33 #[.int .i64 n, .int .i64 a, .int .i64 b] w fun e w' => e = .returned (.bool (wi n a b)) ∧ w' = w := by
  unfold wi
  by_cases h1 : a ≤ n
  · have e1 : decide (a ≤ n) = true := by simpa using h1
    by_cases h2 : n ≤ b
    · go_enter Try.func33, Try.ntmps33
      go_wp2
      go_ret
      exact ⟨by simp [h1, h2], rfl⟩
    · go_enter Try.func33, Try.ntmps33
      go_wp2
      go_ret
      exact ⟨by simp [h1]; try omega, rfl⟩
  · have e1 : decide (a ≤ n) = false := by simpa using h1
    go_enter Try.func33, Try.ntmps33
    go_wp2
    go_ret
    exact ⟨by simp [h1]; try omega, rfl⟩



end Go.Proofs.Ythnapjodmndlaaa

/- Expressions, plainly: tokens behind their operands, the tree that they are, and where the last operand begins. -/
namespace Go.Proofs.Ythnapjodmndlaaa
set_option linter.unusedVariables false
set_option linter.unusedSimpArgs false

/-- a token: its kind, letter, low and high -/
abbrev Tok := Int × Int × Int × Int
def tokPlain (t : Tok) : Bool := t.2.1 == 0 && (t.2.2.1 == 0 && t.2.2.2 == 0)
/-- how many operands a token takes; none if it is no token -/
def ar (t : Tok) : Option Nat :=
  if t.1 = 1 ∨ t.1 = 2 then (if tokPlain t = true then some 0 else none)
  else if t.1 = 3 then (if 0 ≤ t.2.1 ∧ t.2.1 ≤ 8 ∧ t.2.2.1 = 0 ∧ t.2.2.2 = 0 then some 0 else none)
  else if t.1 = 4 ∨ t.1 = 5 then (if tokPlain t = true then some 2 else none)
  else if t.1 = 6 then (if tokPlain t = true then some 1 else none)
  else if t.1 = 7 then (if t.2.1 = 0 ∧ 1 ≤ t.2.2.2 ∧ t.2.2.2 ≤ 3 ∧ 0 ≤ t.2.2.1 ∧ t.2.2.1 ≤ t.2.2.2 then some 1 else none)
  else none
inductive Tr
  | leaf (t : Tok)
  | un (t : Tok) (a : Tr)
  | bin (t : Tok) (a b : Tr)
def Tr.ok : Tr → Prop
  | .leaf t => ar t = some 0
  | .un t a => ar t = some 1 ∧ a.ok
  | .bin t a b => ar t = some 2 ∧ a.ok ∧ b.ok
def Tr.root : Tr → Tok
  | .leaf t => t
  | .un t _ => t
  | .bin t _ _ => t
/-- the tokens of a tree -/
def post : Tr → List Tok
  | .leaf t => [t]
  | .un t a => post a ++ [t]
  | .bin t a b => (post a ++ post b) ++ [t]
theorem post_ne (r : Tr) : post r ≠ [] := by cases r <;> simp [post]
theorem post_pos (r : Tr) : 0 < (post r).length := List.length_pos_iff.2 (post_ne r)
/-- what tokens ask for beyond what they give -/
def net (l : List Tok) : Int := (l.map fun t => (((ar t).getD 0 : Nat) : Int) - 1).sum
theorem net_app (l r : List Tok) : net (l ++ r) = net l + net r := by simp [net, List.sum_append]
theorem net_one (t : Tok) : net [t] = (((ar t).getD 0 : Nat) : Int) - 1 := by simp [net]
theorem net_post : ∀ {r : Tr}, r.ok → net (post r) = -1
  | .leaf t, h => by rw [post, net_one, show ar t = some 0 from h]; rfl
  | .un t a, h => by rw [post, net_app, net_one, net_post h.2, h.1]; rfl
  | .bin t a b, h => by rw [post, net_app, net_app, net_one, net_post h.2.1, net_post h.2.2, h.1]; rfl
/-- a proper part at a tree's end never gives more than it asks for -/
theorem net_end : ∀ {r : Tr}, r.ok → ∀ {k : Nat}, 0 < k → 0 ≤ net ((post r).drop k)
  | .leaf t, _, k, hk => by
    have : (post (.leaf t)).drop k = [] := List.drop_eq_nil_of_le (by simp [post]; omega)
    rw [this]; simp [net]
  | .un t a, h, k, hk => by
    rw [post]
    rcases Nat.lt_or_ge k (post a).length with hl | hl
    · rw [List.drop_append_of_le_length (by omega), net_app, net_one, h.1]
      have := net_end h.2 hk
      simp only [Option.getD_some]; omega
    · rw [List.drop_append, List.drop_eq_nil_of_le hl, List.nil_append]
      rcases Nat.eq_zero_or_pos (k - (post a).length) with h0 | h0
      · rw [h0, List.drop_zero, net_one, h.1]; simp
      · rw [List.drop_eq_nil_of_le (by simp; omega)]; simp [net]
  | .bin t a b, h, k, hk => by
    rw [post]
    rcases Nat.lt_or_ge k (post a).length with hl | hl
    · rw [List.drop_append_of_le_length (by rw [List.length_append]; omega), List.drop_append_of_le_length (by omega), net_app, net_app, net_one, net_post h.2.2, h.1]
      have := net_end h.2.1 hk
      simp only [Option.getD_some]; omega
    · rcases Nat.lt_or_ge k ((post a).length + (post b).length) with hl2 | hl2
      · rw [List.drop_append_of_le_length (by rw [List.length_append]; omega), List.drop_append, List.drop_eq_nil_of_le hl, List.nil_append, net_app, net_one, h.1]
        rcases Nat.eq_zero_or_pos (k - (post a).length) with h0 | h0
        · rw [h0, List.drop_zero, net_post h.2.2]; simp
        · have := net_end h.2.2 h0
          simp only [Option.getD_some]; omega
      · rw [List.drop_append, List.drop_eq_nil_of_le (by rw [List.length_append]; exact hl2), List.nil_append]
        rcases Nat.eq_zero_or_pos (k - (post a ++ post b).length) with h0 | h0
        · rw [h0, List.drop_zero, net_one, h.1]; simp
        · rw [List.drop_eq_nil_of_le (by simp at h0 ⊢; omega)]; simp [net]

/-! ### Reading a tree -/
def push (st : List Tr) (t : Tok) : Option (List Tr) :=
  match ar t with
  | some 0 => some (st ++ [.leaf t])
  | some 1 => match st.getLast? with
    | some a => some (st.dropLast ++ [.un t a])
    | none => none
  | some 2 => match st.getLast?, st.dropLast.getLast? with
    | some b, some a => some (st.dropLast.dropLast ++ [.bin t a b])
    | _, _ => none
  | _ => none
def parseTo (l : List Tok) : Nat → Option (List Tr)
  | 0 => some []
  | i + 1 => match parseTo l i, l[i]? with
    | some st, some t => push st t
    | _, _ => none
theorem last_app {α : Type} {l : List α} {a : α} (h : l.getLast? = some a) : l = l.dropLast ++ [a] := by
  rw [List.getLast?_eq_some_iff] at h
  obtain ⟨ys, rfl⟩ := h
  simp
theorem ar_cases (t : Tok) : ar t = none ∨ ar t = some 0 ∨ ar t = some 1 ∨ ar t = some 2 := by
  unfold ar
  split
  · split <;> simp
  · split
    · split <;> simp
    · split
      · split <;> simp
      · split
        · split <;> simp
        · split
          · split <;> simp
          · simp
/-- what a push is: the last n trees become one -/
theorem push_eq {st st' : List Tr} {t : Tok} (h : push st t = some st') : ∃ r, st' = (st.take (st.length - (ar t).getD 0)) ++ [r] ∧ r.root = t ∧ (ar t).isSome = true ∧ (ar t).getD 0 ≤ st.length ∧ ((∀ x ∈ st, x.ok) → r.ok) ∧ post r = (st.drop (st.length - (ar t).getD 0)).flatMap post ++ [t] ∧
    ((ar t = some 0 ∧ r = .leaf t) ∨ (∃ a, ar t = some 1 ∧ r = .un t a ∧ st.drop (st.length - 1) = [a]) ∨ (∃ a b, ar t = some 2 ∧ r = .bin t a b ∧ st.drop (st.length - 2) = [a, b])) := by
  unfold push at h
  rcases ar_cases t with ha | ha | ha | ha
  · rw [ha] at h; cases h
  · rw [ha] at h
    simp only [Option.some.injEq] at h
    refine ⟨.leaf t, by rw [ha]; simp [h], rfl, by rw [ha]; rfl, by rw [ha]; exact Nat.zero_le _, fun _ => ha, by rw [ha]; simp [post], .inl ⟨ha, rfl⟩⟩
  · rw [ha] at h
    simp only at h
    cases hl : st.getLast? with
    | none => rw [hl] at h; cases h
    | some a =>
      rw [hl] at h
      simp only [Option.some.injEq] at h
      have he := last_app hl
      have hln : st.length = st.dropLast.length + 1 := by rw [he]; simp
      have hd : st.drop (st.length - 1) = [a] := by rw [he]; simp
      refine ⟨.un t a, by rw [ha, ← h]; simp [List.dropLast_eq_take], rfl, by rw [ha]; rfl, by rw [ha]; simp; omega, fun hx => ⟨ha, hx a (List.mem_of_getLast? hl)⟩, by rw [ha]; simp only [Option.getD_some]; rw [hd]; simp [post], .inr (.inl ⟨a, ha, rfl, hd⟩)⟩
  · rw [ha] at h
    simp only at h
    cases hl : st.getLast? with
    | none => rw [hl] at h; cases h
    | some b =>
      rw [hl] at h
      cases hl2 : st.dropLast.getLast? with
      | none => rw [hl2] at h; cases h
      | some a =>
        rw [hl2] at h
        simp only [Option.some.injEq] at h
        have he := last_app hl
        have he2 := last_app hl2
        obtain ⟨D, hD⟩ : ∃ D, D = st.dropLast.dropLast := ⟨_, rfl⟩
        rw [← hD] at he2 h
        rw [he2] at he
        have hst : st = D ++ [a, b] := by rw [he]; simp
        have hln : st.length = D.length + 2 := by rw [hst]; simp
        have hd : st.drop (st.length - 2) = [a, b] := by rw [hln, hst]; simp
        have ht : st.take (st.length - 2) = D := by rw [hln, hst]; simp
        refine ⟨.bin t a b, by rw [ha]; simp only [Option.getD_some]; rw [ht, h], rfl, by rw [ha]; rfl, by rw [ha]; simp; omega, fun hx => ⟨ha, hx a (by rw [hst]; simp), hx b (by rw [hst]; simp)⟩, by rw [ha]; simp only [Option.getD_some]; rw [hd]; simp [post], .inr (.inr ⟨a, b, ha, rfl, hd⟩)⟩
theorem push_some {st : List Tr} {t : Tok} {n : Nat} (ha : ar t = some n) (hn : n ≤ st.length) : ∃ st', push st t = some st' := by
  unfold push
  rcases ar_cases t with h | h | h | h
  · rw [h] at ha; cases ha
  · rw [h]; exact ⟨_, rfl⟩
  · rw [h] at ha ⊢
    injection ha with ha
    cases hl : st.getLast? with
    | none => rw [List.getLast?_eq_none_iff] at hl; subst hl; simp at hn; omega
    | some a => exact ⟨_, rfl⟩
  · rw [h] at ha ⊢
    injection ha with ha
    cases hl : st.getLast? with
    | none => rw [List.getLast?_eq_none_iff] at hl; subst hl; simp at hn; omega
    | some b =>
      have he := last_app hl
      have hln : st.length = st.dropLast.length + 1 := by
        have := congrArg List.length he
        simpa using this
      cases hl2 : st.dropLast.getLast? with
      | none => rw [List.getLast?_eq_none_iff] at hl2; rw [hl2] at hln; simp at hln; omega
      | some a => exact ⟨_, rfl⟩
theorem push_none {st : List Tr} {t : Tok} (h : ar t = none ∨ ∃ n, ar t = some n ∧ st.length < n) : push st t = none := by
  cases hp : push st t with
  | none => rfl
  | some st' =>
    obtain ⟨r, -, -, h1, h2, -⟩ := push_eq hp
    rcases h with h | ⟨n, h, hn⟩
    · rw [h] at h1; cases h1
    · rw [h] at h2; simp at h2; omega
theorem push_len {st st' : List Tr} {t : Tok} (h : push st t = some st') : st'.length + (ar t).getD 0 = st.length + 1 := by
  obtain ⟨r, rfl, -, -, h2, -⟩ := push_eq h
  rw [List.length_append, List.length_take, List.length_singleton]
  omega
theorem parse_post {l : List Tok} : ∀ {i : Nat} {st : List Tr}, parseTo l i = some st → i ≤ l.length ∧ (∀ r ∈ st, r.ok) ∧ st.flatMap post = l.take i
  | 0, st, h => by
    simp only [parseTo, Option.some.injEq] at h
    subst h
    simp
  | i + 1, st, h => by
    rw [parseTo] at h
    cases hp : parseTo l i with
    | none => rw [hp] at h; cases h
    | some st0 =>
      rw [hp] at h
      cases ht : l[i]? with
      | none => rw [ht] at h; cases h
      | some t =>
        rw [ht] at h
        simp only at h
        obtain ⟨h1, h2, h3⟩ := parse_post hp
        obtain ⟨r, rfl, -, -, h4, h5, h6, -⟩ := push_eq h
        refine ⟨(List.getElem?_eq_some_iff.1 ht).1, fun x hx => ?_, ?_⟩
        · rcases List.mem_append.1 hx with hx | hx
          · exact h2 x (List.mem_of_mem_take hx)
          · rw [List.mem_singleton] at hx
            subst hx
            exact h5 h2
        · rw [List.take_add_one, ht, ← h3, List.flatMap_append, List.flatMap_singleton, h6, ← List.append_assoc, ← List.flatMap_append, List.take_append_drop]
          rfl
/-- the tree of tokens, if they are one -/
def treeL (l : List Tok) : Option Tr := match parseTo l l.length with
  | some [r] => some r
  | _ => none
theorem treeL_post {l : List Tok} {r : Tr} (h : treeL l = some r) : r.ok ∧ post r = l := by
  unfold treeL at h
  split at h
  · rename_i hp
    injection h with h
    subst h
    obtain ⟨-, h2, h3⟩ := parse_post hp
    rw [List.take_length] at h3
    exact ⟨h2 _ (by simp), by simpa using h3⟩
  · cases h
/-- the last operand's beginning: while the need is above nought, one more token back -/
theorem start_need {xs : List Tok} {r : Tr} (hr : r.ok) {k : Nat} (h1 : xs.length < k) (h2 : k ≤ (xs ++ post r).length) : 0 < 1 + net ((xs ++ post r).drop k) := by
  rw [List.drop_append, List.drop_eq_nil_of_le (by omega), List.nil_append]
  have := net_end hr (k := k - xs.length) (by omega)
  omega
theorem start_done {xs : List Tok} {r : Tr} (hr : r.ok) : 1 + net ((xs ++ post r).drop xs.length) = 0 := by
  rw [List.drop_left, net_post hr]; rfl
end Go.Proofs.Ythnapjodmndlaaa

/- Tokens: how many operands one takes, whether a list of them is an expression, where the last operand begins (the reference's side). -/
namespace Go.Proofs.Ythnapjodmndlaaa
set_option linter.unusedVariables false
set_option linter.unusedSimpArgs false
open Go.ChangeShapes Go.WideShapes Go.ChangeAt Go.RowKit
attribute [local go_sem] ext_cell ext_frozen ext_lt ext_lt1 ext_lt2 ext_lt3 ltn2 ltn3 ltn13 lts1 lts2 lts3

def arI (t : Tok) : Int := match ar t with | some n => (n : Int) | none => -1
theorem arI_some {t : Tok} {n : Nat} (h : ar t = some n) : arI t = n := by rw [arI, h]
theorem arI_none {t : Tok} (h : ar t = none) : arI t = -1 := by rw [arI, h]
theorem arI_bd (t : Tok) : -1 ≤ arI t ∧ arI t ≤ 2 := by
  rcases ar_cases t with h | h | h | h <;> simp [arI, h]
theorem wi_yes {x a b : Int} (h1 : a ≤ x) (h2 : x ≤ b) : wi x a b = true := wi_iff.2 ⟨h1, h2⟩
theorem wi_no {x a b : Int} (h : ¬ (a ≤ x ∧ x ≤ b)) : wi x a b = false := by
  cases hw : wi x a b with
  | false => rfl
  | true => exact absurd (wi_iff.1 hw) h

theorem l2Letter_any (n : Int) (w : World) : Calls Try.prog 34 #[.int .i64 n] w fun e w' => e = .returned (.bool (wi n 0 8)) ∧ w' = w := by
  go_enter Try.func34, Try.ntmps34
  go_wp2_with fail
  refine (l1In_any n 0 8 _).mono ?_
  rintro e w' ⟨rfl, rfl⟩
  go_wp2_with fail
  go_ret
  exact ⟨rfl, rfl⟩

set_option maxHeartbeats 4000000 in
theorem l8Arity_any (t : Tok) (w : World) :
    Calls Try.prog 67 #[.agg #[.int .i64 t.1, .int .i64 t.2.1, .int .i64 t.2.2.1, .int .i64 t.2.2.2]] w fun e w' => e = .returned (.int .i64 (arI t)) ∧ Below w.heap.size w w' := by
  obtain ⟨k, l, lo, hi⟩ := t
  simp only
  obtain ⟨R, hR⟩ : ∃ R, R = arI (k, l, lo, hi) := ⟨_, rfl⟩
  rw [← hR]
  have HR := Lib.hid hR
  clear hR
  by_cases h1 : k = 1
  · subst h1
    by_cases hl : l = 0
    · by_cases hlo : lo = 0
      · by_cases hhi : hi = 0
        · subst hl hlo hhi
          have hfin : R = 0 := by rw [HR.out]; decide
          clear HR
          subst hfin
          go_enter Try.func67, Try.ntmps67
          go_wp2
          go_ret
          exact ⟨rfl, (Below.refl _ _).alloc (Nat.le_refl _) _⟩
        · have hx : (hi != 0) = true := by simpa using hhi
          have hfin : R = -1 := by rw [HR.out]; simp [arI, ar, tokPlain, hhi]
          subst hl hlo
          clear hhi HR
          subst hfin
          go_enter Try.func67, Try.ntmps67
          go_wp2
          go_ret
          exact ⟨rfl, (Below.refl _ _).alloc (Nat.le_refl _) _⟩
      · have hx : (lo != 0) = true := by simpa using hlo
        have hfin : R = -1 := by rw [HR.out]; simp [arI, ar, tokPlain, hlo]
        subst hl
        clear hlo HR
        subst hfin
        go_enter Try.func67, Try.ntmps67
        go_wp2
        go_ret
        exact ⟨rfl, (Below.refl _ _).alloc (Nat.le_refl _) _⟩
    · have hx : (l != 0) = true := by simpa using hl
      have hfin : R = -1 := by rw [HR.out]; simp [arI, ar, tokPlain, hl]
      clear hl HR
      subst hfin
      go_enter Try.func67, Try.ntmps67
      go_wp2
      go_ret
      exact ⟨rfl, (Below.refl _ _).alloc (Nat.le_refl _) _⟩
  by_cases h2 : k = 2
  · subst h2
    clear h1
    by_cases hl : l = 0
    · by_cases hlo : lo = 0
      · by_cases hhi : hi = 0
        · subst hl hlo hhi
          have hfin : R = 0 := by rw [HR.out]; decide
          clear HR
          subst hfin
          go_enter Try.func67, Try.ntmps67
          go_wp2
          go_ret
          exact ⟨rfl, (Below.refl _ _).alloc (Nat.le_refl _) _⟩
        · have hx : (hi != 0) = true := by simpa using hhi
          have hfin : R = -1 := by rw [HR.out]; simp [arI, ar, tokPlain, hhi]
          subst hl hlo
          clear hhi HR
          subst hfin
          go_enter Try.func67, Try.ntmps67
          go_wp2
          go_ret
          exact ⟨rfl, (Below.refl _ _).alloc (Nat.le_refl _) _⟩
      · have hx : (lo != 0) = true := by simpa using hlo
        have hfin : R = -1 := by rw [HR.out]; simp [arI, ar, tokPlain, hlo]
        subst hl
        clear hlo HR
        subst hfin
        go_enter Try.func67, Try.ntmps67
        go_wp2
        go_ret
        exact ⟨rfl, (Below.refl _ _).alloc (Nat.le_refl _) _⟩
    · have hx : (l != 0) = true := by simpa using hl
      have hfin : R = -1 := by rw [HR.out]; simp [arI, ar, tokPlain, hl]
      clear hl HR
      subst hfin
      go_enter Try.func67, Try.ntmps67
      go_wp2
      go_ret
      exact ⟨rfl, (Below.refl _ _).alloc (Nat.le_refl _) _⟩
  by_cases h4 : k = 4
  · subst h4
    clear h1 h2
    by_cases hl : l = 0
    · by_cases hlo : lo = 0
      · by_cases hhi : hi = 0
        · subst hl hlo hhi
          have hfin : R = 2 := by rw [HR.out]; decide
          clear HR
          subst hfin
          go_enter Try.func67, Try.ntmps67
          go_wp2
          go_ret
          exact ⟨rfl, (Below.refl _ _).alloc (Nat.le_refl _) _⟩
        · have hx : (hi != 0) = true := by simpa using hhi
          have hfin : R = -1 := by rw [HR.out]; simp [arI, ar, tokPlain, hhi]
          subst hl hlo
          clear hhi HR
          subst hfin
          go_enter Try.func67, Try.ntmps67
          go_wp2
          go_ret
          exact ⟨rfl, (Below.refl _ _).alloc (Nat.le_refl _) _⟩
      · have hx : (lo != 0) = true := by simpa using hlo
        have hfin : R = -1 := by rw [HR.out]; simp [arI, ar, tokPlain, hlo]
        subst hl
        clear hlo HR
        subst hfin
        go_enter Try.func67, Try.ntmps67
        go_wp2
        go_ret
        exact ⟨rfl, (Below.refl _ _).alloc (Nat.le_refl _) _⟩
    · have hx : (l != 0) = true := by simpa using hl
      have hfin : R = -1 := by rw [HR.out]; simp [arI, ar, tokPlain, hl]
      clear hl HR
      subst hfin
      go_enter Try.func67, Try.ntmps67
      go_wp2
      go_ret
      exact ⟨rfl, (Below.refl _ _).alloc (Nat.le_refl _) _⟩
  by_cases h5 : k = 5
  · subst h5
    clear h1 h2 h4
    by_cases hl : l = 0
    · by_cases hlo : lo = 0
      · by_cases hhi : hi = 0
        · subst hl hlo hhi
          have hfin : R = 2 := by rw [HR.out]; decide
          clear HR
          subst hfin
          go_enter Try.func67, Try.ntmps67
          go_wp2
          go_ret
          exact ⟨rfl, (Below.refl _ _).alloc (Nat.le_refl _) _⟩
        · have hx : (hi != 0) = true := by simpa using hhi
          have hfin : R = -1 := by rw [HR.out]; simp [arI, ar, tokPlain, hhi]
          subst hl hlo
          clear hhi HR
          subst hfin
          go_enter Try.func67, Try.ntmps67
          go_wp2
          go_ret
          exact ⟨rfl, (Below.refl _ _).alloc (Nat.le_refl _) _⟩
      · have hx : (lo != 0) = true := by simpa using hlo
        have hfin : R = -1 := by rw [HR.out]; simp [arI, ar, tokPlain, hlo]
        subst hl
        clear hlo HR
        subst hfin
        go_enter Try.func67, Try.ntmps67
        go_wp2
        go_ret
        exact ⟨rfl, (Below.refl _ _).alloc (Nat.le_refl _) _⟩
    · have hx : (l != 0) = true := by simpa using hl
      have hfin : R = -1 := by rw [HR.out]; simp [arI, ar, tokPlain, hl]
      clear hl HR
      subst hfin
      go_enter Try.func67, Try.ntmps67
      go_wp2
      go_ret
      exact ⟨rfl, (Below.refl _ _).alloc (Nat.le_refl _) _⟩
  by_cases h6 : k = 6
  · subst h6
    clear h1 h2 h4 h5
    by_cases hl : l = 0
    · by_cases hlo : lo = 0
      · by_cases hhi : hi = 0
        · subst hl hlo hhi
          have hfin : R = 1 := by rw [HR.out]; decide
          clear HR
          subst hfin
          go_enter Try.func67, Try.ntmps67
          go_wp2
          go_ret
          exact ⟨rfl, (Below.refl _ _).alloc (Nat.le_refl _) _⟩
        · have hx : (hi != 0) = true := by simpa using hhi
          have hfin : R = -1 := by rw [HR.out]; simp [arI, ar, tokPlain, hhi]
          subst hl hlo
          clear hhi HR
          subst hfin
          go_enter Try.func67, Try.ntmps67
          go_wp2
          go_ret
          exact ⟨rfl, (Below.refl _ _).alloc (Nat.le_refl _) _⟩
      · have hx : (lo != 0) = true := by simpa using hlo
        have hfin : R = -1 := by rw [HR.out]; simp [arI, ar, tokPlain, hlo]
        subst hl
        clear hlo HR
        subst hfin
        go_enter Try.func67, Try.ntmps67
        go_wp2
        go_ret
        exact ⟨rfl, (Below.refl _ _).alloc (Nat.le_refl _) _⟩
    · have hx : (l != 0) = true := by simpa using hl
      have hfin : R = -1 := by rw [HR.out]; simp [arI, ar, tokPlain, hl]
      clear hl HR
      subst hfin
      go_enter Try.func67, Try.ntmps67
      go_wp2
      go_ret
      exact ⟨rfl, (Below.refl _ _).alloc (Nat.le_refl _) _⟩
  by_cases h3 : k = 3
  · subst h3
    clear h1 h2 h4 h5 h6
    by_cases hw : wi l 0 8 = true
    · have hw' := wi_iff.1 hw
      by_cases hlo : lo = 0
      · by_cases hhi : hi = 0
        · subst hlo hhi
          have hfin : R = 0 := by rw [HR.out]; simp [arI, ar, hw']
          clear HR hw'
          have hc : wi l 0 8 = true := hw
          subst hfin
          go_enter Try.func67, Try.ntmps67
          go_wp2_with (refine (l2Letter_any l _).mono ?_; rintro e w' ⟨rfl, rfl⟩)
          go_ret
          exact ⟨rfl, (Below.refl _ _).alloc (Nat.le_refl _) _⟩
        · have hx : (hi != 0) = true := by simpa using hhi
          have hfin : R = -1 := by rw [HR.out]; simp [arI, ar, hhi]
          subst hlo
          clear hhi HR hw'
          subst hfin
          go_enter Try.func67, Try.ntmps67
          go_wp2_with (refine (l2Letter_any l _).mono ?_; rintro e w' ⟨rfl, rfl⟩)
          go_ret
          exact ⟨rfl, (Below.refl _ _).alloc (Nat.le_refl _) _⟩
      · have hx : (lo != 0) = true := by simpa using hlo
        have hfin : R = -1 := by rw [HR.out]; simp [arI, ar, hlo]
        clear hlo HR hw'
        subst hfin
        go_enter Try.func67, Try.ntmps67
        go_wp2_with (refine (l2Letter_any l _).mono ?_; rintro e w' ⟨rfl, rfl⟩)
        go_ret
        exact ⟨rfl, (Below.refl _ _).alloc (Nat.le_refl _) _⟩
    · have hw0 : wi l 0 8 = false := by simpa using hw
      have hw' : ¬ (0 ≤ l ∧ l ≤ 8) := fun h => hw (wi_iff.2 h)
      have hfin : R = -1 := by
        rw [HR.out]
        have : ar (3, l, lo, hi) = none := by
          unfold ar
          simp only [show ¬ ((3 : Int) = 1 ∨ (3 : Int) = 2) by decide, if_false, if_true]
          rw [if_neg (fun h => hw' ⟨h.1, h.2.1⟩)]
        rw [arI, this]
      clear HR hw' hw
      subst hfin
      go_enter Try.func67, Try.ntmps67
      go_wp2_with (refine (l2Letter_any l _).mono ?_; rintro e w' ⟨rfl, rfl⟩)
      go_ret
      exact ⟨rfl, (Below.refl _ _).alloc (Nat.le_refl _) _⟩
  by_cases h7 : k = 7
  · subst h7
    clear h1 h2 h3 h4 h5 h6
    by_cases hl : l = 0
    · subst hl
      have hno : ¬ ((0 : Int) = 0 ∧ 1 ≤ hi ∧ hi ≤ 3 ∧ 0 ≤ lo ∧ lo ≤ hi) → R = -1 := by
        intro h
        rw [HR.out]
        have : ar (7, 0, lo, hi) = none := by
          unfold ar
          simp only [show ¬ ((7 : Int) = 1 ∨ (7 : Int) = 2) by decide, show ¬ ((7 : Int) = 4 ∨ (7 : Int) = 5) by decide, show ¬ (7 : Int) = 3 by decide, show ¬ (7 : Int) = 6 by decide, if_false, if_true]
          rw [if_neg (fun h' => h ⟨rfl, h'.2⟩)]
        rw [arI, this]
      by_cases hw : wi hi 1 3 = true
      · by_cases hv : wi lo 0 hi = true
        · have hfin : R = 1 := by
            rw [HR.out]
            have h1 := wi_iff.1 hw
            have h2 := wi_iff.1 hv
            simp [arI, ar, h1, h2]
          clear HR hno
          subst hfin
          go_enter Try.func67, Try.ntmps67
          go_wp2_with (refine (l1In_any _ _ _ _).mono ?_; rintro e w' ⟨rfl, rfl⟩)
          go_ret
          exact ⟨rfl, (Below.refl _ _).alloc (Nat.le_refl _) _⟩
        · have hv0 : wi lo 0 hi = false := by simpa using hv
          have hfin := hno (fun h => hv (wi_iff.2 ⟨h.2.2.2.1, h.2.2.2.2⟩))
          clear HR hno hv
          subst hfin
          go_enter Try.func67, Try.ntmps67
          go_wp2_with (refine (l1In_any _ _ _ _).mono ?_; rintro e w' ⟨rfl, rfl⟩)
          go_ret
          exact ⟨rfl, (Below.refl _ _).alloc (Nat.le_refl _) _⟩
      · have hw0 : wi hi 1 3 = false := by simpa using hw
        have hfin := hno (fun h => hw (wi_iff.2 ⟨h.2.1, h.2.2.1⟩))
        clear HR hno hw
        subst hfin
        go_enter Try.func67, Try.ntmps67
        go_wp2_with (refine (l1In_any _ _ _ _).mono ?_; rintro e w' ⟨rfl, rfl⟩)
        go_ret
        exact ⟨rfl, (Below.refl _ _).alloc (Nat.le_refl _) _⟩
    · have hx : (l != 0) = true := by simpa using hl
      have hfin : R = -1 := by rw [HR.out]; simp [arI, ar, hl]
      clear hl HR
      subst hfin
      go_enter Try.func67, Try.ntmps67
      go_wp2
      go_ret
      exact ⟨rfl, (Below.refl _ _).alloc (Nat.le_refl _) _⟩
  · have q1 : (k == 1) = false := by simpa using h1
    have q2 : (k == 2) = false := by simpa using h2
    have q3 : (k == 3) = false := by simpa using h3
    have q4 : (k == 4) = false := by simpa using h4
    have q5 : (k == 5) = false := by simpa using h5
    have q6 : (k == 6) = false := by simpa using h6
    have q7 : (k == 7) = false := by simpa using h7
    have hfin : R = -1 := by rw [HR.out]; simp [arI, ar, h1, h2, h3, h4, h5, h6, h7]
    clear HR h1 h2 h3 h4 h5 h6 h7
    subst hfin
    go_enter Try.func67, Try.ntmps67
    go_wp2
    go_ret
    exact ⟨rfl, (Below.refl _ _).alloc (Nat.le_refl _) _⟩
end Go.Proofs.Ythnapjodmndlaaa

/- Which position automata are valid (the reference's side). -/
namespace Go.Proofs.Ythnapjodmndlaaa
set_option linter.unusedVariables false
set_option linter.unusedSimpArgs false
open Go.ChangeShapes Go.WideShapes Go.ChangeAt Go.RowKit
attribute [local go_sem] ext_cell ext_frozen ext_lt ext_lt1 ext_lt2 ext_lt3 ltn2 ltn3 ltn13 lts1 lts2 lts3

theorem wi_set {n : Nat} (hn : n ≤ 20) (s : Int) : wi s 0 ((bit n : Int) - 1) = setP n s := by
  have hb : ((bit n : Nat) : Int) = 2 ^ n := by rw [bit]; push_cast; rfl
  rw [hb]
  cases h : setP n s with
  | true =>
    simp only [setP, Bool.and_eq_true, decide_eq_true_eq] at h
    exact wi_iff.2 h
  | false =>
    rw [Bool.eq_false_iff] at h ⊢
    intro h2
    have := wi_iff.1 h2
    exact h (by simp only [setP, Bool.and_eq_true, decide_eq_true_eq]; exact this)
def okTo (p : Pz) (i : Nat) : Prop := (∀ k ∈ p.lets.take i, 0 ≤ k ∧ k ≤ 8) ∧ (∀ s ∈ p.fol.take i, setP p.lets.length s = true)
theorem okTo_zero (p : Pz) : okTo p 0 := ⟨by simp, by simp⟩
theorem okTo_step {p : Pz} {i : Nat} {x y : Int} (h : okTo p i) (hx : p.lets[i]? = some x) (hy : p.fol[i]? = some y) (h3 : wi x 0 8 = true) (h4 : setP p.lets.length y = true) : okTo p (i + 1) := by
  refine ⟨fun k hk => ?_, fun s hs => ?_⟩
  · rw [take_snoc hx, List.mem_append] at hk
    rcases hk with hk | hk
    · exact h.1 k hk
    · obtain rfl := List.mem_singleton.1 hk
      exact wi_iff.1 h3
  · rw [take_snoc hy, List.mem_append] at hs
    rcases hs with hs | hs
    · exact h.2 s hs
    · obtain rfl := List.mem_singleton.1 hs
      exact h4
theorem okTo_no {p : Pz} {i : Nat} {x y : Int} (hx : p.lets[i]? = some x) (hy : p.fol[i]? = some y) (h : wi x 0 8 = false ∨ setP p.lets.length y = false) : ¬ pzOk p = true := fun hp => by
  have f := pz_facts hp
  rcases h with h | h
  · have := wi_iff.2 (f.2.2.1 x (List.mem_of_getElem? hx))
    rw [h] at this
    cases this
  · have := f.2.2.2.1 y (List.mem_of_getElem? hy)
    rw [h] at this
    cases this
theorem okTo_all {p : Pz} (h20 : p.lets.length ≤ 20) (hf : p.fol.length = p.lets.length) (h : okTo p p.lets.length) (h1 : setP p.lets.length p.first = true) (h2 : setP p.lets.length p.last = true) : pzOk p = true := by
  obtain ⟨a, b⟩ := h
  rw [List.take_length] at a
  rw [← hf, List.take_length, hf] at b
  simp only [pzOk, Bool.and_eq_true, decide_eq_true_eq, List.all_eq_true]
  exact ⟨h20, hf, a, b, h1, h2⟩
theorem pz_no {p : Pz} (h : ¬ pzOk p = true) : pzOk p = false := by simpa using h
set_option maxRecDepth 100000 in
set_option maxHeartbeats 4000000 in
theorem specValidPos (v : Value) (p : Pz) (w : World) (hv : PzV 0 w.heap.size w v p) :
    Calls Try.prog 20 #[v] w fun e w' => e = .returned (.bool (pzOk p)) ∧ Below w.heap.size w w' := by
  obtain ⟨R, hR⟩ : ∃ R, R = pzOk p := ⟨_, rfl⟩
  rw [← hR]
  have HR := Lib.hid hR
  clear hR
  obtain ⟨vl, vf, rfl, ⟨A, c, rfl, hl, hm, hC⟩, ⟨B, d, rfl, hl2, hm2, hC2⟩⟩ := hv
  unfold maxLen at hm hm2
  obtain ⟨N, hN⟩ : ∃ N, N = p.lets.length := ⟨_, rfl⟩
  obtain ⟨K, hK⟩ : ∃ K, K = p.fol.length := ⟨_, rfl⟩
  rw [← hN] at hl ⊢
  rw [← hK] at hl2 ⊢
  have HN := Lib.hid hN
  have HK := Lib.hid hK
  have HIN := Lib.hid (show ∀ (n a b : Int) (W : World), Calls Try.prog 33 #[.int .i64 n, .int .i64 a, .int .i64 b] W fun e w' => e = .returned (.bool (wi n a b)) ∧ Below W.heap.size W w' from fun n a b W => (l1In_any n a b W).mono fun e w' ⟨he, hw⟩ => ⟨he, hw ▸ Below.refl _ _⟩)
  obtain ⟨W0, hW0⟩ : ∃ W0, W0 = w.alloc (.cells #[.slice A N c, .int .i64 p.first, .int .i64 p.last, .slice B K d, .bool p.nul] 27) := ⟨_, rfl⟩
  have hbk : Blk W0 w.heap.size 27 #[.slice A N c, .int .i64 p.first, .int .i64 p.last, .slice B K d, .bool p.nul] := by rw [hW0]; exact Blk.new w _ _ _ rfl
  have hb0 : Below w.heap.size w W0 := by rw [hW0]; exact (Below.refl _ _).alloc (Nat.le_refl _) _
  have hsz : w.heap.size < W0.heap.size := by rw [hW0]; simp
  have HB0 := Lib.hid hb0
  have HLT := Lib.hid (show ∀ (n : Int) (W : World), Calls Try.prog 34 #[.int .i64 n] W fun e w' => e = .returned (.bool (wi n 0 8)) ∧ Below W.heap.size W w' from fun n W => (l2Letter_any n W).mono fun e w' ⟨he, hw⟩ => ⟨he, hw ▸ Below.refl _ _⟩)
  have HC := Lib.hid (show ∀ (i : Nat) x, p.lets[i]? = some x → ∃ b o, A = some ⟨b, o, none⟩ ∧ b < W0.heap.size ∧ W0.cell? ⟨b, o + i, none⟩ = some (.int .i64 x) from fun i x hx => by
    obtain ⟨b, o, hA, -, hb, hc⟩ := hC i x hx
    refine ⟨b, o, hA, by omega, kcell hb0 ?_⟩
    simpa using hc 0 _ rfl)
  have HC2 := Lib.hid (show ∀ (i : Nat) x, p.fol[i]? = some x → ∃ b o, B = some ⟨b, o, none⟩ ∧ b < W0.heap.size ∧ W0.cell? ⟨b, o + i, none⟩ = some (.int .i64 x) from fun i x hx => by
    obtain ⟨b, o, hA, -, hb, hc⟩ := hC2 i x hx
    refine ⟨b, o, hA, by omega, kcell hb0 ?_⟩
    simpa using hc 0 _ rfl)
  clear hN hK hb0 hC hC2
  go_enter Try.func20, Try.ntmps20
  have x0 : W0.cell? ⟨w.heap.size, 0, none⟩ = some (.slice A N c) := by exact hbk.cell 0
  have x1 : W0.cell? ⟨w.heap.size, 1, none⟩ = some (.int .i64 p.first) := by exact hbk.cell 1
  have x2 : W0.cell? ⟨w.heap.size, 2, none⟩ = some (.int .i64 p.last) := by exact hbk.cell 2
  have x3 : W0.cell? ⟨w.heap.size, 3, none⟩ = some (.slice B K d) := by exact hbk.cell 3
  clear hbk
  go_upto_region 1 with fail
  rw [← hW0]
  clear hW0
  by_cases h20 : N ≤ 20
  · have hgt : ¬ (N : Int) > 20 := by omega
    have hgd : decide ((N : Int) > 20) = false := decide_eq_false hgt
    by_cases hKN : K = N
    · subst hKN
      have hkk : ((K : Int) != (K : Int)) = false := by simp
      have hsh := shl_bit2 (s := K) (by omega)
      have hsh3 := shl_bit3 (s := K) (by omega)
      have hbl : bit K ≤ 2 ^ 20 := Nat.pow_le_pow_right (by decide) h20
      have hsub : IntKind.i64.wrap ((bit K : Int) - 1) = (bit K : Int) - 1 := IntWalk.i64_in _ (by omega)
      have HW := Lib.hid (wi_set h20)
      cases h1 : setP K p.first with
      | false =>
        have hw1 : wi p.first 0 ((bit K : Int) - 1) = false := by rw [HW.out]; exact h1
        have HF := Lib.hid (show R = false by rw [HR.out]; exact pz_no fun h => by have := (pz_facts h).2.2.2.2.1; rw [← HN.out, h1] at this; cases this)
        clear h1
        go_upto_region 2 with fail
        refine wp_region_ext_lit (by kernel_rfl) (by kernel_rfl) ?_
        repeat (go_big_quiet_step ((go_at_call 33; exact Calls.ext_of (HIN.out _ _ _ _))))
        refine wpQuiet_nil ?_
        intro _ hw'
        obtain ⟨u2, hw''⟩ := hw'
        subst hw''
        go_wp2_with fail
        go_ret
        exact ⟨by rw [HF.out]; rfl, below_trans HB0.out (ext_below _ _)⟩
      | true =>
        have hw1 : wi p.first 0 ((bit K : Int) - 1) = true := by rw [HW.out]; exact h1
        have HS1 := Lib.hid h1
        clear h1
        cases h2 : setP K p.last with
        | false =>
          have hw2 : wi p.last 0 ((bit K : Int) - 1) = false := by rw [HW.out]; exact h2
          have HF := Lib.hid (show R = false by rw [HR.out]; exact pz_no fun h => by have := (pz_facts h).2.2.2.2.2; rw [← HN.out, h2] at this; cases this)
          clear h2
          go_upto_region 2 with fail
          refine wp_region_ext_lit (by kernel_rfl) (by kernel_rfl) ?_
          repeat (go_big_quiet_step ((go_at_call 33; exact Calls.ext_of (HIN.out _ _ _ _))))
          refine wpQuiet_nil ?_
          intro _ hw'
          obtain ⟨u2, hw''⟩ := hw'
          subst hw''
          go_wp2_with fail
          go_ret
          exact ⟨by rw [HF.out]; rfl, below_trans HB0.out (ext_below _ _)⟩
        | true =>
          have hw2 : wi p.last 0 ((bit K : Int) - 1) = true := by rw [HW.out]; exact h2
          have HS2 := Lib.hid h2
          clear h2
          go_upto_region 2 with fail
          refine wp_region_ext_lit (by kernel_rfl) (by kernel_rfl) ?_
          repeat (go_big_quiet_step ((go_at_call 33; exact Calls.ext_of (HIN.out _ _ _ _))))
          refine wpQuiet_nil ?_
          intro _ hw'
          obtain ⟨u2, hw''⟩ := hw'
          subst hw''
          clear hw1 hw2
          go_wp2_with fail
          go_loopw [4] (fun ii wr => ∃ (i : Nat) (u : World), i ≤ K ∧ ii = .int .i64 (i : Int) ∧ wr = ext W0 u ∧ okTo p i) (fun ii _ => K - (intOf ii).toNat)
          case atStart => exact ⟨0, u2, Nat.zero_le _, rfl, rfl, okTo_zero p⟩
          case round =>
            obtain ⟨i, u, hi, rfl, rfl, hto⟩ := hrel
            have HTO := Lib.hid hto
            clear hto
            by_cases hlt : i < K
            · have hxi : p.lets[i]? = some (p.lets[i]'(by rw [← HN.out]; exact hlt)) := List.getElem?_eq_getElem _
              have hyi : p.fol[i]? = some (p.fol[i]'(by rw [← HK.out]; exact hlt)) := List.getElem?_eq_getElem _
              generalize p.lets[i]'(by rw [← HN.out]; exact hlt) = x at hxi
              generalize p.fol[i]'(by rw [← HK.out]; exact hlt) = y at hyi
              obtain ⟨b1, o1, rfl, hb1, d0⟩ := HC.out i x hxi
              obtain ⟨b2, o2, rfl, hb2, e0⟩ := HC2.out i y hyi
              have HOX := Lib.hid (okTo_step HTO.out hxi hyi)
              have HNX := Lib.hid (okTo_no (p := p) hxi hyi)
              have hii : (i : Int) < (K : Int) := by omega
              clear hxi hyi
              cases h3 : wi x 0 8 with
              | false =>
                have HF := Lib.hid (show R = false by rw [HR.out]; exact pz_no fun h => HNX.out (.inl h3) h)
                go_wp2_with fail
                refine wp_region_ext_lit (by kernel_rfl) (by kernel_rfl) ?_
                repeat (go_big_quiet_step ((first | (go_at_call 33; exact Calls.ext_of (HIN.out _ _ _ _)) | (go_at_call 34; exact Calls.ext_of (HLT.out _ _)))))
                refine wpQuiet_nil ?_
                intro _ hw'
                obtain ⟨u3, hw''⟩ := hw'
                subst hw''
                go_wp2_with fail
                go_ret
                exact ⟨by rw [HF.out]; rfl, below_trans HB0.out (below_trans (ext_below _ _) (ext_below _ _))⟩
              | true =>
                cases h4 : setP K y with
                | false =>
                  have hw4 : wi y 0 ((bit K : Int) - 1) = false := by rw [HW.out]; exact h4
                  have HF := Lib.hid (show R = false by rw [HR.out]; exact pz_no fun h => HNX.out (.inr (by rw [← HN.out]; exact h4)) h)
                  clear h4
                  go_wp2_with fail
                  refine wp_region_ext_lit (by kernel_rfl) (by kernel_rfl) ?_
                  repeat (go_big_quiet_step ((first | (go_at_call 33; exact Calls.ext_of (HIN.out _ _ _ _)) | (go_at_call 34; exact Calls.ext_of (HLT.out _ _)))))
                  refine wpQuiet_nil ?_
                  intro _ hw'
                  obtain ⟨u3, hw''⟩ := hw'
                  subst hw''
                  go_wp2_with fail
                  go_ret
                  exact ⟨by rw [HF.out]; rfl, below_trans HB0.out (below_trans (ext_below _ _) (ext_below _ _))⟩
                | true =>
                  have hw4 : wi y 0 ((bit K : Int) - 1) = true := by rw [HW.out]; exact h4
                  have HNW := Lib.hid (HOX.out h3 (by rw [← HN.out]; exact h4))
                  clear h4
                  go_wp2_with fail
                  refine wp_region_ext_lit (by kernel_rfl) (by kernel_rfl) ?_
                  repeat (go_big_quiet_step ((first | (go_at_call 33; exact Calls.ext_of (HIN.out _ _ _ _)) | (go_at_call 34; exact Calls.ext_of (HLT.out _ _)))))
                  refine wpQuiet_nil ?_
                  intro _ hw'
                  obtain ⟨u3, hw''⟩ := hw'
                  subst hw''
                  go_wp2_with fail
                  go_roundw
                  case rel =>
                    obtain ⟨z, hz⟩ := ext_ext W0 u u3
                    exact ⟨i + 1, z, by omega, by go_num, hz, HNW.out⟩
                  case measure => simp [intOf]; omega
            · obtain rfl : i = K := by omega
              have HF := Lib.hid (show R = true by rw [HR.out]; exact okTo_all (by rw [← HN.out]; exact h20) (by rw [← HK.out, ← HN.out]) (by rw [← HN.out]; exact HTO.out) (by rw [← HN.out]; exact HS1.out) (by rw [← HN.out]; exact HS2.out))
              clear hlt
              go_wp2_with fail
              go_ret
              exact ⟨by rw [HF.out]; rfl, below_trans HB0.out (ext_below _ _)⟩
    · have hkk : ((K : Int) != (N : Int)) = true := by simpa using fun h => hKN (by omega)
      have HF := Lib.hid (show R = false by rw [HR.out]; exact pz_no fun h => hKN (by rw [HK.out, HN.out]; exact (pz_facts h).2.1))
      go_upto_region 2 with fail
      refine wp_region_ext_lit (by kernel_rfl) (by kernel_rfl) ?_
      repeat (go_big_quiet_step ((go_at_call 33; exact Calls.ext_of (HIN.out _ _ _ _))))
      refine wpQuiet_nil ?_
      intro _ hw'
      obtain ⟨u2, hw''⟩ := hw'
      subst hw''
      go_wp2_with fail
      go_ret
      exact ⟨by rw [HF.out]; rfl, below_trans HB0.out (ext_below _ _)⟩
  · have hgt : (N : Int) > 20 := by omega
    have hgd : decide ((N : Int) > 20) = true := decide_eq_true hgt
    have hgd2 : decide (20 < N) = true := decide_eq_true (by omega)
    have HF := Lib.hid (show R = false by rw [HR.out]; exact pz_no fun h => h20 (by rw [HN.out]; exact (pz_facts h).1))
    go_upto_region 2 with fail
    refine wp_region_ext_lit (by kernel_rfl) (by kernel_rfl) ?_
    repeat (go_big_quiet_step ((go_at_call 33; exact Calls.ext_of (HIN.out _ _ _ _))))
    refine wpQuiet_nil ?_
    intro _ hw'
    obtain ⟨u2, hw''⟩ := hw'
    subst hw''
    go_wp2_with fail
    go_ret
    exact ⟨by rw [HF.out]; rfl, below_trans HB0.out (ext_below _ _)⟩
end Go.Proofs.Ythnapjodmndlaaa

/- The place of a pair of positions in the reference's table. -/
namespace Go.Proofs.Ythnapjodmndlaaa
set_option linter.unusedVariables false
set_option linter.unusedSimpArgs false
open Go.ChangeShapes Go.WideShapes Go.ChangeAt Go.RowKit
attribute [local go_sem] ext_cell ext_frozen ext_lt ext_lt1 ext_lt2 ext_lt3 ltn2 ltn3 ltn13 lts1 lts2 lts3

set_option maxHeartbeats 1000000 in
theorem l10Slot_any (a b : Nat) (d : Bool) (x y : Int) (ha : a ≤ 20) (hb : b ≤ 20) (w : World) :
    Calls Try.prog 43 #[.agg #[.int .i64 (a : Int), .int .i64 (b : Int), .bool d, .int .i64 x, .int .i64 y]] w fun e w' => e = .returned (.int .i64 ((slotT (a, b, d) : Nat) : Int)) ∧ Below w.heap.size w w' := by
  obtain ⟨R, hR⟩ : ∃ R, R = slotT (a, b, d) := ⟨_, rfl⟩
  rw [← hR]
  have HR := Lib.hid hR
  clear hR
  have hal := (Below.refl w.heap.size w).alloc (Nat.le_refl _) (.cells #[.int .i64 (a : Int), .int .i64 (b : Int), .bool d, .int .i64 x, .int .i64 y] 67)
  have HAL := Lib.hid hal
  clear hal
  cases d with
  | false =>
    have HE := Lib.hid (show (R : Int) = 2 * ((a : Int) * 21 + (b : Int)) by rw [HR.out, slotT]; push_cast; simp)
    go_enter Try.func43, Try.ntmps43
    go_wp2_with fail
    go_ret
    exact ⟨by rw [HE.out]; rfl, HAL.out⟩
  | true =>
    have HE := Lib.hid (show (R : Int) = 2 * ((a : Int) * 21 + (b : Int)) + 1 by rw [HR.out, slotT]; push_cast; simp)
    go_enter Try.func43, Try.ntmps43
    go_wp2_with fail
    go_ret
    exact ⟨by rw [HE.out]; rfl, HAL.out⟩
end Go.Proofs.Ythnapjodmndlaaa

/- Passes over the edges; the least letter and the next set, over the list of edges (the reference's side, plainly). -/
namespace Go.Proofs.Ythnapjodmndlaaa
set_option linter.unusedVariables false
set_option linter.unusedSimpArgs false

def rlxP (s : List Int × Bool) (e : Nat × Nat) : List Int × Bool := (rlx s.1 e, s.2 || rlxB s.1 e)
def passT (es : List (Nat × Nat)) (F : List Int) (i : Nat) : List Int × Bool := (es.take i).foldl rlxP (F, false)
theorem passT_zero (es : List (Nat × Nat)) (F : List Int) : passT es F 0 = (F, false) := rfl
theorem passT_succ {es : List (Nat × Nat)} {i : Nat} {e : Nat × Nat} (h : es[i]? = some e) (F : List Int) : passT es F (i + 1) = rlxP (passT es F i) e := by
  rw [passT, List.take_add_one, h, List.foldl_append]
  rfl
theorem foldP_all {es : List (Nat × Nat)} {goal : Nat → Prop} {N : Nat} (hr : ∀ e ∈ es, e.1 < N ∧ e.2 < N) : ∀ (l : List (Nat × Nat)) (F : List Int) (b : Bool), (∀ e ∈ l, e ∈ es) → FarI es goal N F →
    FarI es goal N (l.foldl rlxP (F, b)).1 ∧ farW N (l.foldl rlxP (F, b)).1 ≤ farW N F ∧ ((l.foldl rlxP (F, b)).2 = true → b = true ∨ farW N (l.foldl rlxP (F, b)).1 < farW N F) ∧ ((l.foldl rlxP (F, b)).2 = false → (l.foldl rlxP (F, b)).1 = F ∧ ∀ e ∈ l, rlxB F e = false)
  | [], F, b, _, h => ⟨h, Nat.le_refl _, fun hb => .inl hb, fun _ => ⟨rfl, by simp⟩⟩
  | e :: l, F, b, hl, h => by
    have he := hl e List.mem_cons_self
    have hee := hr e he
    have h1 := foldP_all hr l (rlx F e) (b || rlxB F e) (fun x hx => hl x (List.mem_cons_of_mem _ hx)) (h.relax he hee.1 hee.2)
    rw [List.foldl_cons, show rlxP (F, b) e = (rlx F e, b || rlxB F e) from rfl]
    obtain ⟨a1, a2, a3, a4⟩ := h1
    cases hb : rlxB F e with
    | true =>
      have hf := h.falls hee.1 hee.2 hb
      rw [hb] at a1 a2 a3 a4
      refine ⟨a1, by omega, fun _ => .inr (by omega), fun hx => ?_⟩
      have htr : ∀ (l : List (Nat × Nat)) (s : List Int × Bool), s.2 = true → (l.foldl rlxP s).2 = true := by
        intro l
        induction l with
        | nil => exact fun s h => h
        | cons x l ih => exact fun s h => ih _ (by rw [rlxP, h]; rfl)
      have := htr l (rlx F e, b || true) (by simp)
      rw [hx] at this
      cases this
    | false =>
      have hF : rlx F e = F := by rw [rlx, hb]; rfl
      rw [hb] at a1 a2 a3 a4
      rw [hF, Bool.or_false] at a1 a2 a3 a4 ⊢
      refine ⟨a1, a2, a3, fun hx => ⟨(a4 hx).1, fun x hx2 => ?_⟩⟩
      rcases List.mem_cons.1 hx2 with rfl | hx2
      · exact hb
      · exact (a4 hx).2 x hx2
theorem passT_len {es : List (Nat × Nat)} {F : List Int} : ∀ i, (passT es F i).1.length = F.length := by
  intro i
  have : ∀ (l : List (Nat × Nat)) (s : List Int × Bool), (l.foldl rlxP s).1.length = s.1.length := by
    intro l
    induction l with
    | nil => exact fun _ => rfl
    | cons x l ih =>
      intro s
      rw [List.foldl_cons, ih, rlxP]
      simp only [rlx]
      split
      · rw [List.length_set]
      · rfl
  exact this _ _
/-- the numbers at the start -/
def farZ (p : Pz) (k : Nat) : List Int := ((endT p).take k).map fun t => if twnG p t = true then 0 else -1
theorem farZ_len (p : Pz) {k : Nat} (h : k ≤ (endT p).length) : (farZ p k).length = k := by rw [farZ, List.length_map, List.length_take]; omega
theorem farZ_succ {p : Pz} {k : Nat} {t : Twn} (h : (endT p)[k]? = some t) : farZ p (k + 1) = farZ p k ++ [if twnG p t = true then 0 else -1] := by
  rw [farZ, List.take_add_one, h, List.map_append]
  rfl
theorem farZ_at {p : Pz} {i : Nat} (h : i < (endT p).length) : (farZ p (endT p).length).getD i 0 = if twnG p (twnA p i) = true then 0 else -1 := by
  have e1 : twnA p i = (endT p)[i] := by rw [twnA, List.getD_eq_getElem?_getD, List.getElem?_eq_getElem h, Option.getD_some]
  rw [farZ, List.take_length, List.getD_eq_getElem?_getD, List.getElem?_map, List.getElem?_eq_getElem h, e1]
  rfl
theorem farZ_ok (p : Pz) : FarI (prsT p) (goalT p) (endT p).length (farZ p (endT p).length) := by
  refine FarI.init (farZ_len p (Nat.le_refl _)) fun i hi => ?_
  rw [farZ_at hi]
  exact ⟨fun hg => if_pos hg, fun hg => if_neg hg⟩
theorem far_end {p : Pz} (hp : p.lets.length ≤ 20) {F : List Int} (h : FarI (prsT p) (goalT p) (endT p).length F) (hs : ∀ e ∈ prsT p, rlxB F e = false) : ∀ i, i < (endT p).length → F.getD i 0 = dT p i :=
  fun i hi => dT_eq (h.stop (prsT_lt hp) hs i hi)
theorem prsT_at {p : Pz} {i : Nat} {e : Nat × Nat × Nat} (h : (edsT p)[i]? = some e) : (prsT p)[i]? = some (e.1, e.2.2) := by
  rw [prsT, List.getElem?_map, h]
  rfl
theorem prsT_len (p : Pz) : (prsT p).length = (edsT p).length := by rw [prsT, List.length_map]
theorem FarI.lt {es : List (Nat × Nat)} {goal : Nat → Prop} {N : Nat} {F : List Int} (h : FarI es goal N F) {i : Nat} (hi : i < N) : F.getD i 0 < (N : Int) := by
  have h1 := h.top i hi
  have h2 := nonneg_le F
  rw [h.len] at h2
  omega

/-! the least letter, the next set -/
def onE (H : List Bool) (F : List Int) (n : Nat) (e : Nat × Nat × Nat) : Bool := H.getD e.1 false && decide (F.getD e.2.2 0 = (n : Int))
def letE (H : List Bool) (F : List Int) (n : Nat) (l : List (Nat × Nat × Nat)) : Nat := l.foldl (fun m e => if onE H F n e = true then min m e.2.1 else m) 9
def setE (H : List Bool) (F : List Int) (n k N : Nat) (l : List (Nat × Nat × Nat)) : List Bool := l.foldl (fun G e => if (onE H F n e && decide (e.2.1 = k)) = true then G.set e.2.2 true else G) (List.replicate N false)
theorem letE_succ {H : List Bool} {F : List Int} {n i : Nat} {l : List (Nat × Nat × Nat)} {e : Nat × Nat × Nat} (h : l[i]? = some e) : letE H F n (l.take (i + 1)) = if onE H F n e = true then min (letE H F n (l.take i)) e.2.1 else letE H F n (l.take i) := by
  rw [letE, List.take_add_one, h, List.foldl_append]
  rfl
theorem setE_succ {H : List Bool} {F : List Int} {n k N i : Nat} {l : List (Nat × Nat × Nat)} {e : Nat × Nat × Nat} (h : l[i]? = some e) : setE H F n k N (l.take (i + 1)) = if (onE H F n e && decide (e.2.1 = k)) = true then (setE H F n k N (l.take i)).set e.2.2 true else setE H F n k N (l.take i) := by
  rw [setE, List.take_add_one, h, List.foldl_append]
  rfl
theorem letE_le (H : List Bool) (F : List Int) (n : Nat) (l : List (Nat × Nat × Nat)) : letE H F n l ≤ 9 := by
  have : ∀ (l : List (Nat × Nat × Nat)) (m : Nat), m ≤ 9 → l.foldl (fun m e => if onE H F n e = true then min m e.2.1 else m) m ≤ 9 := by
    intro l
    induction l with
    | nil => exact fun _ h => h
    | cons x l ih =>
      intro m hm
      refine ih _ ?_
      show (if onE H F n x = true then min m x.2.1 else m) ≤ 9
      split <;> omega
  exact this l 9 (Nat.le_refl _)
theorem letE_low {H : List Bool} {F : List Int} {n : Nat} : ∀ (l : List (Nat × Nat × Nat)) (m : Nat), (∀ e ∈ l, onE H F n e = true → l.foldl (fun m e => if onE H F n e = true then min m e.2.1 else m) m ≤ e.2.1) ∧ l.foldl (fun m e => if onE H F n e = true then min m e.2.1 else m) m ≤ m ∧
    (l.foldl (fun m e => if onE H F n e = true then min m e.2.1 else m) m = m ∨ ∃ e ∈ l, onE H F n e = true ∧ e.2.1 = l.foldl (fun m e => if onE H F n e = true then min m e.2.1 else m) m)
  | [], m => ⟨by simp, Nat.le_refl _, .inl rfl⟩
  | x :: l, m => by
    obtain ⟨h1, h2, h3⟩ := letE_low (H := H) (F := F) (n := n) l (if onE H F n x = true then min m x.2.1 else m)
    rw [List.foldl_cons]
    generalize l.foldl (fun m e => if onE H F n e = true then min m e.2.1 else m) (if onE H F n x = true then min m x.2.1 else m) = r at *
    refine ⟨fun e he ho => ?_, ?_, ?_⟩
    · rcases List.mem_cons.1 he with rfl | he
      · rw [if_pos ho] at h2; omega
      · exact h1 e he ho
    · split at h2 <;> omega
    · rcases h3 with h3 | ⟨e, he, ho, hk⟩
      · split at h3
        · rename_i ho
          rcases Nat.lt_or_ge x.2.1 m with hlt | hge
          · exact .inr ⟨x, List.mem_cons_self, ho, by omega⟩
          · exact .inl (by omega)
        · exact .inl h3
      · exact .inr ⟨e, List.mem_cons_of_mem _ he, ho, hk⟩
/-- H tells the set S -/
structure TellB (N : Nat) (H : List Bool) (S : List Nat) : Prop where
  len : H.length = N
  low : ∀ i ∈ S, i < N
  at_ : ∀ i, i < N → (H.getD i false = true ↔ i ∈ S)
theorem getD_setB {H : List Bool} {i j : Nat} (hi : i < H.length) : (H.set i true).getD j false = if i = j then true else H.getD j false := by
  rw [List.getD_eq_getElem?_getD, List.getElem?_set]
  by_cases h : i = j
  · subst h
    rw [if_pos rfl, if_pos rfl, if_pos hi]
    rfl
  · rw [if_neg h, if_neg h, List.getD_eq_getElem?_getD]
theorem setE_tell {H : List Bool} {F : List Int} {n k N : Nat} : ∀ (l : List (Nat × Nat × Nat)), (∀ e ∈ l, e.2.2 < N) → (setE H F n k N l).length = N ∧ ∀ i, i < N → ((setE H F n k N l).getD i false = true ↔ ∃ e ∈ l, onE H F n e = true ∧ e.2.1 = k ∧ e.2.2 = i) := by
  have key : ∀ (l : List (Nat × Nat × Nat)) (G : List Bool), G.length = N → (∀ e ∈ l, e.2.2 < N) → (l.foldl (fun G e => if (onE H F n e && decide (e.2.1 = k)) = true then G.set e.2.2 true else G) G).length = N ∧
      ∀ i, i < N → ((l.foldl (fun G e => if (onE H F n e && decide (e.2.1 = k)) = true then G.set e.2.2 true else G) G).getD i false = true ↔ G.getD i false = true ∨ ∃ e ∈ l, onE H F n e = true ∧ e.2.1 = k ∧ e.2.2 = i) := by
    intro l
    induction l with
    | nil => intro G hG _; exact ⟨hG, fun i _ => by simp⟩
    | cons x l ih =>
      intro G hG hl
      rw [List.foldl_cons]
      have hx := hl x List.mem_cons_self
      by_cases hc : (onE H F n x && decide (x.2.1 = k)) = true
      · rw [if_pos hc]
        have h1 := ih (G.set x.2.2 true) (by rw [List.length_set]; exact hG) (fun e he => hl e (List.mem_cons_of_mem _ he))
        refine ⟨h1.1, fun i hi => ?_⟩
        rw [h1.2 i hi, getD_setB (by omega)]
        rw [Bool.and_eq_true, decide_eq_true_eq] at hc
        constructor
        · rintro (h2 | ⟨e, he, h2⟩)
          · split at h2
            · rename_i hxi
              exact .inr ⟨x, List.mem_cons_self, hc.1, hc.2, hxi⟩
            · exact .inl h2
          · exact .inr ⟨e, List.mem_cons_of_mem _ he, h2⟩
        · rintro (h2 | ⟨e, he, h2⟩)
          · refine .inl ?_
            split
            · rfl
            · exact h2
          · rcases List.mem_cons.1 he with rfl | he
            · exact .inl (by rw [if_pos h2.2.2])
            · exact .inr ⟨e, he, h2⟩
      · rw [if_neg hc]
        have h1 := ih G hG (fun e he => hl e (List.mem_cons_of_mem _ he))
        refine ⟨h1.1, fun i hi => ?_⟩
        rw [h1.2 i hi]
        constructor
        · rintro (h2 | ⟨e, he, h2⟩)
          · exact .inl h2
          · exact .inr ⟨e, List.mem_cons_of_mem _ he, h2⟩
        · rintro (h2 | ⟨e, he, h2⟩)
          · exact .inl h2
          · rcases List.mem_cons.1 he with rfl | he
            · exact absurd (by rw [h2.1, decide_eq_true h2.2.1]; rfl) hc
            · exact .inr ⟨e, he, h2⟩
  intro l hl
  have h := key l (List.replicate N false) (by simp) hl
  refine ⟨h.1, fun i hi => ?_⟩
  rw [setE, h.2 i hi]
  have : (List.replicate N false).getD i false = false := by
    rw [List.getD_eq_getElem?_getD, List.getElem?_replicate]
    split <;> rfl
  rw [this]
  simp
theorem on_iff {p : Pz} {H : List Bool} {F : List Int} {S : List Nat} {n : Nat} (hp : p.lets.length ≤ 20) (hF : ∀ i, i < (endT p).length → F.getD i 0 = dT p i) (hH : TellB (endT p).length H S) {e : Nat × Nat × Nat} (he : e ∈ edsT p) :
    onE H F n e = true ↔ e.1 ∈ S ∧ dT p e.2.2 = (n : Int) ∧ e.2.2 ∈ nxI p e.2.1 e.1 := by
  obtain ⟨h1, h2, x, hx, h3⟩ := mem_edsT.1 he
  have h4 : e.2.2 < (endT p).length := by rw [h3]; exact idxT_lt (twn_next hp h1 h2 hx)
  rw [onE, Bool.and_eq_true, decide_eq_true_eq, hH.at_ _ h1, hF _ h4]
  exact ⟨fun h => ⟨h.1, h.2, List.mem_map.2 ⟨x, hx, h3.symm⟩⟩, fun h => ⟨h.1, h.2.1⟩⟩
theorem eds_of {p : Pz} {i j k : Nat} (hi : i < (endT p).length) (hk : k < 9) (h : j ∈ nxI p k i) : (i, k, j) ∈ edsT p := by
  obtain ⟨x, hx, rfl⟩ := List.mem_map.1 h
  exact mem_edsT.2 ⟨hi, hk, x, hx, rfl⟩
/-- one letter: what both loops over the edges give -/
theorem amb_round {p : Pz} {H : List Bool} {F : List Int} {S : List Nat} {n : Nat} (hp : p.lets.length ≤ 20) (hF : ∀ i, i < (endT p).length → F.getD i 0 = dT p i) (hH : TellB (endT p).length H S) (hne : ∃ i, i ∈ S) (hS : ∀ i ∈ S, dT p i = ((n + 1 : Nat) : Int)) :
    ∃ k, letE H F n (edsT p) = k ∧ k < 9 ∧ wordT 9 (nxI p) (dT p) (n + 1) S = k :: wordT 9 (nxI p) (dT p) n (nowT (nxI p) (dT p) S n k) ∧ TellB (endT p).length (setE H F n k (endT p).length (edsT p)) (nowT (nxI p) (dT p) S n k) ∧
      (∃ i, i ∈ nowT (nxI p) (dT p) S n k) ∧ ∀ i ∈ nowT (nxI p) (dT p) S n k, dT p i = (n : Int) := by
  obtain ⟨h1, h2, h3⟩ := letE_low (H := H) (F := F) (n := n) (edsT p) 9
  have hk0 : letE H F n (edsT p) = (edsT p).foldl (fun m e => if onE H F n e = true then min m e.2.1 else m) 9 := rfl
  rw [← hk0] at h1 h2 h3
  obtain ⟨i0, hi0⟩ := hne
  have hiN := hH.low i0 hi0
  obtain ⟨k0, hk9, j0, hj0, hd0⟩ := amb_step hiN (hS i0 hi0)
  have he0 := eds_of hiN hk9 hj0
  have hon0 := (on_iff (n := n) hp hF hH he0).2 ⟨hi0, hd0, hj0⟩
  have hlt : letE H F n (edsT p) < 9 := by have := h1 _ he0 hon0; simp only at this; omega
  have hlead : leadsT (nxI p) (dT p) S n (letE H F n (edsT p)) = true := by
    rcases h3 with h3 | ⟨e, he, ho, hek⟩
    · omega
    · have ho := (on_iff hp hF hH he).1 ho
      rw [hek] at ho
      exact leadsT_iff.2 ⟨e.1, ho.1, e.2.2, ho.2.2, ho.2.1⟩
  have hleast : ∀ j, j < letE H F n (edsT p) → leadsT (nxI p) (dT p) S n j = false := by
    intro j hj
    cases hl : leadsT (nxI p) (dT p) S n j with
    | false => rfl
    | true =>
      obtain ⟨t, ht, x, hx, hd⟩ := leadsT_iff.1 hl
      have he := eds_of (hH.low t ht) (by omega) hx
      have := h1 _ he ((on_iff (n := n) hp hF hH he).2 ⟨ht, hd, hx⟩)
      simp only at this
      omega
  refine ⟨_, rfl, hlt, wordT_step hlt hlead hleast, ?_, nowT_ne hlead, fun i hi => (mem_nowT.1 hi).2⟩
  have hN : ∀ e ∈ edsT p, e.2.2 < (endT p).length := fun e he => by
    obtain ⟨g1, g2, x, hx, g3⟩ := mem_edsT.1 he
    rw [g3]
    exact idxT_lt (twn_next hp g1 g2 hx)
  have ht := setE_tell (H := H) (F := F) (n := n) (k := letE H F n (edsT p)) (edsT p) hN
  refine ⟨ht.1, fun i hi => ?_, fun i hi => ?_⟩
  · obtain ⟨⟨t, hts, hx⟩, -⟩ := mem_nowT.1 hi
    exact nxI_lt hp (hH.low t hts) hlt hx
  · rw [ht.2 i hi, mem_nowT]
    constructor
    · rintro ⟨e, he, ho, hk, rfl⟩
      have ho := (on_iff hp hF hH he).1 ho
      rw [hk] at ho
      exact ⟨⟨e.1, ho.1, ho.2.2⟩, ho.2.1⟩
    · rintro ⟨⟨t, hts, hx⟩, hd⟩
      have he := eds_of (hH.low t hts) hlt hx
      exact ⟨_, he, (on_iff hp hF hH he).2 ⟨hts, hd, hx⟩, rfl, rfl⟩
end Go.Proofs.Ythnapjodmndlaaa

