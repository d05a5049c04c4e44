/- Parts of the proof, joined into one text: Nest, HeldL, AppL, Cur, HelpInt, HelpBool, HelpSS, Keep, LawKit, Drw, ExpD, SzE. -/
import Derived.Test.YthnapjodmndlaaaOnlzALIKEGPF
import Derived.Deep.Cut
import Derived.Deep.RegionHeld
set_option linter.unusedVariables false
set_option linter.unusedSimpArgs false
namespace Go.Proofs.Ythnapjodmndlaaa
open Go.ChangeShapes Go.WideShapes Go.ChangeAt Go.RowKit
section
variable {H b o:Nat} {w:World}
end
theorem flatCV (l:List Value):l.flatMap cV=l:=by
 induction l with
 | nil=>rfl
 | cons x l ih=>rw [List.flatMap_cons,ih];rfl
/-- the blocks that slices hold -/
abbrev blks (us:List Value):List Nat:=us.filterMap Value.ownBlock
structure NS {α:Type} (lo:Nat) (w:World) (oT eT:TypeId) (E:α->List Value) (k:Nat) (v:Value) (us:List Value) (xss:List (List α)):Prop where
 own:w.ownsRow lo oT 1 v us.length (us.flatMap cV)
 len:us.length=xss.length
 rows:∀ (i:Nat) (u:Value) (xs:List α),us[i]?=some u->xss[i]?=some xs->w.ownsRow lo eT k u xs.length (xs.flatMap E)
 dis:(blks (v :: us)).Nodup
section
variable {α:Type} {lo:Nat} {w w':World} {oT eT:TypeId} {E:α->List Value} {k:Nat} {v:Value} {us:List Value} {xss:List (List α)}
theorem mem_blks {us:List Value} {b:Nat}:b ∈ blks us ↔ ∃ (i:Nat) (u:Value),us[i]?=some u/\u.ownBlock=some b:=by
 rw [List.mem_filterMap]
 constructor
 · rintro ⟨u,hu,hb⟩
   obtain ⟨i,hi⟩:=List.getElem?_of_mem hu
   exact ⟨i,u,hi,hb⟩
 · rintro ⟨i,u,hu,hb⟩
   exact ⟨u,List.mem_of_getElem? hu,hb⟩
theorem NS.lt (h:NS lo w oT eT E k v us xss):∀ b ∈ blks (v :: us),lo<=b/\b < w.heap.size:=by
 intro b hb
 obtain ⟨i,u,hu,hbu⟩:=mem_blks.1 hb
 cases i with
 | zero =>
   simp only [List.getElem?_cons_zero,Option.some.injEq] at hu
   subst hu
   exact h.own.lt b hbu
 | succ i =>
   rw [List.getElem?_cons_succ] at hu
   have hi:i < xss.length:=by rw [<- h.len];exact (List.getElem?_eq_some_iff.1 hu).1
   exact (h.rows i u _ hu (List.getElem?_eq_getElem hi)).lt b hbu
theorem NS.blocks (h:NS lo w oT eT E k v us xss) (hb:∀ b ∈ blks (v :: us),w'.heap[b]?=w.heap[b]?):NS lo w' oT eT E k v us xss :=
 ⟨ownsRow_block h.own fun g hg=>hb g (mem_blks.2 ⟨0,v,rfl,hg⟩),h.len,
  fun i u xs hu hx=>ownsRow_block (h.rows i u xs hu hx) fun g hg=>hb g (mem_blks.2 ⟨i+1,u,by simpa using hu,hg⟩),h.dis⟩
theorem NS.below (h:NS lo w oT eT E k v us xss) (hb:Below w.heap.size w w'):NS lo w' oT eT E k v us xss:=h.blocks fun b hm=>hb.block b (h.lt b hm).2
theorem NS.mono (h:NS lo w oT eT E k v us xss) {lo':Nat} (hl:lo'<=lo):NS lo' w oT eT E k v us xss :=
 ⟨ownsRow_mono h.own hl,h.len,fun i u xs hu hx=>ownsRow_mono (h.rows i u xs hu hx) hl,h.dis⟩
theorem NS.start (h:w.ownsRow lo oT 1 v 0 []):NS lo w oT eT E k v [] ([]:List (List α)) :=
 ⟨h,rfl,fun i u xs hu _=>by simp at hu,by cases hv:v.ownBlock <;> simp [hv]⟩
theorem NS.push (h:NS lo w oT eT E k v us xss) {u:Value} {xs:List α} (hu:w.ownsRow lo eT k u xs.length (xs.flatMap E)) (hn:∀ b,u.ownBlock=some b->b ∉ blks (v :: us))
 {v':Value} (hg:w.grownBy w' v.ownBlock) (hr:w'.ownsRow lo oT 1 v' (us ++ [u]).length ((us ++ [u]).flatMap cV)) (hat:∀ g,v'.ownBlock=some g->v.ownBlock=some g ∨ w.heap.size<=g) :
 NS lo w' oT eT E k v' (us ++ [u]) (xss ++ [xs]):=by
 have hdis:=h.dis
 have hkeep:∀ (u':Value) (n:Nat) (cs:List Value),w.ownsRow lo eT k u' n cs->(∀ b,u'.ownBlock=some b->v.ownBlock ≠ some b)->w'.ownsRow lo eT k u' n cs:=fun u' n cs ho hne=>by
  refine ho.kept hg ?_
  cases hb:u'.ownBlock with
  | none=>exact .inl rfl
  | some b=>exact .inr fun e=>hne b hb e.symm
 have hv0:∀ b,v.ownBlock=some b->b ∉ blks us:=fun b hb=>by
  rw [blks,List.filterMap_cons,hb] at hdis
  exact (List.nodup_cons.1 hdis).1
 refine ⟨hr,by simp [h.len],fun i u' xs' hi hx=>?_,?_⟩
 · rcases Nat.lt_or_ge i us.length with hlt | hge
   · rw [List.getElem?_append_left hlt] at hi
     rw [List.getElem?_append_left (by rw [<- h.len];exact hlt)] at hx
     exact hkeep _ _ _ (h.rows i u' xs' hi hx) fun b hb hvb=>hv0 b hvb (mem_blks.2 ⟨i,u',hi,hb⟩)
   · have hi2:=(List.getElem?_eq_some_iff.1 hi).1
     simp only [List.length_append,List.length_singleton] at hi2
     obtain rfl:i=us.length:=by omega
     have e1:u=u':=by simpa using hi
     have e2:xs=xs':=by rw [h.len] at hx;simpa using hx
     subst e1 e2
     exact hkeep _ _ _ hu fun b hb hvb=>hn b hb (mem_blks.2 ⟨0,v,rfl,hvb⟩)
 · have hlt:=h.lt
   have hus:(blks us).Nodup:=by
    cases hv:v.ownBlock with
    | none=>simpa [blks,List.filterMap_cons,hv] using hdis
    | some b=>rw [blks,List.filterMap_cons,hv] at hdis;exact (List.nodup_cons.1 hdis).2
   have hnu:∀ b,u.ownBlock=some b->b ∉ blks us:=fun b hb hm=>hn b hb (by
    obtain ⟨i,u',h1,h2⟩:=mem_blks.1 hm
    exact mem_blks.2 ⟨i+1,u',by simpa using h1,h2⟩)
   have hall:(blks (us ++ [u])).Nodup:=by
    rw [blks,List.filterMap_append]
    cases hub:u.ownBlock with
    | none=>simpa [List.filterMap_cons,hub] using hus
    | some b =>
      rw [List.filterMap_cons,hub]
      refine List.nodup_append.2 ⟨hus,by simp,?_⟩
      intro x hx y hy e
      simp only [List.filterMap_nil,List.mem_cons,List.not_mem_nil,or_false] at hy
      subst hy
      subst e
      exact hnu _ hub hx
   rw [blks,List.filterMap_cons]
   cases hv':v'.ownBlock with
   | none=>exact hall
   | some g =>
     refine List.nodup_cons.2 ⟨fun hm=>?_,hall⟩
     obtain ⟨i,u',hi,hb⟩:=mem_blks.1 hm
     rcases Nat.lt_or_ge i us.length with hl | hge
     · rw [List.getElem?_append_left hl] at hi
       rcases hat g hv' with h1 | h1
       · exact hv0 g h1 (mem_blks.2 ⟨i,u',hi,hb⟩)
       · have:=(hlt g (mem_blks.2 ⟨i+1,u',by simpa using hi,hb⟩)).2
         omega
     · have hi2:=(List.getElem?_eq_some_iff.1 hi).1
       simp only [List.length_append,List.length_singleton] at hi2
       obtain rfl:i=us.length:=by omega
       have e1:u=u':=by simpa using hi
       subst e1
       rcases hat g hv' with h1 | h1
       · exact hn g hb (mem_blks.2 ⟨0,v,rfl,h1⟩)
       · have:=(hu.lt g hb).2
         omega
/-- what is read of it: the header of row i, and the row -/
theorem NS.row (h:NS lo w oT eT E k v us xss) (hE:∀ x,(E x).length=k) {i:Nat} {xs:List α} (hx:xss[i]?=some xs) :
 ∃ g cap A c,v=.slice (some ⟨g,0,none⟩) xss.length cap/\us[i]?=some (.slice A xs.length c)/\g < w.heap.size/\w.cell? ⟨g,i,none⟩=some (.slice A xs.length c)/\xs.length<=c/\c<=maxLen/\SlI lo w.heap.size w E k (.slice A xs.length c) xs:=by
 have hi:i < us.length:=by rw [h.len];exact (List.getElem?_eq_some_iff.1 hx).1
 have hu:us[i]?=some us[i]:=List.getElem?_eq_getElem hi
 have hr:=h.rows i _ xs hu hx
 generalize us[i]=u at hu hr
 have hsl:=(Own.of_row (xs:=xs) hr rfl rfl).sl hE
 have hsl':=hsl
 obtain ⟨A,c,rfl,hl,hm,-⟩:=hsl'
 have hown:=h.own
 have hlt:=h.own.lt
 rw [flatCV] at hown
 have hown2:=hown
 obtain ⟨h1,h2⟩:=hown2
 rcases h2 with ⟨rfl,h3⟩ | ⟨g,cap,cur,rfl,r⟩
 · omega
 · refine ⟨g,cap,A,c,by rw [h.len],hu,(hlt g rfl).2,?_,hl,hm,hsl⟩
   rw [World.ownsRow.cellAt hown i (by omega)]
   exact hu
theorem NS.at (h:NS lo w oT eT E k v us xss) (hE:∀ x,(E x).length=k) {g n cap:Nat} (hv:v=.slice (some ⟨g,0,none⟩) n cap) {i:Nat} {xs:List α} (hx:xss[i]?=some xs) :
 ∃ A c,w.cell? ⟨g,i,none⟩=some (.slice A xs.length c)/\xs.length<=c/\c<=9223372036854775807/\SlI lo w.heap.size w E k (.slice A xs.length c) xs:=by
 obtain ⟨g',cap',A,c,hv',-,-,hc,h1,h2,h3⟩:=h.row hE hx
 rw [hv] at hv'
 injection hv' with e1 _ _
 injection e1 with e1
 injection e1 with e1
 subst e1
 exact ⟨A,c,hc,h1,h2,h3⟩
/-- a row that is not empty has a block of its own -/
theorem own_some {W:World} {base k n:Nat} {e:TypeId} {v:Value} {cs:List Value} (h:W.ownsRow base e k v n cs) (hn:n ≠ 0):∃ g c,v=.slice (some ⟨g,0,none⟩) n c/\base<=g/\g < W.heap.size/\n<=c/\c<=9223372036854775807:=by
 have hlt:=h.lt
 obtain ⟨h1,h2⟩:=h
 rcases h2 with ⟨rfl,h3⟩ | ⟨g,cap,cur,rfl,h4,h5,h6,h7,r⟩
 · exact absurd h3 hn
 · exact ⟨g,cap,rfl,h4,(hlt g rfl).2,h6,h7⟩
theorem NS.shape (h:NS lo w oT eT E k v us xss):∃ A c,v=.slice A xss.length c/\xss.length<=c/\c<=maxLen:=by
 obtain ⟨h1,h2⟩:=h.own
 rcases h2 with ⟨rfl,h3⟩ | ⟨g,cap,cur,rfl,h4,h5,h6,h7,r⟩
 · exact ⟨none,0,by rw [<- h.len,h3],by rw [<- h.len,h3];exact Nat.le_refl _,by unfold maxLen;omega⟩
 · exact ⟨_,cap,by rw [h.len],by rw [<- h.len];exact h6,h7⟩
end
end Go.Proofs.Ythnapjodmndlaaa
namespace Go.Proofs.Ythnapjodmndlaaa
open Go.RowKit
section
variable {P:Program} {ops:Array Oper} {Q:Exit->Act->World->Prop} {md:Region.Mode} {S:World->Prop} {n:Nat}
/-- whatever order is picked; S holds behind each operation below n -/
def wpAnyF (P:Program) (md:Region.Mode) (ops:Array Oper) (Q:Exit->Act->World->Prop) (S:World->Prop) (n:Nat):Nat->Array Bool->Act->World->Prop
 | 0,listed,a,w=>Region.ready md ops listed=[]/\Q .normal a w
 | f+1,listed,a,w=>(Region.ready md ops listed=[]->Q .normal a w) /\
   ∀ i ∈ Region.ready md ops listed,wpOp P ops Q i (fun a' w'=>(i < n->S w')/\wpAnyF P md ops Q S n f (listed.setIfInBounds i true) a' w') a w
theorem F_any:∀ (f:Nat) (listed:Array Bool) (a:Act) (w:World),wpAnyF P md ops Q S n f listed a w->wpAny P md ops Q f listed a w
 | 0,_,_,_,h=>h
 | f+1,_,_,_,h=>⟨h.1,fun i hi=>wpOp_mono (fun _ _ h'=>F_any f _ _ _ h'.2) (h.2 i hi)⟩
theorem F_first {i:Nat} {oi:Oper} {v:Value} (hi:ops[i]?=some oi) (hsel:∀ (j:Nat) (o:Oper) cs b,ops[j]?=some o->o.op ≠ .select cs b) (hQ:∀ c a w,Q (.panic c) (a.put oi.dst v) w->Q (.panic c) a w)
 (hs:Region.sinkB md ops n=true) (hc:Region.chainB md ops n=true) (hn:n < ops.size) (hin:i < n):∀ (f:Nat) (listed:Array Bool) (a:Act) (w:World),HeadInv md ops n listed ->
  (∀ j oj,ops[j]?=some oj->j ≠ i->listed.getD j true=false->(∀ e ∈ oj.after,Region.binds md e=true->e.on ≠ i)->oi.apart ops oj=true) ->
  i ∈ Region.ready md ops listed->YieldsIf P ops S oi v a->S w ->
  wpAnyF P md ops Q S n f (listed.setIfInBounds i true) (a.put oi.dst v) w->wpAnyF P md ops Q S n (f+1) listed a w:=by
 intro f
 induction f with
 | zero =>
   intro listed a w inv _ hr hy hS H
   have hun:=(mem_ready.1 hr).1
   refine ⟨fun h=>(by rw [h] at hr;cases hr),fun j hj=>?_⟩
   by_cases hji:j=i
   · subst hji;exact hy.wpOp hi hS ⟨fun _=>hS,H⟩
   · have:=ready_mono hj hji
     rw [H.1] at this
     cases this
 | succ f ih =>
   intro listed a w inv hfree hr hy hS H
   have hun:=(mem_ready.1 hr).1
   refine ⟨fun h=>(by rw [h] at hr;cases hr),fun j hj=>?_⟩
   have hjn:j < n:=by
    rcases Nat.lt_or_ge j n with h | h
    · exact h
    · exact absurd hj (tail_waits hs hc hn inv _ i rfl hin hun j h)
   by_cases hji:j=i
   · subst hji;exact hy.wpOp hi hS ⟨fun _=>hS,H⟩
   · have h1:=H.2 j (ready_mono hj hji)
     obtain ⟨hjun,oj,hoj,hall⟩:=mem_ready.1 hj
     have hnot:∀ e ∈ oj.after,Region.binds md e=true->e.on ≠ i:=fun e he hb heq=>by
      have h1:=hall e he hb
      rw [heq,getD_both hun] at h1
      cases h1
     have h2:=wpOp_putIf hoj (hfree j oj hoj hji hjun hnot) (fun cs b=>hsel i oi cs b hi) (fun cs b=>hsel j oj cs b hoj) hQ hy h1
     have hfree':∀ k ok,ops[k]?=some ok->k ≠ i->(listed.setIfInBounds j true).getD k true=false->(∀ e ∈ ok.after,Region.binds md e=true->e.on ≠ i)->oi.apart ops ok=true:=fun k ok hk hki hun hno=>by
      refine hfree k ok hk hki ?_ hno
      by_cases hjk:j=k
      · subst hjk;exact hjun
      · rw [getD_set_ne true hjk] at hun;exact hun
     refine wpOp_mono (fun a' w' h3=>⟨h3.2.1,ih (listed.setIfInBounds j true) a' w' (inv.set hj hjn) hfree' (ready_mono hr (Ne.symm hji)) h3.1 (h3.2.1 hjn) ?_⟩) h2
     rw [Array.setIfInBounds_comm _ _ hji]
     exact h3.2.2
theorem F_take {i:Nat} {oi:Oper} {v:Value} {f:Nat} {listed:Array Bool} {a:Act} {w:World} (hi:ops[i]?=some oi) (hB:(Region.noSelect ops && Region.sinkB md ops n && Region.chainB md ops n && decide (n < ops.size) && decide (i < n))=true)
 (hf:Region.free md ops listed i=true) (hr:(Region.ready md ops listed).contains i=true) (hQ:∀ c a w,Q (.panic c) (a.put oi.dst v) w->Q (.panic c) a w) (inv:HeadInv md ops n listed) (hy:YieldsIf P ops S oi v a) (hS:S w)
 (h:HeadInv md ops n (listed.setIfInBounds i true)->wpAnyF P md ops Q S n f (listed.setIfInBounds i true) (a.put oi.dst v) w):wpAnyF P md ops Q S n (f+1) listed a w:=by
 simp only [Bool.and_eq_true,decide_eq_true_eq] at hB
 obtain ⟨⟨⟨⟨h1,h2⟩,h3⟩,h4⟩,h5⟩:=hB
 have hr':i ∈ Region.ready md ops listed:=by simpa using hr
 exact F_first hi (Region.noSelect_spec h1) hQ h2 h3 h4 h5 f listed a w inv (Region.free_spec hi hf) hr' hy hS (h (inv.set hr' h5))
/-- the only one that may come up: an operation below n -/
theorem F_one {i:Nat} {oi:Oper} {f:Nat} {listed:Array Bool} {a:Act} {w:World} (hr:Region.ready md ops listed=[i]) (hi:ops[i]?=some oi) (hg:oi.guard=none) (hin:i < n) (inv:HeadInv md ops n listed)
 (h:∀ K:Act->World->Prop,Shut (∀ a' w',S w'->(S w'->HeadInv md ops n (listed.setIfInBounds i true)->wpAnyF P md ops Q S n f (listed.setIfInBounds i true) a' w')->K a' w')->Oper.wp P oi a w K Q):wpAnyF P md ops Q S n (f+1) listed a w:=by
 refine ⟨fun h0=>(by rw [hr] at h0;cases h0),fun j hj=>?_⟩
 have hj2:=hj
 rw [hr] at hj2
 obtain rfl:j=i:=by simpa using hj2
 have hw:Region.wanted oi (yielded ops a.tmps)=true:=by simp [Region.wanted,hg]
 unfold wpOp
 simp only [hi,hw,if_true]
 exact .inl (h _ (fun a' w' hS hF=>⟨fun _=>hS,hF hS (inv.set hj hin)⟩))
/-- the last one -/
theorem F_last {i:Nat} {oi:Oper} {f:Nat} {listed:Array Bool} {a:Act} {w:World} (hr:Region.ready md ops listed=[i]) (hi:ops[i]?=some oi) (hg:oi.guard=none) (hin:n<=i) (he:Region.ready md ops (listed.setIfInBounds i true)=[])
 (h:∀ K:Act->World->Prop,(∀ a' w',Q .normal a' w'->K a' w')->Oper.wp P oi a w K Q):wpAnyF P md ops Q S n (f+1) listed a w:=by
 refine ⟨fun h0=>(by rw [hr] at h0;cases h0),fun j hj=>?_⟩
 rw [hr] at hj
 obtain rfl:j=i:=by simpa using hj
 have hw:Region.wanted oi (yielded ops a.tmps)=true:=by simp [Region.wanted,hg]
 unfold wpOp
 simp only [hi,hw,if_true]
 refine .inl (h _ (fun a' w' hq=>⟨fun h=>absurd h (by omega),?_⟩))
 cases f with
 | zero=>exact ⟨he,hq⟩
 | succ f=>exact ⟨fun _=>hq,by rw [he];simp⟩
theorem F_tk (i:Nat) {oi:Oper} {v:Value} {f:Nat} {listed:Array Bool} {a:Act} {w:World} (inv:HeadInv md ops n listed)
 (h:HeadInv md ops n (listed.setIfInBounds i true)->wpAnyF P md ops Q S n f (listed.setIfInBounds i true) (a.put oi.dst v) w)
 (hi:ops[i]?=some oi:=by rfl) (hB:(Region.noSelect ops && Region.sinkB md ops n && Region.chainB md ops n && decide (n < ops.size) && decide (i < n))=true:=by kernel_rfl)
 (hf:Region.free md ops listed i=true:=by kernel_rfl) (hr:(Region.ready md ops listed).contains i=true:=by kernel_rfl) (hQ:∀ c a w,Q (.panic c) (a.put oi.dst v) w->Q (.panic c) a w:=by exact fun _ _ _ h=>h)
 (hw:Region.wanted oi (yielded ops a.tmps)=true:=by rfl) (hy:∀ w,S w->(execOp a.eval oi).run P w=.ok (.value v) w:=by (intro w hSw;(try dsimp only at hSw);go_simp;try with_reducible rfl)) (hS:S w:=by assumption):wpAnyF P md ops Q S n (f+1) listed a w :=
 F_take hi hB hf hr hQ inv (.inl ⟨hw,hy⟩) hS h
theorem F_sk (i:Nat) {oi:Oper} {f:Nat} {listed:Array Bool} {a:Act} {w:World} (inv:HeadInv md ops n listed)
 (h:HeadInv md ops n (listed.setIfInBounds i true)->wpAnyF P md ops Q S n f (listed.setIfInBounds i true) (a.put oi.dst undef) w)
 (hi:ops[i]?=some oi:=by rfl) (hB:(Region.noSelect ops && Region.sinkB md ops n && Region.chainB md ops n && decide (n < ops.size) && decide (i < n))=true:=by kernel_rfl)
 (hf:Region.free md ops listed i=true:=by kernel_rfl) (hr:(Region.ready md ops listed).contains i=true:=by kernel_rfl) (hQ:∀ c a w,Q (.panic c) (a.put oi.dst undef) w->Q (.panic c) a w:=by exact fun _ _ _ h=>h)
 (hw:Region.wanted oi (yielded ops a.tmps)=false:=by rfl) (hS:S w:=by assumption):wpAnyF P md ops Q S n (f+1) listed a w :=
 F_take hi hB hf hr hQ inv (.inr ⟨hw,rfl⟩) hS h
theorem tA {α:Type} {l:List α} {i:Nat} (h:i < l.toArray.size):l.toArray[i]=l[i]'(by simpa using h):=List.getElem_toArray h
theorem tB {α:Type} {a:α} {l:List α} (h:0 < (a :: l).length):(a :: l)[0]=a:=List.getElem_cons_zero a l h
theorem tC {α:Type} (a:α) (l:List α) (i:Nat) (h:i+1 < (a :: l).length):(a :: l)[i+1]=l[i]'(Nat.lt_of_succ_lt_succ h):=List.getElem_cons_succ a l i h
theorem tE {α:Type} (l:List α) (i:Nat) (a:α):l.toArray.setIfInBounds i a=(l.set i a).toArray:=List.setIfInBounds_toArray l i a
theorem tF {α:Type} {x:α} {xs:List α} {a:α}:(x :: xs).set 0 a=a :: xs:=List.set_cons_zero
theorem tG {α:Type} {x:α} {xs:List α} {n:Nat} {a:α}:(x :: xs).set (n+1) a=x :: xs.set n a:=List.set_cons_succ
theorem F_o1 (i:Nat) {oi:Oper} {f:Nat} {listed:Array Bool} {a:Act} {w:World} (inv:HeadInv md ops n listed)
 (h:∀ K:Act->World->Prop,Shut (∀ a' w',S w'->(S w'->HeadInv md ops n (listed.setIfInBounds i true)->wpAnyF P md ops Q S n f (listed.setIfInBounds i true) a' w')->K a' w')->Oper.wp P oi a w K Q)
 (hr:Region.ready md ops listed=[i]:=by kernel_rfl) (hi:ops[i]?=some oi:=by rfl) (hg:oi.guard=none:=by rfl) (hin:i < n:=by omega):wpAnyF P md ops Q S n (f+1) listed a w:=F_one hr hi hg hin inv h
theorem F_l1 (i:Nat) {oi:Oper} {f:Nat} {listed:Array Bool} {a:Act} {w:World}
 (h:∀ K:Act->World->Prop,(∀ a' w',Q .normal a' w'->K a' w')->Oper.wp P oi a w K Q)
 (hr:Region.ready md ops listed=[i]:=by kernel_rfl) (hi:ops[i]?=some oi:=by rfl) (hg:oi.guard=none:=by rfl) (hin:n<=i:=by omega) (he:Region.ready md ops (listed.setIfInBounds i true)=[]:=by kernel_rfl):wpAnyF P md ops Q S n (f+1) listed a w:=F_last hr hi hg hin he h
/-- two that may come up -/
theorem F_two {i j:Nat} {oi oj:Oper} {f:Nat} {listed:Array Bool} {a:Act} {w:World} (hr:Region.ready md ops listed=[i,j]) (hi:ops[i]?=some oi) (hj:ops[j]?=some oj) (hgi:oi.guard=none) (hgj:oj.guard=none) (hin:i < n/\j < n) (inv:HeadInv md ops n listed)
 (h1:∀ K:Act->World->Prop,Shut (∀ a' w',S w'->(S w'->HeadInv md ops n (listed.setIfInBounds i true)->wpAnyF P md ops Q S n f (listed.setIfInBounds i true) a' w')->K a' w')->Oper.wp P oi a w K Q)
 (h2:∀ K:Act->World->Prop,Shut (∀ a' w',S w'->(S w'->HeadInv md ops n (listed.setIfInBounds j true)->wpAnyF P md ops Q S n f (listed.setIfInBounds j true) a' w')->K a' w')->Oper.wp P oj a w K Q):wpAnyF P md ops Q S n (f+1) listed a w:=by
 refine ⟨fun h0=>(by rw [hr] at h0;cases h0),fun k hk=>?_⟩
 have hk2:=hk
 rw [hr] at hk2
 simp only [List.mem_cons,List.not_mem_nil,or_false] at hk2
 rcases hk2 with rfl | rfl
 · have hw:Region.wanted oi (yielded ops a.tmps)=true:=by simp [Region.wanted,hgi]
   unfold wpOp
   simp only [hi,hw,if_true]
   exact .inl (h1 _ (fun a' w' hS hF=>⟨fun _=>hS,hF hS (inv.set hk hin.1)⟩))
 · have hw:Region.wanted oj (yielded ops a.tmps)=true:=by simp [Region.wanted,hgj]
   unfold wpOp
   simp only [hj,hw,if_true]
   exact .inl (h2 _ (fun a' w' hS hF=>⟨fun _=>hS,hF hS (inv.set hk hin.2)⟩))
theorem F_start {id:Nat} {a:Act} {w:World} (n:Nat) (S:World->Prop) (hm:P.follows .mixedOrders=true) (hS:S w.drew)
 (h:S w.drew->HeadInv .any ops n (Array.replicate ops.size false)->wpAnyF P .any ops Q S n ops.size (Array.replicate ops.size false) a w.drew):(Code.region id ops true).wp P Q a w :=
 wp_region_any hm (F_any _ _ _ _ (h hS ⟨by simp,fun j oj _ hl=>(by rw [getD_replicate_false] at hl;cases hl),fun t _ ht=>getD_in (by simpa using ht) (getD_replicate_false _ _)⟩))
/-- append(s, x): as an operation by itself; the one element lies in block H -/
theorem op_append1 {w:World} {α:Type} (E:α->List Value) {o:Oper} {a:Act} {K:Act->World->Prop} {t e:TypeId} {z:Value} {k bytes:Nat} (el:ElemOk P t e z k bytes) (hgd:o.guard=none) (s y:Operand)
 (ho:o.op=.call { callee:=.builtin .append,args:=#[s,y],argTypes:=#[t,t] })
 (base:Nat) (v:Value) (xs:List α) (x:α) (c H:Nat) (hs:a.eval s=v) (hown:w.ownsRow base e k v xs.length (xs.flatMap E)) (hy:a.eval y=.slice (some ⟨H,0,none⟩) 1 c)
 (hH:w.heap[H]?=some (.cells (E x).toArray e (0,0))) (hE:(E x).length=k) (h1:∀ u ∈ E x,u.oneCell'=true) (hbytes:(xs.length+1) * bytes<=140737488355328) (hb0:0 < bytes) (hbase:base<=w.heap.size)
 (h:∀ g cap w',w'.ownsRow base e k (.slice (some ⟨g,0,none⟩) (xs.length+1) cap) (xs ++ [x]).length ((xs ++ [x]).flatMap E)->w.grownBy w' v.ownBlock->(v.ownBlock=some g ∨ w.heap.size<=g)->g < w'.heap.size ->
  K (a.put o.dst (.slice (some ⟨g,0,none⟩) (xs.length+1) cap)) w'):Oper.wp P o a w K Q:=by
 have h2:=step_append1 (ops:=#[]) (EE:=True) (Q:=Q) (K:=K) E el hgd s y ho base v xs x c H hs hown hy hH hE h1 hbytes hb0 hbase h
 have hw:Region.wanted o (yielded #[] a.tmps)=true:=by simp [Region.wanted,hgd]
 rwa [if_pos hw] at h2
/-- the same at the head of a list of operations -/
theorem wpList_append2 {w:World} {α:Type} (E:α->List Value) {rest:List Oper} {o:Oper} {a:Act} {t e:TypeId} {z:Value} {k bytes:Nat} (el:ElemOk P t e z k bytes) (hgd:o.guard=none) (s y:Operand)
 (ho:o.op=.call { callee:=.builtin .append,args:=#[s,y],argTypes:=#[t,t] })
 (base:Nat) (v:Value) (xs:List α) (x:α) (c H:Nat) (hs:a.eval s=v) (hown:w.ownsRow base e k v xs.length (xs.flatMap E)) (hy:a.eval y=.slice (some ⟨H,0,none⟩) 1 c)
 (hH:w.heap[H]?=some (.cells (E x).toArray e (0,0))) (hE:(E x).length=k) (h1:∀ u ∈ E x,u.oneCell'=true) (hbytes:(xs.length+1) * bytes<=140737488355328) (hb0:0 < bytes) (hbase:base<=w.heap.size)
 (h:∀ g cap w',w'.ownsRow base e k (.slice (some ⟨g,0,none⟩) (xs.length+1) cap) (xs ++ [x]).length ((xs ++ [x]).flatMap E)->w.grownBy w' v.ownBlock->(v.ownBlock=some g ∨ w.heap.size<=g)->g < w'.heap.size ->
  wpList P ops Q rest (a.put o.dst (.slice (some ⟨g,0,none⟩) (xs.length+1) cap)) w'):wpList P ops Q (o :: rest) a w :=
 wpList_plain hgd fun _ hK=>op_append1 E el hgd s y ho base v xs x c H hs hown hy hH hE h1 hbytes hb0 hbase fun g cap w' h2 h3 h4 h5=>hK _ _ (h g cap w' h2 h3 h4 h5)
end
end Go.Proofs.Ythnapjodmndlaaa
namespace Go.Proofs.Ythnapjodmndlaaa
open Go.ChangeShapes Go.WideShapes Go.ChangeAt Go.RowKit
section
variable {P:Program} {w:World}
theorem run_append_nil0 (base:Nat) (t ty e:TypeId) (i:TypeInfo) (size:Nat) (ht:P.underlying t=some (.slice e)) (hi:P.info? e=some i) (v:Value) (n:Nat) (xs:List Value) (hown:w.ownsRow base e size v n xs) (c:Nat) :
 (Builtin.append_ #[t,t] ty #[v,.slice none 0 c]).run P w=.ok v w:=by
 obtain ⟨_,h2⟩:=hown
 rcases h2 with ⟨rfl,_⟩ | ⟨g,cap,cur,rfl,_,_,hnc,_⟩
 · simp [Builtin.append_,run_underlying ht,sizeOf,typeInfo,hi,Builtin.lenOf,Builtin.firstCells]
 · simp [Builtin.append_,run_underlying ht,sizeOf,typeInfo,hi,Builtin.lenOf,Builtin.firstCells,hnc,storeCells]
theorem flat_one {α:Type} {E:α->List Value} {xs:List α} (h1:∀ x,∀ u ∈ E x,u.oneCell'=true):∀ u ∈ xs.flatMap E,u.oneCell'=true:=fun u hu=>by
 obtain ⟨x,_,hx⟩:=List.mem_flatMap.1 hu
 exact h1 x u hx
theorem flat_lenE {α:Type} {E:α->List Value} {k:Nat} (hE:∀ x,(E x).length=k):∀ xs:List α,(xs.flatMap E).length=xs.length * k
 | []=>by simp
 | x :: xs=>by rw [List.flatMap_cons,List.length_append,hE,flat_lenE hE xs,List.length_cons,Nat.succ_mul,Nat.add_comm]
/-- all cells of a list lie one behind the other -/
theorem flat_cells {α:Type} {E:α->List Value} {k:Nat} (hE:∀ x,(E x).length=k) (hk:0 < k) {b o:Nat} {ys:List α} (h:∀ i x,ys[i]?=some x->∀ j u,(E x)[j]?=some u->w.cell? ⟨b,o+i * k+j,none⟩=some u) :
 ∀ j u,(ys.flatMap E)[j]?=some u->w.cell? ((⟨b,o,none⟩:Addr).add j)=some u:=by
 intro j u hu
 have hl:=(List.getElem?_eq_some_iff.1 hu).1
 rw [flat_lenE hE] at hl
 have hi:j / k < ys.length:=Nat.div_lt_of_lt_mul (by rw [Nat.mul_comm];exact hl)
 have hx:ys[j / k]?=some ys[j / k]:=List.getElem?_eq_getElem hi
 have hj:j % k < (E ys[j / k]).length:=by rw [hE];exact Nat.mod_lt _ hk
 have hf:=flat_at hE hx (j % k) _ (List.getElem?_eq_getElem hj)
 have hjj:j / k * k+j % k=j:=by rw [Nat.mul_comm];exact Nat.div_add_mod j k
 rw [hjj,hu] at hf
 injection hf with hf
 have hc:=h _ _ hx (j % k) _ (List.getElem?_eq_getElem hj)
 have hadd:(⟨b,o,none⟩:Addr).add j=⟨b,o+j,none⟩:=by unfold Addr.add;split <;> simp_all
 rw [hadd,hf,<- hc]
 congr 2
 omega
theorem run_appendL {α:Type} (E:α->List Value) {t e:TypeId} {z:Value} {k bytes:Nat} (el:ElemOk P t e z k bytes) (hE:∀ x,(E x).length=k) (h1:∀ x,∀ u ∈ E x,u.oneCell'=true)
 (base:Nat) (v:Value) (xs ys:List α) (hown:w.ownsRow base e k v xs.length (xs.flatMap E)) (lo hi:Nat) (y:Value) (hy:SlI lo hi w E k y ys) (hbytes:(xs.length+ys.length) * bytes<=140737488355328) (hb0:0 < bytes) (hbase:base<=w.heap.size) (ty:TypeId) :
 ∃ v' w',(Builtin.append_ #[t,t] ty #[v,y]).run P w=.ok v' w'/\w'.ownsRow base e k v' (xs ++ ys).length ((xs ++ ys).flatMap E)/\w.grownBy w' v.ownBlock/\(v'.ownBlock=v.ownBlock ∨ v'.ownBlock=some w.heap.size):=by
 obtain ⟨i,hi,hz0,hz1,hz2⟩:=info_parts el.info
 have hlen:xs.length+ys.length<=140737488355328:=Nat.le_trans (Nat.le_mul_of_pos_right _ hb0) hbytes
 obtain ⟨A,c,rfl,_,_,hx⟩:=hy
 have key:∀ a:Addr,A=some a->(∀ j u,(ys.flatMap E)[j]?=some u->w.cell? (a.add j)=some u)->∃ v' w',(Builtin.append_ #[t,t] ty #[v,.slice A ys.length c]).run P w=.ok v' w'/\w'.ownsRow base e k v' (xs ++ ys).length ((xs ++ ys).flatMap E)/\w.grownBy w' v.ownBlock/\(v'.ownBlock=v.ownBlock ∨ v'.ownBlock=some w.heap.size):=by
  intro a ha hc
  subst ha
  obtain ⟨v',w',hr,h2,h3,_,h5⟩:=run_append_own_at (P:=P) w base t ty e i z k bytes el.und hi hz0 hz1 hz2 el.zc el.pos v xs.length (xs.flatMap E) hown a ys.length c (ys.flatMap E) (flat_lenE hE ys) hc (flat_one h1) (by unfold maxLen;omega) hbytes hbase
  exact ⟨v',w',hr,by rw [List.flatMap_append,List.length_append];exact h2,h3,h5⟩
 cases ys with
 | nil =>
   cases A with
   | none=>exact ⟨v,w,run_append_nil0 base t ty e i k el.und hi v _ _ hown c,by simpa using hown,World.grownBy.refl w _,.inl rfl⟩
   | some a=>exact key a rfl (fun j u hu=>by simp at hu)
 | cons x ys =>
   obtain ⟨b,o,hA,-,-,-⟩:=hx 0 x rfl
   refine key ⟨b,o,none⟩ hA (flat_cells hE el.pos fun i x hi j u hu=>?_)
   obtain ⟨b',o',hA',-,-,hc⟩:=hx i x hi
   rw [hA] at hA'
   injection hA' with hA'
   injection hA' with e1 e2
   subst e1 e2
   exact hc j u hu
theorem wpList_appendL {α:Type} (E:α->List Value) {ops:Array Oper} {rest:List Oper} {o:Oper} {a:Act} {Q:Exit->Act->World->Prop} {t e:TypeId} {z:Value} {k bytes:Nat} (el:ElemOk P t e z k bytes) (hE:∀ x,(E x).length=k) (h1:∀ x,∀ u ∈ E x,u.oneCell'=true)
 (hgd:o.guard=none) (s y:Operand) (ho:o.op=.call { callee:=.builtin .append,args:=#[s,y],argTypes:=#[t,t] })
 (base:Nat) (v:Value) (xs ys:List α) (hs:a.eval s=v) (hown:w.ownsRow base e k v xs.length (xs.flatMap E)) (lo hi:Nat) (yv:Value) (hyv:a.eval y=yv) (hy:SlI lo hi w E k yv ys) (hbytes:(xs.length+ys.length) * bytes<=140737488355328) (hb0:0 < bytes) (hbase:base<=w.heap.size)
 (h:∀ v' w',w'.ownsRow base e k v' (xs ++ ys).length ((xs ++ ys).flatMap E)->w.grownBy w' v.ownBlock->(v'.ownBlock=v.ownBlock ∨ v'.ownBlock=some w.heap.size)->wpList P ops Q rest (a.put o.dst v') w'):wpList P ops Q (o :: rest) a w:=by
 refine wpList_plain hgd fun K hK=>?_
 obtain ⟨v',w',hr,h2,h3,h5⟩:=run_appendL E el hE h1 base v xs ys hown lo hi yv hy hbytes hb0 hbase o.type
 unfold Oper.wp execOp
 simp only [ho,resolve,invoke,builtin,Sem.run_bind,Sem.run_pure,Result.andThen_ok,List.map_toArray,List.map_cons,List.map_nil,hs,hyv,hr]
 exact hK _ _ (h v' w' h2 h3 h5)
end
end Go.Proofs.Ythnapjodmndlaaa
namespace Go.Proofs.Ythnapjodmndlaaa
open Go.ChangeShapes Go.WideShapes Go.ChangeAt Go.RowKit
attribute [local go_sem] ext_cell ext_frozen ext_lt ext_lt1 ext_lt2 ext_lt3 ltn2 ltn3 ltn13 lts1 lts2 lts3
theorem and_le (x:Int) (m:Nat) (hm:m < 2 ^ 63):0<=bits .and .i64 x (m:Int)/\bits .and .i64 x (m:Int)<=m:=by
 have h2:(BitVec.ofInt 64 (m:Int)).toNat=m:=by
  rw [BitVec.ofInt_natCast,BitVec.toNat_ofNat];exact Nat.mod_eq_of_lt (by omega)
 have h3:(BitVec.ofInt 64 x &&& BitVec.ofInt 64 (m:Int)).toNat<=m:=by
  rw [BitVec.toNat_and,h2];exact Nat.and_le_right
 have h4:bits .and .i64 x (m:Int)=IntKind.i64.wrap ((BitVec.ofInt 64 x &&& BitVec.ofInt 64 (m:Int)).toNat:Int):=rfl
 rw [h4]
 generalize (BitVec.ofInt 64 x &&& BitVec.ofInt 64 (m:Int)).toNat=z at h3 ⊢
 rw [IntKind.wrap_i64]
 omega
theorem emod_le {a n m:Int} (ha:0<=a) (hn:0 < n) (hm:a<=m):a % n<=m:=by
 have h1:=Int.mul_ediv_add_emod a n
 have h2:0<=n * (a / n):=Int.mul_nonneg (by omega) (Int.ediv_nonneg ha (by omega))
 omega
theorem and255 (x:Int):0<=bits .and .i64 x 255/\bits .and .i64 x 255<=255:=and_le x 255 (by decide)
/-- the cursor in block b: the code's bytes lie below it; its place is not below nought -/
def Cur (w:World) (b:Nat):Prop :=
 ∃ (A:Option Addr) (bs:List Int) (c:Nat) (i h:Int),Blk w b 81 #[.slice A bs.length c,.int .i64 i,.int .i64 h]/\SlI 0 b w cU 1 (.slice A bs.length c) bs/\0<=i/\i<=bs.length
theorem Cur.lt {w:World} {b:Nat} (h:Cur w b):b < w.heap.size:=by
 obtain ⟨A,bs,c,i,g,h1,-⟩:=h
 exact h1.lt
theorem Cur.only {w w':World} {b l r:Nat} (h:Cur w b) (ho:Only l r w w') (hl:b < l):Cur w' b:=by
 obtain ⟨A,bs,c,i,g,h1,h2,h3⟩:=h
 exact ⟨A,bs,c,i,g,h1.only ho (.inl hl),h2.only ho (Nat.le_of_lt h1.lt) (.inl (Nat.le_of_lt hl)),h3⟩
theorem Cur.keep {w w':World} {b:Nat} (h:Cur w b) (hb:Below w.heap.size w w'):Cur w' b:=h.only (Only.of_below hb w.heap.size w.heap.size) h.lt
set_option maxHeartbeats 2000000 in
theorem l1Byte_any (b:Nat) (w:World) (hc:Cur w b) :
 Calls Try.prog 54 #[.pointer (some ⟨b,0,none⟩)] w fun e w'=>∃ r:Int,e=.returned (.int .i64 r)/\(0<=r/\r<=255)/\Cur w' b/\Only b (b+1) w w':=by
 obtain ⟨A,bs,c,i,h,hblk,hsl,hi0,hi1⟩:=hc
 have hlt:=hblk.lt
 have x0:w.cell? ⟨b,0,none⟩=some (.slice A bs.length c):=hblk.cell 0
 have x1:w.cell? ⟨b,1,none⟩=some (.int .i64 i):=hblk.cell 1
 have x2:w.cell? ⟨b,2,none⟩=some (.int .i64 h):=hblk.cell 2
 have y1:=hblk.frozen 1
 have y2:=hblk.frozen 2
 go_enter Try.func54,Try.ntmps54
 go_upto_region 2 with fail
 generalize wrap64 (wrap64 (h * 6364136223846793005)+1442695040888963407)=h'
 have hbk1:=hblk.set_ 2 (.int .i64 h')
 have ho1:Only b (b+1) w (w.setCell ⟨b,2,none⟩ (.int .i64 h')):=(Only.refl b (b+1) w).setCell (p:=⟨b,2,none⟩) (.inl ⟨Nat.le_refl _,Nat.lt_succ_self _⟩) _
 generalize w.setCell ⟨b,2,none⟩ (.int .i64 h')=W1 at *
 replace hsl:=hsl.only ho1 (Nat.le_of_lt hlt) (.inl (Nat.le_refl _))
 replace hlt:=hbk1.lt
 replace x0:W1.cell? ⟨b,0,none⟩=some (.slice A bs.length c):=hbk1.cell 0
 replace x1:W1.cell? ⟨b,1,none⟩=some (.int .i64 i):=hbk1.cell 1
 replace x2:W1.cell? ⟨b,2,none⟩=some (.int .i64 h'):=hbk1.cell 2
 replace y1:=hbk1.frozen 1
 replace y2:=hbk1.frozen 2
 have HSL:=Hd_ hsl
 refine wp_region_ext_lit (by kernel_rfl) (by kernel_rfl) ?_
 repeat (go_big_quiet_step (fail))
 refine wpQuiet_nil ?_
 rintro _ ⟨u,rfl⟩
 obtain ⟨hr0,hr1⟩:=and255 (bits .xor .i64 (h' / 8589934592) (h' / 35184372088832))
 generalize bits .and .i64 (bits .xor .i64 (h' / 8589934592) (h' / 35184372088832)) 255=x at *
 obtain ⟨n,rfl⟩:=Int.eq_ofNat_of_zero_le hi0
 have HBK:=Hd_ hbk1
 have HON:=Hd_ ho1
 by_cases hin:n < bs.length
 · have hxi:bs[n]?=some bs[n]:=List.getElem?_eq_getElem hin
   obtain ⟨A',c',hv,hl,hm,hx⟩:=hsl
   injection hv with hv1 hv2 hv3
   subst hv1 hv3
   obtain ⟨q,o,rfl,-,hq,hcc⟩:=hx n _ hxi
   generalize bs[n]=y at hcc
   have c0:=hcc 0 _ rfl
   simp only [Nat.add_zero,Nat.mul_one] at c0
   have hqW:=Nat.lt_trans hq hlt
   clear hx hcc hxi hbk1 ho1
   unfold maxLen at hm
   go_wp2_with fail
   refine wp_region_ext_lit (by kernel_rfl) (by kernel_rfl) ?_
   repeat (go_big_quiet_step (fail))
   refine wpQuiet_nil ?_
   rintro _ ⟨u2,rfl⟩
   obtain ⟨u4,hu4⟩:=ext_ext W1 u u2
   rw [hu4]
   go_wp2_with fail
   refine wp_region_ext_lit (by kernel_rfl) (by kernel_rfl) ?_
   repeat (go_big_quiet_step (fail))
   refine wpQuiet_nil ?_
   rintro _ ⟨u3,rfl⟩
   obtain ⟨u5,hu5⟩:=ext_ext W1 u4 u3
   rw [hu5]
   go_wp2_with fail
   go_ret
   have hob:Only b (b+1) (ext W1 u5) ((ext W1 u5).setCell ⟨b,1,none⟩ (.int .i64 ((n:Int)+1))):=(Only.refl b (b+1) _).setCell (p:=⟨b,1,none⟩) (.inl ⟨Nat.le_refl _,Nat.lt_succ_self _⟩) _
   have hoc:=(Only.of_below (ext_below W1 u5) b (b+1)).trans hob
   exact ⟨_,rfl,and255 _,⟨_,bs,c,(n:Int)+1,h',(HBK.out.keep (ext_below W1 u5)).set_ 1 _,HSL.out.only hoc (Nat.le_of_lt hlt) (.inl (Nat.le_refl _)),by omega,by omega⟩,HON.out.trans hoc⟩
 · clear hsl hbk1 ho1
   go_wp2_with fail
   refine wp_region_ext_lit (by kernel_rfl) (by kernel_rfl) ?_
   repeat (go_big_quiet_step (fail))
   refine wpQuiet_nil ?_
   rintro _ ⟨u2,rfl⟩
   obtain ⟨u4,hu4⟩:=ext_ext W1 u u2
   rw [hu4]
   go_wp2_with fail
   go_ret
   have hoc:=Only.of_below (ext_below W1 u4) b (b+1)
   exact ⟨_,rfl,⟨hr0,hr1⟩,⟨A,bs,c,n,h',HBK.out.keep (ext_below W1 u4),HSL.out.only hoc (Nat.le_of_lt hlt) (.inl (Nat.le_refl _)),by omega,by omega⟩,HON.out.trans hoc⟩
set_option maxHeartbeats 2000000 in
theorem l1Below_any (b:Nat) (n:Int) (w:World) (hc:Cur w b) :
 Calls Try.prog 47 #[.pointer (some ⟨b,0,none⟩),.int .i64 n] w fun e w'=>∃ r:Int,e=.returned (.int .i64 r)/\(0<=r/\r<=4294967295/\(0 < n->r < n))/\Cur w' b/\Only b (b+1) w w':=by
 by_cases h0:n<=0
 · go_enter Try.func47,Try.ntmps47
   go_wp2
   go_ret
   exact ⟨_,rfl,by omega,hc,Only.refl _ _ _⟩
 by_cases h1:n<=256
 · go_enter Try.func47,Try.ntmps47
   go_wp2_with (refine (l1Byte_any b _ hc).mono ?_;rintro e w1 ⟨r,rfl,⟨hr0,hr1⟩,hc1,ho1⟩)
   go_ret
   exact ⟨_,rfl,⟨Int.emod_nonneg _ (by omega),by have:=Int.emod_lt_of_pos r (show 0 < n by omega);omega,fun h=>Int.emod_lt_of_pos _ h⟩,hc1,ho1⟩
 · go_enter Try.func47,Try.ntmps47
   go_wp2_with fail
   refine (l1Byte_any b _ hc).mono ?_;rintro e w1 ⟨r1,rfl,⟨hr10,hr11⟩,hc1,ho1⟩
   go_wp2_with fail
   refine (l1Byte_any b _ hc1).mono ?_;rintro e w2 ⟨r2,rfl,⟨hr20,hr21⟩,hc2,ho2⟩
   go_wp2_with fail
   refine (l1Byte_any b _ hc2).mono ?_;rintro e w3 ⟨r3,rfl,⟨hr30,hr31⟩,hc3,ho3⟩
   go_wp2_with fail
   refine (l1Byte_any b _ hc3).mono ?_;rintro e w4 ⟨r4,rfl,⟨hr40,hr41⟩,hc4,ho4⟩
   go_wp2_with fail
   go_ret
   exact ⟨_,rfl,⟨Int.emod_nonneg _ (by omega),emod_le (by omega) (by omega) (by omega),fun h=>Int.emod_lt_of_pos _ h⟩,hc4,((ho1.trans ho2).trans ho3).trans ho4⟩
set_option maxHeartbeats 1000000 in
theorem l1Once_any (b:Nat) (n:Int) (w:World) (hc:Cur w b) :
 Calls Try.prog 51 #[.pointer (some ⟨b,0,none⟩),.int .i64 n] w fun e w'=>∃ r:Bool,e=.returned (.bool r)/\Cur w' b/\Only b (b+1) w w':=by
 go_enter Try.func51,Try.ntmps51
 go_wp2_with fail
 refine (l1Below_any b n _ hc).mono ?_;rintro e w1 ⟨r,rfl,-,hc1,ho1⟩
 go_wp2_with fail
 go_ret
 exact ⟨_,rfl,hc1,ho1⟩
set_option maxHeartbeats 1000000 in
theorem l1PickInt_any (b:Nat) (v:Value) (xs:List Int) (w:World) (hc:Cur w b) (hne:0 < xs.length) (hv:SlI (b+1) w.heap.size w cI 1 v xs) :
 Calls Try.prog 48 #[.pointer (some ⟨b,0,none⟩),v] w fun e w'=>∃ r:Int,e=.returned (.int .i64 r)/\r ∈ xs/\Cur w' b/\Only b (b+1) w w':=by
 obtain ⟨A,c,rfl,hl,hm,hx⟩:=hv
 unfold maxLen at hm
 have HX:=Hd_ hx
 clear hx
 go_enter Try.func48,Try.ntmps48
 go_wp2_with fail
 refine (l1Below_any b _ _ hc).mono ?_;rintro e w1 ⟨r,rfl,⟨h0,-,h1⟩,hc1,ho1⟩
 have h1:=h1 (by omega)
 obtain ⟨i,rfl⟩:=Int.eq_ofNat_of_zero_le h0
 have hi:i < xs.length:=by omega
 have hxi:xs[i]?=some xs[i]:=List.getElem?_eq_getElem hi
 have hmem:=List.getElem_mem hi
 obtain ⟨q,o,rfl,hq0,hq1,hcc⟩:=HX.out i _ hxi
 generalize xs[i]=y at hcc hmem
 have c0:=(ho1.cell (p:=⟨q,o+i * 1+0,none⟩) hq1 (.inr hq0)).trans (hcc 0 _ rfl)
 simp only [Nat.add_zero,Nat.mul_one] at c0
 clear hcc hxi
 go_wp2_with fail
 go_ret
 exact ⟨_,rfl,hmem,hc1,ho1⟩
theorem elInt:ElemOk Try.prog 22 3 (.int .i64 0) 1 8:=⟨Try.underlying22,by kernel_rfl,rfl,by omega⟩
/-- rows of the call's own, one behind the other in memory -/
def RowsO (w:World):Nat->Nat->List Value->List (List Int)->Prop
 | lo,hi,[],[]=>lo<=hi
 | lo,hi,u :: us,xs :: xss=>∃ mid,lo<=mid/\Own lo mid w 3 cI 1 u xs/\RowsO w mid hi us xss
 | _,_,_,_=>False
theorem RowsO.le {w:World}:∀ {us:List Value} {xss:List (List Int)} {lo hi:Nat},RowsO w lo hi us xss->lo<=hi
 | [],[],_,_,h=>h
 | _ :: _,_ :: _,_,_,⟨mid,h1,_,h3⟩=>Nat.le_trans h1 (RowsO.le h3)
 | [],_ :: _,_,_,h=>h.elim
 | _ :: _,[],_,_,h=>h.elim
theorem RowsO.len {w:World}:∀ {us:List Value} {xss:List (List Int)} {lo hi:Nat},RowsO w lo hi us xss->us.length=xss.length
 | [],[],_,_,_=>rfl
 | _ :: _,_ :: _,_,_,⟨_,_,_,h3⟩=>by simp [RowsO.len h3]
 | [],_ :: _,_,_,h=>h.elim
 | _ :: _,[],_,_,h=>h.elim
theorem RowsO.below {w w':World} {B:Nat} (hb:Below B w w'):∀ {us:List Value} {xss:List (List Int)} {lo hi:Nat},RowsO w lo hi us xss->hi<=B->RowsO w' lo hi us xss
 | [],[],_,_,h,_=>h
 | _ :: _,_ :: _,_,_,⟨mid,h1,h2,h3⟩,hB=>⟨mid,h1,h2.below hb (Nat.le_trans (RowsO.le h3) hB),RowsO.below hb h3 hB⟩
 | [],_ :: _,_,_,h,_=>h.elim
 | _ :: _,[],_,_,h,_=>h.elim
theorem RowsO.only {w w':World} {l r:Nat} (hb:Only l r w w'):∀ {us:List Value} {xss:List (List Int)} {lo hi:Nat},RowsO w lo hi us xss->(hi<=l ∨ r<=lo)->RowsO w' lo hi us xss
 | [],[],_,_,h,_=>h
 | _ :: _,_ :: _,lo,hi,⟨mid,h1,h2,h3⟩,ho=>⟨mid,h1,h2.only hb (by have:=RowsO.le h3;omega),RowsO.only hb h3 (by omega)⟩
 | [],_ :: _,_,_,h,_=>h.elim
 | _ :: _,[],_,_,h,_=>h.elim
theorem RowsO.mono {w:World}:∀ {us:List Value} {xss:List (List Int)} {lo hi lo' hi':Nat},RowsO w lo hi us xss->lo'<=lo->hi<=hi'->RowsO w lo' hi' us xss
 | [],[],_,_,_,_,h,h1,h2=>by simp only [RowsO] at h ⊢;omega
 | _ :: _,_ :: _,_,_,_,_,⟨mid,h1,h2,h3⟩,g1,g2=>⟨mid,by omega,h2.mono g1 (Nat.le_refl _),RowsO.mono h3 (Nat.le_refl _) g2⟩
 | [],_ :: _,_,_,_,_,h,_,_=>h.elim
 | _ :: _,[],_,_,_,_,h,_,_=>h.elim
theorem RowsO.at_ {w:World}:∀ {us:List Value} {xss:List (List Int)} {lo hi:Nat},RowsO w lo hi us xss->∀ (i:Nat) (u:Value) (xs:List Int),us[i]?=some u->xss[i]?=some xs->SlI lo hi w cI 1 u xs
 | [],[],_,_,_,_,_,_,h,_=>by simp at h
 | _ :: _,_ :: _,_,_,⟨mid,h1,h2,h3⟩,i,u,xs,hu,hx=>by
   cases i with
   | zero =>
     simp only [List.getElem?_cons_zero,Option.some.injEq] at hu hx
     subst hu hx
     exact (h2.sl cI_len).mono (Nat.le_refl _) (RowsO.le h3)
   | succ i=>exact (RowsO.at_ h3 i u xs (by simpa using hu) (by simpa using hx)).mono h1 (Nat.le_refl _)
 | [],_ :: _,_,_,h,_,_,_,_,_=>h.elim
 | _ :: _,[],_,_,h,_,_,_,_,_=>h.elim
def SSO (lo hi:Nat) (w:World) (v:Value) (xss:List (List Int)):Prop :=
 ∃ us mid,Own lo mid w 22 cV 1 v us/\RowsO w mid hi us xss/\lo<=mid
theorem SSO.view {lo hi:Nat} {w:World} {v:Value} {xss:List (List Int)} (h:SSO lo hi w v xss):SSV lo hi w v xss:=by
 obtain ⟨us,mid,h1,h2,h3⟩:=h
 exact ⟨us,(h1.sl cV_len).mono (Nat.le_refl _) h2.le,h2.len,fun i u xs hu hx=>(h2.at_ i u xs hu hx).mono h3 (Nat.le_refl _)⟩
theorem SSO.below {lo hi:Nat} {w w':World} {v:Value} {xss:List (List Int)} (h:SSO lo hi w v xss) {B:Nat} (hb:Below B w w') (hB:hi<=B):SSO lo hi w' v xss:=by
 obtain ⟨us,mid,h1,h2,h3⟩:=h
 exact ⟨us,mid,h1.below hb (Nat.le_trans h2.le hB),h2.below hb hB,h3⟩
theorem SSO.only {lo hi:Nat} {w w':World} {v:Value} {xss:List (List Int)} (h:SSO lo hi w v xss) {l r:Nat} (hb:Only l r w w') (ho:hi<=l ∨ r<=lo):SSO lo hi w' v xss:=by
 obtain ⟨us,mid,h1,h2,h3⟩:=h
 have:=h2.le
 exact ⟨us,mid,h1.only hb (by omega),h2.only hb (by omega),h3⟩
theorem SSO.mono {lo hi:Nat} {w:World} {v:Value} {xss:List (List Int)} (h:SSO lo hi w v xss) {lo' hi':Nat} (g1:lo'<=lo) (g2:hi<=hi'):SSO lo' hi' w v xss:=by
 obtain ⟨us,mid,h1,h2,h3⟩:=h
 exact ⟨us,mid,h1.mono g1 (Nat.le_refl _),h2.mono (Nat.le_refl _) g2,by omega⟩
def AuO (lo hi:Nat) (w:World) (v:Value) (a:Au):Prop :=
 ∃ ac nx mid,v=.agg #[.int .i64 a.start,ac,nx]/\Own lo mid w 4 cB 1 ac a.accept/\SSO mid hi w nx a.next/\lo<=mid/\mid<=hi
theorem AuO.view {lo hi:Nat} {w:World} {v:Value} {a:Au} (h:AuO lo hi w v a):AuV lo hi w v a:=by
 obtain ⟨ac,nx,mid,rfl,h1,h2,h3,h4⟩:=h
 exact ⟨ac,nx,rfl,(h1.sl cB_len).mono (Nat.le_refl _) h4,h2.view.mono h3 (Nat.le_refl _)⟩
theorem AuO.below {lo hi:Nat} {w w':World} {v:Value} {a:Au} (h:AuO lo hi w v a) {B:Nat} (hb:Below B w w') (hB:hi<=B):AuO lo hi w' v a:=by
 obtain ⟨ac,nx,mid,rfl,h1,h2,h3,h4⟩:=h
 exact ⟨ac,nx,mid,rfl,h1.below hb (by omega),h2.below hb hB,h3,h4⟩
end Go.Proofs.Ythnapjodmndlaaa
namespace Go.Proofs.Ythnapjodmndlaaa
open Go.ChangeShapes Go.WideShapes Go.ChangeAt Go.RowKit
section
variable {w w':World}
theorem kcell (hb:Below w.heap.size w w') {p:Addr} {v:Value} (h:w.cell? p=some v):w'.cell? p=some v:=(hb.cell (World.block_lt_of_cell? w _ h)).trans h
theorem kB4 {p0 p1 p2 p3:Addr} {v0 v1 v2 v3:Value} (hb:Below w.heap.size w w') (h:w.cell? p0=some v0/\w.cell? p1=some v1/\w.cell? p2=some v2/\w.cell? p3=some v3):w'.cell? p0=some v0/\w'.cell? p1=some v1/\w'.cell? p2=some v2/\w'.cell? p3=some v3:=by
 obtain ⟨c0,c1,c2,c3⟩:=h
 exact ⟨kcell hb c0,kcell hb c1,kcell hb c2,kcell hb c3⟩
theorem kB6 {p0 p1 p2 p3 p4 p5:Addr} {v0 v1 v2 v3 v4 v5:Value} (hb:Below w.heap.size w w') (h:w.cell? p0=some v0/\w.cell? p1=some v1/\w.cell? p2=some v2/\w.cell? p3=some v3/\w.cell? p4=some v4/\w.cell? p5=some v5):w'.cell? p0=some v0/\w'.cell? p1=some v1/\w'.cell? p2=some v2/\w'.cell? p3=some v3/\w'.cell? p4=some v4/\w'.cell? p5=some v5:=by
 obtain ⟨c0,c1,c2,c3,c4,c5⟩:=h
 exact ⟨kcell hb c0,kcell hb c1,kcell hb c2,kcell hb c3,kcell hb c4,kcell hb c5⟩
theorem kA6 {p0 p1 p2 p3 p4 p5:Addr} {v0 v1 v2 v3 v4 v5:Value} (o:Obj) (h:w.cell? p0=some v0/\w.cell? p1=some v1/\w.cell? p2=some v2/\w.cell? p3=some v3/\w.cell? p4=some v4/\w.cell? p5=some v5):(w.alloc o).cell? p0=some v0/\(w.alloc o).cell? p1=some v1/\(w.alloc o).cell? p2=some v2/\(w.alloc o).cell? p3=some v3/\(w.alloc o).cell? p4=some v4/\(w.alloc o).cell? p5=some v5:=kB6 ((Below.refl _ _).alloc (Nat.le_refl _) _) h
theorem kG6 {p0 p1 p2 p3 p4 p5:Addr} {v0 v1 v2 v3 v4 v5:Value} {row:Option Nat} (hg:w.grownBy w' row) (n0:some p0.block ≠ row) (n1:some p1.block ≠ row) (n2:some p2.block ≠ row) (n3:some p3.block ≠ row) (n4:some p4.block ≠ row) (n5:some p5.block ≠ row) (h:w.cell? p0=some v0/\w.cell? p1=some v1/\w.cell? p2=some v2/\w.cell? p3=some v3/\w.cell? p4=some v4/\w.cell? p5=some v5):w'.cell? p0=some v0/\w'.cell? p1=some v1/\w'.cell? p2=some v2/\w'.cell? p3=some v3/\w'.cell? p4=some v4/\w'.cell? p5=some v5:=by
 obtain ⟨c0,c1,c2,c3,c4,c5⟩:=h
 exact ⟨hg.cell c0 n0,hg.cell c1 n1,hg.cell c2 n2,hg.cell c3 n3,hg.cell c4 n4,hg.cell c5 n5⟩
theorem kB8 {p0 p1 p2 p3 p4 p5 p6 p7:Addr} {v0 v1 v2 v3 v4 v5 v6 v7:Value} (hb:Below w.heap.size w w') (h:w.cell? p0=some v0/\w.cell? p1=some v1/\w.cell? p2=some v2/\w.cell? p3=some v3/\w.cell? p4=some v4/\w.cell? p5=some v5/\w.cell? p6=some v6/\w.cell? p7=some v7):w'.cell? p0=some v0/\w'.cell? p1=some v1/\w'.cell? p2=some v2/\w'.cell? p3=some v3/\w'.cell? p4=some v4/\w'.cell? p5=some v5/\w'.cell? p6=some v6/\w'.cell? p7=some v7:=by
 obtain ⟨c0,c1,c2,c3,c4,c5,c6,c7⟩:=h
 exact ⟨kcell hb c0,kcell hb c1,kcell hb c2,kcell hb c3,kcell hb c4,kcell hb c5,kcell hb c6,kcell hb c7⟩
end
end Go.Proofs.Ythnapjodmndlaaa
namespace Go.Proofs.Ythnapjodmndlaaa
open Go.ChangeShapes Go.WideShapes Go.ChangeAt Go.RowKit
attribute [local go_sem] ext_cell ext_frozen ext_lt ext_lt1 ext_lt2 ext_lt3 ltn2 ltn3 ltn13 lts1 lts2 lts3
theorem AuO.only {lo hi:Nat} {w w':World} {v:Value} {a:Au} (h:AuO lo hi w v a) {l r:Nat} (hb:Only l r w w') (ho:hi<=l ∨ r<=lo):AuO lo hi w' v a:=by
 obtain ⟨ac,nx,mid,rfl,h1,h2,h3,h4⟩:=h
 exact ⟨ac,nx,mid,rfl,h1.only hb (by omega),h2.only hb (by omega),h3,h4⟩
/-- rows of rows whose blocks all lie from lo to hi -/
def NSO (lo hi:Nat) (w:World) (v:Value) (xss:List (List Int)):Prop :=
 ∃ us,NS lo w 22 3 cI 1 v us xss/\∀ b ∈ blks (v :: us),b < hi
section
variable {lo hi:Nat} {w w':World} {v:Value} {xss:List (List Int)}
theorem NSO.of {us:List Value} (h:NS lo w 22 3 cI 1 v us xss):NSO lo w.heap.size w v xss:=⟨us,h,fun b hb=>(h.lt b hb).2⟩
theorem NSO.view (h:NSO lo hi w v xss):SSV lo hi w v xss:=by
 obtain ⟨us,h,hl⟩:=h
 refine ⟨us,Own.sl ⟨h.own,fun g hg=>hl g (mem_blks.2 ⟨0,v,rfl,hg⟩)⟩ cV_len,h.len,fun i u xs hu hx=>?_⟩
 exact Own.sl ⟨h.rows i u xs hu hx,fun g hg=>hl g (mem_blks.2 ⟨i+1,u,by simpa using hu,hg⟩)⟩ cI_len
theorem NSO.below (h:NSO lo hi w v xss) {B:Nat} (hb:Below B w w') (hB:hi<=B):NSO lo hi w' v xss:=by
 obtain ⟨us,h,hl⟩:=h
 exact ⟨us,h.blocks fun b hm=>hb.block b (by have:=hl b hm;omega),hl⟩
theorem NSO.only (h:NSO lo hi w v xss) {l r:Nat} (hb:Only l r w w') (ho:hi<=l ∨ r<=lo):NSO lo hi w' v xss:=by
 obtain ⟨us,h,hl⟩:=h
 exact ⟨us,h.blocks fun b hm=>hb.block b (h.lt b hm).2 (by have:=hl b hm;have:=(h.lt b hm).1;omega),hl⟩
theorem NSO.mono (h:NSO lo hi w v xss) {lo' hi':Nat} (h1:lo'<=lo) (h2:hi<=hi'):NSO lo' hi' w v xss:=by
 obtain ⟨us,h,hl⟩:=h
 exact ⟨us,h.mono h1,fun b hb=>by have:=hl b hb;omega⟩
end
theorem own_only {lo k n l r:Nat} {e:TypeId} {v:Value} {cs:List Value} {w w':World} (h:w.ownsRow lo e k v n cs) (ho:Only l r w w') (hr:r<=lo):w'.ownsRow lo e k v n cs :=
 ownsRow_block h fun g hg=>ho.block g (h.lt g hg).2 (.inr (Nat.le_trans hr (h.lt g hg).1))
theorem Cur.below {w w':World} {b B:Nat} (h:Cur w b) (hb:Below B w w') (hB:b < B):Cur w' b:=by
 obtain ⟨A,bs,c,i,g,h1,h2,h3⟩:=h
 exact ⟨A,bs,c,i,g,h1.below hb hB,h2.below hb (Nat.le_of_lt hB),h3⟩
theorem Cur.set {w:World} {b:Nat} {p:Addr} (h:Cur w b) (hp:b < p.block) (u:Value):Cur (w.setCell p u) b :=
 h.only ((Only.refl p.block (p.block+1) w).setCell (.inl ⟨Nat.le_refl _,Nat.lt_succ_self _⟩) u) hp
theorem Only.andBelow {l r B:Nat} {w a c:World} (h:Only l r w a) (hb:Below B a c) (hB:w.heap.size<=B):Only l r w c :=
 ⟨hb.os.trans h.os,hb.tape.trans h.tape,hb.output.trans h.output,Nat.le_trans h.size hb.size,fun n h1 h2=>(hb.block n (Nat.lt_of_lt_of_le h1 hB)).trans (h.block n h1 h2)⟩
theorem Blk.put2 {w:World} {g:Nat} {t:TypeId} {c0 c1:Value} (h:Blk w g t #[c0,c1]) (d0 d1:Value):Blk ((w.setCell ⟨g,0,none⟩ d0).setCell ⟨g,1,none⟩ d1) g t #[d0,d1]:=by
 have:=(h.set_ 0 d0).set_ 1 d1
 simpa using this
theorem Only.put2 (w:World) (g:Nat) (d0 d1:Value):Only g (g+1) w ((w.setCell ⟨g,0,none⟩ d0).setCell ⟨g,1,none⟩ d1):=((Only.refl _ _ _).setCell (p:=⟨g,0,none⟩) (.inl ⟨Nat.le_refl _,Nat.lt_succ_self _⟩) d0).setCell (p:=⟨g,1,none⟩) (.inl ⟨Nat.le_refl _,Nat.lt_succ_self _⟩) d1
theorem rowShape {lo k n:Nat} {e:TypeId} {v:Value} {cs:List Value} {w:World} (h:w.ownsRow lo e k v n cs):∃ A n c,v=.slice A n c:=by
 obtain ⟨_,hs⟩:=h
 rcases hs with ⟨rfl,_⟩ | ⟨g,cap,cur,rfl,_⟩
 · exact ⟨_,_,_,rfl⟩
 · exact ⟨_,_,_,rfl⟩
set_option maxHeartbeats 1000000 in
theorem l1New_any (v:Value) (bs:List Int) (w:World) (hv:SlI 0 w.heap.size w cU 1 v bs) :
 Calls Try.prog 32 #[v] w fun e w'=>∃ b,e=.returned (.pointer (some ⟨b,0,none⟩))/\w.heap.size<=b/\Cur w' b/\Below w.heap.size w w':=by
 have HV:=Hd_ hv
 obtain ⟨A,c,rfl,hl,hm,hx⟩:=hv
 unfold maxLen at hm
 have HX:=Hd_ hx
 clear hx
 go_enter Try.func32,Try.ntmps32
 go_wp2
 go_loop [3,4] (fun hh ii=>∃ (i:Nat) (h:Int),i<=bs.length/\hh=.int .i64 h/\ii=.int .i64 i) (fun _ ii=>bs.length - (intOf ii).toNat)
 case atStart=>exact ⟨0,_,Nat.zero_le _,rfl,rfl⟩
 case round =>
  obtain ⟨i,h,hi,rfl,rfl⟩:=hrel
  by_cases hlt:i < bs.length
  · have hxi:bs[i]?=some bs[i]:=List.getElem?_eq_getElem hlt
    obtain ⟨q,o,rfl,-,hq,hcc⟩:=HX.out i _ hxi
    generalize bs[i]=y at hcc
    have c0:=hcc 0 _ rfl
    simp only [Nat.add_zero,Nat.mul_one] at c0
    clear hcc hxi
    by_cases h4:(i:Int) < 4000
    · go_wp2
      go_round
      case rel=>exact ⟨i+1,_,by omega,rfl,by go_num⟩
      case measure=>simp [intOf];omega
    · go_wp2
      go_ret
      refine ⟨_,rfl,Nat.le_refl _,⟨_,bs,c,0,h,Blk.new w _ _ _ rfl,?_,by omega,by omega⟩,(Below.refl _ _).alloc (Nat.le_refl _) _⟩
      exact HV.out.below ((Below.refl _ _).alloc (Nat.le_refl _) _) (Nat.le_refl _)
  · go_wp2
    go_ret
    refine ⟨_,rfl,Nat.le_refl _,⟨_,bs,c,0,h,Blk.new w _ _ _ rfl,?_,by omega,by omega⟩,(Below.refl _ _).alloc (Nat.le_refl _) _⟩
    exact HV.out.below ((Below.refl _ _).alloc (Nat.le_refl _) _) (Nat.le_refl _)
theorem elTok:ElemOk Try.prog 74 86 (.agg #[.int .i64 0,.int .i64 0,.int .i64 0,.int .i64 0]) 4 32:=⟨Try.underlying74,by kernel_rfl,rfl,by omega⟩
/-- an expression in memory of the call's own -/
def TkO (lo hi:Nat) (w:World) (v:Value) (l:List Tok):Prop:=∃ ss,v=.agg #[ss]/\Own lo hi w 86 cEd 4 ss l
theorem TkO.below {lo hi:Nat} {w w':World} {v:Value} {l:List Tok} (h:TkO lo hi w v l) {B:Nat} (hb:Below B w w') (hB:hi<=B):TkO lo hi w' v l:=by
 obtain ⟨ss,rfl,h⟩:=h
 exact ⟨ss,rfl,h.below hb hB⟩
theorem TkO.only {lo hi:Nat} {w w':World} {v:Value} {l:List Tok} (h:TkO lo hi w v l) {a b:Nat} (hb:Only a b w w') (ho:hi<=a ∨ b<=lo):TkO lo hi w' v l:=by
 obtain ⟨ss,rfl,h⟩:=h
 exact ⟨ss,rfl,h.only hb ho⟩
theorem TkO.mono {lo hi lo' hi':Nat} {w:World} {v:Value} {l:List Tok} (h:TkO lo hi w v l) (h1:lo'<=lo) (h2:hi<=hi'):TkO lo' hi' w v l:=by
 obtain ⟨ss,rfl,h⟩:=h
 exact ⟨ss,rfl,h.mono h1 h2⟩
/-- an expression that reads as a list of tokens -/
def TkV (lo hi:Nat) (w:World) (v:Value) (l:List Tok):Prop:=∃ ss,v=.agg #[ss]/\SlI lo hi w cEd 4 ss l
theorem TkO.view {lo hi:Nat} {w:World} {v:Value} {l:List Tok} (h:TkO lo hi w v l):TkV lo hi w v l:=by
 obtain ⟨ss,rfl,h⟩:=h
 exact ⟨ss,rfl,h.sl cEd_len⟩
theorem TkV.below {lo hi:Nat} {w w':World} {v:Value} {l:List Tok} (h:TkV lo hi w v l) {B:Nat} (hb:Below B w w') (hB:hi<=B):TkV lo hi w' v l:=by
 obtain ⟨ss,rfl,h⟩:=h
 exact ⟨ss,rfl,h.below hb hB⟩
theorem TkV.only {lo hi:Nat} {w w':World} {v:Value} {l:List Tok} (h:TkV lo hi w v l) {a b:Nat} (hb:Only a b w w') (hh:hi<=w.heap.size) (ho:hi<=a ∨ b<=lo):TkV lo hi w' v l:=by
 obtain ⟨ss,rfl,h⟩:=h
 exact ⟨ss,rfl,h.only hb hh ho⟩
theorem TkV.mono {lo hi lo' hi':Nat} {w:World} {v:Value} {l:List Tok} (h:TkV lo hi w v l) (h1:lo'<=lo) (h2:hi<=hi'):TkV lo' hi' w v l:=by
 obtain ⟨ss,rfl,h⟩:=h
 exact ⟨ss,rfl,h.mono h1 h2⟩
theorem TkV.keep {w w':World} {v:Value} {l:List Tok} (h:TkV 0 w.heap.size w v l) (hb:Below w.heap.size w w'):TkV 0 w'.heap.size w' v l:=(h.below hb (Nat.le_refl _)).mono (Nat.le_refl _) hb.size
theorem TkV.nil (lo hi:Nat) (w:World):TkV lo hi w (.agg #[.slice none 0 0]) []:=⟨_,rfl,SlI.nil _ _ _ _ _⟩
/-- what lies in blocks from B + 1 on, behind a store to block B -/
theorem TkO.done {w:World} {B:Nat} {v:Value} {l:List Tok} (h:TkO (B+1) w.heap.size w v l) {w0:World} (hb:Below w0.heap.size w0 w) (hB:w0.heap.size=B) (u:Value) :
 TkO w0.heap.size (w.setCell ⟨B,0,none⟩ u).heap.size (w.setCell ⟨B,0,none⟩ u) v l/\Below w0.heap.size w0 (w.setCell ⟨B,0,none⟩ u):=by
 have ho:=(Only.refl B (B+1) w).setCell (p:=⟨B,0,none⟩) (.inl ⟨Nat.le_refl _,Nat.lt_succ_self _⟩) u
 exact ⟨(h.only ho (.inr (Nat.le_refl _))).mono (by omega) ho.size,hb.setCell (p:=⟨B,0,none⟩) (by simp only;omega) u⟩
set_option maxHeartbeats 1000000 in
theorem l8Copy_any (ss:Value) (l:List Tok) (w:World) (hv:SlE w cEd 4 ss l) (hn:l.length<=1048576) :
 Calls Try.prog 70 #[ss] w fun e w'=>∃ v',e=.returned v'/\TkO w.heap.size w'.heap.size w' v' l/\Below w.heap.size w w':=by
 have HV:=Hd_ hv
 obtain ⟨A,n,c,rfl⟩:=hv.shape
 clear hv
 have hb0:=(Below.refl w.heap.size w).alloc (Nat.le_refl _) (.cells #[.slice none 0 0] 76)
 have hbr:=Blk.new w 76 #[.slice none 0 0] _ rfl
 obtain ⟨W0,hW0⟩:∃ W0,W0=w.alloc (.cells #[.slice none 0 0] 76):=⟨_,rfl⟩
 have hs0:W0.heap.size=w.heap.size+1:=by rw [hW0];simp
 rw [<- hW0] at hb0 hbr
 have hal:=(Below.refl W0.heap.size W0).alloc (Nat.le_refl _) (.cells #[] 86)
 have hrl:=World.ownsRow_lit (base:=w.heap.size+1) (e:=86) (size:=4) W0 #[] 0 (by omega) (by decide) rfl
 have HV1:=Hd_ (HV.out.keep (below_trans hb0 hal))
 have HB1:=Hd_ (below_trans hb0 hal)
 have HR1:=Hd_ (hbr.keep hal)
 rw [hs0] at hrl
 have HL:=Hd_ hrl
 have HS0:=Hd_ hs0
 have HW0:=Hd_ hW0
 clear hb0 hbr hal hrl hs0 hW0
 go_enter Try.func70,Try.ntmps70
 go_wp2_with (at_builtin;(refine wpList_appendL cEd elTok cEd_len cEd_one rfl _ _ rfl (w.heap.size+1) _ [] l (by rfl) (by rw [<- HW0.out];exact HL.out) 0 _ _ (by rfl) (by rw [<- HW0.out];exact HV1.out) (by simp;omega) (by omega) (by simp) ?_);intro v5 w5 hrow5 hgr5 hat5
              rw [<- HW0.out] at hgr5
              have hob:=own_below HL.out (by have:=HS0.out;simp;omega) hgr5
              have HR5:=Hd_ (HR1.out.below hob (by omega))
              have HB5:=Hd_ (HB1.out.trans (hob.mono (by omega)))
              have HO5:=Hd_ (Own.of_row (xs:=l) hrow5 rfl rfl)
              obtain ⟨A5,n5,c5,rfl⟩:=HO5.out.shape
              have z0:w5.cell? ⟨w.heap.size,0,none⟩=some (.slice none 0 0):=HR5.out.cell 0
              have v0:=HR5.out.frozen 0
              have hlr:=HR5.out.lt
              clear hrow5 hgr5 hat5 hob)
 have HD:=TkO.done (B:=w.heap.size) (v:=.agg #[.slice A5 n5 c5]) ⟨_,rfl,HO5.out⟩ HB5.out rfl (.slice A5 n5 c5)
 refine bodyPost_ret (v:=.agg #[.slice A5 n5 c5]) (by simp [results,Try.results70,go_sem,z0,v0]) rfl ⟨_,rfl,HD.1,HD.2⟩
set_option maxHeartbeats 1000000 in
theorem l8Leaf_any (k:Int) (w:World) :
 Calls Try.prog 62 #[.int .i64 k] w fun e w'=>∃ v',e=.returned v'/\TkO w.heap.size w'.heap.size w' v' [(k,0,0,0)]/\Below w.heap.size w w':=by
 have hbr:=Blk.new w 76 #[.slice none 0 0] _ rfl
 have hb0:=(Below.refl w.heap.size w).alloc (Nat.le_refl _) (.cells #[.slice none 0 0] 76)
 have hs0:(w.alloc (.cells #[.slice none 0 0] 76)).heap.size=w.heap.size+1:=by simp
 go_enter Try.func62,Try.ntmps62
 go_upto_region 1 with fail
 generalize w.alloc (.cells #[.slice none 0 0] 76)=W0 at *
 have hal:=(Below.refl W0.heap.size W0).alloc (Nat.le_refl _) (.cells #[.int .i64 k,.int .i64 0,.int .i64 0,.int .i64 0] 86)
 have hrl:=World.ownsRow_lit (base:=w.heap.size+1) (e:=86) (size:=4) W0 #[.int .i64 k,.int .i64 0,.int .i64 0,.int .i64 0] 1 (by omega) (by decide) rfl
 have HB5:=Hd_ (below_trans hb0 hal)
 have HR5:=Hd_ (hbr.keep hal)
 have HO5:=Hd_ (Own.of_row (xs:=[((k,0,0,0):Tok)]) (E:=cEd) hrl rfl rfl)
 have z0:W0.cell? ⟨w.heap.size,0,none⟩=some (.slice none 0 0):=hbr.cell 0
 have v0:=hbr.frozen 0
 have hlr:=hbr.lt
 clear hal hrl hb0 hbr hs0
 go_wp2_with fail
 have HD:=TkO.done (B:=w.heap.size) (v:=.agg #[.slice (some ⟨W0.heap.size,0,none⟩) 1 1]) ⟨_,rfl,HO5.out⟩ HB5.out rfl (.slice (some ⟨W0.heap.size,0,none⟩) 1 1)
 rw [World.setCell_alloc_past _ _ _ _ hlr] at HD
 refine bodyPost_ret (v:=.agg #[.slice (some ⟨W0.heap.size,0,none⟩) 1 1]) (by simp [results,Try.results62,go_sem,z0,v0,hlr]) rfl ⟨_,rfl,HD.1,HD.2⟩
set_option maxHeartbeats 1000000 in
theorem letterExpr_any (k:Int) (w:World) :
 Calls Try.prog 63 #[.int .i64 k] w fun e w'=>∃ v',e=.returned v'/\TkO w.heap.size w'.heap.size w' v' [(3,k,0,0)]/\Below w.heap.size w w':=by
 have hbr:=Blk.new w 76 #[.slice none 0 0] _ rfl
 have hb0:=(Below.refl w.heap.size w).alloc (Nat.le_refl _) (.cells #[.slice none 0 0] 76)
 have hs0:(w.alloc (.cells #[.slice none 0 0] 76)).heap.size=w.heap.size+1:=by simp
 go_enter Try.func63,Try.ntmps63
 go_upto_region 1 with fail
 generalize w.alloc (.cells #[.slice none 0 0] 76)=W0 at *
 have hal:=(Below.refl W0.heap.size W0).alloc (Nat.le_refl _) (.cells #[.int .i64 3,.int .i64 k,.int .i64 0,.int .i64 0] 86)
 have hrl:=World.ownsRow_lit (base:=w.heap.size+1) (e:=86) (size:=4) W0 #[.int .i64 3,.int .i64 k,.int .i64 0,.int .i64 0] 1 (by omega) (by decide) rfl
 have HB5:=Hd_ (below_trans hb0 hal)
 have HR5:=Hd_ (hbr.keep hal)
 have HO5:=Hd_ (Own.of_row (xs:=[((3,k,0,0):Tok)]) (E:=cEd) hrl rfl rfl)
 have z0:W0.cell? ⟨w.heap.size,0,none⟩=some (.slice none 0 0):=hbr.cell 0
 have v0:=hbr.frozen 0
 have hlr:=hbr.lt
 clear hal hrl hb0 hbr hs0
 go_wp2_with fail
 have HD:=TkO.done (B:=w.heap.size) (v:=.agg #[.slice (some ⟨W0.heap.size,0,none⟩) 1 1]) ⟨_,rfl,HO5.out⟩ HB5.out rfl (.slice (some ⟨W0.heap.size,0,none⟩) 1 1)
 rw [World.setCell_alloc_past _ _ _ _ hlr] at HD
 refine bodyPost_ret (v:=.agg #[.slice (some ⟨W0.heap.size,0,none⟩) 1 1]) (by simp [results,Try.results63,go_sem,z0,v0,hlr]) rfl ⟨_,rfl,HD.1,HD.2⟩
/-- a joined expression under way -/
structure JR (w0 w:World) (q:Nat) (ss:Value) (L:List Tok) (tk:Array Value):Prop where
 row:w.ownsRow (w0.heap.size+4) 86 4 ss L.length (L.flatMap cEd)
 far:ss.ownBlock ≠ some q
 blk:Blk w q 76 #[ss]
 tok:Blk w (w0.heap.size+1+1) 86 tk
 res:Blk w (w0.heap.size+1+1+1) 76 #[.slice none 0 0]
 below:Below w0.heap.size w0 w
 le:w0.heap.size+4<=q
theorem JR.push {w0 w w':World} {q:Nat} {ss ss':Value} {L L':List Tok} {tk:Array Value} (h:JR w0 w q ss L tk) (hr:w'.ownsRow (w0.heap.size+4) 86 4 ss' L'.length (L'.flatMap cEd)) (hg:w.grownBy w' ss.ownBlock)
 (hat:ss'.ownBlock=ss.ownBlock ∨ ∀ k,ss'.ownBlock=some k->w.heap.size<=k):Blk w' q 76 #[ss]/\JR w0 (w'.setCell ⟨q,0,none⟩ ss') q ss' L' tk:=by
 have hd:=h.le
 have hq:=h.blk.lt
 have hb:=own_below h.row (by omega) hg
 have hfar:ss'.ownBlock ≠ some q:=by
  rcases hat with h1 | h1
  · rw [h1];exact h.far
  · intro e;have:=h1 q e;omega
 have hbq:Blk w' q 76 #[ss]:=(hg.block q hq (fun e=>h.far e.symm)).trans h.blk
 refine ⟨hbq,ownsRow_block hr (fun g hg'=>Below.heap_setCell w' ⟨q,0,none⟩ _ g (fun e=>hfar (by rw [hg',e]))),hfar,hbq.set_ 0 _,(h.tok.below hb (by omega)).far (by simp only;omega) _,(h.res.below hb (by omega)).far (by simp only;omega) _,(h.below.trans (hb.mono (by omega))).setCell (p:=⟨q,0,none⟩) (by simp only;omega) _,hd⟩
theorem JR.below_ {w0 w w':World} {q:Nat} {ss:Value} {L:List Tok} {tk:Array Value} (h:JR w0 w q ss L tk) (hb:Below w.heap.size w w'):JR w0 w' q ss L tk :=
 ⟨ownsRow_below h.row hb (Nat.le_refl _),h.far,h.blk.keep hb,h.tok.keep hb,h.res.keep hb,h.below.trans (hb.mono h.below.size),h.le⟩
theorem JR.done {w0 w:World} {q:Nat} {ss:Value} {L:List Tok} {tk:Array Value} (h:JR w0 w q ss L tk) :
 TkO w0.heap.size (w.setCell ⟨w0.heap.size+1+1+1,0,none⟩ ss).heap.size (w.setCell ⟨w0.heap.size+1+1+1,0,none⟩ ss) (.agg #[ss]) L/\Below w0.heap.size w0 (w.setCell ⟨w0.heap.size+1+1+1,0,none⟩ ss):=by
 have ho:=(Only.refl (w0.heap.size+1+1+1) (w0.heap.size+4) w).setCell (p:=⟨w0.heap.size+1+1+1,0,none⟩) (.inl ⟨Nat.le_refl _,Nat.lt_succ_self _⟩) ss
 exact ⟨⟨ss,rfl,((Own.of_row (xs:=L) h.row rfl rfl).only ho (.inr (Nat.le_refl _))).mono (by omega) ho.size⟩,h.below.setCell (p:=⟨w0.heap.size+1+1+1,0,none⟩) (by simp only;omega) _⟩
set_option maxHeartbeats 4000000 in
theorem l8Join_any (va vb:Value) (a b:List Tok) (t:Tok) (w:World) (ha:TkV 0 w.heap.size w va a) (hb:TkV 0 w.heap.size w vb b) (hna:a.length<=100000) (hnb:b.length<=100000) :
 Calls Try.prog 64 #[va,vb,.agg #[.int .i64 t.1,.int .i64 t.2.1,.int .i64 t.2.2.1,.int .i64 t.2.2.2]] w fun e w'=>∃ v',e=.returned v'/\TkO w.heap.size w'.heap.size w' v' (a ++ b ++ [t])/\Below w.heap.size w w':=by
 obtain ⟨t0,t1,t2,t3⟩:=t
 obtain ⟨sa,rfl,hsa⟩:=ha
 obtain ⟨sb,rfl,hsb⟩:=hb
 obtain ⟨A1,n1,c1,rfl⟩:=hsa.shape
 obtain ⟨A2,n2,c2,rfl⟩:=hsb.shape
 have HSA:=Hd_ (show SlE w cEd 4 _ a from hsa)
 have HSB:=Hd_ (show SlE w cEd 4 _ b from hsb)
 simp only
 obtain ⟨L,hL⟩:∃ L,L=a ++ b:=⟨_,rfl⟩
 rw [<- hL]
 have HL:=Hd_ hL
 clear hL
 have hbl:Below w.heap.size w ((((w.alloc (.cells #[.slice A1 n1 c1] 76)).alloc (.cells #[.slice A2 n2 c2] 76)).alloc (.cells #[.int .i64 t0,.int .i64 t1,.int .i64 t2,.int .i64 t3] 86)).alloc (.cells #[.slice none 0 0] 76)):=((((Below.refl _ _).alloc (Nat.le_refl _) _).alloc (by simp) _).alloc (by simp;omega) _).alloc (by simp;omega) _
 have b2:=((Blk.new (w.alloc (.cells #[.slice A1 n1 c1] 76)) 76 #[.slice A2 n2 c2] (w.heap.size+1) (by simp)).alloc (.cells #[.int .i64 t0,.int .i64 t1,.int .i64 t2,.int .i64 t3] 86)).alloc (.cells #[.slice none 0 0] 76)
 have b3:=(Blk.new ((w.alloc (.cells #[.slice A1 n1 c1] 76)).alloc (.cells #[.slice A2 n2 c2] 76)) 86 #[.int .i64 t0,.int .i64 t1,.int .i64 t2,.int .i64 t3] (w.heap.size+1+1) (by simp)).alloc (.cells #[.slice none 0 0] 76)
 have b4:=Blk.new (((w.alloc (.cells #[.slice A1 n1 c1] 76)).alloc (.cells #[.slice A2 n2 c2] 76)).alloc (.cells #[.int .i64 t0,.int .i64 t1,.int .i64 t2,.int .i64 t3] 86)) 76 #[.slice none 0 0] (w.heap.size+1+1+1) (by simp)
 have hs0:((((w.alloc (.cells #[.slice A1 n1 c1] 76)).alloc (.cells #[.slice A2 n2 c2] 76)).alloc (.cells #[.int .i64 t0,.int .i64 t1,.int .i64 t2,.int .i64 t3] 86)).alloc (.cells #[.slice none 0 0] 76)).heap.size=w.heap.size+4:=by simp
 clear hsa hsb
 go_enter Try.func64,Try.ntmps64
 go_wp2_with fail
 generalize ((((w.alloc (.cells #[.slice A1 n1 c1] 76)).alloc (.cells #[.slice A2 n2 c2] 76)).alloc (.cells #[.int .i64 t0,.int .i64 t1,.int .i64 t2,.int .i64 t3] 86)).alloc (.cells #[.slice none 0 0] 76))=W0 at *
 refine (l8Copy_any _ a _ (HSA.out.keep hbl) (by omega)).mono ?_
 rintro e w1 ⟨v1,rfl,⟨s1,rfl,ho1⟩,hb1⟩
 obtain ⟨A3,n3,c3,rfl⟩:=ho1.shape
 rw [hs0] at ho1
 obtain ⟨q,hq⟩:∃ q,q=w1.heap.size:=⟨_,rfl⟩
 have hsz:=hb1.size
 rw [hs0] at hsz
 have hal:=(Below.refl w1.heap.size w1).alloc (Nat.le_refl _) (.cells #[.slice A3 n3 c3] 76)
 have hbA:=below_trans hb1 hal
 have b2':=b2.keep hbA
 have HSB1:=Hd_ (HSB.out.keep (below_trans hbl hbA))
 have HJ:=Hd_ (show JR w (w1.alloc (.cells #[.slice A3 n3 c3] 76)) q (.slice A3 n3 c3) a _ from
  ⟨ownsRow_below ho1.1 hal (Nat.le_refl _),(fun e=>by have:=ho1.2 _ e;omega),Blk.new w1 76 #[.slice A3 n3 c3] q hq,b3.keep hbA,b4.keep hbA,below_trans hbl hbA,by omega⟩)
 clear b2 b3 b4 hal hb1 hbA hbl hs0 ho1
 go_upto_region 2 with fail
 rw [<- hq]
 generalize w1.alloc (.cells #[.slice A3 n3 c3] 76)=W1 at *
 clear hq
 have y0:W1.cell? ⟨q,0,none⟩=some (.slice A3 n3 c3):=HJ.out.blk.cell 0
 have x0:W1.cell? ⟨w.heap.size+1,0,none⟩=some (.slice A2 n2 c2):=b2'.cell 0
 clear b2'
 go_upto_region 3 with (at_builtin;(refine wpList_appendL cEd elTok cEd_len cEd_one rfl _ _ rfl (w.heap.size+4) _ a b (by rfl) HJ.out.row 0 _ _ (by rfl) HSB1.out (by omega) (by omega) (by have h1:=HJ.out.le;have h2:=HJ.out.blk.lt;omega) ?_);intro v5 w5 hrow5 hgr5 hat5;obtain ⟨A5,n5,c5,rfl⟩:=rowShape hrow5;have HP:=Hd_ (HJ.out.push hrow5 hgr5 (hat5.imp_right (fun e k hk=>by rw [e] at hk;injection hk with hk;omega)));have z0:w5.cell? ⟨q,0,none⟩=some (.slice A3 n3 c3):=HP.out.1.cell 0;have f0:=HP.out.1.frozen 0;have lq:=HP.out.1.lt;clear hrow5 hgr5 hat5)
 have HJ2:=Hd_ HP.out.2
 rw [<- HL.out] at HJ2
 generalize w5.setCell ⟨q,0,none⟩ (.slice A5 n5 c5)=W2 at *
 clear HP z0 f0 lq y0 x0 HJ HSB1 HSB HSA
 have y0:W2.cell? ⟨q,0,none⟩=some (.slice A5 n5 c5):=HJ2.out.blk.cell 0
 have x0:W2.cell? ⟨w.heap.size+1+1,0,none⟩=some (.int .i64 t0):=HJ2.out.tok.cell 0
 have x1:W2.cell? ⟨w.heap.size+1+1,1,none⟩=some (.int .i64 t1):=HJ2.out.tok.cell 1
 have x2:W2.cell? ⟨w.heap.size+1+1,2,none⟩=some (.int .i64 t2):=HJ2.out.tok.cell 2
 have x3:W2.cell? ⟨w.heap.size+1+1,3,none⟩=some (.int .i64 t3):=HJ2.out.tok.cell 3
 have hll:=HJ2.out.le
 have hlq:=HJ2.out.blk.lt
 have hab:L.length<=200000:=by rw [HL.out,List.length_append];omega
 go_upto_region 4 with (at_builtin;(refine wpList_append2 cEd elTok rfl _ _ (by rfl) (w.heap.size+4) _ L (t0,t1,t2,t3) 1 _ (by rfl) (HJ2.out.row.alloc _) (by rfl) (heap_alloc_new _ _) rfl (cEd_one _) (by omega) (by omega) (by simp;omega) ?_);intro g2 cp2 w9 hown3 hgr3 hat3 hlt3;have HP:=Hd_ ((HJ2.out.below_ ((Below.refl _ _).alloc (Nat.le_refl _) (.cells #[.int .i64 t0,.int .i64 t1,.int .i64 t2,.int .i64 t3] 86))).push hown3 hgr3 (hat3.imp (fun e=>e.symm) (fun e k hk=>by cases hk;exact e)));have z0:w9.cell? ⟨q,0,none⟩=some (.slice A5 n5 c5):=HP.out.1.cell 0;have f0:=HP.out.1.frozen 0;have lq:=HP.out.1.lt;clear hown3 hgr3 hat3)
 have HJ3:=Hd_ HP.out.2
 generalize w9.setCell ⟨q,0,none⟩ (.slice (some ⟨g2,0,none⟩) (L.length+1) cp2)=W3 at *
 clear HP z0 f0 lq y0 x0 x1 x2 x3 HJ2 hlq
 have y0:W3.cell? ⟨q,0,none⟩=some (.slice (some ⟨g2,0,none⟩) (L.length+1) cp2):=HJ3.out.blk.cell 0
 have z0:W3.cell? ⟨w.heap.size+1+1+1,0,none⟩=some (.slice none 0 0):=HJ3.out.res.cell 0
 have v0:=HJ3.out.res.frozen 0
 have hlr:=HJ3.out.res.lt
 go_wp2_with fail
 have HD:=HJ3.out.done
 refine bodyPost_ret (v:=.agg #[.slice (some ⟨g2,0,none⟩) (L.length+1) cp2]) (by simp [results,Try.results64,go_sem,z0,v0,hlr]) rfl ⟨_,rfl,HD.1,HD.2⟩
theorem SlI.headT {α:Type} {lo hi:Nat} {w:World} {E:α->List Value} {k n c m:Nat} {A:Option Addr} {xs ys:List α} (h:SlI lo hi w E k (.slice A n c) (xs ++ ys)) (hm:xs.length=m):SlI lo hi w E k (.slice A m c) xs:=by
 obtain ⟨A',c',hv,hl,hc,hx⟩:=h
 injection hv with h1 h2 h3
 subst h1 h3 hm
 rw [List.length_append] at hl
 refine ⟨_,c,rfl,by omega,hc,fun i x hi=>hx i x ?_⟩
 rw [List.getElem?_append_left (List.getElem?_eq_some_iff.1 hi).1]
 exact hi
theorem SlI.tailT {α:Type} {lo hi:Nat} {w:World} {E:α->List Value} {k n c m j d q o:Nat} {xs ys:List α} (h:SlI lo hi w E k (.slice (some ⟨q,o,none⟩) n c) (xs ++ ys)) (hm:xs.length=m) (hj:ys.length=j) (hd:d=c - m):SlI lo hi w E k (.slice (some ⟨q,o+m * k,none⟩) j d) ys:=by
 obtain ⟨A',c',hv,hl,hc,hx⟩:=h
 injection hv with h1 h2 h3
 subst h1 h3 hm hj hd
 rw [List.length_append] at hl
 refine ⟨_,_,rfl,by omega,by omega,fun i x hi=>?_⟩
 obtain ⟨b,o',e,g1,g2,g3⟩:=hx (xs.length+i) x (by rw [List.getElem?_append_right (by omega),Nat.add_sub_cancel_left];exact hi)
 injection e with e
 injection e with e1 e2
 subst e1 e2
 refine ⟨q,o+xs.length * k,rfl,g1,g2,fun t u hu=>?_⟩
 have:=g3 t u hu
 rw [Nat.add_mul,<- Nat.add_assoc] at this
 exact this
theorem ar_leaf {t:Tok} (h:ar t=some 0):t.1=1 ∨ t.1=2 ∨ t.1=3:=by
 unfold ar at h
 split at h
 · rename_i hk;exact hk.elim .inl (fun e=>.inr (.inl e))
 · split at h
   · rename_i hk;exact .inr (.inr hk)
   · split at h
     · split at h <;> cases h
     · split at h
       · split at h <;> cases h
       · split at h
         · split at h <;> cases h
         · cases h
theorem ar_un {t:Tok} (h:ar t=some 1):t=(6,0,0,0) ∨ (t.1=7/\t.2.1=0/\1<=t.2.2.2/\t.2.2.2<=3/\0<=t.2.2.1/\t.2.2.1<=t.2.2.2):=by
 obtain ⟨k,l,lo,hi⟩:=t
 unfold ar at h
 simp only at h
 split at h
 · split at h <;> cases h
 · split at h
   · split at h <;> cases h
   · split at h
     · split at h <;> cases h
     · split at h
       · rename_i hk
         split at h
         · rename_i hp
           simp only [tokPlain,Bool.and_eq_true,beq_iff_eq] at hp
           obtain ⟨rfl,rfl,rfl⟩:=hp
           exact .inl (by rw [hk])
         · cases h
       · split at h
         · rename_i hk
           split at h
           · rename_i hp;exact .inr ⟨hk,hp⟩
           · cases h
         · cases h
set_option maxHeartbeats 8000000 in
set_option maxRecDepth 100000 in
theorem l10Size_any:∀ (r:Tr) (ss:Value) (w:World),r.ok->SlE w cEd 4 ss (post r)->(post r).length<=1048576 ->
 Calls Try.prog 56 #[ss] w fun e w'=>e=.returned (.int .i64 (sizeT r:Int))/\Below w.heap.size w w'
 | .leaf t,ss,w,hr,hsl,hlen=>by
   obtain ⟨t0,t1,t2,t3⟩:=t
   have hk:=ar_leaf hr
   simp only at hk
   rw [post] at hsl
   obtain ⟨A,c,rfl,hl,hm,hx⟩:=hsl
   unfold maxLen at hm
   obtain ⟨q,o,rfl,-,hq,hcc⟩:=hx 0 (t0,t1,t2,t3) rfl
   have e0:=hcc 0 _ rfl
   have e1:=hcc 1 _ rfl
   have e2:=hcc 2 _ rfl
   have e3:=hcc 3 _ rfl
   simp only [Nat.add_zero,Nat.zero_mul,Nat.add_zero] at e0 e1 e2 e3
   rw [show (sizeT (.leaf (t0,t1,t2,t3)):Int)=1 by simp [sizeT]]
   clear hx hcc hlen hr
   have hb0:=(Below.refl w.heap.size w).alloc (Nat.le_refl _) (.cells #[.int .i64 t0,.int .i64 t1,.int .i64 t2,.int .i64 t3] 86)
   have HB:=Hd_ hb0
   clear hb0
   rcases hk with rfl | rfl | rfl
   all_goals
    go_enter Try.func56,Try.ntmps56
    go_wp2_with fail
    go_ret
    exact ⟨rfl,HB.out⟩
 | .un t a,ss,w,hr,hsl,hlen=>by
   have ht:=ar_un hr.1
   obtain ⟨m,hm0⟩:∃ m,m=(post a).length:=⟨_,rfl⟩
   rw [post] at hsl hlen
   have hlq:(post a ++ [t]).length=m+1:=by rw [List.length_append,hm0];rfl
   rw [hlq] at hlen
   have h0:=hsl
   obtain ⟨A,c,rfl,hl,hm,hx⟩:=hsl
   rw [hlq] at hl h0 ⊢
   unfold maxLen at hm
   have hxi:(post a ++ [t])[m]?=some t:=by rw [List.getElem?_append_right (by omega)];simp [hm0]
   obtain ⟨q,o,rfl,-,hq,hcc⟩:=hx _ t hxi
   obtain ⟨t0,t1,t2,t3⟩:=t
   have e0:=hcc 0 _ rfl
   have e1:=hcc 1 _ rfl
   have e2:=hcc 2 _ rfl
   have e3:=hcc 3 _ rfl
   simp only [Nat.add_zero] at e0
   have hb0:=(Below.refl w.heap.size w).alloc (Nat.le_refl _) (.cells #[.int .i64 t0,.int .i64 t1,.int .i64 t2,.int .i64 t3] 86)
   have bk:=Blk.new w 86 #[.int .i64 t0,.int .i64 t1,.int .i64 t2,.int .i64 t3] _ rfl
   have h2:SlE w cEd 4 (.slice (some ⟨q,o,none⟩) m c) (post a):=SlI.headT h0 hm0.symm
   have HSA:=Hd_ (fun (W:World) (hW:Below w.heap.size w W)=>l10Size_any a _ W hr.2 (h2.keep hW) (by omega))
   have hsa:=sizeT_le a
   obtain ⟨R,hR⟩:∃ R:Nat,R=sizeT (.un (t0,t1,t2,t3) a):=⟨_,rfl⟩
   rw [<- hR]
   rw [sizeT] at hR
   generalize sizeT a=sa at *
   have HB:=Hd_ hb0
   clear hx hcc hxi h0 h2 hr hm0 hlq
   rcases ht with ht | ⟨ht0,ht1,ht2,ht3,ht4,ht5⟩
   · injection ht with ht0 ht1
     injection ht1 with ht1 ht2
     injection ht2 with ht2 ht3
     subst ht0 ht1 ht2 ht3
     have HR:=Hd_ (show R=min 100000 (sa+1) by simpa using hR)
     clear hR
     go_enter Try.func56,Try.ntmps56
     go_wp2_with fail
     refine (HSA.out _ HB.out).mono ?_
     rintro e w1 ⟨rfl,hb1⟩
     have HB1:=Hd_ (below_trans HB.out hb1)
     clear hb1 e0 e1 e2 e3 bk HSA HB hm hl
     obtain ⟨S,hS⟩:∃ S:Int,S=(sa:Int):=⟨_,rfl⟩
     rw [<- hS]
     have HS:=Hd_ hS
     have hs1:1<=S:=by omega
     have hs2:S<=100000:=by omega
     clear hS hsa
     by_cases hlt:S+1 < 100000
     · have hf:R=sa+1:=by rw [HR.out];have:=HS.out;omega
       have HF:=Hd_ hf
       clear hf HR
       go_wp2_with fail
       go_ret
       exact ⟨ret_int (by rw [HF.out,HS.out];rfl),HB1.out⟩
     · have hf:R=100000:=by rw [HR.out];have:=HS.out;omega
       have HF:=Hd_ hf
       clear hf HR
       go_wp2_with fail
       go_ret
       exact ⟨ret_int (by rw [HF.out];rfl),HB1.out⟩
   · simp only at ht0 ht1 ht2 ht3 ht4 ht5
     subst ht0 ht1
     obtain ⟨h,rfl⟩:=Int.eq_ofNat_of_zero_le (show 0<=t3 by omega)
     have HR:=Hd_ (show R=min 100000 ((sa+3) * h+1) by simpa using hR)
     have hh:h=1 ∨ h=2 ∨ h=3:=by omega
     clear hR ht2 ht3 ht5
     rcases hh with rfl | rfl | rfl
     · skip
       go_enter Try.func56,Try.ntmps56
       go_upto_region 11 with fail
       have hbk:Blk (w.alloc (.cells #[.int .i64 7,.int .i64 0,.int .i64 t2,.int .i64 _] 86)) w.heap.size 86 #[.int .i64 7,.int .i64 0,.int .i64 t2,.int .i64 _]:=bk
       clear e0 e1 e2 e3 bk
       generalize w.alloc (.cells #[.int .i64 7,.int .i64 0,.int .i64 t2,.int .i64 _] 86)=W0 at *
       have HSA2:=Hd_ (fun (u:World)=>HSA.out (ext W0 u) (below_trans HB.out (ext_below W0 u)))
       have hlw:=hbk.lt
       have x3:=hbk.cell 3
       clear hbk HSA
       refine wp_region_ext_lit (by kernel_rfl) (by kernel_rfl) ?_
       repeat (go_big_quiet_step ((with_reducible exact Calls.ext_of (HSA2.out _))))
       refine wpQuiet_nil ?_
       rintro _ ⟨u,rfl⟩
       have hif:(if (sa:Int)+3+1 < 100000 then (sa:Int)+3+1 else 100000)=(R:Int):=by rw [HR.out];split <;> omega
       rw [hif]
       clear hif hsa HR
       go_wp2_with fail
       go_ret
       exact ⟨rfl,below_trans HB.out (ext_below _ _)⟩
     · skip
       go_enter Try.func56,Try.ntmps56
       go_upto_region 11 with fail
       have hbk:Blk (w.alloc (.cells #[.int .i64 7,.int .i64 0,.int .i64 t2,.int .i64 _] 86)) w.heap.size 86 #[.int .i64 7,.int .i64 0,.int .i64 t2,.int .i64 _]:=bk
       clear e0 e1 e2 e3 bk
       generalize w.alloc (.cells #[.int .i64 7,.int .i64 0,.int .i64 t2,.int .i64 _] 86)=W0 at *
       have HSA2:=Hd_ (fun (u:World)=>HSA.out (ext W0 u) (below_trans HB.out (ext_below W0 u)))
       have hlw:=hbk.lt
       have x3:=hbk.cell 3
       clear hbk HSA
       refine wp_region_ext_lit (by kernel_rfl) (by kernel_rfl) ?_
       repeat (go_big_quiet_step ((with_reducible exact Calls.ext_of (HSA2.out _))))
       refine wpQuiet_nil ?_
       rintro _ ⟨u,rfl⟩
       have hif:(if ((sa:Int)+3) * 2+1 < 100000 then ((sa:Int)+3) * 2+1 else 100000)=(R:Int):=by rw [HR.out];split <;> omega
       rw [hif]
       clear hif hsa HR
       go_wp2_with fail
       go_ret
       exact ⟨rfl,below_trans HB.out (ext_below _ _)⟩
     · skip
       go_enter Try.func56,Try.ntmps56
       go_upto_region 11 with fail
       have hbk:Blk (w.alloc (.cells #[.int .i64 7,.int .i64 0,.int .i64 t2,.int .i64 _] 86)) w.heap.size 86 #[.int .i64 7,.int .i64 0,.int .i64 t2,.int .i64 _]:=bk
       clear e0 e1 e2 e3 bk
       generalize w.alloc (.cells #[.int .i64 7,.int .i64 0,.int .i64 t2,.int .i64 _] 86)=W0 at *
       have HSA2:=Hd_ (fun (u:World)=>HSA.out (ext W0 u) (below_trans HB.out (ext_below W0 u)))
       have hlw:=hbk.lt
       have x3:=hbk.cell 3
       clear hbk HSA
       refine wp_region_ext_lit (by kernel_rfl) (by kernel_rfl) ?_
       repeat (go_big_quiet_step ((with_reducible exact Calls.ext_of (HSA2.out _))))
       refine wpQuiet_nil ?_
       rintro _ ⟨u,rfl⟩
       have hif:(if ((sa:Int)+3) * 3+1 < 100000 then ((sa:Int)+3) * 3+1 else 100000)=(R:Int):=by rw [HR.out];split <;> omega
       rw [hif]
       clear hif hsa HR
       go_wp2_with fail
       go_ret
       exact ⟨rfl,below_trans HB.out (ext_below _ _)⟩
 | .bin t a b,ss,w,hr,hsl,hlen=>by
   have ht:=ar_bin hr.1
   obtain ⟨m,hm0⟩:∃ m,m=(post a).length:=⟨_,rfl⟩
   obtain ⟨j,hj0⟩:∃ j,j=(post b).length:=⟨_,rfl⟩
   have hj1:0 < j:=by rw [hj0];exact post_pos b
   rw [post] at hsl hlen
   have hlq:((post a ++ post b) ++ [t]).length=m+j+1:=by rw [List.length_append,List.length_append,hm0,hj0];rfl
   rw [hlq] at hlen
   have h0:=hsl
   obtain ⟨A,c,rfl,hl,hm,hx⟩:=hsl
   rw [hlq] at hl h0 ⊢
   unfold maxLen at hm
   have hxi:((post a ++ post b) ++ [t])[m+j]?=some t:=by rw [List.getElem?_append_right (by simp [hm0,hj0])];simp [hm0,hj0]
   obtain ⟨q,o,rfl,-,hq,hcc⟩:=hx _ t hxi
   obtain ⟨t0,t1,t2,t3⟩:=t
   have e0:=hcc 0 _ rfl
   have e1:=hcc 1 _ rfl
   have e2:=hcc 2 _ rfl
   have e3:=hcc 3 _ rfl
   simp only [Nat.add_zero] at e0
   have hb0:=(Below.refl w.heap.size w).alloc (Nat.le_refl _) (.cells #[.int .i64 t0,.int .i64 t1,.int .i64 t2,.int .i64 t3] 86)
   have bk:=Blk.new w 86 #[.int .i64 t0,.int .i64 t1,.int .i64 t2,.int .i64 t3] _ rfl
   have h1:SlE w cEd 4 (.slice (some ⟨q,o,none⟩) (m+j) c) (post a ++ post b):=SlI.headT h0 (by simp [hm0,hj0])
   have h2:SlE w cEd 4 (.slice (some ⟨q,o,none⟩) m c) (post a):=SlI.headT h1 hm0.symm
   have h3:SlE w cEd 4 (.slice (some ⟨q,o+m * 4,none⟩) j (c - m)) (post b):=SlI.tailT h1 hm0.symm hj0.symm rfl
   have HST:=Hd_ (fun (W:World) (hW:Below w.heap.size w W)=>l8Start_any _ (post a) b W (h1.keep hW) hr.2.2 (by simp [<- hm0,<- hj0];omega))
   have HSA:=Hd_ (fun (W:World) (hW:Below w.heap.size w W)=>l10Size_any a _ W hr.2.1 (h2.keep hW) (by omega))
   have HSB:=Hd_ (fun (W:World) (hW:Below w.heap.size w W)=>l10Size_any b _ W hr.2.2 (h3.keep hW) (by omega))
   have hsa:=sizeT_le a
   have hsb:=sizeT_le b
   obtain ⟨R,hR⟩:∃ R:Nat,R=sizeT (.bin (t0,t1,t2,t3) a b):=⟨_,rfl⟩
   rw [<- hR]
   have HR:=Hd_ (show R=min 100000 (sizeT a+sizeT b+1) by rw [hR,sizeT])
   rw [<- hm0] at HST
   have HMC:=Hd_ (show ¬ c=m by omega)
   generalize sizeT a=sa at *
   generalize sizeT b=sb at *
   have HB:=Hd_ hb0
   clear hx hcc hxi h0 h1 h2 h3 hr hm0 hj0 hlq hR
   rcases ht with ht | ht
   all_goals
    injection ht with ht0 ht1
    injection ht1 with ht1 ht2
    injection ht2 with ht2 ht3
    subst ht0 ht1 ht2 ht3
    go_enter Try.func56,Try.ntmps56
    go_wp2_with fail
    refine (HST.out _ HB.out).mono ?_
    rintro e w1 ⟨rfl,hb1⟩
    have HB1:=Hd_ (below_trans HB.out hb1)
    have hmc:=HMC.out
    clear hb1 e0 e1 e2 e3 bk
    have HSA2:=Hd_ (fun (u:World)=>HSA.out (ext w1 u) (below_trans HB1.out (ext_below w1 u)))
    have HSB2:=Hd_ (fun (u:World)=>HSB.out (ext w1 u) (below_trans HB1.out (ext_below w1 u)))
    clear HSA HSB HST HMC HB
    go_upto_region 7 with fail
    refine wp_region_ext_lit (by kernel_rfl) (by kernel_rfl) ?_
    repeat (go_big_quiet_step ((first | with_reducible exact Calls.ext_of (HSA2.out _) | with_reducible exact Calls.ext_of (HSB2.out _))))
    refine wpQuiet_nil ?_
    rintro _ ⟨u,rfl⟩
    have hif:(if (sa:Int)+(sb:Int)+1 < 100000 then (sa:Int)+(sb:Int)+1 else 100000)=(R:Int):=by rw [HR.out];split <;> omega
    rw [hif]
    clear hif hsa hsb HR
    go_wp2_with fail
    go_ret
    exact ⟨rfl,below_trans HB1.out (ext_below _ _)⟩
end Go.Proofs.Ythnapjodmndlaaa
