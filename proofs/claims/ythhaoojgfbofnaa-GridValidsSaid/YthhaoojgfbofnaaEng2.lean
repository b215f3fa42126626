/- What keeps an abstract state tied to the machine while memory grows and the call's own memory is written; no condition. -/
import Derived.Test.YthhaoojgfbofnaaEng1
set_option linter.unusedSimpArgs false
set_option linter.unusedVariables false
namespace Go.Proofs.Ythhaoojgfbofnaa.E
open Go.RowKit

/-- from one world and state to another: what could be read reads as it did -/
structure Ext (w : World) (ok : Nat → Prop) (vb : Nat × Nat → Nat) (rb : Nat × Nat → Value) (s : AS) (w' : World) (ok' : Nat → Prop) (vb' : Nat × Nat → Nat) (rb' : Nat × Nat → Value) (s' : AS) : Prop where
  k : ∀ k, ok k → ok' k ∧ w'.heap[k]? = w.heap[k]?
  v : ∀ x cs, s.v x = some cs → ∃ cs', s'.v x = some cs' ∧ vb' x = vb x
  r : ∀ r row, s.r r = some row → ∃ row', s'.r r = some row' ∧ row.ver ≤ row'.ver ∧ (row'.ver = row.ver → rb' r = rb r ∧ row'.n = row.n)

section
variable {w w' : World} {ok ok' : Nat → Prop} {vb vb' : Nat × Nat → Nat} {rb rb' : Nat × Nat → Value} {s s' : AS}
theorem Ext.mc (h : Ext w ok vb rb s w' ok' vb' rb' s') {c : Ce} {u : Value} (hc : MC w ok rb s c u) : MC w' ok' rb' s' c u := by
  cases c with
  | dt d => exact Rep.mono hc h.k
  | z => exact hc
  | row r ver =>
    obtain ⟨row, hr, hv, hu⟩ := hc
    obtain ⟨row', hr', hv', hu'⟩ := h.r r row hr
    exact ⟨row', hr', by omega, fun e => by rw [(hu' (by omega)).1]; exact hu (by omega)⟩
theorem Ext.mr (hk : ∀ k, ok k → ok' k ∧ w'.heap[k]? = w.heap[k]?) {r : RV} {u : Value} (hc : MR w ok r u) : MR w' ok' r u := by
  cases r with
  | one d => exact Rep.mono hc hk
  | agg ds =>
    obtain ⟨us, e, hf⟩ := hc
    exact ⟨us, e, hf.imp fun d u hr => hr.mono hk⟩
theorem Ext.mv (h : Ext w ok vb rb s w' ok' vb' rb' s') {x : AV} {u : Value} (hx : MV w ok vb rb s x u) : MV w' ok' vb' rb' s' x u := by
  cases x with
  | no => trivial
  | one c => exact ⟨h.mc hx.1, hx.2⟩
  | agg cs =>
    obtain ⟨us, e, hf, h1⟩ := hx
    exact ⟨us, e, hf.imp fun c u hr => h.mc hr, h1⟩
  | tup rs =>
    obtain ⟨us, e, hf⟩ := hx
    exact ⟨us, e, hf.imp fun c u hr => Ext.mr h.k hr⟩
  | ptr x off =>
    obtain ⟨cs, hv, e⟩ := hx
    obtain ⟨cs', hv', e'⟩ := h.v x cs hv
    exact ⟨cs', hv', by rw [e']; exact e⟩
  | el ds =>
    obtain ⟨a, us, e, hf, ho, hc⟩ := hx
    refine ⟨a, us, e, hf.imp fun d u hr => hr.mono h.k, fun hn => (h.k _ (ho hn)).1, fun j x hx => ?_⟩
    have hn : us ≠ [] := by intro e0; rw [e0] at hx; simp at hx
    rw [World.cell?_of_block (w := w) (by rw [block_of_add]; exact (h.k _ (ho hn)).2)]
    exact hc j x hx
  | rel r ver j =>
    obtain ⟨row, hr, hv, hu⟩ := hx
    obtain ⟨row', hr', hv', hu'⟩ := h.r r row hr
    refine ⟨row', hr', by omega, fun e => ?_⟩
    obtain ⟨e1, e2⟩ := hu' (by omega)
    obtain ⟨g, c, h1, h2⟩ := hu (by omega)
    exact ⟨g, c, by rw [e1, e2]; exact h1, h2⟩
end

theorem heap_lt {w : World} {k : Nat} {o : Obj} (h : w.heap[k]? = some o) : k < w.heap.size := (Array.getElem?_eq_some_iff.1 h).1

section
variable {ok0 : Nat → Prop} {w0 w w' : World} {N : Nat} {vb : Nat × Nat → Nat} {rb : Nat × Nat → Value} {s s' : AS} {a : Act}

theorem Sat.vlt (h : Sat ok0 w0 N vb rb s a w) {x : Nat × Nat} {cs : List Ce} (hx : s.v x = some cs) : vb x < w.heap.size := by
  obtain ⟨_, us, T, hh, _⟩ := h.var x cs hx
  exact heap_lt hh
theorem Sat.rlt (h : Sat ok0 w0 N vb rb s a w) {r : Nat × Nat} {row : Row} (hr : s.r r = some row) {k : Nat} (hk : (rb r).ownBlock = some k) : w0.heap.size ≤ k ∧ k < w.heap.size := by
  obtain ⟨us, ho, _⟩ := h.row r row hr
  exact ho.lt k hk

/-- a temporary takes a new value -/
theorem Sat.set (h : Sat ok0 w0 N vb rb s a w) (d : Nat) (hd : d < N) (x : AV) (u : Value) (hx : MV w (okS ok0 w0.heap.size vb rb s w) vb rb s x u) : Sat ok0 w0 N vb rb (s.set d x) (a.put (some d) u) w where
  below := h.below
  ok0lt := h.ok0lt
  wf := h.wf
  defers := h.defers
  size := by simp [Act.put, h.size]
  var := h.var
  row := h.row
  vv := h.vv
  vr := h.vr
  rr := h.rr
  tmp := fun t => by
    have ht := h.tmp t
    show MV w (okS ok0 w0.heap.size vb rb s w) vb rb s (if t = d then x else s.t t) ((a.tmps.setIfInBounds d u).getD t undef)
    by_cases e : t = d
    · subst e
      have hd' : t < a.tmps.size := by rw [h.size]; exact hd
      rw [if_pos rfl]
      simp [Array.getD_eq_getD_getElem?, hd']
      exact hx
    · rw [if_neg e]
      have : (a.tmps.setIfInBounds d u).getD t undef = a.tmps.getD t undef := by
        simp [Array.getD_eq_getD_getElem?, Ne.symm e]
      rw [this]
      exact ht

theorem okS_grow {k : Nat} (h : okS ok0 w0.heap.size vb rb s w k) (hs : w.heap.size ≤ w'.heap.size) : okS ok0 w0.heap.size vb rb s w' k := ⟨h.1, Nat.lt_of_lt_of_le h.2.1 hs, h.2.2⟩

/-- memory grows: nothing that was there has changed -/
theorem Sat.world (h : Sat ok0 w0 N vb rb s a w) (hb : Below w.heap.size w w') : Sat ok0 w0 N vb rb s a w' := by
  have hx : Ext w (okS ok0 w0.heap.size vb rb s w) vb rb s w' (okS ok0 w0.heap.size vb rb s w') vb rb s :=
    ⟨fun k hk => ⟨okS_grow hk hb.size, hb.block k hk.2.1⟩, fun x cs hv => ⟨cs, hv, rfl⟩, fun r row hr => ⟨row, hr, Nat.le_refl _, fun _ => ⟨rfl, rfl⟩⟩⟩
  have hg : w.grownBy w' none := ⟨hb.os, hb.tape, hb.output, hb.size, fun i hi _ => hb.block i hi⟩
  exact {
    below := h.below.trans (hb.mono h.below.size)
    ok0lt := h.ok0lt
    wf := h.wf
    defers := h.defers
    size := h.size
    var := fun x cs hv => by
      obtain ⟨h1, us, T, hh, hf, ho⟩ := h.var x cs hv
      exact ⟨h1, us, T, (hb.block _ (heap_lt hh)).trans hh, hf.imp fun c u hc => hx.mc hc, ho⟩
    row := fun r row hr => by
      obtain ⟨us, ho, hf⟩ := h.row r row hr
      refine ⟨us, ho.kept hg ?_, hf.imp fun d u hd => hd.mono hx.k⟩
      cases (rb r).ownBlock <;> simp
    vv := h.vv
    vr := h.vr
    rr := h.rr
    tmp := fun t => hx.mv (h.tmp t) }

/-- new memory may be read -/
theorem Sat.fresh (h : Sat ok0 w0 N vb rb s a w) {k : Nat} (h1 : w.heap.size ≤ k) (h2 : k < w'.heap.size) : okS ok0 w0.heap.size vb rb s w' k :=
  ⟨.inr (Nat.le_trans h.below.size h1), h2, fun x cs hx _ e => by have := h.vlt hx; omega, fun r row hr _ e => by have := h.rlt hr e; omega⟩

/-- a new variable -/
theorem Sat.newvar (h : Sat ok0 w0 N vb rb s a w) (d : Nat) (cs : List Ce) (us : Array Value) (T : TypeId) (hf : Fits (MC w (okS ok0 w0.heap.size vb rb s w) rb s) cs us.toList) (h1 : ∀ u ∈ us.toList, u.oneCell' = true) :
    Sat ok0 w0 N (fun y => if y = (d, s.g d) then w.heap.size else vb y) rb ((s.setv (d, s.g d) cs).bump d) a (w.alloc (.cells us T)) := by
  have hfresh : s.v (d, s.g d) = none := (h.wf d (s.g d) (Nat.le_refl _)).1
  have hne : ∀ y cs', s.v y = some cs' → y ≠ (d, s.g d) := fun y cs' hy e => by rw [e, hfresh] at hy; cases hy
  have hvb : ∀ y cs', s.v y = some cs' → (if y = (d, s.g d) then w.heap.size else vb y) = vb y := fun y cs' hy => if_neg (hne y cs' hy)
  have hsv : ∀ y, ((s.setv (d, s.g d) cs).bump d).v y = if y = (d, s.g d) then some cs else s.v y := fun y => rfl
  have hok : ∀ k, okS ok0 w0.heap.size vb rb s w k → okS ok0 w0.heap.size (fun y => if y = (d, s.g d) then w.heap.size else vb y) rb ((s.setv (d, s.g d) cs).bump d) (w.alloc (.cells us T)) k := fun k hk => by
    refine ⟨hk.1, ?_, fun y cs' hy hlv => ?_, hk.2.2.2⟩
    · have := hk.2.1; simp; omega
    · rw [hsv] at hy
      split at hy
      · rename_i e
        have := hk.2.1
        simp only [e, if_true]; omega
      · rename_i e
        simp only [e, if_false]
        exact hk.2.2.1 y cs' hy hlv
  have hx : Ext w (okS ok0 w0.heap.size vb rb s w) vb rb s (w.alloc (.cells us T)) (okS ok0 w0.heap.size (fun y => if y = (d, s.g d) then w.heap.size else vb y) rb ((s.setv (d, s.g d) cs).bump d) (w.alloc (.cells us T))) (fun y => if y = (d, s.g d) then w.heap.size else vb y) rb ((s.setv (d, s.g d) cs).bump d) :=
    ⟨fun k hk => ⟨hok k hk, heap_alloc_old w _ k hk.2.1⟩, fun y cs' hy => ⟨cs', by rw [hsv, if_neg (hne y cs' hy)]; exact hy, hvb y cs' hy⟩, fun r row hr => ⟨row, hr, Nat.le_refl _, fun _ => ⟨rfl, rfl⟩⟩⟩
  exact {
    below := (h.below.alloc h.below.size _)
    ok0lt := h.ok0lt
    wf := fun d' k hk => by
      have hk' : (if d' = d then s.g d' + 1 else s.g d') ≤ k := hk
      have hg : s.g d' ≤ k := by split at hk' <;> omega
      refine ⟨?_, (h.wf d' k hg).2⟩
      rw [hsv, if_neg]
      · exact (h.wf d' k hg).1
      · intro e
        simp only [Prod.mk.injEq] at e
        rw [if_pos e.1] at hk'
        obtain ⟨rfl, rfl⟩ := e
        omega
    defers := h.defers
    size := h.size
    var := fun y cs' hy => by
      rw [hsv] at hy
      split at hy
      · rename_i e
        cases hy
        refine ⟨by simp only [e, if_true]; exact h.below.size, us, T, by simp only [e, if_true]; exact heap_alloc_new w _, hf.imp fun c u hc => hx.mc hc, h1⟩
      · rename_i e
        obtain ⟨hb, us', T', hh, hf', ho⟩ := h.var y cs' hy
        simp only [e, if_false]
        exact ⟨hb, us', T', (heap_alloc_old w _ _ (heap_lt hh)).trans hh, hf'.imp fun c u hc => hx.mc hc, ho⟩
    row := fun r row hr => by
      obtain ⟨us', ho, hf'⟩ := h.row r row hr
      exact ⟨us', ho.alloc _, hf'.imp fun d u hd => hd.mono hx.k⟩
    vv := fun y y' cs1 cs2 hy hy' e => by
      rw [hsv] at hy hy'
      by_cases e1 : y = (d, s.g d) <;> by_cases e2 : y' = (d, s.g d)
      · rw [e1, e2]
      · rw [if_neg e2] at hy'
        have := h.vlt hy'
        simp only [e1, e2, if_true, if_false] at e; omega
      · rw [if_neg e1] at hy
        have := h.vlt hy
        simp only [e1, e2, if_true, if_false] at e; omega
      · rw [if_neg e1] at hy
        rw [if_neg e2] at hy'
        simp only [e1, e2, if_false] at e
        exact h.vv y y' cs1 cs2 hy hy' e
    vr := fun y cs' r row hy hr e => by
      rw [hsv] at hy
      by_cases e1 : y = (d, s.g d)
      · simp only [e1, if_true] at e
        have := h.rlt hr e
        omega
      · rw [if_neg e1] at hy
        simp only [e1, if_false] at e
        exact h.vr y cs' r row hy hr e
    rr := h.rr
    tmp := fun t => hx.mv (h.tmp t) }

/-- a store into a variable -/
theorem Sat.storev (h : Sat ok0 w0 N vb rb s a w) {x : Nat × Nat} {cs0 : List Ce} (hv : s.v x = some cs0) (hlive : s.f x = false) (cs : List Ce) (us : Array Value) (hf : Fits (MC w (okS ok0 w0.heap.size vb rb s w) rb s) cs us.toList) (h1 : ∀ u ∈ us.toList, u.oneCell' = true) :
    Sat ok0 w0 N vb rb (s.setv x cs) a (w.setRow (vb x) us) := by
  have hsv : ∀ y, (s.setv x cs).v y = if y = x then some cs else s.v y := fun y => rfl
  have hdom : ∀ y cs', (s.setv x cs).v y = some cs' → ∃ cs'', s.v y = some cs'' := fun y cs' hy => by
    rw [hsv] at hy
    split at hy
    · rename_i e; exact ⟨cs0, by rw [e]; exact hv⟩
    · exact ⟨cs', hy⟩
  have hok : ∀ k, okS ok0 w0.heap.size vb rb s w k → okS ok0 w0.heap.size vb rb (s.setv x cs) (w.setRow (vb x) us) k := fun k hk =>
    ⟨hk.1, by have := hk.2.1; simpa using this, fun y cs' hy hlv => by obtain ⟨cs'', hy'⟩ := hdom y cs' hy; exact hk.2.2.1 y cs'' hy' hlv, hk.2.2.2⟩
  have hx : Ext w (okS ok0 w0.heap.size vb rb s w) vb rb s (w.setRow (vb x) us) (okS ok0 w0.heap.size vb rb (s.setv x cs) (w.setRow (vb x) us)) vb rb (s.setv x cs) :=
    ⟨fun k hk => ⟨hok k hk, setRow_other w (vb x) k us (fun e => hk.2.2.1 x cs0 hv hlive (by omega))⟩, fun y cs' hy => by
      rw [hsv]
      by_cases e : y = x
      · exact ⟨cs, by rw [if_pos e], rfl⟩
      · exact ⟨cs', by rw [if_neg e]; exact hy, rfl⟩, fun r row hr => ⟨row, hr, Nat.le_refl _, fun _ => ⟨rfl, rfl⟩⟩⟩
  obtain ⟨hb, us0, T, hh, _, _⟩ := h.var x cs0 hv
  exact {
    below := below_setRow h.below hb us
    ok0lt := h.ok0lt
    wf := fun d k hk => by
      refine ⟨?_, (h.wf d k hk).2⟩
      rw [hsv, if_neg]
      · exact (h.wf d k hk).1
      · intro e; rw [← e, (h.wf d k hk).1] at hv; cases hv
    defers := h.defers
    size := h.size
    var := fun y cs' hy => by
      rw [hsv] at hy
      by_cases e : y = x
      · rw [if_pos e] at hy; cases hy
        rw [e]
        exact ⟨hb, us, T, setRow_heap w (vb x) us0 us T (0, 0) hh, hf.imp fun c u hc => hx.mc hc, h1⟩
      · rw [if_neg e] at hy
        obtain ⟨hb', us', T', hh', hf', ho⟩ := h.var y cs' hy
        exact ⟨hb', us', T', (setRow_other w (vb x) _ us (fun e' => e (h.vv y x cs' cs0 hy hv (by omega)))).trans hh', hf'.imp fun c u hc => hx.mc hc, ho⟩
    row := fun r row hr => by
      obtain ⟨us', ho, hf'⟩ := h.row r row hr
      have hg : w.grownBy (w.setRow (vb x) us) (some (vb x)) := ⟨rfl, rfl, rfl, by simp, fun k _ hk => setRow_other w (vb x) k us (fun e => hk (by rw [e]))⟩
      exact ⟨us', ho.kept hg (.inr (h.vr x cs0 r row hv hr)), hf'.imp fun d u hd => hd.mono hx.k⟩
    vv := fun y y' cs1 cs2 hy hy' e => by
      obtain ⟨c1, k1⟩ := hdom y cs1 hy
      obtain ⟨c2, k2⟩ := hdom y' cs2 hy'
      exact h.vv y y' c1 c2 k1 k2 e
    vr := fun y cs' r row hy hr => by
      obtain ⟨c1, k1⟩ := hdom y cs' hy
      exact h.vr y c1 r row k1 hr
    rr := h.rr
    tmp := fun t => hx.mv (h.tmp t) }
end
end Go.Proofs.Ythhaoojgfbofnaa.E
