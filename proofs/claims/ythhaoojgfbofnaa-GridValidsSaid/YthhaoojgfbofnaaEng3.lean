/- Rows of the call's own: made, written, frozen, read; no condition. -/
import Derived.Test.YthhaoojgfbofnaaEng2
set_option linter.unusedSimpArgs false
set_option linter.unusedVariables false
namespace Go.Proofs.Ythhaoojgfbofnaa.E
open Go.RowKit

section
variable {ok0 : Nat → Prop} {w0 w w' : World} {N : Nat} {vb : Nat × Nat → Nat} {rb : Nat × Nat → Value} {s s' : AS} {a : Act}

/-- a row of the call's own is written, or appended to -/
theorem Sat.rowset (h : Sat ok0 w0 N vb rb s a w) {r : Nat × Nat} {row : Row} (hr : s.r r = some row) (hl : row.live = true) (hg : w.grownBy w' (rb r).ownBlock)
    (v' : Value) (n' : Nat) (cells' : List Dt) (ver' : Nat) (us' : List Value) (ho : w'.ownsRow w0.heap.size row.e row.sz v' n' us')
    (hf : Fits (Rep w (okS ok0 w0.heap.size vb rb s w)) cells' us') (hat : v'.ownBlock = (rb r).ownBlock ∨ v'.ownBlock = some w.heap.size) (hver : row.ver ≤ ver') (hsame : ver' = row.ver → v' = rb r ∧ n' = row.n) :
    Sat ok0 w0 N vb (fun y => if y = r then v' else rb y) (s.setr r { row with n := n', cells := cells', ver := ver' }) a w' := by
  have hsr : ∀ y, (s.setr r { row with n := n', cells := cells', ver := ver' }).r y = if y = r then some { row with n := n', cells := cells', ver := ver' } else s.r y := fun y => rfl
  have hrne : ∀ k, okS ok0 w0.heap.size vb rb s w k → some k ≠ (rb r).ownBlock := fun k hk e => hk.2.2.2 r row hr hl e.symm
  have hok : ∀ k, okS ok0 w0.heap.size vb rb s w k → okS ok0 w0.heap.size vb (fun y => if y = r then v' else rb y) (s.setr r { row with n := n', cells := cells', ver := ver' }) w' k := fun k hk =>
    ⟨hk.1, Nat.lt_of_lt_of_le hk.2.1 hg.size, hk.2.2.1, fun y row' hy hl' e => by
      rw [hsr] at hy
      by_cases e1 : y = r
      · simp only [e1, if_true] at e
        rcases hat with h1 | h1
        · rw [h1] at e; exact hrne k hk e.symm
        · rw [h1] at e; have := hk.2.1; simp at e; omega
      · rw [if_neg e1] at hy
        simp only [e1, if_false] at e
        exact hk.2.2.2 y row' hy hl' e⟩
  have hx : Ext w (okS ok0 w0.heap.size vb rb s w) vb rb s w' (okS ok0 w0.heap.size vb (fun y => if y = r then v' else rb y) (s.setr r { row with n := n', cells := cells', ver := ver' }) w') vb (fun y => if y = r then v' else rb y) (s.setr r { row with n := n', cells := cells', ver := ver' }) :=
    ⟨fun k hk => ⟨hok k hk, hg.block k hk.2.1 (hrne k hk)⟩, fun y cs hy => ⟨cs, hy, rfl⟩, fun y row' hy => by
      rw [hsr]
      by_cases e : y = r
      · have e2 : row' = row := by rw [e, hr] at hy; exact (Option.some.inj hy).symm
        subst e2
        refine ⟨{ row' with n := n', cells := cells', ver := ver' }, by rw [if_pos e], hver, fun ev => ?_⟩
        obtain ⟨a1, a2⟩ := hsame ev
        simp only [e, if_true]
        exact ⟨a1, a2⟩
      · exact ⟨row', by rw [if_neg e]; exact hy, Nat.le_refl _, fun _ => ⟨by simp only [e, if_false], rfl⟩⟩⟩
  have hbase : ∀ k, (rb r).ownBlock = some k → w0.heap.size ≤ k := fun k hk => (h.rlt hr hk).1
  exact {
    below := h.below.grown hg h.below.size hbase
    ok0lt := h.ok0lt
    wf := fun d k hk => by
      refine ⟨(h.wf d k hk).1, ?_, (h.wf d k hk).2.2⟩
      rw [hsr, if_neg]
      · exact (h.wf d k hk).2.1
      · intro e; rw [← e, (h.wf d k hk).2.1] at hr; cases hr
    defers := h.defers
    size := h.size
    var := fun y cs' hy => by
      obtain ⟨hb, us, T, hh, hf', h1⟩ := h.var y cs' hy
      exact ⟨hb, us, T, (hg.block _ (heap_lt hh) (fun e => h.vr y cs' r row hy hr e.symm)).trans hh, hf'.imp fun c u hc => hx.mc hc, h1⟩
    row := fun y row' hy => by
      rw [hsr] at hy
      by_cases e : y = r
      · rw [if_pos e] at hy; cases hy
        simp only [e, if_true]
        exact ⟨us', ho, hf.imp fun d u hd => hd.mono hx.k⟩
      · rw [if_neg e] at hy
        obtain ⟨us, ho', hf'⟩ := h.row y row' hy
        simp only [e, if_false]
        refine ⟨us, ho'.kept hg ?_, hf'.imp fun d u hd => hd.mono hx.k⟩
        by_cases e0 : (rb r).ownBlock = none
        · rw [e0]; cases (rb y).ownBlock <;> simp
        · exact .inr (h.rr r row y row' hr hy hl (fun e1 => e e1.symm) e0)
    vv := h.vv
    vr := fun y cs' r' row' hy hr' e => by
      rw [hsr] at hr'
      by_cases e1 : r' = r
      · simp only [e1, if_true] at e
        rcases hat with h1 | h1
        · rw [h1] at e; exact h.vr y cs' r row hy hr e
        · rw [h1] at e; have := h.vlt hy; simp at e; omega
      · rw [if_neg e1] at hr'
        simp only [e1, if_false] at e
        exact h.vr y cs' r' row' hy hr' e
    rr := fun y row1 y' row2 h1 h2 hl1 hne hn e => by
      rw [hsr] at h1 h2
      by_cases e1 : y = r <;> by_cases e2 : y' = r
      · exact hne (e1.trans e2.symm)
      · rw [if_neg e2] at h2
        simp only [e1, e2, if_true, if_false] at e hn
        rcases hat with h3 | h3
        · rw [h3] at e hn; exact h.rr r row y' row2 hr h2 hl (fun e3 => e2 e3.symm) hn e
        · rw [h3] at e; have := h.rlt h2 e; omega
      · rw [if_neg e1] at h1
        simp only [e1, e2, if_true, if_false] at e hn
        rcases hat with h3 | h3
        · rw [h3] at e; exact h.rr y row1 r row h1 hr hl1 e1 hn e
        · rw [h3] at e; have := h.rlt h1 e.symm; omega
      · rw [if_neg e1] at h1
        rw [if_neg e2] at h2
        simp only [e1, e2, if_false] at e hn
        exact h.rr y row1 y' row2 h1 h2 hl1 hne hn e
    tmp := fun t => hx.mv (h.tmp t) }

/-- a new row -/
theorem Sat.newrow (h : Sat ok0 w0 N vb rb s a w) (d : Nat) (hg : w.grownBy w' none) (row : Row) (v' : Value) (us' : List Value) (ho : w'.ownsRow w0.heap.size row.e row.sz v' row.n us')
    (hf : Fits (Rep w' (okS ok0 w0.heap.size vb rb s w)) row.cells us') (hat : v'.ownBlock = none ∨ v'.ownBlock = some w.heap.size) :
    Sat ok0 w0 N vb (fun y => if y = (d, s.g d) then v' else rb y) ((s.setr (d, s.g d) row).bump d) a w' := by
  have hfresh : s.r (d, s.g d) = none := (h.wf d (s.g d) (Nat.le_refl _)).2.1
  have hne : ∀ y row', s.r y = some row' → y ≠ (d, s.g d) := fun y row' hy e => by rw [e, hfresh] at hy; cases hy
  have hsr : ∀ y, ((s.setr (d, s.g d) row).bump d).r y = if y = (d, s.g d) then some row else s.r y := fun y => rfl
  have hb : Below w.heap.size w w' := ⟨hg.os, hg.tape, hg.output, hg.size, fun i hi => hg.block i hi (by simp)⟩
  have hok : ∀ k, okS ok0 w0.heap.size vb rb s w k → okS ok0 w0.heap.size vb (fun y => if y = (d, s.g d) then v' else rb y) ((s.setr (d, s.g d) row).bump d) w' k := fun k hk =>
    ⟨hk.1, Nat.lt_of_lt_of_le hk.2.1 hg.size, hk.2.2.1, fun y row' hy hl' e => by
      rw [hsr] at hy
      by_cases e1 : y = (d, s.g d)
      · simp only [e1, if_true] at e
        rcases hat with h1 | h1
        · rw [h1] at e; cases e
        · rw [h1] at e; have := hk.2.1; simp at e; omega
      · rw [if_neg e1] at hy
        simp only [e1, if_false] at e
        exact hk.2.2.2 y row' hy hl' e⟩
  have hx : Ext w (okS ok0 w0.heap.size vb rb s w) vb rb s w' (okS ok0 w0.heap.size vb (fun y => if y = (d, s.g d) then v' else rb y) ((s.setr (d, s.g d) row).bump d) w') vb (fun y => if y = (d, s.g d) then v' else rb y) ((s.setr (d, s.g d) row).bump d) :=
    ⟨fun k hk => ⟨hok k hk, hb.block k hk.2.1⟩, fun y cs hy => ⟨cs, hy, rfl⟩, fun y row' hy => ⟨row', by rw [hsr, if_neg (hne y row' hy)]; exact hy, Nat.le_refl _, fun _ => ⟨if_neg (hne y row' hy), rfl⟩⟩⟩
  exact {
    below := h.below.trans (hb.mono h.below.size)
    ok0lt := h.ok0lt
    wf := fun d' k hk => by
      have hk' : (if d' = d then s.g d' + 1 else s.g d') ≤ k := hk
      have hg : s.g d' ≤ k := by split at hk' <;> omega
      refine ⟨(h.wf d' k hg).1, ?_, (h.wf d' k hg).2.2⟩
      rw [hsr, if_neg]
      · exact (h.wf d' k hg).2.1
      · intro e
        simp only [Prod.mk.injEq] at e
        rw [if_pos e.1] at hk'
        obtain ⟨rfl, rfl⟩ := e
        omega
    defers := h.defers
    size := h.size
    var := fun y cs' hy => by
      obtain ⟨h1, us, T, hh, hf', ho'⟩ := h.var y cs' hy
      exact ⟨h1, us, T, (hb.block _ (heap_lt hh)).trans hh, hf'.imp fun c u hc => hx.mc hc, ho'⟩
    row := fun y row' hy => by
      rw [hsr] at hy
      by_cases e : y = (d, s.g d)
      · rw [if_pos e] at hy; cases hy
        simp only [e, if_true]
        exact ⟨us', ho, hf.imp fun d u hd => hd.mono fun k hk => ⟨hok k hk, rfl⟩⟩
      · rw [if_neg e] at hy
        obtain ⟨us, ho', hf'⟩ := h.row y row' hy
        simp only [e, if_false]
        refine ⟨us, ho'.kept hg ?_, hf'.imp fun d u hd => hd.mono hx.k⟩
        cases (rb y).ownBlock <;> simp
    vv := h.vv
    vr := fun y cs' r' row' hy hr' e => by
      rw [hsr] at hr'
      by_cases e1 : r' = (d, s.g d)
      · simp only [e1, if_true] at e
        rcases hat with h1 | h1
        · rw [h1] at e; cases e
        · rw [h1] at e; have := h.vlt hy; simp at e; omega
      · rw [if_neg e1] at hr'
        simp only [e1, if_false] at e
        exact h.vr y cs' r' row' hy hr' e
    rr := fun y row1 y' row2 h1 h2 hl1 hne' hn e => by
      rw [hsr] at h1 h2
      by_cases e1 : y = (d, s.g d) <;> by_cases e2 : y' = (d, s.g d)
      · exact hne' (e1.trans e2.symm)
      · rw [if_neg e2] at h2
        simp only [e1, e2, if_true, if_false] at e hn
        rcases hat with h3 | h3
        · exact hn h3
        · rw [h3] at e; have := h.rlt h2 e; omega
      · rw [if_neg e1] at h1
        simp only [e1, e2, if_true, if_false] at e hn
        rcases hat with h3 | h3
        · rw [h3] at e; exact hn e.symm
        · rw [h3] at e; have := h.rlt h1 e.symm; omega
      · rw [if_neg e1] at h1
        rw [if_neg e2] at h2
        simp only [e1, e2, if_false] at e hn
        exact h.rr y row1 y' row2 h1 h2 hl1 hne' hn e
    tmp := fun t => hx.mv (h.tmp t) }

/-- a row is frozen: from now on it is only read -/
def AS.freeze (s : AS) (r : Nat × Nat) : AS := { s with r := fun y => if y = r then (s.r y).map fun row => { row with live := false } else s.r y }
theorem Sat.freeze (h : Sat ok0 w0 N vb rb s a w) (r : Nat × Nat) : Sat ok0 w0 N vb rb (s.freeze r) a w := by
  have hsr : ∀ y row', (s.freeze r).r y = some row' → ∃ row, s.r y = some row ∧ row'.e = row.e ∧ row'.sz = row.sz ∧ row'.n = row.n ∧ row'.cells = row.cells ∧ row'.ver = row.ver ∧ (row'.live = true → row.live = true) := fun y row' hy => by
    have hy' : (if y = r then (s.r y).map fun row => { row with live := false } else s.r y) = some row' := hy
    by_cases e : y = r
    · rw [if_pos e] at hy'
      cases hs : s.r y with
      | none => rw [hs] at hy'; cases hy'
      | some row =>
        rw [hs] at hy'
        cases hy'
        exact ⟨row, rfl, rfl, rfl, rfl, rfl, rfl, fun e => by cases e⟩
    · rw [if_neg e] at hy'
      exact ⟨row', hy', rfl, rfl, rfl, rfl, rfl, fun e => e⟩
  have hrs : ∀ y row, s.r y = some row → ∃ row', (s.freeze r).r y = some row' ∧ row'.ver = row.ver ∧ row'.n = row.n := fun y row hy => by
    show ∃ row', (if y = r then (s.r y).map fun row => { row with live := false } else s.r y) = some row' ∧ _
    by_cases e : y = r
    · rw [if_pos e, hy]; exact ⟨_, rfl, rfl, rfl⟩
    · rw [if_neg e]; exact ⟨row, hy, rfl, rfl⟩
  have hok : ∀ k, okS ok0 w0.heap.size vb rb s w k → okS ok0 w0.heap.size vb rb (s.freeze r) w k := fun k hk =>
    ⟨hk.1, hk.2.1, hk.2.2.1, fun y row' hy hl => by
      obtain ⟨row, h1, _, _, _, _, _, h2⟩ := hsr y row' hy
      exact hk.2.2.2 y row h1 (h2 hl)⟩
  have hx : Ext w (okS ok0 w0.heap.size vb rb s w) vb rb s w (okS ok0 w0.heap.size vb rb (s.freeze r) w) vb rb (s.freeze r) :=
    ⟨fun k hk => ⟨hok k hk, rfl⟩, fun y cs hy => ⟨cs, hy, rfl⟩, fun y row hy => by
      obtain ⟨row', h1, h2, h3⟩ := hrs y row hy
      exact ⟨row', h1, by omega, fun _ => ⟨rfl, h3⟩⟩⟩
  exact {
    below := h.below
    ok0lt := h.ok0lt
    wf := fun d k hk => by
      refine ⟨(h.wf d k hk).1, ?_, (h.wf d k hk).2.2⟩
      cases hs : (s.freeze r).r (d, k) with
      | none => rfl
      | some row' =>
        obtain ⟨row, h1, _⟩ := hsr _ row' hs
        rw [(h.wf d k hk).2.1] at h1; cases h1
    defers := h.defers
    size := h.size
    var := fun y cs' hy => by
      obtain ⟨h1, us, T, hh, hf', ho'⟩ := h.var y cs' hy
      exact ⟨h1, us, T, hh, hf'.imp fun c u hc => hx.mc hc, ho'⟩
    row := fun y row' hy => by
      obtain ⟨row, h1, h2, h3, h4, h5, _, _⟩ := hsr y row' hy
      obtain ⟨us, ho', hf'⟩ := h.row y row h1
      rw [h2, h3, h4, h5]
      exact ⟨us, ho', hf'.imp fun d u hd => hd.mono hx.k⟩
    vv := h.vv
    vr := fun y cs' r' row' hy hr' => by
      obtain ⟨row, h1, _⟩ := hsr r' row' hr'
      exact h.vr y cs' r' row hy h1
    rr := fun y row1 y' row2 h1 h2 hl1 => by
      obtain ⟨rw1, k1, _, _, _, _, _, k2⟩ := hsr y row1 h1
      obtain ⟨rw2, k3, _⟩ := hsr y' row2 h2
      exact h.rr y rw1 y' rw2 k1 k3 (k2 hl1)
    tmp := fun t => hx.mv (h.tmp t) }

/-- a variable is frozen -/
def AS.freezev (s : AS) (x : Nat × Nat) : AS := { s with f := fun y => if y = x then true else s.f y }
theorem Sat.freezev (h : Sat ok0 w0 N vb rb s a w) (x : Nat × Nat) {cs : List Ce} (hx : s.v x = some cs) : Sat ok0 w0 N vb rb (s.freezev x) a w := by
  have hf : ∀ y, (s.freezev x).f y = false → s.f y = false := fun y hy => by
    have hy' : (if y = x then true else s.f y) = false := hy
    split at hy'
    · cases hy'
    · exact hy'
  have hok : ∀ k, okS ok0 w0.heap.size vb rb s w k → okS ok0 w0.heap.size vb rb (s.freezev x) w k := fun k hk =>
    ⟨hk.1, hk.2.1, fun y cs hy hl => hk.2.2.1 y cs hy (hf y hl), hk.2.2.2⟩
  have hx' : Ext w (okS ok0 w0.heap.size vb rb s w) vb rb s w (okS ok0 w0.heap.size vb rb (s.freezev x) w) vb rb (s.freezev x) :=
    ⟨fun k hk => ⟨hok k hk, rfl⟩, fun y cs hy => ⟨cs, hy, rfl⟩, fun y row hy => ⟨row, hy, Nat.le_refl _, fun _ => ⟨rfl, rfl⟩⟩⟩
  exact {
    below := h.below
    ok0lt := h.ok0lt
    wf := fun d k hk => by
      refine ⟨(h.wf d k hk).1, (h.wf d k hk).2.1, ?_⟩
      show (if (d, k) = x then true else s.f (d, k)) = false
      rw [if_neg]
      · exact (h.wf d k hk).2.2
      · intro e; rw [← e, (h.wf d k hk).1] at hx; cases hx
    defers := h.defers
    size := h.size
    var := fun y cs' hy => by
      obtain ⟨h1, us, T, hh, hf', ho'⟩ := h.var y cs' hy
      exact ⟨h1, us, T, hh, hf'.imp fun c u hc => hx'.mc hc, ho'⟩
    row := fun y row hy => by
      obtain ⟨us, ho', hf'⟩ := h.row y row hy
      exact ⟨us, ho', hf'.imp fun d u hd => hd.mono hx'.k⟩
    vv := h.vv
    vr := h.vr
    rr := h.rr
    tmp := fun t => hx'.mv (h.tmp t) }

/-- what a frozen row reads as -/
theorem Sat.frozen (h : Sat ok0 w0 N vb rb s a w) {r : Nat × Nat} {row : Row} (hr : s.r r = some row) (hl : row.live = false) : Rep w (okS ok0 w0.heap.size vb rb s w) (.sl row.n row.cells) (rb r) := by
  obtain ⟨us, ho, hf⟩ := h.row r row hr
  rcases ho.2 with ⟨hv, hn⟩ | ⟨g, cap, cur, hv, hg, hh, hnc, hcm, hcs, htake⟩
  · have hu : us = [] := List.eq_nil_of_length_eq_zero (by rw [ho.1, hn]; simp)
    rw [hv, hn]
    refine .sl none 0 0 row.cells us hf.1 (Nat.le_refl _) (fun j u hj => ?_) hf.2
    rw [hu] at hj; simp at hj
  · rw [hv]
    refine .sl _ _ _ row.cells us hf.1 hnc (fun j u hj => ⟨_, rfl, ?_, ?_⟩) hf.2
    · refine ⟨.inr hg, heap_lt hh, fun x cs hx _ e => h.vr x cs r row hx hr (by rw [hv]; simp [Value.ownBlock, e]), fun r' row' hr' hl' e => ?_⟩
      have hne : r' ≠ r := by
        intro e1; rw [e1, hr] at hr'; cases hr'; rw [hl] at hl'; cases hl'
      exact h.rr r' row' r row hr' hr hl' hne (by rw [e]; simp) (by rw [e, hv]; rfl)
    · rw [hv] at ho
      exact ho.cells (g := g) rfl j u hj
end
end Go.Proofs.Ythhaoojgfbofnaa.E
