/- The operations that only compute, and loads: the machine does what the abstract state says; no condition. -/
import Derived.Test.YthhaoojgfbofnaaEng4
import Derived.Laws.Tables
import Derived.Laws.Cells
import Derived.Laws.Small
import Derived.Maps.AppendAt
set_option linter.unusedSimpArgs false
set_option linter.unusedVariables false
namespace Go.Proofs.Ythhaoojgfbofnaa.E
open Go.RowKit

theorem wp_value {P : Program} {o : Oper} {a : Act} {w w' : World} {K : Act → World → Prop} {Q : Exit → Act → World → Prop} {v : Value} (h : (execOp a.eval o).run P w = .ok (.value v) w') (hk : K (a.put o.dst v) w') : o.wp P a w K Q := by
  unfold Oper.wp
  rw [h]
  exact hk

section
variable {ok0 : Nat → Prop} {w0 w w' : World} {N : Nat} {vb : Nat × Nat → Nat} {rb : Nat × Nat → Value} {s s' : AS} {a : Act} {P : Program}

theorem Sat.put (h : Sat ok0 w0 N vb rb s a w) (dst : Option Nat) (hd : ∀ d, dst = some d → d < N) (x : AV) (u : Value) (hx : MV w (okS ok0 w0.heap.size vb rb s w) vb rb s x u) : Sat ok0 w0 N vb rb (s.put dst x) (a.put dst u) w := by
  cases dst with
  | none => exact h
  | some d => exact h.set d (hd d rfl) x u hx

theorem cst_fits (v : Value) : MV w (okS ok0 w0.heap.size vb rb s w) vb rb s (cst v) v := by
  unfold cst
  split
  · exact ⟨.lit _ rfl, rfl⟩
  · exact ⟨.lit _ rfl, rfl⟩
  · exact ⟨.lit _ rfl, rfl⟩
  · exact ⟨rfl, rfl⟩
  · trivial
theorem Sat.ev (h : Sat ok0 w0 N vb rb s a w) (x : Operand) : MV w (okS ok0 w0.heap.size vb rb s w) vb rb s (s.ev x) (a.eval x) := by
  cases x with
  | tmp t => exact h.tmp t
  | const v => exact cst_fits v
  | global g => trivial
  | func f => trivial

/-- the literals -/
theorem lit_of {v u : Value} (h : MV w (okS ok0 w0.heap.size vb rb s w) vb rb s (.one (.dt (.lit v))) u) : u = v := by
  obtain ⟨h1, _⟩ := h
  cases h1 with
  | lit v hv => rfl
theorem lit_fits {v : Value} (hv : plain v = true) : MV w (okS ok0 w0.heap.size vb rb s w) vb rb s (litV v) v := by
  refine ⟨.lit v hv, ?_⟩
  cases v <;> first | rfl | simp [plain] at hv

/-- THE OUTCOME of an operation: the machine's step ends in a world and a frame that fit the state behind it -/
def Good (P : Program) (ok0 : Nat → Prop) (w0 : World) (N : Nat) (o : Oper) (a : Act) (w : World) (s' : AS) : Prop :=
  ∀ (K : Act → World → Prop) (Q : Exit → Act → World → Prop), (∀ vb' rb' a' w', Sat ok0 w0 N vb' rb' s' a' w' → K a' w') → o.wp P a w K Q

theorem Good.value {o : Oper} {v : Value} (hr : (execOp a.eval o).run P w = .ok (.value v) w') (vb' : Nat × Nat → Nat) (rb' : Nat × Nat → Value) (h : Sat ok0 w0 N vb' rb' s' (a.put o.dst v) w') : Good P ok0 w0 N o a w s' :=
  fun _ _ hK => wp_value hr (hK vb' rb' _ _ h)

variable (h : Sat ok0 w0 N vb rb s a w) {o : Oper} (hd : ∀ d, o.dst = some d → d < N)
include h hd

theorem good_move (x : Operand) (ho : o.op = .move x ∨ o.op = .assign x) : Good P ok0 w0 N o a w (s.put o.dst (s.ev x)) := by
  refine Good.value (v := a.eval x) (w' := w) ?_ vb rb (h.put o.dst hd _ _ (h.ev x))
  rcases ho with ho | ho <;> simp [execOp, ho]

theorem good_pick (c x y : Operand) (ho : o.op = .pick c x y) (hb : pickO (s.ev c)) : Good P ok0 w0 N o a w (s.put o.dst (pickV (s.ev c) (s.ev x) (s.ev y))) := by
  have hc := h.ev c
  unfold pickO at hb
  split at hb
  · rename_i b e
    rw [e] at hc ⊢
    have hv := lit_of hc
    refine Good.value (v := if b then a.eval x else a.eval y) (w' := w) ?_ vb rb (h.put o.dst hd _ _ ?_)
    · cases b <;> simp [execOp, ho, hv, asBool]
    · cases b
      · exact h.ev y
      · exact h.ev x
  · exact hb.elim

theorem good_bin (op : BinOp) (T T' : TypeId) (x y : Operand) (ho : o.op = .binOp op T x y T') (hb : binO (tbool P T) op (s.ev x) (s.ev y)) : Good P ok0 w0 N o a w (s.put o.dst (binV op (s.ev x) (s.ev y))) := by
  have hx := h.ev x
  have hy := h.ev y
  unfold binO at hb
  split at hb
  · rename_i k p k' q e1 e2
    rw [e1] at hx ⊢
    rw [e2] at hy ⊢
    have vx := lit_of hx
    have vy := lit_of hy
    have key : ∃ v, plain v = true ∧ binV op (.one (.dt (.lit (.int k p)))) (.one (.dt (.lit (.int k' q)))) = litV v ∧ ∀ w, ((do eqGuard op T x y (.int k p) (.int k' q); binOp op T (.int k p) (.int k' q)) : Sem Value).run P w = .ok v w := by
      cases op <;> first
        | (obtain ⟨e, hz⟩ := hb; subst e; refine ⟨_, rfl, rfl, fun w => ?_⟩; simp [eqGuard, binOp, Op.intDiv, hz]; done)
        | (subst hb; refine ⟨_, rfl, rfl, fun w => ?_⟩; simp [eqGuard, binOp, Op.intArith]; done)
        | (subst hb; refine ⟨_, rfl, rfl, fun w => ?_⟩; simp only [binOp, ne_eq, not_true_eq_false, if_false]; rfl)
        | (refine ⟨_, rfl, rfl, fun w => ?_⟩; simp [eqGuard, binOp, Op.shift, Int.not_lt.2 hb]; done)
    obtain ⟨v, hp, hv, hr⟩ := key
    rw [hv]
    refine Good.value (v := v) (w' := w) ?_ vb rb (h.put o.dst hd _ _ (lit_fits hp))
    simp only [execOp, ho, vx, vy]
    rw [Sem.run_bind, hr w]
    rfl
  · rename_i p q e1 e2
    rw [e1] at hx ⊢
    rw [e2] at hy ⊢
    have vx := lit_of hx
    have vy := lit_of hy
    have key : ∃ v, plain v = true ∧ binV op (.one (.dt (.lit (.bool p)))) (.one (.dt (.lit (.bool q)))) = litV v ∧ ∀ w, ((do eqGuard op T x y (.bool p) (.bool q); binOp op T (.bool p) (.bool q)) : Sem Value).run P w = .ok v w := by
      have ht : tbool P T = true → P.underlying T = some .bool := fun ht => by
        unfold tbool at ht
        split at ht
        · assumption
        · cases ht
      cases op <;> first
        | exact hb.elim
        | (refine ⟨_, rfl, rfl, fun w => ?_⟩; simp [eqGuard, run_eql_bool w T p q (ht hb), run_neq_bool w T p q (ht hb)]; done)
    obtain ⟨v, hp, hv, hr⟩ := key
    rw [hv]
    refine Good.value (v := v) (w' := w) ?_ vb rb (h.put o.dst hd _ _ (lit_fits hp))
    simp only [execOp, ho, vx, vy]
    rw [Sem.run_bind, hr w]
    rfl
  · rename_i p q e1 e2
    rw [e1] at hx ⊢
    rw [e2] at hy ⊢
    have vx := lit_of hx
    have vy := lit_of hy
    have key : ∃ v, plain v = true ∧ binV op (.one (.dt (.lit (.string p)))) (.one (.dt (.lit (.string q)))) = litV v ∧ ∀ w, ((do eqGuard op T x y (.string p) (.string q); binOp op T (.string p) (.string q)) : Sem Value).run P w = .ok v w := by
      cases op <;> first
        | exact hb.elim
        | (refine ⟨_, rfl, rfl, fun w => ?_⟩; simp [eqGuard, binOp, Op.stringOp]; done)
    obtain ⟨v, hp, hv, hr⟩ := key
    rw [hv]
    refine Good.value (v := v) (w' := w) ?_ vb rb (h.put o.dst hd _ _ (lit_fits hp))
    simp only [execOp, ho, vx, vy]
    rw [Sem.run_bind, hr w]
    rfl
  · exact hb.elim

theorem good_un (op : UnOp) (T : TypeId) (x : Operand) (ho : o.op = .unOp op T x) (hb : unO op (s.ev x)) : Good P ok0 w0 N o a w (s.put o.dst (unV op (s.ev x))) := by
  have hx := h.ev x
  unfold unO at hb
  split at hb
  · rename_i b e1
    rw [e1] at hx ⊢
    have vx := lit_of hx
    cases op <;> first
      | exact hb.elim
      | (refine Good.value (v := .bool (!b)) (w' := w) ?_ vb rb (h.put o.dst hd _ _ (lit_fits rfl)); simp [execOp, ho, vx, Op.unary]; done)
  · rename_i k n e1
    rw [e1] at hx ⊢
    have vx := lit_of hx
    cases op <;> first
      | exact hb.elim
      | (refine Good.value (v := .int k (k.wrap (0 - n))) (w' := w) ?_ vb rb (h.put o.dst hd _ _ (lit_fits rfl)); simp [execOp, ho, vx, Op.unary, Op.intArith]; done)
  · exact hb.elim

theorem good_conv (src T : TypeId) (x : Operand) (ho : o.op = .convert src T x) (hb : (P.underlying src).isSome = true ∧ cvO (tint P T) (s.ev x)) : Good P ok0 w0 N o a w (s.put o.dst (cvV (tint P T) (s.ev x))) := by
  obtain ⟨hs, hb⟩ := hb
  have hx := h.ev x
  unfold cvO at hb
  split at hb
  · rename_i k k' n e1 e2
    rw [e2] at hx ⊢
    rw [e1]
    have vx := lit_of hx
    have hu : P.underlying T = some (.int k) := by
      unfold tint at e1
      split at e1
      · cases e1; assumption
      · cases e1
    obtain ⟨d, hd'⟩ := Option.isSome_iff_exists.mp hs
    refine Good.value (v := .int k (k.wrap n)) (w' := w) ?_ vb rb (h.put o.dst hd _ _ (lit_fits rfl))
    simp [execOp, ho, vx, convert, run_underlying hd', run_underlying hu, Conv.intToInt]
  · exact hb.elim

theorem good_ext (x : Operand) (j : Nat) (ho : o.op = .extract x j) (hb : extO (s.ev x) j) : Good P ok0 w0 N o a w (s.put o.dst (extV (s.ev x) j)) := by
  have hx := h.ev x
  cases hv : s.ev x with
  | tup rs =>
    rw [hv] at hx hb
    obtain ⟨us, e, hf⟩ := hx
    obtain ⟨u, hu, hr⟩ := hf.at_ (List.getElem?_eq_getElem hb)
    have hj : rs[j]? = some rs[j] := List.getElem?_eq_getElem hb
    refine Good.value (v := u) (w' := w) ?_ vb rb (h.put o.dst hd _ _ ?_)
    · simp [execOp, ho, e, Instr.extract, hu]
    · simp only [extV, hj]
      cases hrj : rs[j] with
      | one d => rw [hrj] at hr; exact ⟨hr, Rep.one hr⟩
      | agg ds =>
        rw [hrj] at hr
        obtain ⟨us', e', hf'⟩ := hr
        refine ⟨us', e', ⟨by simp [hf'.1], fun i v c hv hc => ?_⟩, fun v hv => ?_⟩
        · rw [List.getElem?_map] at hc
          cases hd' : ds[i]? with
          | none => rw [hd'] at hc; simp at hc
          | some d => rw [hd'] at hc; simp at hc; subst hc; exact hf'.2 i v d hv hd'
        · obtain ⟨i, hi⟩ := List.getElem?_of_mem hv
          have hlt : i < ds.length := by rw [← hf'.1]; exact (List.getElem?_eq_some_iff.1 hi).1
          exact (hf'.2 i v _ hi (List.getElem?_eq_getElem hlt)).one
  | _ => rw [hv] at hb; exact hb.elim
end
end Go.Proofs.Ythhaoojgfbofnaa.E
