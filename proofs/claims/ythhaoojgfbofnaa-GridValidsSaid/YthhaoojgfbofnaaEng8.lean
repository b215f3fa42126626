/- Literals, stores, makes, appends, copies, calls: the machine does what the abstract state says; no condition. -/
import Derived.Test.YthhaoojgfbofnaaEng7
set_option linter.unusedSimpArgs false
set_option linter.unusedVariables false
namespace Go.Proofs.Ythhaoojgfbofnaa.E
open Go.RowKit

theorem foldl_set (off : Nat) : ∀ (l : List Value) (k : Nat) (A : Array Value), off + k + l.length ≤ A.size →
    ((l.zipIdx k).foldl (fun (cs : Array Value) (p : Value × Nat) => cs.setIfInBounds (off + p.2) p.1) A).toList = A.toList.take (off + k) ++ l ++ A.toList.drop (off + k + l.length)
  | [], k, A, _ => by simp
  | v :: l, k, A, hl => by
    simp only [List.length_cons] at hl
    rw [List.zipIdx_cons, List.foldl_cons, foldl_set off l (k + 1) _ (by simp; omega)]
    have hs : (A.setIfInBounds (off + k) v).toList = A.toList.set (off + k) v := by simp
    rw [hs]
    have e1 : (A.toList.set (off + k) v).take (off + (k + 1)) = A.toList.take (off + k) ++ [v] := by
      rw [show off + (k + 1) = off + k + 1 from by omega, List.take_succ_eq_append_getElem (by simp; omega), List.take_set_of_le (by omega)]
      simp
    have e2 : (A.toList.set (off + k) v).drop (off + (k + 1) + l.length) = A.toList.drop (off + k + (v :: l).length) := by
      rw [List.drop_set_of_lt (by omega)]
      simp only [List.length_cons]; congr 1; omega
    rw [e1, e2]
    simp

theorem made_flat (zs : Array Value) (sz : Nat) (hz : zs.size = sz) (h0 : 0 < sz) : ∀ n, (madeCells zs (n * sz)).toList = (List.replicate n zs.toList).flatten
  | 0 => by simp [madeCells]
  | n + 1 => by
    have ih := made_flat zs sz hz h0 n
    simp only [madeCells, Array.toList_map, Array.toList_range] at ih ⊢
    rw [List.replicate_succ, List.flatten_cons, ← ih, show (n + 1) * sz = sz + n * sz by rw [Nat.add_mul]; omega, List.range_add, List.map_append]
    congr 1
    · apply List.ext_getElem?
      intro j
      rw [List.getElem?_map]
      by_cases hj : j < sz
      · rw [List.getElem?_range hj]
        simp only [Option.map_some, hz, Nat.mod_eq_of_lt hj]
        have hj' : j < zs.size := by omega
        simp [hj']
      · rw [List.getElem?_eq_none (by simp; omega), List.getElem?_eq_none (by simp; omega)]
        rfl
    · rw [List.map_map]
      apply List.map_congr_left
      intro j _
      simp [hz]

section
variable {ok0 : Nat → Prop} {w0 w w' : World} {N : Nat} {vb : Nat × Nat → Nat} {rb : Nat × Nat → Value} {s s' : AS} {a : Act} {P : Program}

theorem Sat.cellsOf (h : Sat ok0 w0 N vb rb s a w) {x : Operand} {cs : List Ce} (hc : cellsOf (s.ev x) = some cs) :
    Fits (MC w (okS ok0 w0.heap.size vb rb s w) rb s) cs (a.eval x).cells.toList ∧ ∀ u ∈ (a.eval x).cells.toList, u.oneCell' = true := by
  have hx := h.ev x
  unfold E.cellsOf at hc
  split at hc
  · rename_i c e
    cases hc
    rw [e] at hx
    obtain ⟨h1, h2⟩ := hx
    have : (a.eval x).cells = #[a.eval x] := by
      cases hv : a.eval x <;> first | rfl | (rw [hv] at h2; simp [Value.oneCell'] at h2)
    rw [this]
    exact ⟨Fits.cons h1 (Fits.nil _), fun u hu => by simp at hu; rw [hu]; exact h2⟩
  · rename_i cs' e
    cases hc
    rw [e] at hx
    obtain ⟨us, e2, hf, h1⟩ := hx
    rw [e2]
    exact ⟨by simpa [Value.cells] using hf, by simpa [Value.cells] using h1⟩
  · cases hc

theorem Sat.fill (h : Sat ok0 w0 N vb rb s a w) (place : Nat → Option (Nat × Nat)) : ∀ (ps : List (Nat × Operand)) (cs cs' : List Ce) (A : Array Value), Fits (MC w (okS ok0 w0.heap.size vb rb s w) rb s) cs A.toList → (∀ u ∈ A.toList, u.oneCell' = true) →
    fillA place cs (pairs s ps) = some cs' → ∃ A' : Array Value, Instr.fill place A (ps.map fun p => (p.1, a.eval p.2)) = some A' ∧ Fits (MC w (okS ok0 w0.heap.size vb rb s w) rb s) cs' A'.toList ∧ ∀ u ∈ A'.toList, u.oneCell' = true
  | [], cs, cs', A, hf, h1, hp => by
    simp only [pairs, fillA, Option.some.injEq] at hp
    subst hp
    exact ⟨A, rfl, hf, h1⟩
  | (i, x) :: ps, cs, cs', A, hf, h1, hp => by
    simp only [pairs, fillA] at hp
    split at hp
    · rename_i off size cx hpl hcx
      split at hp
      · rename_i hc
        obtain ⟨hfx, h1x⟩ := h.cellsOf hcx
        have hsz : (a.eval x).cells.size = size := by have := hfx.1; simp at this; omega
        have hA : A.size = cs.length := by have := hf.1; simpa using this
        have hfold : ((a.eval x).cells.zipIdx.foldl (fun cs (p : Value × Nat) => cs.setIfInBounds (off + p.2) p.1) A).toList = A.toList.take off ++ (a.eval x).cells.toList ++ A.toList.drop (off + size) := by
          rw [← Array.foldl_toList, Array.toList_zipIdx, foldl_set off _ 0 A (by simp; omega)]
          simp [hsz]
        obtain ⟨A', r1, r2, r3⟩ := Sat.fill h place ps _ cs' ((a.eval x).cells.zipIdx.foldl (fun cs (p : Value × Nat) => cs.setIfInBounds (off + p.2) p.1) A)
          (by rw [hfold]; exact ((hf.take off).append hfx).append (hf.drop _)) (by
            rw [hfold]
            intro u hu
            simp only [List.mem_append] at hu
            rcases hu with (hu | hu) | hu
            · exact h1 u (List.mem_of_mem_take hu)
            · exact h1x u hu
            · exact h1 u (List.mem_of_mem_drop hu)) hp
        refine ⟨A', ?_, r2, r3⟩
        simp only [List.map_cons, Instr.fill, hpl, hsz]
        rw [if_neg]
        · exact r1
        · simp only [ne_eq, not_true_eq_false, decide_false, Bool.false_or, decide_eq_true_eq]
          omega
      · cases hp
    · cases hp

theorem zeros_run {T : TypeId} {cs : List Ce} (hz : zeros P T = some cs) : ∃ i z, P.info? T = some i ∧ i.zero = some z ∧ zces z.cells.toList = some cs := by
  unfold zeros at hz
  split at hz
  · rename_i vs hv
    unfold tzero at hv
    split at hv
    · rename_i i hi
      split at hv
      · rename_i z hiz
        cases hv
        exact ⟨i, z, hi, hiz, hz⟩
      · cases hv
    · cases hv
  · cases hz

theorem run_bsl {T e : TypeId} (he : telem P T = some e) (ht : tok P e = true) (n : Nat) (hn : n * tsz P e ≤ 16777216) (pv : Array (Nat × Value)) (zs : Array Value) (hz : n * tsz P e = 0 ∧ zs = #[] ∨ ∃ i z, P.info? e = some i ∧ i.zero = some z ∧ z.cells = zs)
    (A : Array Value) (hA : Instr.fill (fun i => some (i * tsz P e, tsz P e)) (madeCells zs (n * tsz P e)) pv.toList = some A) (w : World) :
    (Instr.buildSlice T n pv).run P w = .ok (.slice (some ⟨w.heap.size, 0, none⟩) n n) (w.alloc (.cells A e)) := by
  have hu : P.underlying T = some (.slice e) := by
    unfold telem at he
    split at he
    · cases he; assumption
    · cases he
  have hroom : ¬ (2 ^ 24 < n * tsz P e) := by omega
  unfold madeCells at hA
  have e1 : (Array.map (fun _ => (default : Value)) (Array.range 0)) = #[] := Array.eq_empty_of_size_eq_zero (by simp)
  rcases hz with ⟨h0, rfl⟩ | ⟨i, z, hi, hiz, rfl⟩
  · rw [h0] at hA
    have e0 : ((Array.range 0).map fun x => (#[] : Array Value)[x % (#[] : Array Value).size]!) = #[] := by simp
    rw [e0] at hA
    simp [Instr.buildSlice, run_underlying hu, run_sizeOf' ht, h0, newRow]
    rw [e1, hA]
    simp
  · by_cases h0 : n * tsz P e = 0
    · rw [h0] at hA
      have e0 : ((Array.range 0).map fun x => z.cells[x % z.cells.size]!) = #[] := by simp
      rw [e0] at hA
      simp [Instr.buildSlice, run_underlying hu, run_sizeOf' ht, h0, newRow]
      rw [e1, hA]
      simp
    · simp [Instr.buildSlice, run_underlying hu, run_sizeOf' ht, hroom, h0, newRow, zeroValue, typeInfo, hi, hiz, hA]

variable (h : Sat ok0 w0 N vb rb s a w) {o : Oper} (hd : ∀ d, o.dst = some d → d < N)
include h hd

theorem good_build (T : TypeId) (parts : Array (Nat × Operand)) (cs cells : List Ce) (ho : o.op = .build T parts) (hz : zeros P T = some cs) (htp : (tplaces P T).isSome = true) (hfi : fillA (tplace P T) cs (pairs s parts.toList) = some cells) :
    Good P ok0 w0 N o a w (s.put o.dst (.agg cells)) := by
  obtain ⟨i, z, hi, hiz, hzc⟩ := zeros_run hz
  obtain ⟨hf, h1⟩ := zces_fits (w := w) (rb := rb) (s := s) (ok := okS ok0 w0.heap.size vb rb s w) hzc
  obtain ⟨A', r1, r2, r3⟩ := h.fill (tplace P T) parts.toList cs cells z.cells hf h1 hfi
  have hb : P.built T (parts.map fun p => (p.1, a.eval p.2)).toList = some A' := by
    rw [Array.toList_map]
    obtain ⟨f, hfp⟩ := Option.isSome_iff_exists.mp htp
    have htf : tplace P T = f := by funext q; simp [tplace, hfp]
    rw [htf] at r1
    unfold tplaces at hfp
    unfold Program.built
    split at hfp
    · rename_i fs hu
      split at hfp
      · rename_i places hpl
        cases hfp
        rw [hi, hu]
        simp only [hiz, hpl]
        exact r1
      · cases hfp
    · rename_i n e hu
      split at hfp
      · rename_i j hj
        cases hfp
        rw [hi, hu]
        simp only [hiz, hj]
        exact r1
      · cases hfp
    · cases hfp
  refine Good.value (v := .agg A') (w' := w) ?_ vb rb (h.put o.dst hd _ _ ⟨A'.toList, by simp, r2, r3⟩)
  have := run_build (P := P) w T (parts.map fun p => (p.1, a.eval p.2)) A' hb
  simp only [execOp, ho]
  rw [Sem.run_bind, this]
  rfl

end
end Go.Proofs.Ythhaoojgfbofnaa.E
