/- Arguments of the rows, opened as data; no condition. -/
import Derived.Test.YthhaoojgfbofnaaEng17
import Derived.WalkKit
import Derived.ProofKit
import Derived.OpenShut
import Derived.ShutString
import Derived.ChangeOld
import Derived.Below
import Derived.SizedLaws
import Derived.Carry
import Derived.Deep.Slices
import Derived.ChangeSame
set_option linter.unusedSimpArgs false
set_option linter.unusedVariables false
namespace Go.Proofs.Ythhaoojgfbofnaa.E
open Go.RowKit Go.ChangeShapes Go.WideShapes Go.Deep

section
variable {H : Type} {enc : TypeId × Value → H} {P : Program} {w : World} {base : Nat} {sp : Nat → Bool} {hd : Bool}

theorem cell_block {a : Addr} {j : Nat} {u : Value} (h : w.cell? (a.add j) = some u) : a.block < w.heap.size := by
  have e := block_of_add a j
  rcases Nat.lt_or_ge a.block w.heap.size with h1 | h1
  · exact h1
  · exfalso
    unfold World.cell? at h
    rw [e, Array.getElem?_eq_none h1] at h
    simp at h

theorem rd_slice {α : Type} [Inhabited α] (g : α → Dt) (Good : α → Prop) {t e : TypeId} (ht : P.underlying t = some (.slice e)) (hc : P.cellsOf e = 1)
    (hel : ∀ n V D Pl, DataW.trod enc P w base sp hd n e [V] = some (D, Pl) → ∃ x, Good x ∧ Rep w (fun k => k < w.heap.size) (g x) V) {fuel : Nat} {cs : List Value} {y : DataW H × List MemPlace}
    (h : DataW.trod enc P w base sp hd fuel t cs = some y) : ∃ l : List α, (∀ x ∈ l, Good x) ∧ ∃ v, cs = [v] ∧ Rep w (fun k => k < w.heap.size) (rowD (fun x => [g x]) l) v := by
  rcases open_slice1 ht hc h with ⟨rfl, _⟩ | ⟨a, len, cap, m, n, V, D, Pl, rfl, _, hl, _, hm, _, hx⟩
  · exact ⟨[], fun x hx => by simp at hx, _, rfl, .sl none 0 0 [] [] rfl (Nat.le_refl _) (fun j u hj => by simp at hj) (fun j u d hj => by simp at hj)⟩
  · have hle : len ≤ m := by rw [hm]; split <;> omega
    obtain ⟨X, hX⟩ := choose_lt (n := len) (α := α) (p := fun i x => Good x ∧ Rep w (fun k => k < w.heap.size) (g x) (V i)) (fun i hi => hel n _ _ _ (hx i (by omega)).2)
    refine ⟨(List.range len).map X, fun x hxm => ?_, _, rfl, ?_⟩
    · obtain ⟨i, hi, rfl⟩ := List.mem_map.1 hxm
      exact (hX i (by simpa using hi)).1
    · have hr : rowD (fun x => [g x]) ((List.range len).map X) = .sl len ((List.range len).map fun i => g (X i)) := by
        unfold rowD rowC
        congr 1
        · simp
        · rw [List.flatMap_map]
          induction List.range len with
          | nil => rfl
          | cons i l ih => simp only [List.flatMap_cons, List.map_cons, ih]; rfl
      rw [hr]
      refine .sl (some a) len cap _ ((List.range len).map V) (by simp) hl (fun j u hj => ?_) (fun j u d hj hd' => ?_)
      · rw [List.getElem?_map] at hj
        cases hq : (List.range len)[j]? with
        | none => rw [hq] at hj; simp at hj
        | some i =>
          rw [hq] at hj
          obtain ⟨hlt, hi⟩ := List.getElem?_eq_some_iff.1 hq
          simp only [List.length_range] at hlt
          simp only [List.getElem_range] at hi
          subst hi
          simp only [Option.map_some, Option.some.injEq] at hj
          subst hj
          have := (hx j (by omega)).1
          exact ⟨a, rfl, cell_block this, this⟩
      · rw [List.getElem?_map] at hj hd'
        cases hq : (List.range len)[j]? with
        | none => rw [hq] at hj; simp at hj
        | some i =>
          rw [hq] at hj hd'
          obtain ⟨hlt, hi⟩ := List.getElem?_eq_some_iff.1 hq
          simp only [List.length_range] at hlt
          simp only [Option.map_some, Option.some.injEq] at hj hd'
          subst hj; subst hd'
          have : i < len := by simp at hi; omega
          exact (hX i this).2

theorem rd_ints {t e : TypeId} (ht : P.underlying t = some (.slice e)) (he : P.underlying e = some (.int .i64)) (hc : P.cellsOf e = 1) {fuel : Nat} {cs : List Value} {y : DataW H × List MemPlace}
    (h : DataW.trod enc P w base sp hd fuel t cs = some y) : ∃ l : List Int, (∀ x ∈ l, -9223372036854775808 ≤ x ∧ x ≤ 9223372036854775807) ∧ ∃ v, cs = [v] ∧ Rep w (fun k => k < w.heap.size) (intsD l) v :=
  rd_slice (fun n => .lit (.int .i64 n)) (fun x => -9223372036854775808 ≤ x ∧ x ≤ 9223372036854775807) ht hc (fun n V D Pl hV => by
    obtain ⟨x, hx, _, hw⟩ := DataW.trod_int he hV
    cases hx
    exact ⟨x, bounds_i64 hw, .lit _ rfl⟩) h
theorem rd_nat {t e : TypeId} (ht : P.underlying t = some (.slice e)) (he : P.underlying e = some (.int .u32)) (hc : P.cellsOf e = 1) {fuel : Nat} {cs : List Value} {y : DataW H × List MemPlace}
    (h : DataW.trod enc P w base sp hd fuel t cs = some y) : ∃ l : List Int, (∀ x ∈ l, 0 ≤ x ∧ x < 4294967296) ∧ ∃ v, cs = [v] ∧ Rep w (fun k => k < w.heap.size) (natD l) v :=
  rd_slice (fun n => .lit (.int .u32 n)) (fun x => 0 ≤ x ∧ x < 4294967296) ht hc (fun n V D Pl hV => by
    obtain ⟨x, hx, _, hw⟩ := DataW.trod_int he hV
    cases hx
    have := bounds_u32 hw
    exact ⟨x, ⟨this.1, by omega⟩, .lit _ rfl⟩) h
theorem rd_nats {t e q : TypeId} (ht : P.underlying t = some (.slice e)) (he : P.underlying e = some (.slice q)) (hq : P.underlying q = some (.int .u32)) (hc : P.cellsOf e = 1) (hc' : P.cellsOf q = 1) {fuel : Nat} {cs : List Value} {y : DataW H × List MemPlace}
    (h : DataW.trod enc P w base sp hd fuel t cs = some y) : ∃ l : List (List Int), (∀ x ∈ l, ∀ z ∈ x, 0 ≤ z ∧ z < 4294967296) ∧ ∃ v, cs = [v] ∧ Rep w (fun k => k < w.heap.size) (natsD l) v :=
  rd_slice natD (fun x => ∀ z ∈ x, 0 ≤ z ∧ z < 4294967296) ht hc (fun n V D Pl hV => by
    obtain ⟨x, hx, v, hv, hr⟩ := rd_nat he hq hc' hV
    cases hv
    exact ⟨x, hx, hr⟩) h

/-- a struct of two rows of numbers -/
theorem rd_grid {t t1 e : TypeId} {f0 f1 : Field} (ht : P.underlying t = some (.struct #[f0, f1])) (h0 : f0.type = t1 ∧ f0.offset = 0) (h1 : f1.type = t1 ∧ f1.offset = 1) (hct : P.cellsOf t = 2) (hc1 : P.cellsOf t1 = 1)
    (hs : P.underlying t1 = some (.slice e)) (he : P.underlying e = some (.int .i64)) (hc : P.cellsOf e = 1) {r : Reach} {b0 : Nat} {v : Value} {d : DataW H} {ps : List MemPlace} (hval : Value.okWide P w r b0 t v) (h : DataW.Trod enc P w base sp hd t v d ps) :
    ∃ p q : List Int, (∀ x ∈ p, -9223372036854775808 ≤ x ∧ x ≤ 9223372036854775807) ∧ (∀ x ∈ q, -9223372036854775808 ≤ x ∧ x ≤ 9223372036854775807) ∧ MR w (fun k => k < w.heap.size) (.agg [intsD p, intsD q]) v := by
  obtain ⟨cs, rfl, hsz⟩ := okWide_struct ht hval
  obtain ⟨fuel, hf⟩ := h
  have hcs : (Value.agg cs).cells.toList = cs.toList := rfl
  rw [hcs] at hf
  obtain ⟨y0, y1, n, _, hl, k0, k1⟩ := trod_struct2 ht hf
  rw [h0.1, h0.2, hc1] at k0
  rw [h1.1, h1.2, hc1] at k1
  obtain ⟨p, hp, v0, e0, r0⟩ := rd_ints hs he hc k0
  obtain ⟨q, hq, v1, e1, r1⟩ := rd_ints hs he hc k1
  refine ⟨p, q, hp, hq, cs.toList, by simp, ?_⟩
  rw [hct] at hl
  match hcl : cs.toList, hl with
  | [u0, u1], _ =>
    rw [hcl] at e0 e1
    simp at e0 e1
    subst e0; subst e1
    exact Fits.cons r0 (Fits.cons r1 (Fits.nil _))
end

/-- from a contract to the call: a function that gives one boolean -/
theorem calls_bool {P : Program} {f : Nat} {args : List RV} {b : Bool} (h : AFun P f args [.one (.lit (.bool b))]) (w : World) (vs : List Value) (hf : Fits (MR w (fun k => k < w.heap.size)) args vs) :
    Calls P f vs.toArray w fun e w' => e = .returned (.bool b) ∧ Below w.heap.size w w' := by
  refine (h.2 _ w vs (fun k hk => hk) hf).mono fun e w' ⟨v, he, hm, hb⟩ => ?_
  have : v = .bool b := by
    cases hm with
    | lit v hv => rfl
  rw [he, this]
  exact ⟨rfl, hb⟩
end Go.Proofs.Ythhaoojgfbofnaa.E
