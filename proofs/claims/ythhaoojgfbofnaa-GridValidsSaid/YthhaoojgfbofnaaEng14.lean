/- Regions in any order, code, functions; no condition. -/
import Derived.Test.YthhaoojgfbofnaaEng13
set_option linter.unusedSimpArgs false
set_option linter.unusedVariables false
namespace Go.Proofs.Ythhaoojgfbofnaa.E
open Go.RowKit

/-! ### what comes before what -/
def maskOf (acc : List Nat) (o : Oper) : Nat := o.after.toList.foldl (fun s e => if Region.binds .any e then s ||| 2 ^ e.on ||| acc.getD e.on 0 else s) 0
def masksGo : List Oper → List Nat → List Nat
  | [], acc => acc
  | o :: os, acc => masksGo os (acc ++ [maskOf acc o])
def masks (ops : Array Oper) : List Nat := masksGo ops.toList []

/-- what has been carried out has its predecessors carried out -/
def Closed (ops : Array Oper) (L : Nat → Bool) : Prop := ∀ k o, ops[k]? = some o → L k = true → ∀ e ∈ o.after.toList, Region.binds .any e = true → L e.on = true

theorem foldl_mask (acc : List Nat) (L : Nat → Bool) : ∀ (es : List Edge) (s0 : Nat), (∀ j, s0.testBit j = true → L j = true) → (∀ e ∈ es, Region.binds .any e = true → L e.on = true ∧ ∀ j, (acc.getD e.on 0).testBit j = true → L j = true) →
    ∀ j, (es.foldl (fun s e => if Region.binds .any e then s ||| 2 ^ e.on ||| acc.getD e.on 0 else s) s0).testBit j = true → L j = true
  | [], s0, h0, _, j, hj => h0 j hj
  | e :: es, s0, h0, he, j, hj => by
    refine foldl_mask acc L es _ (fun j hj => ?_) (fun e' he' => he e' (by simp [he'])) j hj
    simp only at hj
    by_cases hb : Region.binds .any e = true
    · rw [if_pos hb] at hj
      obtain ⟨h1, h2⟩ := he e (by simp) hb
      simp only [Nat.testBit_or, Bool.or_eq_true] at hj
      rcases hj with (hj | hj) | hj
      · exact h0 j hj
      · rw [Nat.testBit_two_pow] at hj
        have : e.on = j := by simpa using hj
        rw [← this]; exact h1
      · exact h2 j hj
    · rw [if_neg hb] at hj
      exact h0 j hj

theorem masksGo_spec (ops : Array Oper) (L : Nat → Bool) (hL : Closed ops L) : ∀ (rest done : List Oper) (acc : List Nat), ops.toList = done ++ rest → acc.length = done.length →
    (∀ i o, i < done.length → ops[i]? = some o → (∀ e ∈ o.after.toList, Region.binds .any e = true → L e.on = true) → ∀ j, (acc.getD i 0).testBit j = true → L j = true) →
    ∀ i o, ops[i]? = some o → (∀ e ∈ o.after.toList, Region.binds .any e = true → L e.on = true) → ∀ j, ((masksGo rest acc).getD i 0).testBit j = true → L j = true
  | [], done, acc, hd, hl, h, i, o, ho, he, j, hj => by
    refine h i o ?_ ho he j hj
    have := (Array.getElem?_eq_some_iff.1 ho).1
    have h2 : ops.size = done.length := by rw [← Array.length_toList, hd]; simp
    omega
  | o0 :: rest, done, acc, hd, hl, h, i, o, ho, he, j, hj => by
    refine masksGo_spec ops L hL rest (done ++ [o0]) (acc ++ [maskOf acc o0]) (by rw [hd]; simp) (by simp [hl]) ?_ i o ho he j hj
    intro i o hi ho he j hj
    by_cases hlt : i < done.length
    · rw [List.getD_eq_getElem?_getD, List.getElem?_append_left (by omega), ← List.getD_eq_getElem?_getD] at hj
      exact h i o hlt ho he j hj
    · have hi' : i = done.length := by simp at hi; omega
      subst hi'
      have ho0 : ops[done.length]? = some o0 := by
        rw [← Array.getElem?_toList, hd]
        simp
      have e0 : o = o0 := by rw [ho] at ho0; exact Option.some.inj ho0
      subst e0
      rw [List.getD_eq_getElem?_getD, List.getElem?_append_right (by omega), hl, Nat.sub_self] at hj
      simp only [List.getElem?_cons_zero, Option.getD_some] at hj
      unfold maskOf at hj
      refine foldl_mask acc L o.after.toList 0 (fun j hj => by simp at hj) (fun e hm hb => ⟨he e hm hb, fun j hj => ?_⟩) j hj
      -- the mask of the predecessor
      by_cases hk : e.on < done.length
      · have hlt2 : e.on < ops.size := by rw [← Array.length_toList, hd]; simp; omega
        have hoe : ops[e.on]? = some ops[e.on] := Array.getElem?_eq_getElem hlt2
        exact h e.on _ hk hoe (hL e.on _ hoe (he e hm hb)) j hj
      · rw [List.getD_eq_getElem?_getD, List.getElem?_eq_none (by omega)] at hj
        simp at hj

def drawOK (ops : Array Oper) : Bool :=
  let ms := masks ops
  (List.range ops.size).all fun i =>
    ((ops[i]?).map fun o => o.after.toList.all fun e => !Region.binds .any e || decide (e.on < i)).getD true &&
    (List.range i).all fun j => (ms.getD i 0).testBit j || indep (ao ops j) (ao ops i)
def dstOK (N : Nat) (ops : Array Oper) : Bool := ops.toList.all fun o => match o.dst with
  | some d => decide (d < N)
  | none => true
theorem dstOK_spec {N : Nat} {ops : Array Oper} (h : dstOK N ops = true) : ∀ o ∈ ops, ∀ d, o.dst = some d → d < N := fun o ho d hd => by
  unfold dstOK at h
  have := List.all_eq_true.1 h o (by simpa using ho)
  rw [hd] at this
  simpa using this

def remL (n : Nat) (L : Array Bool) : List Nat := (List.range n).filter fun i => !L.getD i true
theorem remL_mem {n : Nat} {L : Array Bool} {i : Nat} (h : i ∈ remL n L) : i < n ∧ L.getD i true = false := by
  obtain ⟨h1, h2⟩ := List.mem_filter.1 h
  exact ⟨List.mem_range.1 h1, by revert h2; cases L.getD i true <;> simp⟩
theorem getD_eq (L : Array Bool) {i : Nat} (h : i < L.size) (d d' : Bool) : L.getD i d = L.getD i d' := by simp [Array.getD, h]

section
variable {ok0 : Nat → Prop} {w0 w w' : World} {N : Nat} {vb : Nat × Nat → Nat} {rb : Nat × Nat → Value} {s s' : AS} {a : Act} {P : Program}

theorem any_sound (ops : Array Oper) (hN : ∀ o ∈ ops, ∀ d, o.dst = some d → d < N) (hD : drawOK ops = true) {K : AS → Prop} {Q : Exit → Act → World → Prop} (hQ : ∀ vb rb s a w, Sat ok0 w0 N vb rb s a w → K s → Q .normal a w) :
    ∀ (fuel : Nat) (L : Array Bool), L.size = ops.size → (remL ops.size L).length ≤ fuel → Closed ops (fun k => L.getD k false) → ∀ (vb : Nat × Nat → Nat) (rb : Nat × Nat → Value) (s : AS) (a : Act) (w : World), Sat ok0 w0 N vb rb s a w →
      aops P ((remL ops.size L).map (ao ops)) K s → wpAny P .any ops Q fuel L a w := by
  have hsub : ∀ (L : Array Bool) (i : Nat), i ∈ Region.ready .any ops L → i ∈ remL ops.size L ∧ ∀ o, ops[i]? = some o → ∀ e ∈ o.after.toList, Region.binds .any e = true → L.getD e.on false = true := fun L i hi => by
    unfold Region.ready at hi
    simp only [List.mem_filter, List.mem_range, Bool.and_eq_true, Bool.not_eq_true'] at hi
    obtain ⟨hlt, h1, h2⟩ := hi
    refine ⟨List.mem_filter.2 ⟨List.mem_range.2 hlt, by rw [h1]; rfl⟩, fun o ho e he hb => ?_⟩
    rw [ho] at h2
    simp only [Option.map_some, Option.getD_some] at h2
    have := Array.all_eq_true_iff_forall_mem.1 h2 e (by simpa using he)
    simpa [hb] using this
  intro fuel
  induction fuel with
  | zero =>
    intro L hLs hlen hC vb rb s a w h hk
    have hnil : remL ops.size L = [] := List.eq_nil_of_length_eq_zero (by omega)
    rw [hnil] at hk
    refine ⟨?_, hQ vb rb s a w h hk⟩
    cases hr : Region.ready .any ops L with
    | nil => rfl
    | cons i l =>
      have := (hsub L i (by rw [hr]; simp)).1
      rw [hnil] at this; simp at this
  | succ fuel ih =>
    intro L hLs hlen hC vb rb s a w h hk
    refine ⟨fun hr => ?_, fun i hi => ?_⟩
    · -- the first one that is left is ready
      cases hrem : remL ops.size L with
      | nil => rw [hrem] at hk; exact hQ vb rb s a w h hk
      | cons i l =>
        exfalso
        have him : i ∈ remL ops.size L := by rw [hrem]; simp
        have him' : i < ops.size ∧ L.getD i true = false := remL_mem him
        have hmin : ∀ j, j < i → L.getD j false = true := fun j hj => by
          by_cases hjL : L.getD j true = true
          · have hjs : j < L.size := by have := him'.1; omega
            rw [getD_eq L hjs false true]; exact hjL
          · exfalso
            have hjm : j ∈ remL ops.size L := by
              have : L.getD j true = false := by revert hjL; cases L.getD j true <;> simp
              exact List.mem_filter.2 ⟨List.mem_range.2 (by have := him'.1; omega), by rw [this]; rfl⟩
            rw [hrem] at hjm
            have hs : (i :: l).Pairwise (· < ·) := by
              rw [← hrem]
              exact List.Pairwise.filter _ List.pairwise_lt_range
            rcases List.mem_cons.1 hjm with e | hm
            · omega
            · have := (List.pairwise_cons.1 hs).1 j hm
              omega
        have ho : ops[i]? = some ops[i] := Array.getElem?_eq_getElem him'.1
        have hready : i ∈ Region.ready .any ops L := by
          unfold Region.ready
          simp only [List.mem_filter, List.mem_range, Bool.and_eq_true, Bool.not_eq_true']
          refine ⟨him'.1, him'.2, ?_⟩
          rw [ho]
          simp only [Option.map_some, Option.getD_some]
          refine Array.all_eq_true_iff_forall_mem.2 fun e he => ?_
          by_cases hb : Region.binds .any e = true
          · have hback : e.on < i := by
              have h1 := List.all_eq_true.1 hD i (by simpa using him'.1)
              simp only [Bool.and_eq_true] at h1
              have h2 := h1.1
              rw [ho] at h2
              simp only [Option.map_some, Option.getD_some] at h2
              have h3 := List.all_eq_true.1 h2 e (by simpa using he)
              simpa [hb] using h3
            simp only [hb, Bool.not_true, Bool.false_or]
            exact hmin e.on hback
          · simp [hb]
        rw [hr] at hready
        simp at hready
    · obtain ⟨him, hpre⟩ := hsub L i hi
      have him' : i < ops.size ∧ L.getD i true = false := remL_mem him
      obtain ⟨pre, post, hsplit⟩ := List.append_of_mem him
      have hpw : (pre ++ i :: post).Pairwise (· < ·) := by
        rw [← hsplit]
        exact List.Pairwise.filter _ List.pairwise_lt_range
      have hprelt : ∀ j ∈ pre, j < i := fun j hj => (List.pairwise_append.1 hpw).2.2 j hj i (by simp)
      have hpostgt : ∀ j ∈ post, i < j := fun j hj => (List.pairwise_cons.1 (List.pairwise_append.1 hpw).2.1).1 j hj
      have ho : ops[i]? = some ops[i] := Array.getElem?_eq_getElem him'.1
      have hind : ∀ j ∈ pre, indep (ao ops j) (ao ops i) = true := fun j hj => by
        have hjr : j ∈ remL ops.size L := by rw [hsplit]; simp [hj]
        have hjr' : j < ops.size ∧ L.getD j true = false := remL_mem hjr
        have h1 := List.all_eq_true.1 hD i (by simpa using him'.1)
        simp only [Bool.and_eq_true] at h1
        have h2 := List.all_eq_true.1 h1.2 j (by simpa using hprelt j hj)
        simp only [Bool.or_eq_true] at h2
        rcases h2 with h2 | h2
        · exfalso
          have := masksGo_spec ops (fun k => L.getD k false) hC ops.toList [] [] (by simp) rfl (fun i o hi => by simp at hi) i _ ho (hpre _ ho) j h2
          have hjs : j < L.size := by have := hjr'.1; omega
          rw [getD_eq L hjs false true, hjr'.2] at this
          cases this
        · exact h2
      rw [hsplit, List.map_append, List.map_cons] at hk
      obtain ⟨rs, hb, hk⟩ := front (P := P) ops hN i (post.map (ao ops)) pre (fun j hj => by have := hprelt j hj; omega) hind vb rb s a w h hk
      refine step_sound (P := P) h ops i him'.1 hN rs hb fun vb' rb' a' w' h' => ?_
      have hrem' : remL ops.size (L.setIfInBounds i true) = pre ++ post := by
        have hfil : ∀ l : List Nat, (∀ j ∈ l, j ≠ i) → l.filter (fun j => !(L.setIfInBounds i true).getD j true) = l.filter (fun j => !L.getD j true) := fun l hl => by
          apply List.filter_congr
          intro j hj
          have hne := hl j hj
          have : (L.setIfInBounds i true).getD j true = L.getD j true := by
            simp [Array.getD_eq_getD_getElem?, Ne.symm hne]
          rw [this]
        have hall : ∀ l : List Nat, l.Pairwise (· < ·) → i ∈ l → ∃ p q, l = p ++ i :: q ∧ (∀ j ∈ p, j ≠ i) ∧ (∀ j ∈ q, j ≠ i) := fun l hl hm => by
          obtain ⟨p, q, e⟩ := List.append_of_mem hm
          rw [e] at hl
          exact ⟨p, q, e, fun j hj => by have := (List.pairwise_append.1 hl).2.2 j hj i (by simp); omega, fun j hj => by have := (List.pairwise_cons.1 (List.pairwise_append.1 hl).2.1).1 j hj; omega⟩
        obtain ⟨p, q, e, hp, hq⟩ := hall (List.range ops.size) List.pairwise_lt_range (by simpa using him'.1)
        have hLi : (L.setIfInBounds i true).getD i true = true := by
          have : i < L.size := by have := him'.1; omega
          simp [Array.getD_eq_getD_getElem?, this]
        have e1 : remL ops.size L = p.filter (fun j => !L.getD j true) ++ i :: q.filter (fun j => !L.getD j true) := by
          unfold remL
          rw [e, List.filter_append, List.filter_cons, if_pos (by rw [him'.2]; rfl)]
        have e2 : remL ops.size (L.setIfInBounds i true) = p.filter (fun j => !L.getD j true) ++ q.filter (fun j => !L.getD j true) := by
          unfold remL
          rw [e, List.filter_append, List.filter_cons, if_neg (by simp [hLi]), hfil p hp, hfil q hq]
        rw [hsplit] at e1
        have hpne : ∀ j ∈ pre, j ≠ i := fun j hj => by have := hprelt j hj; omega
        have e3 : pre = p.filter (fun j => !L.getD j true) ∧ post = q.filter (fun j => !L.getD j true) := by
          have hp' : ∀ j ∈ p.filter (fun j => !L.getD j true), j ≠ i := fun j hj => hp j (List.mem_filter.1 hj).1
          have key : ∀ (x y u v : List Nat), (∀ j ∈ x, j ≠ i) → (∀ j ∈ u, j ≠ i) → x ++ i :: y = u ++ i :: v → x = u ∧ y = v := by
            intro x
            induction x with
            | nil =>
              intro y u v _ hu e
              cases u with
              | nil => simp at e; exact ⟨rfl, e⟩
              | cons b u => simp at e; exact absurd e.1.symm (hu b (by simp))
            | cons c x ihx =>
              intro y u v hx hu e
              cases u with
              | nil => simp at e; exact absurd e.1 (hx c (by simp))
              | cons b u =>
                simp at e
                obtain ⟨e1, e2⟩ := ihx y u v (fun j hj => hx j (by simp [hj])) (fun j hj => hu j (by simp [hj])) e.2
                exact ⟨by rw [e.1, e1], e2⟩
          exact key _ _ _ _ hpne hp' e1
        rw [e2, ← e3.1, ← e3.2]
      refine ih (L.setIfInBounds i true) (by simp [hLs]) ?_ ?_ vb' rb' _ a' w' h' ?_
      · rw [hrem']
        have : (remL ops.size L).length = (pre ++ post).length + 1 := by rw [hsplit]; simp; omega
        omega
      · intro k o hok hk e he hb
        have hset : ∀ q, L.getD q false = true → (L.setIfInBounds i true).getD q false = true := fun q hq => by
          by_cases e5 : q = i
          · have : i < L.size := by have := him'.1; omega
            rw [e5]; simp [Array.getD_eq_getD_getElem?, this]
          · have : (L.setIfInBounds i true).getD q false = L.getD q false := by
              simp [Array.getD_eq_getD_getElem?, Ne.symm e5]
            rw [this]; exact hq
        by_cases e5 : k = i
        · rw [e5] at hok
          exact hset _ (hpre o hok e he hb)
        · have : (L.setIfInBounds i true).getD k false = L.getD k false := by
            simp [Array.getD_eq_getD_getElem?, Ne.symm e5]
          simp only [this] at hk
          exact hset _ (hC k o hok hk e he hb)
      · rw [hrem', List.map_append]; exact hk
end
end Go.Proofs.Ythhaoojgfbofnaa.E
