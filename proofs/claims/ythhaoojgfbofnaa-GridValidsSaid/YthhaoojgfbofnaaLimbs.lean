set_option linter.unusedSimpArgs false
set_option linter.unusedVariables false
namespace Go.Proofs.Ythhaoojgfbofnaa.Limbs
/-- the value of limbs of 32 bits, the least significant one first -/
def val : List Int → Int
  | [] => 0
  | x :: xs => x + 4294967296 * val xs
def Lim (l : List Int) : Prop := ∀ x, x ∈ l → 0 ≤ x ∧ x < 4294967296
def Nrm (l : List Int) : Prop := l.getLast? ≠ some 0
def bp (n : Nat) : Int := 4294967296 ^ n
theorem bp_zero : bp 0 = 1 := rfl
theorem bp_succ (n : Nat) : bp (n + 1) = 4294967296 * bp n := by unfold bp; rw [Int.pow_succ]; omega
theorem bp_add (m n : Nat) : bp (m + n) = bp m * bp n := by unfold bp; exact Int.pow_add ..
theorem bp_pos (n : Nat) : 0 < bp n := by unfold bp; exact Int.pow_pos (by omega)
theorem bp_le {m n : Nat} (h : m ≤ n) : bp m ≤ bp n := by
  obtain ⟨k, rfl⟩ := Nat.exists_eq_add_of_le h
  rw [bp_add]
  have h1 := bp_pos m
  have h2 := bp_pos k
  have := Int.mul_le_mul_of_nonneg_left (show (1 : Int) ≤ bp k by omega) (show 0 ≤ bp m by omega)
  omega
theorem bp_lt {m n : Nat} (h : m < n) : bp m < bp n := by
  have h1 := bp_le (show m + 1 ≤ n from h)
  rw [bp_succ] at h1
  have := bp_pos m
  omega
theorem Lim.nil : Lim [] := by intro x h; simp at h
theorem Lim.cons {x : Int} {l : List Int} (h0 : 0 ≤ x) (h1 : x < 4294967296) (h : Lim l) : Lim (x :: l) := by
  intro y hy
  rcases List.mem_cons.1 hy with rfl | hy
  · exact ⟨h0, h1⟩
  · exact h y hy
theorem Lim.head {x : Int} {l : List Int} (h : Lim (x :: l)) : 0 ≤ x ∧ x < 4294967296 := h x (by simp)
theorem Lim.tail {x : Int} {l : List Int} (h : Lim (x :: l)) : Lim l := fun y hy => h y (by simp [hy])
theorem Lim.append {a b : List Int} (ha : Lim a) (hb : Lim b) : Lim (a ++ b) := by
  intro y hy
  rcases List.mem_append.1 hy with h | h
  · exact ha y h
  · exact hb y h
theorem Lim.one {x : Int} (h0 : 0 ≤ x) (h1 : x < 4294967296) : Lim [x] := Lim.cons h0 h1 Lim.nil
theorem Lim.take {l : List Int} (h : Lim l) (n : Nat) : Lim (l.take n) := fun y hy => h y (List.mem_of_mem_take hy)
theorem Lim.drop {l : List Int} (h : Lim l) (n : Nat) : Lim (l.drop n) := fun y hy => h y (List.mem_of_mem_drop hy)
theorem Lim.set {l : List Int} (h : Lim l) (n : Nat) {x : Int} (h0 : 0 ≤ x) (h1 : x < 4294967296) : Lim (l.set n x) := by
  intro y hy
  rcases List.mem_or_eq_of_mem_set hy with h2 | rfl
  · exact h y h2
  · exact ⟨h0, h1⟩
theorem Lim.replicate (n : Nat) : Lim (List.replicate n 0) := by
  intro y hy
  rw [(List.mem_replicate.1 hy).2]
  omega
theorem val_nil : val [] = 0 := rfl
theorem val_cons (x : Int) (l : List Int) : val (x :: l) = x + 4294967296 * val l := rfl
theorem val_append (a b : List Int) : val (a ++ b) = val a + bp a.length * val b := by
  induction a with
  | nil => simp [val, bp_zero]
  | cons x l ih =>
    rw [List.cons_append, val_cons, ih, val_cons, List.length_cons, bp_succ, Int.mul_assoc]
    omega
theorem val_one (x : Int) : val [x] = x := by simp [val]
theorem val_snoc (l : List Int) (x : Int) : val (l ++ [x]) = val l + bp l.length * x := by rw [val_append, val_one]
theorem val_replicate (n : Nat) : val (List.replicate n 0) = 0 := by
  induction n with
  | zero => rfl
  | succ n ih => rw [List.replicate_succ, val_cons, ih]; rfl
theorem val_nonneg {l : List Int} (h : Lim l) : 0 ≤ val l := by
  induction l with
  | nil => simp [val]
  | cons x l ih =>
    have := ih h.tail
    have := h.head
    rw [val_cons]; omega
theorem val_lt {l : List Int} (h : Lim l) : val l < bp l.length := by
  induction l with
  | nil => simp [val, bp_zero]
  | cons x l ih =>
    have := ih h.tail
    have := h.head
    rw [val_cons, List.length_cons, bp_succ]; omega
theorem Nrm.nil : Nrm [] := by simp [Nrm]
theorem Nrm.tail {x y : Int} {l : List Int} (h : Nrm (x :: y :: l)) : Nrm (y :: l) := by
  unfold Nrm at h ⊢
  rwa [List.getLast?_cons_cons] at h
theorem val_pos_of_nrm {l : List Int} (hl : Lim l) (hn : Nrm l) (h : l ≠ []) : bp (l.length - 1) ≤ val l := by
  induction l with
  | nil => exact absurd rfl h
  | cons x l ih =>
    cases l with
    | nil =>
      have := hl.head
      have : x ≠ 0 := by intro e; subst e; simp [Nrm] at hn
      simp [bp_zero, val]; omega
    | cons y l =>
      have := ih hl.tail hn.tail (by simp)
      have h2 := hl.head
      rw [val_cons, show (x :: y :: l).length - 1 = ((y :: l).length - 1) + 1 by simp, bp_succ]
      omega
theorem val_pos {l : List Int} (hl : Lim l) (hn : Nrm l) (h : l ≠ []) : 0 < val l := by
  have := val_pos_of_nrm hl hn h
  have := bp_pos (l.length - 1)
  omega
theorem nrm_zero {l : List Int} (hl : Lim l) (hn : Nrm l) (h : val l = 0) : l = [] := by
  by_cases e : l = []
  · exact e
  · have := val_pos hl hn e; omega
/-- limbs in normal form are told by their value -/
theorem val_inj {a b : List Int} (ha : Lim a) (hb : Lim b) (na : Nrm a) (nb : Nrm b) (h : val a = val b) : a = b := by
  induction a generalizing b with
  | nil => exact (nrm_zero hb nb (by rw [← h]; rfl)).symm
  | cons x a ih =>
    cases b with
    | nil => exact nrm_zero ha na (by rw [h]; rfl)
    | cons y b =>
      have h1 := ha.head
      have h2 := hb.head
      rw [val_cons, val_cons] at h
      have e : x = y := by omega
      have e2 : val a = val b := by omega
      subst e
      have na' : Nrm a := by cases a with
        | nil => exact Nrm.nil
        | cons => exact na.tail
      have nb' : Nrm b := by cases b with
        | nil => exact Nrm.nil
        | cons => exact nb.tail
      rw [ih ha.tail hb.tail na' nb' e2]
theorem len_le_of_val {l : List Int} (hl : Lim l) (hn : Nrm l) {n : Nat} (h : val l < bp n) : l.length ≤ n := by
  by_cases e : l = []
  · subst e; simp
  · have h1 := val_pos_of_nrm hl hn e
    have h0 : 0 < l.length := List.length_pos_iff.2 e
    by_cases h2 : l.length ≤ n
    · exact h2
    · have := bp_le (show n ≤ l.length - 1 by omega)
      omega
theorem val_take_succ {l : List Int} {i : Nat} (h : i < l.length) : val (l.take (i + 1)) = val (l.take i) + bp i * l[i] := by
  rw [List.take_succ_eq_append_getElem h, val_snoc, List.length_take, Nat.min_eq_left (by omega)]
theorem val_split (l : List Int) (i : Nat) (h : i ≤ l.length) : val l = val (l.take i) + bp i * val (l.drop i) := by
  conv => lhs; rw [← List.take_append_drop i l]
  rw [val_append, List.length_take, Nat.min_eq_left h]
theorem val_drop {l : List Int} {i : Nat} (h : i < l.length) : val (l.drop i) = l[i] + 4294967296 * val (l.drop (i + 1)) := by
  rw [List.drop_eq_getElem_cons h, val_cons]
theorem val_set {l : List Int} {i : Nat} (h : i < l.length) (x : Int) : val (l.set i x) = val l + bp i * (x - l[i]) := by
  induction l generalizing i with
  | nil => simp at h
  | cons y l ih =>
    cases i with
    | zero => simp [val_cons, bp_zero]; omega
    | succ i =>
      simp only [List.set_cons_succ, val_cons, List.getElem_cons_succ]
      rw [ih (by simpa using h), bp_succ, Int.mul_add, Int.mul_assoc]
      omega

/-- the limbs of a natural number, in normal form -/
def nl (n : Nat) : List Int := if h : n = 0 then [] else ((n % 4294967296 : Nat) : Int) :: nl (n / 4294967296)
termination_by n
decreasing_by omega
theorem nl_zero : nl 0 = [] := by rw [nl]; rfl
theorem nl_pos {n : Nat} (h : n ≠ 0) : nl n = ((n % 4294967296 : Nat) : Int) :: nl (n / 4294967296) := by rw [nl]; rw [dif_neg h]
theorem nl_lim (n : Nat) : Lim (nl n) := by
  induction n using Nat.strongRecOn with
  | _ n ih =>
    by_cases h : n = 0
    · subst h; rw [nl_zero]; exact Lim.nil
    · rw [nl_pos h]
      exact Lim.cons (by omega) (by omega) (ih _ (by omega))
theorem val_nl (n : Nat) : val (nl n) = n := by
  induction n using Nat.strongRecOn with
  | _ n ih =>
    by_cases h : n = 0
    · subst h; rw [nl_zero]; rfl
    · rw [nl_pos h, val_cons, ih _ (by omega)]
      omega
theorem nl_ne_nil {n : Nat} (h : n ≠ 0) : nl n ≠ [] := by rw [nl_pos h]; simp
theorem nl_nrm (n : Nat) : Nrm (nl n) := by
  induction n using Nat.strongRecOn with
  | _ n ih =>
    by_cases h : n = 0
    · subst h; rw [nl_zero]; exact Nrm.nil
    · rw [nl_pos h]
      by_cases h2 : n / 4294967296 = 0
      · rw [h2, nl_zero]; unfold Nrm; simp; omega
      · have := ih (n / 4294967296) (by omega)
        rw [nl_pos h2] at this ⊢
        unfold Nrm at this ⊢
        rwa [List.getLast?_cons_cons]
/-- the value as a natural number -/
def nv (l : List Int) : Nat := (val l).toNat
theorem nv_eq {l : List Int} (h : Lim l) : (nv l : Int) = val l := by unfold nv; have := val_nonneg h; omega
theorem nv_nl (n : Nat) : nv (nl n) = n := by unfold nv; rw [val_nl]; omega
theorem nl_nv {l : List Int} (h : Lim l) (hn : Nrm l) : nl (nv l) = l := val_inj (nl_lim _) h (nl_nrm _) hn (by rw [val_nl, nv_eq h])
theorem eq_nl {l : List Int} (h : Lim l) (hn : Nrm l) {n : Nat} (e : val l = n) : l = nl n := val_inj h (nl_lim _) hn (nl_nrm _) (by rw [val_nl, e])
theorem nl_inj {a b : Nat} (h : nl a = nl b) : a = b := by rw [← nv_nl a, h, nv_nl]
theorem nl_eq_nil {n : Nat} : nl n = [] ↔ n = 0 := ⟨fun h => by rw [← nv_nl n, h]; rfl, fun h => by rw [h, nl_zero]⟩
theorem nl_len {n m : Nat} (h : n < 4294967296 ^ m) : (nl n).length ≤ m := by
  refine len_le_of_val (nl_lim n) (nl_nrm n) ?_
  rw [val_nl]; unfold bp
  have : ((4294967296 ^ m : Nat) : Int) = (4294967296 : Int) ^ m := by simp
  omega
theorem nv_lt {l : List Int} (h : Lim l) : nv l < 4294967296 ^ l.length := by
  have h1 := val_lt h
  rw [← nv_eq h] at h1; unfold bp at h1
  have : ((4294967296 ^ l.length : Nat) : Int) = (4294967296 : Int) ^ l.length := by simp
  omega
theorem nl_len_iff {n m : Nat} : (nl n).length ≤ m ↔ n < 4294967296 ^ m := by
  refine ⟨fun h => ?_, nl_len⟩
  have h1 := nv_lt (nl_lim n)
  rw [nv_nl] at h1
  exact Nat.lt_of_lt_of_le h1 (Nat.pow_le_pow_right (by omega) h)
/-- without the high limbs that are 0 -/
def tr (l : List Int) : List Int := nl (nv l)
theorem tr_of_take {l : List Int} (h : Lim l) {i : Nat} (hi : i ≤ l.length) (hz : val (l.drop i) = 0) (hn : Nrm (l.take i)) : l.take i = tr l := by
  refine eq_nl (h.take i) hn ?_
  rw [nv_eq h, val_split l i hi, hz]; omega
theorem nrm_take {l : List Int} {i : Nat} (h0 : 0 < i) (h : i ≤ l.length) (hx : ¬ l.getD (i - 1) 0 = 0) : Nrm (l.take i) := by
  unfold Nrm
  have hi1 : i - 1 < l.length := by omega
  rw [List.getLast?_eq_getElem?, List.length_take, Nat.min_eq_left h, List.getElem?_take, if_pos (by omega), List.getElem?_eq_getElem hi1]
  rw [List.getD_eq_getElem?_getD, List.getElem?_eq_getElem hi1] at hx
  intro e
  exact hx (by simpa using e)
end Go.Proofs.Ythhaoojgfbofnaa.Limbs
