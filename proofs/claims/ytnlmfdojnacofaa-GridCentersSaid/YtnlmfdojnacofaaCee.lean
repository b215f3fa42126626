/- An abstract interpreter over data, and contracts of the program's functions, part 5; no condition. -/
import Derived.Test.YtnlmfdojnacofaaCed
set_option linter.unusedSimpArgs false
set_option linter.unusedVariables false
set_option maxHeartbeats 2000000
namespace Go.Proofs.Ytnlmfdojnacofaa.E
open Go.RowKit Limbs
/-- i is the nearest of the points p to q, the lowest of those as near -/
def isNear (q : Rat) (p : List Int) (i : Nat) : Prop := i < p.length ∧ (∀ k, k < i → ((p.getD k 0 + p.getD (k + 1) 0 : Int) : Rat) < 2 * q) ∧ (i + 1 < p.length → 2 * q ≤ ((p.getD i 0 + p.getD (i + 1) 0 : Int) : Rat))
theorem isNear_uniq {q : Rat} {p : List Int} {i j : Nat} (hi : isNear q p i) (hj : isNear q p j) : i = j := by
  rcases Nat.lt_trichotomy i j with h | h | h
  · exact absurd (hi.2.2 (by have := hj.1; omega)) (Rat.not_le.2 (hj.2.1 i h))
  · exact h
  · exact absurd (hj.2.2 (by have := hi.1; omega)) (Rat.not_le.2 (hi.2.1 j h))
theorem near_ex (q : Rat) (p : List Int) (hp : 0 < p.length) : ∃ i, isNear q p i := by
  have key : ∀ n i, n + i + 1 = p.length → (∀ k, k < i → ((p.getD k 0 + p.getD (k + 1) 0 : Int) : Rat) < 2 * q) → ∃ i, isNear q p i := by
    intro n
    induction n with
    | zero => exact fun i hi h => ⟨i, by omega, h, fun h2 => by omega⟩
    | succ n ih =>
      intro i hi h
      by_cases hc : 2 * q ≤ ((p.getD i 0 + p.getD (i + 1) 0 : Int) : Rat)
      · exact ⟨i, by omega, h, fun _ => hc⟩
      · refine ih (i + 1) (by omega) fun k hk => ?_
        rcases Nat.lt_or_ge k i with h1 | h1
        · exact h k h1
        · have : k = i := by omega
          subst this
          exact Rat.not_le.1 hc
  exact key (p.length - 1) 0 (by omega) (fun k hk => by omega)
theorem divInt_one (x : Int) : Rat.divInt x 1 = (x : Rat) := by rw [Rat.divInt_eq_div]; show (x : Rat) / ((1 : Int) : Rat) = x; rw [show ((1 : Int) : Rat) = 1 from rfl]; grind
theorem divInt_two (x : Int) : Rat.divInt x 2 = (x : Rat) / 2 := by rw [Rat.divInt_eq_div]; rfl
theorem cmpQ_le (a b : Rat) : cmpQ a b ≤ 0 ↔ a ≤ b := by
  unfold cmpQ
  by_cases h1 : a < b
  · rw [if_pos h1]; exact ⟨fun _ => Rat.le_of_lt h1, fun _ => by decide⟩
  · rw [if_neg h1]
    by_cases h2 : b < a
    · rw [if_pos h2]; exact ⟨fun h => absurd h (by decide), fun h => absurd h (Rat.not_le.2 h2)⟩
    · rw [if_neg h2]; exact ⟨fun _ => Rat.not_lt.1 h2, fun _ => by decide⟩
theorem cmpQ_lt (a b : Rat) : cmpQ a b < 0 ↔ a < b := by
  unfold cmpQ
  by_cases h1 : a < b
  · rw [if_pos h1]; exact ⟨fun _ => h1, fun _ => by decide⟩
  · rw [if_neg h1]
    split
    · exact ⟨fun h => absurd h (by decide), fun h => absurd h h1⟩
    · exact ⟨fun h => absurd h (by decide), fun h => absurd h h1⟩
theorem le_half (q : Rat) (z : Int) : q ≤ (z : Rat) / 2 ↔ 2 * q ≤ (z : Rat) := by
  constructor <;> intro h <;> grind
/-- which of two points is nearer -/
theorem dist (x y q : Rat) (h : x < y) : qabs (y - q) < qabs (x - q) ↔ x + y < 2 * q := by
  unfold qabs
  split <;> split <;> constructor <;> intro h1 <;> grind
end Go.Proofs.Ytnlmfdojnacofaa.E

set_option linter.unusedSimpArgs false
set_option linter.unusedVariables false
set_option maxHeartbeats 2000000
namespace Go.Proofs.Ytnlmfdojnacofaa.E
open Go.RowKit Limbs
noncomputable def near (q : Rat) (p : List Int) : Nat := if h : 0 < p.length then (near_ex q p h).choose else 0
theorem near_spec (q : Rat) {p : List Int} (h : 0 < p.length) : isNear q p (near q p) := by
  unfold near
  rw [dif_pos h]
  exact (near_ex q p h).choose_spec
noncomputable def nearR (q : Rat) (p w : List Int) : List RV := if gridV p w = 0 then [.one (.lit (.int .i64 (near q p))), .one (.lit (.int .i64 0))] else [.one (.lit (.int .i64 0)), .one (.lit (.int .i64 (gridV p w)))]
theorem gridV_pos {p w : List Int} (h : gridV p w = 0) : 0 < p.length := by
  unfold gridV at h
  split at h
  · omega
  · split at h <;> omega
/-- examboard/grid.Near -/
def b18 : AF := ⟨44, 2, [.tmp 4, .tmp 5],
  (.seq (.reg [
    ⟨some 2, .box 24 (.tmp 0), none⟩,
    ⟨some 3, .box 41 (.tmp 1), none⟩,
    ⟨some 4, .assign (.const (.int .i64 0)), none⟩,
    ⟨some 5, .assign (.const (.int .i64 0)), none⟩])
  (.seq (.seq (.reg [
    ⟨some 10, .load 24 (.tmp 2), none⟩,
    ⟨some 11, .call ⟨(.value (.func 15)), #[(.tmp 10)], #[24]⟩, none⟩,
    ⟨some 6, .assign (.tmp 11), none⟩])
  (.seq (.reg [
    ⟨some 12, .move (.tmp 6), none⟩,
    ⟨some 13, .binOp .neq 25 (.tmp 12) (.const (.int .i64 0)) 25, none⟩])
  (.cond (.tmp 13)
    (.seq (.reg [
      ⟨some 14, .move (.tmp 6), none⟩,
      ⟨some 4, .assign (.const (.int .i64 0)), none⟩,
      ⟨some 5, .assign (.tmp 14), none⟩])
    .ret)
    .skip)))
  (.seq (.reg [
    ⟨some 7, .assign (.const (.int .i64 0)), none⟩])
  (.seq (.block 0 (.loop (.seq (.seq (.reg [
    ⟨some 15, .move (.tmp 7), none⟩,
    ⟨some 16, .binOp .add 3 (.tmp 15) (.const (.int .i64 1)) 3, none⟩,
    ⟨some 17, .fieldAddr 24 (.tmp 2) 0, none⟩,
    ⟨some 18, .load 22 (.tmp 17), none⟩,
    ⟨some 19, .call ⟨(.builtin .len), #[(.tmp 18)], #[22]⟩, none⟩,
    ⟨some 20, .binOp .lss 3 (.tmp 16) (.tmp 19) 3, none⟩])
  (.cond (.tmp 20)
    .skip
    (.exit 0)))
  (.block 1 (.seq (.dreg [
    ⟨some 22, .fieldAddr 24 (.tmp 2) 0, none⟩,
    ⟨some 23, .load 22 (.tmp 22), none⟩,
    ⟨some 24, .move (.tmp 7), none⟩,
    ⟨some 25, .indexAddr 22 (.tmp 23) (.tmp 24), none⟩,
    ⟨some 26, .load 3 (.tmp 25), none⟩,
    ⟨some 27, .fieldAddr 24 (.tmp 2) 0, none⟩,
    ⟨some 28, .load 22 (.tmp 27), none⟩,
    ⟨some 29, .move (.tmp 7), none⟩,
    ⟨some 30, .binOp .add 3 (.tmp 29) (.const (.int .i64 1)) 3, none⟩,
    ⟨some 31, .indexAddr 22 (.tmp 28) (.tmp 30), none⟩,
    ⟨some 32, .load 3 (.tmp 31), none⟩,
    ⟨some 33, .binOp .add 3 (.tmp 26) (.tmp 32) 3, none⟩,
    ⟨some 34, .call ⟨(.value (.func 26)), #[(.tmp 33), (.const (.int .i64 2))], #[2, 2]⟩, none⟩,
    ⟨some 21, .move (.tmp 34), none⟩,
    ⟨some 35, .extract (.tmp 21) 0, none⟩,
    ⟨some 36, .extract (.tmp 21) 1, none⟩,
    ⟨some 8, .alloc 41, none⟩,
    ⟨none, .store 41 (.tmp 8) (.tmp 35), none⟩,
    ⟨some 9, .assign (.tmp 36), none⟩])
  (.seq (.seq (.reg [
    ⟨some 37, .load 41 (.tmp 3), none⟩,
    ⟨some 38, .load 41 (.tmp 8), none⟩,
    ⟨some 39, .call ⟨(.value (.func 32)), #[(.tmp 37), (.tmp 38)], #[41, 41]⟩, none⟩,
    ⟨some 40, .binOp .leq 3 (.tmp 39) (.const (.int .i64 0)) 3, none⟩])
  (.cond (.tmp 40)
    (.exit 0)
    .skip))
  (.reg [
    ⟨some 41, .move (.tmp 7), none⟩,
    ⟨some 42, .binOp .add 3 (.tmp 41) (.const (.int .i64 1)) 3, none⟩,
    ⟨some 7, .assign (.tmp 42), none⟩])))))))
  (.seq (.reg [
    ⟨some 43, .move (.tmp 7), none⟩,
    ⟨some 4, .assign (.tmp 43), none⟩,
    ⟨some 5, .assign (.const (.int .i64 0)), none⟩])
  .ret)))))⟩
theorem c18 : fcomp Try.prog 18 = ⟨b18.n, b18.np, b18.res, b18.body.bare⟩ := by kernel_rfl
theorem k18 : fok Try.prog 18 = true := by kernel_rfl
theorem grid_Near (p w : List Int) (n : Bool) (m d : List Int) (hm : Lim m) (hd : Lim d) (lm : m.length < 68719476700) (ld : d.length < 68719476700) : AFun Try.prog 18 [.agg [intsD p, intsD w], .agg [.lit (.bool n), natD m, natD d]] (nearR (rv n m d) p w) := by
  refine afun_intro mo_ _ _ c18 k18 _ _ rfl (by decide) ?_
  unfold b18
  simp (maxSteps := 1000000) (disch := first | omega | (simp only [LL]; omega)) only [W, V, TY, CC, reduceIte, Nat.reduceEqDiff, Nat.reduceAdd, Nat.reduceLeDiff, Nat.reduceLT, Int.reduceLE, Int.reduceLT, Int.reduceAdd, Int.reduceSub, Int.reduceToNat, Nat.reduceMul]
  refine a_call _ _ (grid_Valid p w) (by simp (maxSteps := 1000000) (disch := first | omega | (simp only [LL]; omega)) only [W, V, TY, CC, reduceIte, Nat.reduceEqDiff, Nat.reduceAdd, Nat.reduceLeDiff, Nat.reduceLT, Int.reduceLE, Int.reduceLT, Int.reduceAdd, Int.reduceSub, Int.reduceToNat, Nat.reduceMul]) ?_
  simp (maxSteps := 1000000) (disch := first | omega | (simp only [LL]; omega)) only [W, V, TY, CC, reduceIte, Nat.reduceEqDiff, Nat.reduceAdd, Nat.reduceLeDiff, Nat.reduceLT, Int.reduceLE, Int.reduceLT, Int.reduceAdd, Int.reduceSub, Int.reduceToNat, Nat.reduceMul]
  refine c_split (fun h1 => ?_) (fun h1 => ?_)
  · simp (maxSteps := 1000000) (disch := first | omega | (simp only [LL]; omega)) only [W, V, TY, CC, reduceIte, Nat.reduceEqDiff, Nat.reduceAdd, Nat.reduceLeDiff, Nat.reduceLT, Int.reduceLE, Int.reduceLT, Int.reduceAdd, Int.reduceSub, Int.reduceToNat, Nat.reduceMul]
    refine f_ret _ _ _ ?_
    unfold nearR
    simp (maxSteps := 1000000) (disch := first | omega | (simp only [LL]; omega)) only [W, V, TY, CC, reduceIte, Nat.reduceEqDiff, Nat.reduceAdd, Nat.reduceLeDiff, Nat.reduceLT, Int.reduceLE, Int.reduceLT, Int.reduceAdd, Int.reduceSub, Int.reduceToNat, Nat.reduceMul, h1]
  have h0 : gridV p w = 0 := Classical.not_not.1 h1
  obtain ⟨g1, g2, g3, g4⟩ := gridV_zero h0
  have gp := gridV_pos h0
  have hj := near_spec (rv n m d) gp
  simp (maxSteps := 1000000) (disch := first | omega | (simp only [LL]; omega)) only [W, V, TY, CC, reduceIte, Nat.reduceEqDiff, Nat.reduceAdd, Nat.reduceLeDiff, Nat.reduceLT, Int.reduceLE, Int.reduceLT, Int.reduceAdd, Int.reduceSub, Int.reduceToNat, Nat.reduceMul]
  refine w_loop (fun k s => ∃ i : Nat, k + i + 1 = p.length ∧ s.t 2 = .ptr (2, 0) 0 ∧ s.t 3 = .ptr (3, 0) 0 ∧ s.v (2, 0) = some [.dt (intsD p), .dt (intsD w)] ∧ s.v (3, 0) = some [.dt (.lit (.bool n)), .dt (natD m), .dt (natD d)] ∧ s.t 7 = .one (.dt (.lit (.int .i64 i))) ∧ ∀ j, j < i → ((p.getD j 0 + p.getD (j + 1) 0 : Int) : Rat) < 2 * rv n m d) (p.length - 1) ⟨0, by omega, ?_, ?_, ?_, ?_, ?_, fun j hj => by omega⟩ ?_
  · simp (maxSteps := 1000000) (disch := first | omega | (simp only [LL]; omega)) only [W, V, TY, CC, reduceIte, Nat.reduceEqDiff, Nat.reduceAdd, Nat.reduceLeDiff, Nat.reduceLT, Int.reduceLE, Int.reduceLT, Int.reduceAdd, Int.reduceSub, Int.reduceToNat, Nat.reduceMul]
  · simp (maxSteps := 1000000) (disch := first | omega | (simp only [LL]; omega)) only [W, V, TY, CC, reduceIte, Nat.reduceEqDiff, Nat.reduceAdd, Nat.reduceLeDiff, Nat.reduceLT, Int.reduceLE, Int.reduceLT, Int.reduceAdd, Int.reduceSub, Int.reduceToNat, Nat.reduceMul]
  · simp (maxSteps := 1000000) (disch := first | omega | (simp only [LL]; omega)) only [W, V, TY, CC, reduceIte, Nat.reduceEqDiff, Nat.reduceAdd, Nat.reduceLeDiff, Nat.reduceLT, Int.reduceLE, Int.reduceLT, Int.reduceAdd, Int.reduceSub, Int.reduceToNat, Nat.reduceMul]
  · simp (maxSteps := 1000000) (disch := first | omega | (simp only [LL]; omega)) only [W, V, TY, CC, reduceIte, Nat.reduceEqDiff, Nat.reduceAdd, Nat.reduceLeDiff, Nat.reduceLT, Int.reduceLE, Int.reduceLT, Int.reduceAdd, Int.reduceSub, Int.reduceToNat, Nat.reduceMul]
  · simp (maxSteps := 1000000) (disch := first | omega | (simp only [LL]; omega)) only [W, V, TY, CC, reduceIte, Nat.reduceEqDiff, Nat.reduceAdd, Nat.reduceLeDiff, Nat.reduceLT, Int.reduceLE, Int.reduceLT, Int.reduceAdd, Int.reduceSub, Int.reduceToNat, Nat.reduceMul]
  intro k s hwf ⟨i, e, t2, t3, v2, v3, t7, hlo⟩
  have f8 := (hwf 8 (s.g 8) (Nat.le_refl _)).2.2
  have fin : isNear (rv n m d) p i → near (rv n m d) p = i := fun h => isNear_uniq hj h
  simp (maxSteps := 1000000) (disch := first | omega | (simp only [LL]; omega)) only [W, V, TY, CC, reduceIte, Nat.reduceEqDiff, Nat.reduceAdd, Nat.reduceLeDiff, Nat.reduceLT, Int.reduceLE, Int.reduceLT, Int.reduceAdd, Int.reduceSub, Int.reduceToNat, Nat.reduceMul, t2, t3, v2, v3, t7]
  refine c_split (fun hi => ?_) (fun hi => ?_)
  · have b1 := (g3 i (by omega)).1
    have b2 := (g3 (i + 1) (by omega)).1
    have hi1 : ((i : Int) + 1).toNat = i + 1 := by omega
    have hq : qs (Rat.divInt (p.getD i 0 + p.getD (i + 1) 0) 2) ≤ 10 := by
      refine Nat.le_trans (qs_div _ _) ?_
      have := zl_i64 (x := p.getD i 0 + p.getD (i + 1) 0) (by omega) (by omega)
      have := zl_i64 (x := 2) (by omega) (by omega)
      omega
    simp (maxSteps := 1000000) (disch := first | omega | (simp only [LL]; omega)) only [W, V, TY, CC, reduceIte, Nat.reduceEqDiff, Nat.reduceAdd, Nat.reduceLeDiff, Nat.reduceLT, Int.reduceLE, Int.reduceLT, Int.reduceAdd, Int.reduceSub, Int.reduceToNat, Nat.reduceMul, t2, t3, v2, v3, t7, hi1]
    refine a_call _ _ (rat_Of (p.getD i 0 + p.getD (i + 1) 0) 2 (by omega) (by omega) (by decide) (by decide)) (by simp (maxSteps := 1000000) (disch := first | omega | (simp only [LL]; omega)) only [W, V, TY, CC, reduceIte, Nat.reduceEqDiff, Nat.reduceAdd, Nat.reduceLeDiff, Nat.reduceLT, Int.reduceLE, Int.reduceLT, Int.reduceAdd, Int.reduceSub, Int.reduceToNat, Nat.reduceMul, t2, t3, v2, v3, t7, hi1]) ?_
    simp (maxSteps := 1000000) (disch := first | omega | (simp only [LL]; omega)) only [W, V, TY, CC, reduceIte, Nat.reduceEqDiff, Nat.reduceAdd, Nat.reduceLeDiff, Nat.reduceLT, Int.reduceLE, Int.reduceLT, Int.reduceAdd, Int.reduceSub, Int.reduceToNat, Nat.reduceMul, t2, t3, v2, v3, t7, f8, ratC]
    refine a_call _ _ (rat_Cmp' (b := Rat.divInt (p.getD i 0 + p.getD (i + 1) 0) 2) n m d hm hd (by omega) (by omega) (by omega)) (by simp (maxSteps := 1000000) (disch := first | omega | (simp only [LL]; omega)) only [W, V, TY, CC, reduceIte, Nat.reduceEqDiff, Nat.reduceAdd, Nat.reduceLeDiff, Nat.reduceLT, Int.reduceLE, Int.reduceLT, Int.reduceAdd, Int.reduceSub, Int.reduceToNat, Nat.reduceMul, t2, t3, v2, v3, t7, ratC]) ?_
    simp (maxSteps := 1000000) (disch := first | omega | (simp only [LL]; omega)) only [W, V, TY, CC, reduceIte, Nat.reduceEqDiff, Nat.reduceAdd, Nat.reduceLeDiff, Nat.reduceLT, Int.reduceLE, Int.reduceLT, Int.reduceAdd, Int.reduceSub, Int.reduceToNat, Nat.reduceMul, t2, t3, v2, v3, t7]
    have hcmp := cmpQ_le (rv n m d) (Rat.divInt (p.getD i 0 + p.getD (i + 1) 0) 2)
    rw [divInt_two, le_half] at hcmp
    rw [divInt_two]
    refine c_split (fun hc => ?_) (fun hc => ?_)
    · simp (maxSteps := 1000000) (disch := first | omega | (simp only [LL]; omega)) only [W, V, TY, CC, reduceIte, Nat.reduceEqDiff, Nat.reduceAdd, Nat.reduceLeDiff, Nat.reduceLT, Int.reduceLE, Int.reduceLT, Int.reduceAdd, Int.reduceSub, Int.reduceToNat, Nat.reduceMul, t2, t3, v2, v3, t7]
      refine f_ret _ _ _ ?_
      unfold nearR
      have hx := fin ⟨by omega, hlo, fun _ => hcmp.1 hc⟩
      simp (maxSteps := 1000000) (disch := first | omega | (simp only [LL]; omega)) only [W, V, TY, CC, reduceIte, Nat.reduceEqDiff, Nat.reduceAdd, Nat.reduceLeDiff, Nat.reduceLT, Int.reduceLE, Int.reduceLT, Int.reduceAdd, Int.reduceSub, Int.reduceToNat, Nat.reduceMul, h0, hx]
    · simp (maxSteps := 1000000) (disch := first | omega | (simp only [LL]; omega)) only [W, V, TY, CC, reduceIte, Nat.reduceEqDiff, Nat.reduceAdd, Nat.reduceLeDiff, Nat.reduceLT, Int.reduceLE, Int.reduceLT, Int.reduceAdd, Int.reduceSub, Int.reduceToNat, Nat.reduceMul, t2, t3, v2, v3, t7]
      refine ⟨k - 1, by omega, i + 1, by omega, rfl, fun j hj => ?_⟩
      rcases Nat.lt_or_ge j i with h | h
      · exact hlo j h
      · have : j = i := by omega
        subst this
        exact Rat.not_le.1 (fun h => hc (hcmp.2 h))
  · simp (maxSteps := 1000000) (disch := first | omega | (simp only [LL]; omega)) only [W, V, TY, CC, reduceIte, Nat.reduceEqDiff, Nat.reduceAdd, Nat.reduceLeDiff, Nat.reduceLT, Int.reduceLE, Int.reduceLT, Int.reduceAdd, Int.reduceSub, Int.reduceToNat, Nat.reduceMul, t2, t3, v2, v3, t7]
    refine f_ret _ _ _ ?_
    unfold nearR
    have hx := fin ⟨by omega, hlo, fun h => by omega⟩
    simp (maxSteps := 1000000) (disch := first | omega | (simp only [LL]; omega)) only [W, V, TY, CC, reduceIte, Nat.reduceEqDiff, Nat.reduceAdd, Nat.reduceLeDiff, Nat.reduceLT, Int.reduceLE, Int.reduceLT, Int.reduceAdd, Int.reduceSub, Int.reduceToNat, Nat.reduceMul, h0, hx]
theorem qs_int {x : Int} (h0 : -9223372036854775808 ≤ x) (h1 : x < 9223372036854775808) : qs ((x : Int) : Rat) ≤ 10 := by
  rw [← divInt_one]
  refine Nat.le_trans (qs_div _ _) ?_
  have := zl_i64 h0 h1
  have := zl_i64 (x := 1) (by omega) (by omega)
  omega
/-- examboard/examboardref18.whole -/
def b35 : AF := ⟨11, 1, [.cell 2 41],
  (.seq (.reg [
    ⟨some 2, .alloc 41, none⟩])
  (.seq (.reg [
    ⟨some 6, .move (.tmp 0), none⟩,
    ⟨some 7, .call ⟨(.value (.func 57)), #[(.tmp 6), (.const (.int .i64 1))], #[2, 2]⟩, none⟩,
    ⟨some 5, .move (.tmp 7), none⟩,
    ⟨some 8, .extract (.tmp 5) 0, none⟩,
    ⟨some 9, .extract (.tmp 5) 1, none⟩,
    ⟨some 3, .alloc 41, none⟩,
    ⟨none, .store 41 (.tmp 3) (.tmp 8), none⟩,
    ⟨some 4, .assign (.tmp 9), none⟩])
  (.seq (.reg [
    ⟨some 10, .load 41 (.tmp 3), none⟩,
    ⟨none, .store 41 (.tmp 2) (.tmp 10), none⟩])
  .ret)))⟩
theorem c35 : fcomp Try.prog 35 = ⟨b35.n, b35.np, b35.res, b35.body.bare⟩ := by kernel_rfl
theorem k35 : fok Try.prog 35 = true := by kernel_rfl
theorem ref_whole (x : Int) (h0 : -9223372036854775808 ≤ x) (h1 : x < 9223372036854775808) : AFun Try.prog 35 [.one (.lit (.int .i64 x))] [.agg (ratC (x : Rat))] := by
  refine afun_intro mo_ _ _ c35 k35 _ _ rfl (by decide) ?_
  unfold b35
  rw [← divInt_one]
  simp (maxSteps := 1000000) (disch := first | omega | (simp only [LL]; omega)) only [W, V, TY, CC, reduceIte, Nat.reduceEqDiff, Nat.reduceAdd, Nat.reduceLeDiff, Nat.reduceLT, Int.reduceLE, Int.reduceLT, Int.reduceAdd, Int.reduceSub, Int.reduceToNat, Nat.reduceMul]
  refine a_call _ _ (rr_Of x 1 h0 h1 (by decide) (by decide)) (by simp (maxSteps := 1000000) (disch := first | omega | (simp only [LL]; omega)) only [W, V, TY, CC, reduceIte, Nat.reduceEqDiff, Nat.reduceAdd, Nat.reduceLeDiff, Nat.reduceLT, Int.reduceLE, Int.reduceLT, Int.reduceAdd, Int.reduceSub, Int.reduceToNat, Nat.reduceMul]) ?_
  simp (maxSteps := 1000000) (disch := first | omega | (simp only [LL]; omega)) only [W, V, TY, CC, reduceIte, Nat.reduceEqDiff, Nat.reduceAdd, Nat.reduceLeDiff, Nat.reduceLT, Int.reduceLE, Int.reduceLT, Int.reduceAdd, Int.reduceSub, Int.reduceToNat, Nat.reduceMul, ratC]
  refine f_ret _ _ _ ?_
  simp (maxSteps := 1000000) (disch := first | omega | (simp only [LL]; omega)) only [W, V, TY, CC, reduceIte, Nat.reduceEqDiff, Nat.reduceAdd, Nat.reduceLeDiff, Nat.reduceLT, Int.reduceLE, Int.reduceLT, Int.reduceAdd, Int.reduceSub, Int.reduceToNat, Nat.reduceMul, ratC]
theorem near_step {q : Rat} {p : List Int} (hup : gridUp p) {j i : Nat} (hj : isNear q p j) (hi : 0 < i) (hil : i < p.length) :
    (qabs ((p.getD i 0 : Int) - q) < qabs ((p.getD (min j (i - 1)) 0 : Int) - q) ↔ i ≤ j) := by
  have mono : ∀ a b, a < b → b < p.length → p.getD a 0 < p.getD b 0 := by
    intro a b hab hb
    induction b with
    | zero => omega
    | succ b ih =>
      have h1 := hup b hb
      rcases Nat.lt_or_ge a b with h | h
      · have := ih h (by omega)
        omega
      · have : a = b := by omega
        subst this; exact h1
  by_cases hc : i ≤ j
  · rw [show min j (i - 1) = i - 1 by omega]
    have h1 := mono (i - 1) i (by omega) hil
    rw [dist _ _ q (by exact_mod_cast h1)]
    have h2 := hj.2.1 (i - 1) (by omega)
    rw [show i - 1 + 1 = i by omega, Rat.intCast_add] at h2
    exact ⟨fun _ => hc, fun _ => h2⟩
  · rw [show min j (i - 1) = j by omega]
    have h1 := mono j i (by omega) hil
    rw [dist _ _ q (by exact_mod_cast h1)]
    refine ⟨fun h => absurd h (Rat.not_lt.2 ?_), fun h => absurd h hc⟩
    have h2 := hj.2.2 (by omega)
    refine Rat.le_trans h2 ?_
    have h3 : p.getD (j + 1) 0 ≤ p.getD i 0 := by
      rcases Nat.lt_or_ge (j + 1) i with h | h
      · have := mono (j + 1) i h hil; omega
      · have : j + 1 = i := by omega
        rw [this]; exact Int.le_refl _
    rw [← Rat.intCast_add]
    have h4 : p.getD j 0 + p.getD (j + 1) 0 ≤ p.getD j 0 + p.getD i 0 := by omega
    exact_mod_cast h4
/-- examboard/examboardref18.Near -/
def b19 : AF := ⟨47, 2, [.tmp 4, .tmp 5],
  (.seq (.reg [
    ⟨some 2, .box 24 (.tmp 0), none⟩,
    ⟨some 3, .box 41 (.tmp 1), none⟩,
    ⟨some 4, .assign (.const (.int .i64 0)), none⟩,
    ⟨some 5, .assign (.const (.int .i64 0)), none⟩])
  (.seq (.reg [
    ⟨some 11, .load 24 (.tmp 2), none⟩,
    ⟨some 12, .call ⟨(.value (.func 16)), #[(.tmp 11)], #[24]⟩, none⟩,
    ⟨some 6, .assign (.tmp 12), none⟩])
  (.seq (.seq (.reg [
    ⟨some 13, .move (.tmp 6), none⟩,
    ⟨some 14, .binOp .neq 25 (.tmp 13) (.const (.int .i64 0)) 25, none⟩])
  (.cond (.tmp 14)
    (.seq (.reg [
      ⟨some 15, .move (.tmp 6), none⟩,
      ⟨some 4, .assign (.const (.int .i64 0)), none⟩,
      ⟨some 5, .assign (.tmp 15), none⟩])
    .ret)
    .skip))
  (.seq (.reg [
    ⟨some 7, .assign (.const (.int .i64 0)), none⟩])
  (.seq (.dreg [
    ⟨some 16, .fieldAddr 24 (.tmp 2) 0, none⟩,
    ⟨some 17, .load 22 (.tmp 16), none⟩,
    ⟨some 18, .indexAddr 22 (.tmp 17) (.const (.int .i64 0)), none⟩,
    ⟨some 19, .load 3 (.tmp 18), none⟩,
    ⟨some 20, .call ⟨(.value (.func 35)), #[(.tmp 19)], #[3]⟩, none⟩,
    ⟨some 21, .load 41 (.tmp 3), none⟩,
    ⟨some 22, .call ⟨(.value (.func 34)), #[(.tmp 20), (.tmp 21)], #[41, 41]⟩, none⟩,
    ⟨some 23, .call ⟨(.value (.func 33)), #[(.tmp 22)], #[41]⟩, none⟩,
    ⟨some 8, .alloc 41, none⟩,
    ⟨none, .store 41 (.tmp 8) (.tmp 23), none⟩])
  (.seq (.seq (.reg [
    ⟨some 9, .assign (.const (.int .i64 1)), none⟩])
  (.block 0 (.loop (.seq (.seq (.reg [
    ⟨some 24, .move (.tmp 9), none⟩,
    ⟨some 25, .fieldAddr 24 (.tmp 2) 0, none⟩,
    ⟨some 26, .load 22 (.tmp 25), none⟩,
    ⟨some 27, .call ⟨(.builtin .len), #[(.tmp 26)], #[22]⟩, none⟩,
    ⟨some 28, .binOp .lss 3 (.tmp 24) (.tmp 27) 3, none⟩])
  (.cond (.tmp 28)
    .skip
    (.exit 0)))
  (.seq (.block 1 (.seq (.dreg [
    ⟨some 31, .fieldAddr 24 (.tmp 2) 0, none⟩,
    ⟨some 32, .load 22 (.tmp 31), none⟩,
    ⟨some 33, .move (.tmp 9), none⟩,
    ⟨some 34, .indexAddr 22 (.tmp 32) (.tmp 33), none⟩,
    ⟨some 35, .load 3 (.tmp 34), none⟩,
    ⟨some 36, .call ⟨(.value (.func 35)), #[(.tmp 35)], #[3]⟩, none⟩,
    ⟨some 37, .load 41 (.tmp 3), none⟩,
    ⟨some 38, .call ⟨(.value (.func 34)), #[(.tmp 36), (.tmp 37)], #[41, 41]⟩, none⟩,
    ⟨some 39, .call ⟨(.value (.func 33)), #[(.tmp 38)], #[41]⟩, none⟩,
    ⟨some 10, .alloc 41, none⟩,
    ⟨none, .store 41 (.tmp 10) (.tmp 39), none⟩])
  (.seq (.reg [
    ⟨some 40, .load 41 (.tmp 10), none⟩,
    ⟨some 41, .load 41 (.tmp 8), none⟩,
    ⟨some 42, .call ⟨(.value (.func 36)), #[(.tmp 40), (.tmp 41)], #[41, 41]⟩, none⟩,
    ⟨some 43, .binOp .lss 3 (.tmp 42) (.const (.int .i64 0)) 3, none⟩])
  (.cond (.tmp 43)
    (.dreg [
      ⟨some 44, .move (.tmp 9), none⟩,
      ⟨some 45, .load 41 (.tmp 10), none⟩,
      ⟨some 7, .assign (.tmp 44), none⟩,
      ⟨none, .store 41 (.tmp 8) (.tmp 45), none⟩])
    .skip))))
  (.reg [
    ⟨some 29, .move (.tmp 9), none⟩,
    ⟨some 30, .binOp .add 3 (.tmp 29) (.const (.int .i64 1)) 3, none⟩,
    ⟨some 9, .assign (.tmp 30), none⟩]))))))
  (.seq (.reg [
    ⟨some 46, .move (.tmp 7), none⟩,
    ⟨some 4, .assign (.tmp 46), none⟩,
    ⟨some 5, .assign (.const (.int .i64 0)), none⟩])
  .ret)))))))⟩
theorem c19 : fcomp Try.prog 19 = ⟨b19.n, b19.np, b19.res, b19.body.bare⟩ := by kernel_rfl
theorem k19 : fok Try.prog 19 = true := by kernel_rfl
theorem ref_Near (p w : List Int) (n : Bool) (m d : List Int) (hm : Lim m) (hd : Lim d) (lm : m.length < 68719476600) (ld : d.length < 68719476600) : AFun Try.prog 19 [.agg [intsD p, intsD w], .agg [.lit (.bool n), natD m, natD d]] (nearR (rv n m d) p w) := by
  refine afun_intro mo_ _ _ c19 k19 _ _ rfl (by decide) ?_
  unfold b19
  simp (maxSteps := 1000000) (disch := first | omega | (simp only [LL]; omega)) only [W, V, TY, CC, reduceIte, Nat.reduceEqDiff, Nat.reduceAdd, Nat.reduceLeDiff, Nat.reduceLT, Int.reduceLE, Int.reduceLT, Int.reduceAdd, Int.reduceSub, Int.reduceToNat, Nat.reduceMul]
  refine a_call _ _ (ref_Valid p w) (by simp (maxSteps := 1000000) (disch := first | omega | (simp only [LL]; omega)) only [W, V, TY, CC, reduceIte, Nat.reduceEqDiff, Nat.reduceAdd, Nat.reduceLeDiff, Nat.reduceLT, Int.reduceLE, Int.reduceLT, Int.reduceAdd, Int.reduceSub, Int.reduceToNat, Nat.reduceMul]) ?_
  simp (maxSteps := 1000000) (disch := first | omega | (simp only [LL]; omega)) only [W, V, TY, CC, reduceIte, Nat.reduceEqDiff, Nat.reduceAdd, Nat.reduceLeDiff, Nat.reduceLT, Int.reduceLE, Int.reduceLT, Int.reduceAdd, Int.reduceSub, Int.reduceToNat, Nat.reduceMul]
  refine c_split (fun h1 => ?_) (fun h1 => ?_)
  · simp (maxSteps := 1000000) (disch := first | omega | (simp only [LL]; omega)) only [W, V, TY, CC, reduceIte, Nat.reduceEqDiff, Nat.reduceAdd, Nat.reduceLeDiff, Nat.reduceLT, Int.reduceLE, Int.reduceLT, Int.reduceAdd, Int.reduceSub, Int.reduceToNat, Nat.reduceMul]
    refine f_ret _ _ _ ?_
    unfold nearR
    simp (maxSteps := 1000000) (disch := first | omega | (simp only [LL]; omega)) only [W, V, TY, CC, reduceIte, Nat.reduceEqDiff, Nat.reduceAdd, Nat.reduceLeDiff, Nat.reduceLT, Int.reduceLE, Int.reduceLT, Int.reduceAdd, Int.reduceSub, Int.reduceToNat, Nat.reduceMul, h1]
  have h0 : gridV p w = 0 := Classical.not_not.1 h1
  obtain ⟨g1, g2, g3, g4⟩ := gridV_zero h0
  have gp := gridV_pos h0
  have hj := near_spec (rv n m d) gp
  have hr := qs_rv n hm hd
  have bnd : ∀ i, i < p.length → qs ((p.getD i 0 : Int) : Rat) ≤ 10 ∧ qs (((p.getD i 0 : Int) : Rat) - rv n m d) < 68719476700 := fun i hi => by
    have b1 := (g3 i hi).1
    have h2 := qs_int (x := p.getD i 0) (by omega) (by omega)
    have h3 := qs_sub ((p.getD i 0 : Int) : Rat) (rv n m d)
    exact ⟨h2, by omega⟩
  obtain ⟨b1, b2⟩ := bnd 0 gp
  have b0 := (g3 0 gp).1
  simp (maxSteps := 1000000) (disch := first | omega | (simp only [LL]; omega)) only [W, V, TY, CC, reduceIte, Nat.reduceEqDiff, Nat.reduceAdd, Nat.reduceLeDiff, Nat.reduceLT, Int.reduceLE, Int.reduceLT, Int.reduceAdd, Int.reduceSub, Int.reduceToNat, Nat.reduceMul]
  refine a_call _ _ (ref_whole (p.getD 0 0) (by omega) (by omega)) (by simp (maxSteps := 1000000) (disch := first | omega | (simp only [LL]; omega)) only [W, V, TY, CC, reduceIte, Nat.reduceEqDiff, Nat.reduceAdd, Nat.reduceLeDiff, Nat.reduceLT, Int.reduceLE, Int.reduceLT, Int.reduceAdd, Int.reduceSub, Int.reduceToNat, Nat.reduceMul]) ?_
  simp (maxSteps := 1000000) (disch := first | omega | (simp only [LL]; omega)) only [W, V, TY, CC, reduceIte, Nat.reduceEqDiff, Nat.reduceAdd, Nat.reduceLeDiff, Nat.reduceLT, Int.reduceLE, Int.reduceLT, Int.reduceAdd, Int.reduceSub, Int.reduceToNat, Nat.reduceMul]
  refine a_call _ _ (rr_Sub3 (a := ((p.getD 0 0 : Int) : Rat)) (by omega) n m d hm hd (by omega) (by omega)) (by simp (maxSteps := 1000000) (disch := first | omega | (simp only [LL]; omega)) only [W, V, TY, CC, reduceIte, Nat.reduceEqDiff, Nat.reduceAdd, Nat.reduceLeDiff, Nat.reduceLT, Int.reduceLE, Int.reduceLT, Int.reduceAdd, Int.reduceSub, Int.reduceToNat, Nat.reduceMul, ratC]) ?_
  simp (maxSteps := 1000000) (disch := first | omega | (simp only [LL]; omega)) only [W, V, TY, CC, reduceIte, Nat.reduceEqDiff, Nat.reduceAdd, Nat.reduceLeDiff, Nat.reduceLT, Int.reduceLE, Int.reduceLT, Int.reduceAdd, Int.reduceSub, Int.reduceToNat, Nat.reduceMul]
  refine a_call _ _ (rr_Abs2 (a := ((p.getD 0 0 : Int) : Rat) - rv n m d) (by omega)) (by simp (maxSteps := 1000000) (disch := first | omega | (simp only [LL]; omega)) only [W, V, TY, CC, reduceIte, Nat.reduceEqDiff, Nat.reduceAdd, Nat.reduceLeDiff, Nat.reduceLT, Int.reduceLE, Int.reduceLT, Int.reduceAdd, Int.reduceSub, Int.reduceToNat, Nat.reduceMul, ratC]) ?_
  simp (maxSteps := 1000000) (disch := first | omega | (simp only [LL]; omega)) only [W, V, TY, CC, reduceIte, Nat.reduceEqDiff, Nat.reduceAdd, Nat.reduceLeDiff, Nat.reduceLT, Int.reduceLE, Int.reduceLT, Int.reduceAdd, Int.reduceSub, Int.reduceToNat, Nat.reduceMul, ratC]
  refine w_loop (fun k s => ∃ i : Nat, k + i = p.length ∧ 0 < i ∧ s.t 2 = .ptr (2, 0) 0 ∧ s.t 3 = .ptr (3, 0) 0 ∧ s.t 8 = .ptr (8, 0) 0 ∧ s.v (2, 0) = some [.dt (intsD p), .dt (intsD w)] ∧ s.v (3, 0) = some [.dt (.lit (.bool n)), .dt (natD m), .dt (natD d)] ∧ s.t 7 = .one (.dt (.lit (.int .i64 (min (near (rv n m d) p) (i - 1) : Nat)))) ∧ s.t 9 = .one (.dt (.lit (.int .i64 i))) ∧ s.f (8, 0) = false ∧ s.v (8, 0) = some ((ratC (qabs (((p.getD (min (near (rv n m d) p) (i - 1)) 0 : Int) : Rat) - rv n m d))).map .dt)) (p.length - 1) ⟨1, by omega, by decide, ?_, ?_, ?_, ?_, ?_, ?_, ?_, ?_, ?_⟩ ?_
  · simp (maxSteps := 1000000) (disch := first | omega | (simp only [LL]; omega)) only [W, V, TY, CC, reduceIte, Nat.reduceEqDiff, Nat.reduceAdd, Nat.reduceLeDiff, Nat.reduceLT, Int.reduceLE, Int.reduceLT, Int.reduceAdd, Int.reduceSub, Int.reduceToNat, Nat.reduceMul]
  · simp (maxSteps := 1000000) (disch := first | omega | (simp only [LL]; omega)) only [W, V, TY, CC, reduceIte, Nat.reduceEqDiff, Nat.reduceAdd, Nat.reduceLeDiff, Nat.reduceLT, Int.reduceLE, Int.reduceLT, Int.reduceAdd, Int.reduceSub, Int.reduceToNat, Nat.reduceMul]
  · simp (maxSteps := 1000000) (disch := first | omega | (simp only [LL]; omega)) only [W, V, TY, CC, reduceIte, Nat.reduceEqDiff, Nat.reduceAdd, Nat.reduceLeDiff, Nat.reduceLT, Int.reduceLE, Int.reduceLT, Int.reduceAdd, Int.reduceSub, Int.reduceToNat, Nat.reduceMul]
  · simp (maxSteps := 1000000) (disch := first | omega | (simp only [LL]; omega)) only [W, V, TY, CC, reduceIte, Nat.reduceEqDiff, Nat.reduceAdd, Nat.reduceLeDiff, Nat.reduceLT, Int.reduceLE, Int.reduceLT, Int.reduceAdd, Int.reduceSub, Int.reduceToNat, Nat.reduceMul]
  · simp (maxSteps := 1000000) (disch := first | omega | (simp only [LL]; omega)) only [W, V, TY, CC, reduceIte, Nat.reduceEqDiff, Nat.reduceAdd, Nat.reduceLeDiff, Nat.reduceLT, Int.reduceLE, Int.reduceLT, Int.reduceAdd, Int.reduceSub, Int.reduceToNat, Nat.reduceMul]
  · simp (maxSteps := 1000000) (disch := first | omega | (simp only [LL]; omega)) only [W, V, TY, CC, reduceIte, Nat.reduceEqDiff, Nat.reduceAdd, Nat.reduceLeDiff, Nat.reduceLT, Int.reduceLE, Int.reduceLT, Int.reduceAdd, Int.reduceSub, Int.reduceToNat, Nat.reduceMul, Nat.sub_self, Nat.min_zero]
  · simp (maxSteps := 1000000) (disch := first | omega | (simp only [LL]; omega)) only [W, V, TY, CC, reduceIte, Nat.reduceEqDiff, Nat.reduceAdd, Nat.reduceLeDiff, Nat.reduceLT, Int.reduceLE, Int.reduceLT, Int.reduceAdd, Int.reduceSub, Int.reduceToNat, Nat.reduceMul]
  · simp (maxSteps := 1000000) (disch := first | omega | (simp only [LL]; omega)) only [W, V, TY, CC, reduceIte, Nat.reduceEqDiff, Nat.reduceAdd, Nat.reduceLeDiff, Nat.reduceLT, Int.reduceLE, Int.reduceLT, Int.reduceAdd, Int.reduceSub, Int.reduceToNat, Nat.reduceMul]
  · simp (maxSteps := 1000000) (disch := first | omega | (simp only [LL]; omega)) only [W, V, TY, CC, reduceIte, Nat.reduceEqDiff, Nat.reduceAdd, Nat.reduceLeDiff, Nat.reduceLT, Int.reduceLE, Int.reduceLT, Int.reduceAdd, Int.reduceSub, Int.reduceToNat, Nat.reduceMul, Nat.sub_self, Nat.min_zero, ratC]
  intro k s hwf ⟨i, e, hi0, t2, t3, t8, v2, v3, t7, t9, f8, v8⟩
  have f10 := (hwf 10 (s.g 10) (Nat.le_refl _)).2.2
  simp (maxSteps := 1000000) (disch := first | omega | (simp only [LL]; omega)) only [W, V, TY, CC, reduceIte, Nat.reduceEqDiff, Nat.reduceAdd, Nat.reduceLeDiff, Nat.reduceLT, Int.reduceLE, Int.reduceLT, Int.reduceAdd, Int.reduceSub, Int.reduceToNat, Nat.reduceMul, t2, t3, v2, v3, t9]
  refine c_split (fun hi => ?_) (fun hi => ?_)
  · have hil : i < p.length := by omega
    obtain ⟨b1, b2⟩ := bnd i hil
    have b0 := (g3 i hil).1
    obtain ⟨b3, b4⟩ := bnd (min (near (rv n m d) p) (i - 1)) (by omega)
    have q1 := qs_abs (((p.getD i 0 : Int) : Rat) - rv n m d)
    have q2 := qs_abs (((p.getD (min (near (rv n m d) p) (i - 1)) 0 : Int) : Rat) - rv n m d)
    have hst := near_step g4 hj hi0 hil
    rw [← cmpQ_lt] at hst
    simp (maxSteps := 1000000) (disch := first | omega | (simp only [LL]; omega)) only [W, V, TY, CC, reduceIte, Nat.reduceEqDiff, Nat.reduceAdd, Nat.reduceLeDiff, Nat.reduceLT, Int.reduceLE, Int.reduceLT, Int.reduceAdd, Int.reduceSub, Int.reduceToNat, Nat.reduceMul, t2, t3, t8, v2, v3, t9]
    refine a_call _ _ (ref_whole (p.getD i 0) (by omega) (by omega)) (by simp (maxSteps := 1000000) (disch := first | omega | (simp only [LL]; omega)) only [W, V, TY, CC, reduceIte, Nat.reduceEqDiff, Nat.reduceAdd, Nat.reduceLeDiff, Nat.reduceLT, Int.reduceLE, Int.reduceLT, Int.reduceAdd, Int.reduceSub, Int.reduceToNat, Nat.reduceMul, t2, t3, t8, v2, v3, t9]) ?_
    simp (maxSteps := 1000000) (disch := first | omega | (simp only [LL]; omega)) only [W, V, TY, CC, reduceIte, Nat.reduceEqDiff, Nat.reduceAdd, Nat.reduceLeDiff, Nat.reduceLT, Int.reduceLE, Int.reduceLT, Int.reduceAdd, Int.reduceSub, Int.reduceToNat, Nat.reduceMul, t2, t3, t8, v2, v3, t9]
    refine a_call _ _ (rr_Sub3 (a := ((p.getD i 0 : Int) : Rat)) (by omega) n m d hm hd (by omega) (by omega)) (by simp (maxSteps := 1000000) (disch := first | omega | (simp only [LL]; omega)) only [W, V, TY, CC, reduceIte, Nat.reduceEqDiff, Nat.reduceAdd, Nat.reduceLeDiff, Nat.reduceLT, Int.reduceLE, Int.reduceLT, Int.reduceAdd, Int.reduceSub, Int.reduceToNat, Nat.reduceMul, ratC, t2, t3, t8, v2, v3, t9]) ?_
    simp (maxSteps := 1000000) (disch := first | omega | (simp only [LL]; omega)) only [W, V, TY, CC, reduceIte, Nat.reduceEqDiff, Nat.reduceAdd, Nat.reduceLeDiff, Nat.reduceLT, Int.reduceLE, Int.reduceLT, Int.reduceAdd, Int.reduceSub, Int.reduceToNat, Nat.reduceMul, t2, t3, t8, v2, v3, t9]
    refine a_call _ _ (rr_Abs2 (a := ((p.getD i 0 : Int) : Rat) - rv n m d) (by omega)) (by simp (maxSteps := 1000000) (disch := first | omega | (simp only [LL]; omega)) only [W, V, TY, CC, reduceIte, Nat.reduceEqDiff, Nat.reduceAdd, Nat.reduceLeDiff, Nat.reduceLT, Int.reduceLE, Int.reduceLT, Int.reduceAdd, Int.reduceSub, Int.reduceToNat, Nat.reduceMul, ratC, t2, t3, t8, v2, v3, t9]) ?_
    generalize hA : qabs (((p.getD i 0 : Int) : Rat) - rv n m d) = A at *
    generalize hB : qabs (((p.getD (min (near (rv n m d) p) (i - 1)) 0 : Int) : Rat) - rv n m d) = B at *
    simp only [ratC, List.map_cons, List.map_nil] at v8
    simp (maxSteps := 1000000) (disch := first | omega | (simp only [LL]; omega)) only [W, V, TY, CC, reduceIte, Nat.reduceEqDiff, Nat.reduceAdd, Nat.reduceLeDiff, Nat.reduceLT, Int.reduceLE, Int.reduceLT, Int.reduceAdd, Int.reduceSub, Int.reduceToNat, Nat.reduceMul, ratC, t2, t3, t8, v2, v3, v8, t9, f8, f10]
    refine a_call _ _ (rr_Cmp2 (a := A) (b := B) (by omega) (by omega)) (by simp (maxSteps := 1000000) (disch := first | omega | (simp only [LL]; omega)) only [W, V, TY, CC, reduceIte, Nat.reduceEqDiff, Nat.reduceAdd, Nat.reduceLeDiff, Nat.reduceLT, Int.reduceLE, Int.reduceLT, Int.reduceAdd, Int.reduceSub, Int.reduceToNat, Nat.reduceMul, ratC, t2, t3, t8, v2, v3, v8, t9, f8, f10]) ?_
    simp (maxSteps := 1000000) (disch := first | omega | (simp only [LL]; omega)) only [W, V, TY, CC, reduceIte, Nat.reduceEqDiff, Nat.reduceAdd, Nat.reduceLeDiff, Nat.reduceLT, Int.reduceLE, Int.reduceLT, Int.reduceAdd, Int.reduceSub, Int.reduceToNat, Nat.reduceMul, ratC, t2, t3, t8, v2, v3, v8, t9, f8, f10]
    refine c_split (fun hc => ?_) (fun hc => ?_)
    · have hij := hst.1 hc
      simp (maxSteps := 1000000) (disch := first | omega | (simp only [LL]; omega)) only [W, V, TY, CC, reduceIte, Nat.reduceEqDiff, Nat.reduceAdd, Nat.reduceLeDiff, Nat.reduceLT, Int.reduceLE, Int.reduceLT, Int.reduceAdd, Int.reduceSub, Int.reduceToNat, Nat.reduceMul, ratC, t2, t3, t8, v2, v3, v8, t9, f8, f10]
      have hmin : min (near (rv n m d) p) (i + 1 - 1) = i := by omega
      exact ⟨k - 1, by omega, i + 1, by omega, by omega, by rw [hmin], rfl, by rw [hmin, hA]⟩
    · have hij : ¬ i ≤ near (rv n m d) p := fun h => hc (hst.2 h)
      simp (maxSteps := 1000000) (disch := first | omega | (simp only [LL]; omega)) only [W, V, TY, CC, reduceIte, Nat.reduceEqDiff, Nat.reduceAdd, Nat.reduceLeDiff, Nat.reduceLT, Int.reduceLE, Int.reduceLT, Int.reduceAdd, Int.reduceSub, Int.reduceToNat, Nat.reduceMul, ratC, t2, t3, t8, v2, v3, v8, t7, t9, f8, f10]
      have hmin : min (near (rv n m d) p) (i + 1 - 1) = min (near (rv n m d) p) (i - 1) := by omega
      exact ⟨k - 1, by omega, i + 1, by omega, by omega, by rw [hmin], rfl, by rw [hmin, hB]⟩
  · simp (maxSteps := 1000000) (disch := first | omega | (simp only [LL]; omega)) only [W, V, TY, CC, reduceIte, Nat.reduceEqDiff, Nat.reduceAdd, Nat.reduceLeDiff, Nat.reduceLT, Int.reduceLE, Int.reduceLT, Int.reduceAdd, Int.reduceSub, Int.reduceToNat, Nat.reduceMul, t2, t3, t8, v2, v3, t7, t9]
    refine f_ret _ _ _ ?_
    unfold nearR
    have hx : min (near (rv n m d) p) (i - 1) = near (rv n m d) p := by have := hj.1; omega
    simp (maxSteps := 1000000) (disch := first | omega | (simp only [LL]; omega)) only [W, V, TY, CC, reduceIte, Nat.reduceEqDiff, Nat.reduceAdd, Nat.reduceLeDiff, Nat.reduceLT, Int.reduceLE, Int.reduceLT, Int.reduceAdd, Int.reduceSub, Int.reduceToNat, Nat.reduceMul, h0, hx]
/-- examboard/examboardlaw18.GridNears -/
def b5 : AF := ⟨40, 2, [.tmp 4],
  (.seq (.reg [
    ⟨some 2, .box 24 (.tmp 0), none⟩,
    ⟨some 3, .box 41 (.tmp 1), none⟩,
    ⟨some 4, .assign (.const (.bool false)), none⟩])
  (.seq (.seq (.reg [
    ⟨some 9, .fieldAddr 41 (.tmp 3) 0, none⟩,
    ⟨some 10, .fieldAddr 39 (.tmp 9) 1, none⟩,
    ⟨some 11, .load 36 (.tmp 10), none⟩,
    ⟨some 12, .call ⟨(.builtin .len), #[(.tmp 11)], #[36]⟩, none⟩,
    ⟨some 13, .binOp .gtr 3 (.tmp 12) (.const (.int .i64 20)) 3, none⟩,
    ⟨some 14, .move (.tmp 13), none⟩,
    ⟨some 15, .fieldAddr 41 (.tmp 3) 1, some (14, false)⟩,
    ⟨some 16, .load 36 (.tmp 15), some (14, false)⟩,
    ⟨some 17, .call ⟨(.builtin .len), #[(.tmp 16)], #[36]⟩, some (14, false)⟩,
    ⟨some 18, .binOp .gtr 3 (.tmp 17) (.const (.int .i64 20)) 3, some (14, false)⟩,
    ⟨some 19, .pick (.tmp 14) (.const (.bool true)) (.tmp 18), none⟩])
  (.cond (.tmp 19)
    (.seq (.reg [
      ⟨some 4, .assign (.const (.bool true)), none⟩])
    .ret)
    .skip))
  (.seq (.reg [
    ⟨some 21, .load 24 (.tmp 2), none⟩,
    ⟨some 22, .load 41 (.tmp 3), none⟩,
    ⟨some 23, .call ⟨(.value (.func 18)), #[(.tmp 21), (.tmp 22)], #[24, 41]⟩, none⟩,
    ⟨some 20, .move (.tmp 23), none⟩,
    ⟨some 24, .extract (.tmp 20) 0, none⟩,
    ⟨some 25, .extract (.tmp 20) 1, none⟩,
    ⟨some 5, .assign (.tmp 24), none⟩,
    ⟨some 6, .assign (.tmp 25), none⟩])
  (.seq (.reg [
    ⟨some 27, .load 24 (.tmp 2), none⟩,
    ⟨some 28, .load 41 (.tmp 3), none⟩,
    ⟨some 29, .call ⟨(.value (.func 19)), #[(.tmp 27), (.tmp 28)], #[24, 41]⟩, none⟩,
    ⟨some 26, .move (.tmp 29), none⟩,
    ⟨some 30, .extract (.tmp 26) 0, none⟩,
    ⟨some 31, .extract (.tmp 26) 1, none⟩,
    ⟨some 7, .assign (.tmp 30), none⟩,
    ⟨some 8, .assign (.tmp 31), none⟩])
  (.seq (.reg [
    ⟨some 32, .move (.tmp 5), none⟩,
    ⟨some 33, .move (.tmp 7), none⟩,
    ⟨some 34, .binOp .eql 3 (.tmp 32) (.tmp 33) 3, none⟩,
    ⟨some 35, .move (.tmp 34), none⟩,
    ⟨some 36, .move (.tmp 6), some (35, true)⟩,
    ⟨some 37, .move (.tmp 8), some (35, true)⟩,
    ⟨some 38, .binOp .eql 25 (.tmp 36) (.tmp 37) 25, some (35, true)⟩,
    ⟨some 39, .pick (.tmp 35) (.tmp 38) (.const (.bool false)), none⟩,
    ⟨some 4, .assign (.tmp 39), none⟩])
  .ret)))))⟩
theorem c5 : fcomp Try.prog 5 = ⟨b5.n, b5.np, b5.res, b5.body.bare⟩ := by kernel_rfl
theorem k5 : fok Try.prog 5 = true := by kernel_rfl
theorem law_GridNears (p w : List Int) (n : Bool) (m d : List Int) (hm : Lim m) (hd : Lim d) : AFun Try.prog 5 [.agg [intsD p, intsD w], .agg [.lit (.bool n), natD m, natD d]] [.one (.lit (.bool true))] := by
  refine afun_intro mo_ _ _ c5 k5 _ _ rfl (by decide) ?_
  unfold b5
  simp (maxSteps := 1000000) (disch := first | omega | (simp only [LL]; omega)) only [W, V, TY, CC, reduceIte, Nat.reduceEqDiff, Nat.reduceAdd, Nat.reduceLeDiff, Nat.reduceLT, Int.reduceLE, Int.reduceLT, Int.reduceAdd, Int.reduceSub, Int.reduceToNat, Nat.reduceMul]
  refine g_split (fun h => ?_) (fun h => ?_)
  · simp (maxSteps := 1000000) (disch := first | omega | (simp only [LL]; omega)) only [W, V, TY, CC, reduceIte, Nat.reduceEqDiff, Nat.reduceAdd, Nat.reduceLeDiff, Nat.reduceLT, Int.reduceLE, Int.reduceLT, Int.reduceAdd, Int.reduceSub, Int.reduceToNat, Nat.reduceMul, h]
    refine f_ret _ _ _ ?_
    simp (maxSteps := 1000000) (disch := first | omega | (simp only [LL]; omega)) only [W, V, TY, CC, reduceIte, Nat.reduceEqDiff, Nat.reduceAdd, Nat.reduceLeDiff, Nat.reduceLT, Int.reduceLE, Int.reduceLT, Int.reduceAdd, Int.reduceSub, Int.reduceToNat, Nat.reduceMul]
  · simp (maxSteps := 1000000) (disch := first | omega | (simp only [LL]; omega)) only [W, V, TY, CC, reduceIte, Nat.reduceEqDiff, Nat.reduceAdd, Nat.reduceLeDiff, Nat.reduceLT, Int.reduceLE, Int.reduceLT, Int.reduceAdd, Int.reduceSub, Int.reduceToNat, Nat.reduceMul, h]
    refine c_split (fun h1 => ?_) (fun h1 => ?_)
    · simp (maxSteps := 1000000) (disch := first | omega | (simp only [LL]; omega)) only [W, V, TY, CC, reduceIte, Nat.reduceEqDiff, Nat.reduceAdd, Nat.reduceLeDiff, Nat.reduceLT, Int.reduceLE, Int.reduceLT, Int.reduceAdd, Int.reduceSub, Int.reduceToNat, Nat.reduceMul]
      refine f_ret _ _ _ ?_
      simp (maxSteps := 1000000) (disch := first | omega | (simp only [LL]; omega)) only [W, V, TY, CC, reduceIte, Nat.reduceEqDiff, Nat.reduceAdd, Nat.reduceLeDiff, Nat.reduceLT, Int.reduceLE, Int.reduceLT, Int.reduceAdd, Int.reduceSub, Int.reduceToNat, Nat.reduceMul]
    · have hn : ∃ i c : Int, nearR (rv n m d) p w = [.one (.lit (.int .i64 i)), .one (.lit (.int .i64 c))] := by
        unfold nearR
        split
        · exact ⟨_, _, rfl⟩
        · exact ⟨_, _, rfl⟩
      obtain ⟨i, c, hn⟩ := hn
      have c1 := grid_Near p w n m d hm hd (by omega) (by omega)
      have c2 := ref_Near p w n m d hm hd (by omega) (by omega)
      rw [hn] at c1 c2
      simp (maxSteps := 1000000) (disch := first | omega | (simp only [LL]; omega)) only [W, V, TY, CC, reduceIte, Nat.reduceEqDiff, Nat.reduceAdd, Nat.reduceLeDiff, Nat.reduceLT, Int.reduceLE, Int.reduceLT, Int.reduceAdd, Int.reduceSub, Int.reduceToNat, Nat.reduceMul]
      refine a_call _ _ c1 (by simp (maxSteps := 1000000) (disch := first | omega | (simp only [LL]; omega)) only [W, V, TY, CC, reduceIte, Nat.reduceEqDiff, Nat.reduceAdd, Nat.reduceLeDiff, Nat.reduceLT, Int.reduceLE, Int.reduceLT, Int.reduceAdd, Int.reduceSub, Int.reduceToNat, Nat.reduceMul]) ?_
      simp (maxSteps := 1000000) (disch := first | omega | (simp only [LL]; omega)) only [W, V, TY, CC, reduceIte, Nat.reduceEqDiff, Nat.reduceAdd, Nat.reduceLeDiff, Nat.reduceLT, Int.reduceLE, Int.reduceLT, Int.reduceAdd, Int.reduceSub, Int.reduceToNat, Nat.reduceMul]
      refine a_call _ _ c2 (by simp (maxSteps := 1000000) (disch := first | omega | (simp only [LL]; omega)) only [W, V, TY, CC, reduceIte, Nat.reduceEqDiff, Nat.reduceAdd, Nat.reduceLeDiff, Nat.reduceLT, Int.reduceLE, Int.reduceLT, Int.reduceAdd, Int.reduceSub, Int.reduceToNat, Nat.reduceMul]) ?_
      simp (maxSteps := 1000000) (disch := first | omega | (simp only [LL]; omega)) only [W, V, TY, CC, reduceIte, Nat.reduceEqDiff, Nat.reduceAdd, Nat.reduceLeDiff, Nat.reduceLT, Int.reduceLE, Int.reduceLT, Int.reduceAdd, Int.reduceSub, Int.reduceToNat, Nat.reduceMul]
      refine f_ret _ _ _ ?_
      simp (maxSteps := 1000000) (disch := first | omega | (simp only [LL]; omega)) only [W, V, TY, CC, reduceIte, Nat.reduceEqDiff, Nat.reduceAdd, Nat.reduceLeDiff, Nat.reduceLT, Int.reduceLE, Int.reduceLT, Int.reduceAdd, Int.reduceSub, Int.reduceToNat, Nat.reduceMul]
end Go.Proofs.Ytnlmfdojnacofaa.E

set_option linter.unusedSimpArgs false
set_option linter.unusedVariables false
set_option maxHeartbeats 2000000
namespace Go.Proofs.Ytnlmfdojnacofaa.E
open Go.RowKit Limbs
def hasW (ww : List (List Int)) : Prop := ∃ i, i < ww.length ∧ nv (ww.getD i []) ≠ 0
open Classical in
/-- the first error of a grid and weights -/
noncomputable def checkV (p w : List Int) (ww : List (List Int)) : Int := if ¬ gridV p w = 0 then gridV p w else if ¬ (ww.length : Int) = p.length then 1 else if hasW ww then 0 else 20
def LimW (k : Nat) (ww : List (List Int)) : Prop := ∀ i, Lim (ww.getD i []) ∧ (ww.getD i []).length ≤ k
/-- examboard/grid.check -/
def b37 : AF := ⟨29, 2, [.tmp 4],
  (.seq (.reg [
    ⟨some 2, .box 24 (.tmp 0), none⟩,
    ⟨some 4, .assign (.const (.int .i64 0)), none⟩])
  (.seq (.seq (.reg [
    ⟨some 8, .load 24 (.tmp 2), none⟩,
    ⟨some 9, .call ⟨(.value (.func 15)), #[(.tmp 8)], #[24]⟩, none⟩,
    ⟨some 5, .assign (.tmp 9), none⟩])
  (.seq (.reg [
    ⟨some 10, .move (.tmp 5), none⟩,
    ⟨some 11, .binOp .neq 25 (.tmp 10) (.const (.int .i64 0)) 25, none⟩])
  (.cond (.tmp 11)
    (.seq (.reg [
      ⟨some 12, .move (.tmp 5), none⟩,
      ⟨some 4, .assign (.tmp 12), none⟩])
    .ret)
    .skip)))
  (.seq (.seq (.reg [
    ⟨some 13, .move (.tmp 1), none⟩,
    ⟨some 14, .call ⟨(.builtin .len), #[(.tmp 13)], #[30]⟩, none⟩,
    ⟨some 15, .fieldAddr 24 (.tmp 2) 0, none⟩,
    ⟨some 16, .load 22 (.tmp 15), none⟩,
    ⟨some 17, .call ⟨(.builtin .len), #[(.tmp 16)], #[22]⟩, none⟩,
    ⟨some 18, .binOp .neq 3 (.tmp 14) (.tmp 17) 3, none⟩])
  (.cond (.tmp 18)
    (.seq (.reg [
      ⟨some 4, .assign (.const (.int .i64 1)), none⟩])
    .ret)
    .skip))
  (.seq (.seq (.reg [
    ⟨some 19, .move (.tmp 1), none⟩,
    ⟨some 20, .call ⟨(.builtin .len), #[(.tmp 19)], #[30]⟩, none⟩,
    ⟨some 21, .move (.const (.int .i64 0)), none⟩])
  (.block 0 (.loop (.seq (.reg [
    ⟨some 22, .binOp .lss 3 (.tmp 21) (.tmp 20) 3, none⟩])
  (.seq (.cond (.tmp 22)
    .skip
    (.exit 0))
  (.seq (.block 1 (.seq (.reg [
    ⟨some 23, .indexAddr 30 (.tmp 19) (.tmp 21), none⟩,
    ⟨some 24, .load 36 (.tmp 23), none⟩,
    ⟨some 7, .assign (.tmp 24), none⟩])
  (.seq (.reg [
    ⟨some 25, .move (.tmp 7), none⟩,
    ⟨some 26, .call ⟨(.value (.func 63)), #[(.tmp 25)], #[36]⟩, none⟩,
    ⟨some 27, .binOp .gtr 3 (.tmp 26) (.const (.int .i64 0)) 3, none⟩])
  (.cond (.tmp 27)
    (.seq (.reg [
      ⟨some 4, .assign (.const (.int .i64 0)), none⟩])
    .ret)
    .skip))))
  (.reg [
    ⟨some 28, .binOp .add 3 (.tmp 21) (.const (.int .i64 1)) 3, none⟩,
    ⟨some 21, .move (.tmp 28), none⟩])))))))
  (.seq (.reg [
    ⟨some 4, .assign (.const (.int .i64 20)), none⟩])
  .ret)))))⟩
theorem c37 : fcomp Try.prog 37 = ⟨b37.n, b37.np, b37.res, b37.body.bare⟩ := by kernel_rfl
theorem k37 : fok Try.prog 37 = true := by kernel_rfl
theorem grid_check (p w : List Int) (ww : List (List Int)) (hW : LimW 1099511627776 ww) : AFun Try.prog 37 [.agg [intsD p, intsD w], .one (natsD ww)] [.one (.lit (.int .i64 (checkV p w ww)))] := by
  refine afun_intro mo_ _ _ c37 k37 _ _ rfl (by decide) ?_
  unfold b37
  simp (maxSteps := 1000000) (disch := first | omega | (simp only [LL]; omega)) only [W, V, TY, CC, reduceIte, Nat.reduceEqDiff, Nat.reduceAdd, Nat.reduceLeDiff, Nat.reduceLT, Int.reduceLE, Int.reduceLT, Int.reduceAdd, Int.reduceSub, Int.reduceToNat, Nat.reduceMul]
  refine a_call _ _ (grid_Valid p w) (by simp (maxSteps := 1000000) (disch := first | omega | (simp only [LL]; omega)) only [W, V, TY, CC, reduceIte, Nat.reduceEqDiff, Nat.reduceAdd, Nat.reduceLeDiff, Nat.reduceLT, Int.reduceLE, Int.reduceLT, Int.reduceAdd, Int.reduceSub, Int.reduceToNat, Nat.reduceMul]) ?_
  simp (maxSteps := 1000000) (disch := first | omega | (simp only [LL]; omega)) only [W, V, TY, CC, reduceIte, Nat.reduceEqDiff, Nat.reduceAdd, Nat.reduceLeDiff, Nat.reduceLT, Int.reduceLE, Int.reduceLT, Int.reduceAdd, Int.reduceSub, Int.reduceToNat, Nat.reduceMul]
  unfold checkV
  refine c_split (fun h1 => ?_) (fun h1 => ?_)
  · rw [if_pos h1]
    simp (maxSteps := 1000000) (disch := first | omega | (simp only [LL]; omega)) only [W, V, TY, CC, reduceIte, Nat.reduceEqDiff, Nat.reduceAdd, Nat.reduceLeDiff, Nat.reduceLT, Int.reduceLE, Int.reduceLT, Int.reduceAdd, Int.reduceSub, Int.reduceToNat, Nat.reduceMul]
    refine f_ret _ _ _ ?_
    simp (maxSteps := 1000000) (disch := first | omega | (simp only [LL]; omega)) only [W, V, TY, CC, reduceIte, Nat.reduceEqDiff, Nat.reduceAdd, Nat.reduceLeDiff, Nat.reduceLT, Int.reduceLE, Int.reduceLT, Int.reduceAdd, Int.reduceSub, Int.reduceToNat, Nat.reduceMul]
  rw [if_neg h1]
  simp (maxSteps := 1000000) (disch := first | omega | (simp only [LL]; omega)) only [W, V, TY, CC, reduceIte, Nat.reduceEqDiff, Nat.reduceAdd, Nat.reduceLeDiff, Nat.reduceLT, Int.reduceLE, Int.reduceLT, Int.reduceAdd, Int.reduceSub, Int.reduceToNat, Nat.reduceMul]
  refine c_split (fun h2 => ?_) (fun h2 => ?_)
  · rw [if_pos h2]
    simp (maxSteps := 1000000) (disch := first | omega | (simp only [LL]; omega)) only [W, V, TY, CC, reduceIte, Nat.reduceEqDiff, Nat.reduceAdd, Nat.reduceLeDiff, Nat.reduceLT, Int.reduceLE, Int.reduceLT, Int.reduceAdd, Int.reduceSub, Int.reduceToNat, Nat.reduceMul]
    refine f_ret _ _ _ ?_
    simp (maxSteps := 1000000) (disch := first | omega | (simp only [LL]; omega)) only [W, V, TY, CC, reduceIte, Nat.reduceEqDiff, Nat.reduceAdd, Nat.reduceLeDiff, Nat.reduceLT, Int.reduceLE, Int.reduceLT, Int.reduceAdd, Int.reduceSub, Int.reduceToNat, Nat.reduceMul]
  rw [if_neg h2]
  have h1' : gridV p w = 0 := Classical.not_not.1 h1
  obtain ⟨g1, _⟩ := gridV_zero h1'
  simp (maxSteps := 1000000) (disch := first | omega | (simp only [LL]; omega)) only [W, V, TY, CC, reduceIte, Nat.reduceEqDiff, Nat.reduceAdd, Nat.reduceLeDiff, Nat.reduceLT, Int.reduceLE, Int.reduceLT, Int.reduceAdd, Int.reduceSub, Int.reduceToNat, Nat.reduceMul]
  refine w_loop (fun n s => ∃ i : Nat, n + i = ww.length ∧ s.t 19 = .one (.dt (natsD ww)) ∧ s.t 20 = .one (.dt (.lit (.int .i64 ww.length))) ∧ s.t 21 = .one (.dt (.lit (.int .i64 i))) ∧ ∀ j, j < i → nv (ww.getD j []) = 0) ww.length ⟨0, rfl, ?_, ?_, ?_, fun j hj => by omega⟩ ?_
  · simp (maxSteps := 1000000) (disch := first | omega | (simp only [LL]; omega)) only [W, V, TY, CC, reduceIte, Nat.reduceEqDiff, Nat.reduceAdd, Nat.reduceLeDiff, Nat.reduceLT, Int.reduceLE, Int.reduceLT, Int.reduceAdd, Int.reduceSub, Int.reduceToNat, Nat.reduceMul]
  · simp (maxSteps := 1000000) (disch := first | omega | (simp only [LL]; omega)) only [W, V, TY, CC, reduceIte, Nat.reduceEqDiff, Nat.reduceAdd, Nat.reduceLeDiff, Nat.reduceLT, Int.reduceLE, Int.reduceLT, Int.reduceAdd, Int.reduceSub, Int.reduceToNat, Nat.reduceMul]
  · simp (maxSteps := 1000000) (disch := first | omega | (simp only [LL]; omega)) only [W, V, TY, CC, reduceIte, Nat.reduceEqDiff, Nat.reduceAdd, Nat.reduceLeDiff, Nat.reduceLT, Int.reduceLE, Int.reduceLT, Int.reduceAdd, Int.reduceSub, Int.reduceToNat, Nat.reduceMul]
  intro n s _ ⟨i, e, t19, t20, t21, hlo⟩
  simp (maxSteps := 1000000) (disch := first | omega | (simp only [LL]; omega)) only [W, V, TY, CC, reduceIte, Nat.reduceEqDiff, Nat.reduceAdd, Nat.reduceLeDiff, Nat.reduceLT, Int.reduceLE, Int.reduceLT, Int.reduceAdd, Int.reduceSub, Int.reduceToNat, Nat.reduceMul, t19, t20, t21]
  refine c_split (fun hi => ?_) (fun hi => ?_)
  · obtain ⟨l1, l2⟩ := hW i
    simp (maxSteps := 1000000) (disch := first | omega | (simp only [LL]; omega)) only [W, V, TY, CC, reduceIte, Nat.reduceEqDiff, Nat.reduceAdd, Nat.reduceLeDiff, Nat.reduceLT, Int.reduceLE, Int.reduceLT, Int.reduceAdd, Int.reduceSub, Int.reduceToNat, Nat.reduceMul, t19, t20, t21]
    refine a_call _ _ (nat_Bits (ww.getD i []) l1 (by omega)) (by simp (maxSteps := 1000000) (disch := first | omega | (simp only [LL]; omega)) only [W, V, TY, CC, reduceIte, Nat.reduceEqDiff, Nat.reduceAdd, Nat.reduceLeDiff, Nat.reduceLT, Int.reduceLE, Int.reduceLT, Int.reduceAdd, Int.reduceSub, Int.reduceToNat, Nat.reduceMul, t19, t20, t21]) ?_
    simp (maxSteps := 1000000) (disch := first | omega | (simp only [LL]; omega)) only [W, V, TY, CC, reduceIte, Nat.reduceEqDiff, Nat.reduceAdd, Nat.reduceLeDiff, Nat.reduceLT, Int.reduceLE, Int.reduceLT, Int.reduceAdd, Int.reduceSub, Int.reduceToNat, Nat.reduceMul, t19, t20, t21]
    refine c_split (fun hc => ?_) (fun hc => ?_)
    · have hh : hasW ww := ⟨i, by omega, fun e => by rw [e, bl_zero] at hc; omega⟩
      rw [if_pos hh]
      simp (maxSteps := 1000000) (disch := first | omega | (simp only [LL]; omega)) only [W, V, TY, CC, reduceIte, Nat.reduceEqDiff, Nat.reduceAdd, Nat.reduceLeDiff, Nat.reduceLT, Int.reduceLE, Int.reduceLT, Int.reduceAdd, Int.reduceSub, Int.reduceToNat, Nat.reduceMul]
      refine f_ret _ _ _ ?_
      simp (maxSteps := 1000000) (disch := first | omega | (simp only [LL]; omega)) only [W, V, TY, CC, reduceIte, Nat.reduceEqDiff, Nat.reduceAdd, Nat.reduceLeDiff, Nat.reduceLT, Int.reduceLE, Int.reduceLT, Int.reduceAdd, Int.reduceSub, Int.reduceToNat, Nat.reduceMul]
    · simp (maxSteps := 1000000) (disch := first | omega | (simp only [LL]; omega)) only [W, V, TY, CC, reduceIte, Nat.reduceEqDiff, Nat.reduceAdd, Nat.reduceLeDiff, Nat.reduceLT, Int.reduceLE, Int.reduceLT, Int.reduceAdd, Int.reduceSub, Int.reduceToNat, Nat.reduceMul, t19, t20, t21]
      refine ⟨n - 1, by omega, i + 1, by omega, rfl, fun j hj => ?_⟩
      rcases Nat.lt_or_ge j i with h | h
      · exact hlo j h
      · have : j = i := by omega
        subst this
        exact bl_eq_zero.1 (by omega)
  · have hh : ¬ hasW ww := fun ⟨j, hj, hn⟩ => hn (hlo j (by omega))
    rw [if_neg hh]
    simp (maxSteps := 1000000) (disch := first | omega | (simp only [LL]; omega)) only [W, V, TY, CC, reduceIte, Nat.reduceEqDiff, Nat.reduceAdd, Nat.reduceLeDiff, Nat.reduceLT, Int.reduceLE, Int.reduceLT, Int.reduceAdd, Int.reduceSub, Int.reduceToNat, Nat.reduceMul, t19, t20, t21]
    refine f_ret _ _ _ ?_
    simp (maxSteps := 1000000) (disch := first | omega | (simp only [LL]; omega)) only [W, V, TY, CC, reduceIte, Nat.reduceEqDiff, Nat.reduceAdd, Nat.reduceLeDiff, Nat.reduceLT, Int.reduceLE, Int.reduceLT, Int.reduceAdd, Int.reduceSub, Int.reduceToNat, Nat.reduceMul]
/-- examboard/examboardref18.check -/
def b40 : AF := ⟨30, 2, [.tmp 4],
  (.seq (.reg [
    ⟨some 2, .box 24 (.tmp 0), none⟩,
    ⟨some 4, .assign (.const (.int .i64 0)), none⟩])
  (.seq (.reg [
    ⟨some 7, .load 24 (.tmp 2), none⟩,
    ⟨some 8, .call ⟨(.value (.func 16)), #[(.tmp 7)], #[24]⟩, none⟩,
    ⟨some 5, .assign (.tmp 8), none⟩])
  (.seq (.seq (.reg [
    ⟨some 9, .move (.tmp 5), none⟩,
    ⟨some 10, .binOp .neq 25 (.tmp 9) (.const (.int .i64 0)) 25, none⟩])
  (.cond (.tmp 10)
    (.seq (.reg [
      ⟨some 11, .move (.tmp 5), none⟩,
      ⟨some 4, .assign (.tmp 11), none⟩])
    .ret)
    .skip))
  (.seq (.seq (.reg [
    ⟨some 12, .move (.tmp 1), none⟩,
    ⟨some 13, .call ⟨(.builtin .len), #[(.tmp 12)], #[30]⟩, none⟩,
    ⟨some 14, .fieldAddr 24 (.tmp 2) 0, none⟩,
    ⟨some 15, .load 22 (.tmp 14), none⟩,
    ⟨some 16, .call ⟨(.builtin .len), #[(.tmp 15)], #[22]⟩, none⟩,
    ⟨some 17, .binOp .neq 3 (.tmp 13) (.tmp 16) 3, none⟩])
  (.cond (.tmp 17)
    (.seq (.reg [
      ⟨some 4, .assign (.const (.int .i64 1)), none⟩])
    .ret)
    .skip))
  (.seq (.seq (.reg [
    ⟨some 6, .assign (.const (.int .i64 0)), none⟩])
  (.block 0 (.loop (.seq (.seq (.reg [
    ⟨some 18, .move (.tmp 6), none⟩,
    ⟨some 19, .move (.tmp 1), none⟩,
    ⟨some 20, .call ⟨(.builtin .len), #[(.tmp 19)], #[30]⟩, none⟩,
    ⟨some 21, .binOp .lss 3 (.tmp 18) (.tmp 20) 3, none⟩])
  (.cond (.tmp 21)
    .skip
    (.exit 0)))
  (.seq (.block 1 (.seq (.reg [
    ⟨some 24, .move (.tmp 1), none⟩,
    ⟨some 25, .move (.tmp 6), none⟩,
    ⟨some 26, .indexAddr 30 (.tmp 24) (.tmp 25), none⟩,
    ⟨some 27, .load 36 (.tmp 26), none⟩,
    ⟨some 28, .call ⟨(.value (.func 67)), #[(.tmp 27)], #[36]⟩, none⟩,
    ⟨some 29, .binOp .gtr 3 (.tmp 28) (.const (.int .i64 0)) 3, none⟩])
  (.cond (.tmp 29)
    (.seq (.reg [
      ⟨some 4, .assign (.const (.int .i64 0)), none⟩])
    .ret)
    .skip)))
  (.reg [
    ⟨some 22, .move (.tmp 6), none⟩,
    ⟨some 23, .binOp .add 3 (.tmp 22) (.const (.int .i64 1)) 3, none⟩,
    ⟨some 6, .assign (.tmp 23), none⟩]))))))
  (.seq (.reg [
    ⟨some 4, .assign (.const (.int .i64 20)), none⟩])
  .ret))))))⟩
theorem c40 : fcomp Try.prog 40 = ⟨b40.n, b40.np, b40.res, b40.body.bare⟩ := by kernel_rfl
theorem k40 : fok Try.prog 40 = true := by kernel_rfl
theorem ref_check (p w : List Int) (ww : List (List Int)) (hW : LimW 1099511627776 ww) : AFun Try.prog 40 [.agg [intsD p, intsD w], .one (natsD ww)] [.one (.lit (.int .i64 (checkV p w ww)))] := by
  refine afun_intro mo_ _ _ c40 k40 _ _ rfl (by decide) ?_
  unfold b40
  simp (maxSteps := 1000000) (disch := first | omega | (simp only [LL]; omega)) only [W, V, TY, CC, reduceIte, Nat.reduceEqDiff, Nat.reduceAdd, Nat.reduceLeDiff, Nat.reduceLT, Int.reduceLE, Int.reduceLT, Int.reduceAdd, Int.reduceSub, Int.reduceToNat, Nat.reduceMul]
  refine a_call _ _ (ref_Valid p w) (by simp (maxSteps := 1000000) (disch := first | omega | (simp only [LL]; omega)) only [W, V, TY, CC, reduceIte, Nat.reduceEqDiff, Nat.reduceAdd, Nat.reduceLeDiff, Nat.reduceLT, Int.reduceLE, Int.reduceLT, Int.reduceAdd, Int.reduceSub, Int.reduceToNat, Nat.reduceMul]) ?_
  simp (maxSteps := 1000000) (disch := first | omega | (simp only [LL]; omega)) only [W, V, TY, CC, reduceIte, Nat.reduceEqDiff, Nat.reduceAdd, Nat.reduceLeDiff, Nat.reduceLT, Int.reduceLE, Int.reduceLT, Int.reduceAdd, Int.reduceSub, Int.reduceToNat, Nat.reduceMul]
  unfold checkV
  refine c_split (fun h1 => ?_) (fun h1 => ?_)
  · rw [if_pos h1]
    simp (maxSteps := 1000000) (disch := first | omega | (simp only [LL]; omega)) only [W, V, TY, CC, reduceIte, Nat.reduceEqDiff, Nat.reduceAdd, Nat.reduceLeDiff, Nat.reduceLT, Int.reduceLE, Int.reduceLT, Int.reduceAdd, Int.reduceSub, Int.reduceToNat, Nat.reduceMul]
    refine f_ret _ _ _ ?_
    simp (maxSteps := 1000000) (disch := first | omega | (simp only [LL]; omega)) only [W, V, TY, CC, reduceIte, Nat.reduceEqDiff, Nat.reduceAdd, Nat.reduceLeDiff, Nat.reduceLT, Int.reduceLE, Int.reduceLT, Int.reduceAdd, Int.reduceSub, Int.reduceToNat, Nat.reduceMul]
  rw [if_neg h1]
  simp (maxSteps := 1000000) (disch := first | omega | (simp only [LL]; omega)) only [W, V, TY, CC, reduceIte, Nat.reduceEqDiff, Nat.reduceAdd, Nat.reduceLeDiff, Nat.reduceLT, Int.reduceLE, Int.reduceLT, Int.reduceAdd, Int.reduceSub, Int.reduceToNat, Nat.reduceMul]
  refine c_split (fun h2 => ?_) (fun h2 => ?_)
  · rw [if_pos h2]
    simp (maxSteps := 1000000) (disch := first | omega | (simp only [LL]; omega)) only [W, V, TY, CC, reduceIte, Nat.reduceEqDiff, Nat.reduceAdd, Nat.reduceLeDiff, Nat.reduceLT, Int.reduceLE, Int.reduceLT, Int.reduceAdd, Int.reduceSub, Int.reduceToNat, Nat.reduceMul]
    refine f_ret _ _ _ ?_
    simp (maxSteps := 1000000) (disch := first | omega | (simp only [LL]; omega)) only [W, V, TY, CC, reduceIte, Nat.reduceEqDiff, Nat.reduceAdd, Nat.reduceLeDiff, Nat.reduceLT, Int.reduceLE, Int.reduceLT, Int.reduceAdd, Int.reduceSub, Int.reduceToNat, Nat.reduceMul]
  rw [if_neg h2]
  have h1' : gridV p w = 0 := Classical.not_not.1 h1
  obtain ⟨g1, _⟩ := gridV_zero h1'
  simp (maxSteps := 1000000) (disch := first | omega | (simp only [LL]; omega)) only [W, V, TY, CC, reduceIte, Nat.reduceEqDiff, Nat.reduceAdd, Nat.reduceLeDiff, Nat.reduceLT, Int.reduceLE, Int.reduceLT, Int.reduceAdd, Int.reduceSub, Int.reduceToNat, Nat.reduceMul]
  refine w_loop (fun n s => ∃ i : Nat, n + i = ww.length ∧ s.t 1 = .one (.dt (natsD ww)) ∧ s.t 6 = .one (.dt (.lit (.int .i64 i))) ∧ ∀ j, j < i → nv (ww.getD j []) = 0) ww.length ⟨0, rfl, ?_, ?_, fun j hj => by omega⟩ ?_
  · simp (maxSteps := 1000000) (disch := first | omega | (simp only [LL]; omega)) only [W, V, TY, CC, reduceIte, Nat.reduceEqDiff, Nat.reduceAdd, Nat.reduceLeDiff, Nat.reduceLT, Int.reduceLE, Int.reduceLT, Int.reduceAdd, Int.reduceSub, Int.reduceToNat, Nat.reduceMul]
  · simp (maxSteps := 1000000) (disch := first | omega | (simp only [LL]; omega)) only [W, V, TY, CC, reduceIte, Nat.reduceEqDiff, Nat.reduceAdd, Nat.reduceLeDiff, Nat.reduceLT, Int.reduceLE, Int.reduceLT, Int.reduceAdd, Int.reduceSub, Int.reduceToNat, Nat.reduceMul]
  intro n s _ ⟨i, e, t1, t6, hlo⟩
  simp (maxSteps := 1000000) (disch := first | omega | (simp only [LL]; omega)) only [W, V, TY, CC, reduceIte, Nat.reduceEqDiff, Nat.reduceAdd, Nat.reduceLeDiff, Nat.reduceLT, Int.reduceLE, Int.reduceLT, Int.reduceAdd, Int.reduceSub, Int.reduceToNat, Nat.reduceMul, t1, t6]
  refine c_split (fun hi => ?_) (fun hi => ?_)
  · obtain ⟨l1, l2⟩ := hW i
    simp (maxSteps := 1000000) (disch := first | omega | (simp only [LL]; omega)) only [W, V, TY, CC, reduceIte, Nat.reduceEqDiff, Nat.reduceAdd, Nat.reduceLeDiff, Nat.reduceLT, Int.reduceLE, Int.reduceLT, Int.reduceAdd, Int.reduceSub, Int.reduceToNat, Nat.reduceMul, t1, t6]
    refine a_call _ _ (ref_Bits (ww.getD i []) l1 (by omega)) (by simp (maxSteps := 1000000) (disch := first | omega | (simp only [LL]; omega)) only [W, V, TY, CC, reduceIte, Nat.reduceEqDiff, Nat.reduceAdd, Nat.reduceLeDiff, Nat.reduceLT, Int.reduceLE, Int.reduceLT, Int.reduceAdd, Int.reduceSub, Int.reduceToNat, Nat.reduceMul, t1, t6]) ?_
    simp (maxSteps := 1000000) (disch := first | omega | (simp only [LL]; omega)) only [W, V, TY, CC, reduceIte, Nat.reduceEqDiff, Nat.reduceAdd, Nat.reduceLeDiff, Nat.reduceLT, Int.reduceLE, Int.reduceLT, Int.reduceAdd, Int.reduceSub, Int.reduceToNat, Nat.reduceMul, t1, t6]
    refine c_split (fun hc => ?_) (fun hc => ?_)
    · have hh : hasW ww := ⟨i, by omega, fun e => by rw [e, bl_zero] at hc; omega⟩
      rw [if_pos hh]
      simp (maxSteps := 1000000) (disch := first | omega | (simp only [LL]; omega)) only [W, V, TY, CC, reduceIte, Nat.reduceEqDiff, Nat.reduceAdd, Nat.reduceLeDiff, Nat.reduceLT, Int.reduceLE, Int.reduceLT, Int.reduceAdd, Int.reduceSub, Int.reduceToNat, Nat.reduceMul]
      refine f_ret _ _ _ ?_
      simp (maxSteps := 1000000) (disch := first | omega | (simp only [LL]; omega)) only [W, V, TY, CC, reduceIte, Nat.reduceEqDiff, Nat.reduceAdd, Nat.reduceLeDiff, Nat.reduceLT, Int.reduceLE, Int.reduceLT, Int.reduceAdd, Int.reduceSub, Int.reduceToNat, Nat.reduceMul]
    · simp (maxSteps := 1000000) (disch := first | omega | (simp only [LL]; omega)) only [W, V, TY, CC, reduceIte, Nat.reduceEqDiff, Nat.reduceAdd, Nat.reduceLeDiff, Nat.reduceLT, Int.reduceLE, Int.reduceLT, Int.reduceAdd, Int.reduceSub, Int.reduceToNat, Nat.reduceMul, t1, t6]
      refine ⟨n - 1, by omega, i + 1, by omega, rfl, fun j hj => ?_⟩
      rcases Nat.lt_or_ge j i with h | h
      · exact hlo j h
      · have : j = i := by omega
        subst this
        exact bl_eq_zero.1 (by omega)
  · have hh : ¬ hasW ww := fun ⟨j, hj, hn⟩ => hn (hlo j (by omega))
    rw [if_neg hh]
    simp (maxSteps := 1000000) (disch := first | omega | (simp only [LL]; omega)) only [W, V, TY, CC, reduceIte, Nat.reduceEqDiff, Nat.reduceAdd, Nat.reduceLeDiff, Nat.reduceLT, Int.reduceLE, Int.reduceLT, Int.reduceAdd, Int.reduceSub, Int.reduceToNat, Nat.reduceMul, t1, t6]
    refine f_ret _ _ _ ?_
    simp (maxSteps := 1000000) (disch := first | omega | (simp only [LL]; omega)) only [W, V, TY, CC, reduceIte, Nat.reduceEqDiff, Nat.reduceAdd, Nat.reduceLeDiff, Nat.reduceLT, Int.reduceLE, Int.reduceLT, Int.reduceAdd, Int.reduceSub, Int.reduceToNat, Nat.reduceMul]
/-- examboard/grid.whole -/
def b38 : AF := ⟨11, 1, [.cell 2 41],
  (.seq (.reg [
    ⟨some 2, .alloc 41, none⟩])
  (.seq (.reg [
    ⟨some 6, .move (.tmp 0), none⟩,
    ⟨some 7, .call ⟨(.value (.func 26)), #[(.tmp 6), (.const (.int .i64 1))], #[2, 2]⟩, none⟩,
    ⟨some 5, .move (.tmp 7), none⟩,
    ⟨some 8, .extract (.tmp 5) 0, none⟩,
    ⟨some 9, .extract (.tmp 5) 1, none⟩,
    ⟨some 3, .alloc 41, none⟩,
    ⟨none, .store 41 (.tmp 3) (.tmp 8), none⟩,
    ⟨some 4, .assign (.tmp 9), none⟩])
  (.seq (.reg [
    ⟨some 10, .load 41 (.tmp 3), none⟩,
    ⟨none, .store 41 (.tmp 2) (.tmp 10), none⟩])
  .ret)))⟩
theorem c38 : fcomp Try.prog 38 = ⟨b38.n, b38.np, b38.res, b38.body.bare⟩ := by kernel_rfl
theorem k38 : fok Try.prog 38 = true := by kernel_rfl
theorem grid_whole (x : Int) (h0 : -9223372036854775808 ≤ x) (h1 : x < 9223372036854775808) : AFun Try.prog 38 [.one (.lit (.int .i64 x))] [.agg (ratC (x : Rat))] := by
  refine afun_intro mo_ _ _ c38 k38 _ _ rfl (by decide) ?_
  unfold b38
  rw [← divInt_one]
  simp (maxSteps := 1000000) (disch := first | omega | (simp only [LL]; omega)) only [W, V, TY, CC, reduceIte, Nat.reduceEqDiff, Nat.reduceAdd, Nat.reduceLeDiff, Nat.reduceLT, Int.reduceLE, Int.reduceLT, Int.reduceAdd, Int.reduceSub, Int.reduceToNat, Nat.reduceMul]
  refine a_call _ _ (rat_Of x 1 h0 h1 (by decide) (by decide)) (by simp (maxSteps := 1000000) (disch := first | omega | (simp only [LL]; omega)) only [W, V, TY, CC, reduceIte, Nat.reduceEqDiff, Nat.reduceAdd, Nat.reduceLeDiff, Nat.reduceLT, Int.reduceLE, Int.reduceLT, Int.reduceAdd, Int.reduceSub, Int.reduceToNat, Nat.reduceMul]) ?_
  simp (maxSteps := 1000000) (disch := first | omega | (simp only [LL]; omega)) only [W, V, TY, CC, reduceIte, Nat.reduceEqDiff, Nat.reduceAdd, Nat.reduceLeDiff, Nat.reduceLT, Int.reduceLE, Int.reduceLT, Int.reduceAdd, Int.reduceSub, Int.reduceToNat, Nat.reduceMul, ratC]
  refine f_ret _ _ _ ?_
  simp (maxSteps := 1000000) (disch := first | omega | (simp only [LL]; omega)) only [W, V, TY, CC, reduceIte, Nat.reduceEqDiff, Nat.reduceAdd, Nat.reduceLeDiff, Nat.reduceLT, Int.reduceLE, Int.reduceLT, Int.reduceAdd, Int.reduceSub, Int.reduceToNat, Nat.reduceMul, ratC]
open Classical in
noncomputable def bigB (ww : List (List Int)) : Bool := decide (∃ i, i < ww.length ∧ 20 < (ww.getD i []).length)
def bigW (ww : List (List Int)) : Prop := ∃ i, i < ww.length ∧ 20 < (ww.getD i []).length
/-- examboard/examboardlaw18.large -/
def b20 : AF := ⟨16, 1, [.tmp 2],
  (.seq (.reg [
    ⟨some 2, .assign (.const (.bool false)), none⟩])
  (.seq (.seq (.reg [
    ⟨some 3, .assign (.const (.int .i64 0)), none⟩])
  (.block 0 (.loop (.seq (.seq (.reg [
    ⟨some 4, .move (.tmp 3), none⟩,
    ⟨some 5, .move (.tmp 0), none⟩,
    ⟨some 6, .call ⟨(.builtin .len), #[(.tmp 5)], #[30]⟩, none⟩,
    ⟨some 7, .binOp .lss 3 (.tmp 4) (.tmp 6) 3, none⟩])
  (.cond (.tmp 7)
    .skip
    (.exit 0)))
  (.seq (.block 1 (.seq (.reg [
    ⟨some 10, .move (.tmp 0), none⟩,
    ⟨some 11, .move (.tmp 3), none⟩,
    ⟨some 12, .indexAddr 30 (.tmp 10) (.tmp 11), none⟩,
    ⟨some 13, .load 36 (.tmp 12), none⟩,
    ⟨some 14, .call ⟨(.builtin .len), #[(.tmp 13)], #[36]⟩, none⟩,
    ⟨some 15, .binOp .gtr 3 (.tmp 14) (.const (.int .i64 20)) 3, none⟩])
  (.cond (.tmp 15)
    (.seq (.reg [
      ⟨some 2, .assign (.const (.bool true)), none⟩])
    .ret)
    .skip)))
  (.reg [
    ⟨some 8, .move (.tmp 3), none⟩,
    ⟨some 9, .binOp .add 3 (.tmp 8) (.const (.int .i64 1)) 3, none⟩,
    ⟨some 3, .assign (.tmp 9), none⟩]))))))
  (.seq (.reg [
    ⟨some 2, .assign (.const (.bool false)), none⟩])
  .ret)))⟩
theorem c20 : fcomp Try.prog 20 = ⟨b20.n, b20.np, b20.res, b20.body.bare⟩ := by kernel_rfl
theorem k20 : fok Try.prog 20 = true := by kernel_rfl
theorem law_large (ww : List (List Int)) (hb : ww.length ≤ 9223372036854775807) : AFun Try.prog 20 [.one (natsD ww)] [.one (.lit (.bool (bigB ww)))] := by
  refine afun_intro mo_ _ _ c20 k20 _ _ rfl (by decide) ?_
  unfold b20
  simp (maxSteps := 1000000) (disch := first | omega | (simp only [LL]; omega)) only [W, V, TY, CC, reduceIte, Nat.reduceEqDiff, Nat.reduceAdd, Nat.reduceLeDiff, Nat.reduceLT, Int.reduceLE, Int.reduceLT, Int.reduceAdd, Int.reduceSub, Int.reduceToNat, Nat.reduceMul]
  refine w_loop (fun n s => ∃ i : Nat, n + i = ww.length ∧ s.t 0 = .one (.dt (natsD ww)) ∧ s.t 3 = .one (.dt (.lit (.int .i64 i))) ∧ ∀ j, j < i → (ww.getD j []).length ≤ 20) ww.length ⟨0, rfl, ?_, ?_, fun j hj => by omega⟩ ?_
  · simp (maxSteps := 1000000) (disch := first | omega | (simp only [LL]; omega)) only [W, V, TY, CC, reduceIte, Nat.reduceEqDiff, Nat.reduceAdd, Nat.reduceLeDiff, Nat.reduceLT, Int.reduceLE, Int.reduceLT, Int.reduceAdd, Int.reduceSub, Int.reduceToNat, Nat.reduceMul]
  · simp (maxSteps := 1000000) (disch := first | omega | (simp only [LL]; omega)) only [W, V, TY, CC, reduceIte, Nat.reduceEqDiff, Nat.reduceAdd, Nat.reduceLeDiff, Nat.reduceLT, Int.reduceLE, Int.reduceLT, Int.reduceAdd, Int.reduceSub, Int.reduceToNat, Nat.reduceMul]
  intro n s _ ⟨i, e, t0, t3, hlo⟩
  simp (maxSteps := 1000000) (disch := first | omega | (simp only [LL]; omega)) only [W, V, TY, CC, reduceIte, Nat.reduceEqDiff, Nat.reduceAdd, Nat.reduceLeDiff, Nat.reduceLT, Int.reduceLE, Int.reduceLT, Int.reduceAdd, Int.reduceSub, Int.reduceToNat, Nat.reduceMul, t0, t3]
  refine c_split (fun hi => ?_) (fun hi => ?_)
  · simp (maxSteps := 1000000) (disch := first | omega | (simp only [LL]; omega)) only [W, V, TY, CC, reduceIte, Nat.reduceEqDiff, Nat.reduceAdd, Nat.reduceLeDiff, Nat.reduceLT, Int.reduceLE, Int.reduceLT, Int.reduceAdd, Int.reduceSub, Int.reduceToNat, Nat.reduceMul, t0, t3]
    refine c_split (fun hc => ?_) (fun hc => ?_)
    · have hh : bigW ww := ⟨i, by omega, by omega⟩
      rw [show bigB ww = true from decide_eq_true hh]
      simp (maxSteps := 1000000) (disch := first | omega | (simp only [LL]; omega)) only [W, V, TY, CC, reduceIte, Nat.reduceEqDiff, Nat.reduceAdd, Nat.reduceLeDiff, Nat.reduceLT, Int.reduceLE, Int.reduceLT, Int.reduceAdd, Int.reduceSub, Int.reduceToNat, Nat.reduceMul]
      refine f_ret _ _ _ ?_
      simp (maxSteps := 1000000) (disch := first | omega | (simp only [LL]; omega)) only [W, V, TY, CC, reduceIte, Nat.reduceEqDiff, Nat.reduceAdd, Nat.reduceLeDiff, Nat.reduceLT, Int.reduceLE, Int.reduceLT, Int.reduceAdd, Int.reduceSub, Int.reduceToNat, Nat.reduceMul]
    · simp (maxSteps := 1000000) (disch := first | omega | (simp only [LL]; omega)) only [W, V, TY, CC, reduceIte, Nat.reduceEqDiff, Nat.reduceAdd, Nat.reduceLeDiff, Nat.reduceLT, Int.reduceLE, Int.reduceLT, Int.reduceAdd, Int.reduceSub, Int.reduceToNat, Nat.reduceMul, t0, t3]
      refine ⟨n - 1, by omega, i + 1, by omega, rfl, fun j hj => ?_⟩
      rcases Nat.lt_or_ge j i with h | h
      · exact hlo j h
      · have : j = i := by omega
        subst this
        omega
  · have hh : ¬ bigW ww := fun ⟨j, hj, hn⟩ => by have := hlo j (by omega); omega
    rw [show bigB ww = false from decide_eq_false hh]
    simp (maxSteps := 1000000) (disch := first | omega | (simp only [LL]; omega)) only [W, V, TY, CC, reduceIte, Nat.reduceEqDiff, Nat.reduceAdd, Nat.reduceLeDiff, Nat.reduceLT, Int.reduceLE, Int.reduceLT, Int.reduceAdd, Int.reduceSub, Int.reduceToNat, Nat.reduceMul, t0, t3]
    refine f_ret _ _ _ ?_
    simp (maxSteps := 1000000) (disch := first | omega | (simp only [LL]; omega)) only [W, V, TY, CC, reduceIte, Nat.reduceEqDiff, Nat.reduceAdd, Nat.reduceLeDiff, Nat.reduceLT, Int.reduceLE, Int.reduceLT, Int.reduceAdd, Int.reduceSub, Int.reduceToNat, Nat.reduceMul]
/-- examboard/examboardlaw18.same -/
def b23 : AF := ⟨28, 2, [.tmp 4],
  (.seq (.reg [
    ⟨some 2, .box 41 (.tmp 0), none⟩,
    ⟨some 3, .box 41 (.tmp 1), none⟩,
    ⟨some 4, .assign (.const (.bool false)), none⟩])
  (.seq (.reg [
    ⟨some 5, .fieldAddr 41 (.tmp 2) 0, none⟩,
    ⟨some 6, .fieldAddr 39 (.tmp 5) 0, none⟩,
    ⟨some 7, .load 4 (.tmp 6), none⟩,
    ⟨some 8, .fieldAddr 41 (.tmp 3) 0, none⟩,
    ⟨some 9, .fieldAddr 39 (.tmp 8) 0, none⟩,
    ⟨some 10, .load 4 (.tmp 9), none⟩,
    ⟨some 11, .binOp .eql 4 (.tmp 7) (.tmp 10) 4, none⟩,
    ⟨some 12, .move (.tmp 11), none⟩,
    ⟨some 13, .fieldAddr 41 (.tmp 2) 0, some (12, true)⟩,
    ⟨some 14, .fieldAddr 39 (.tmp 13) 1, some (12, true)⟩,
    ⟨some 15, .load 36 (.tmp 14), some (12, true)⟩,
    ⟨some 16, .fieldAddr 41 (.tmp 3) 0, some (12, true)⟩,
    ⟨some 17, .fieldAddr 39 (.tmp 16) 1, some (12, true)⟩,
    ⟨some 18, .load 36 (.tmp 17), some (12, true)⟩,
    ⟨some 19, .call ⟨(.value (.func 17)), #[(.tmp 15), (.tmp 18)], #[36, 36]⟩, some (12, true)⟩,
    ⟨some 20, .pick (.tmp 12) (.tmp 19) (.const (.bool false)), none⟩,
    ⟨some 21, .move (.tmp 20), none⟩,
    ⟨some 22, .fieldAddr 41 (.tmp 2) 1, some (21, true)⟩,
    ⟨some 23, .load 36 (.tmp 22), some (21, true)⟩,
    ⟨some 24, .fieldAddr 41 (.tmp 3) 1, some (21, true)⟩,
    ⟨some 25, .load 36 (.tmp 24), some (21, true)⟩,
    ⟨some 26, .call ⟨(.value (.func 17)), #[(.tmp 23), (.tmp 25)], #[36, 36]⟩, some (21, true)⟩,
    ⟨some 27, .pick (.tmp 21) (.tmp 26) (.const (.bool false)), none⟩,
    ⟨some 4, .assign (.tmp 27), none⟩])
  .ret))⟩
theorem c23 : fcomp Try.prog 23 = ⟨b23.n, b23.np, b23.res, b23.body.bare⟩ := by kernel_rfl
theorem k23 : fok Try.prog 23 = true := by kernel_rfl
theorem law_same (q : Rat) (hq : qs q < 68719476730) : AFun Try.prog 23 [.agg (ratC q), .agg (ratC q)] [.one (.lit (.bool true))] := by
  refine afun_intro mo_ _ _ c23 k23 _ _ rfl (by decide) ?_
  unfold b23
  have h1 := qs_num q
  have h2 := qs_den q
  have hb : ∀ b : Bool, (b == b) = true := fun b => by cases b <;> rfl
  simp (maxSteps := 1000000) (disch := first | omega | (simp only [LL]; omega)) only [W, V, TY, CC, reduceIte, Nat.reduceEqDiff, Nat.reduceAdd, Nat.reduceLeDiff, Nat.reduceLT, Int.reduceLE, Int.reduceLT, Int.reduceAdd, Int.reduceSub, Int.reduceToNat, Nat.reduceMul, ratC, hb]
  refine a_call _ _ (law_limbs (nl q.num.natAbs) (nl q.num.natAbs) (by omega)) (by simp (maxSteps := 1000000) (disch := first | omega | (simp only [LL]; omega)) only [W, V, TY, CC, reduceIte, Nat.reduceEqDiff, Nat.reduceAdd, Nat.reduceLeDiff, Nat.reduceLT, Int.reduceLE, Int.reduceLT, Int.reduceAdd, Int.reduceSub, Int.reduceToNat, Nat.reduceMul]) ?_
  simp (maxSteps := 1000000) (disch := first | omega | (simp only [LL]; omega)) only [W, V, TY, CC, reduceIte, Nat.reduceEqDiff, Nat.reduceAdd, Nat.reduceLeDiff, Nat.reduceLT, Int.reduceLE, Int.reduceLT, Int.reduceAdd, Int.reduceSub, Int.reduceToNat, Nat.reduceMul]
  refine a_call _ _ (law_limbs (nl q.den) (nl q.den) (by omega)) (by simp (maxSteps := 1000000) (disch := first | omega | (simp only [LL]; omega)) only [W, V, TY, CC, reduceIte, Nat.reduceEqDiff, Nat.reduceAdd, Nat.reduceLeDiff, Nat.reduceLT, Int.reduceLE, Int.reduceLT, Int.reduceAdd, Int.reduceSub, Int.reduceToNat, Nat.reduceMul]) ?_
  simp (maxSteps := 1000000) (disch := first | omega | (simp only [LL]; omega)) only [W, V, TY, CC, reduceIte, Nat.reduceEqDiff, Nat.reduceAdd, Nat.reduceLeDiff, Nat.reduceLT, Int.reduceLE, Int.reduceLT, Int.reduceAdd, Int.reduceSub, Int.reduceToNat, Nat.reduceMul]
  refine f_ret _ _ _ ?_
  simp (maxSteps := 1000000) (disch := first | omega | (simp only [LL]; omega)) only [W, V, TY, CC, reduceIte, Nat.reduceEqDiff, Nat.reduceAdd, Nat.reduceLeDiff, Nat.reduceLT, Int.reduceLE, Int.reduceLT, Int.reduceAdd, Int.reduceSub, Int.reduceToNat, Nat.reduceMul]
end Go.Proofs.Ytnlmfdojnacofaa.E

set_option linter.unusedSimpArgs false
set_option linter.unusedVariables false
set_option maxHeartbeats 2000000
namespace Go.Proofs.Ytnlmfdojnacofaa.E
open Go.RowKit Limbs
def sumI (f : Nat → Int) : Nat → Int
  | 0 => 0
  | i + 1 => sumI f i + f i
def sumN (f : Nat → Nat) : Nat → Nat
  | 0 => 0
  | i + 1 => sumN f i + f i
/-- a point, or its square -/
def fk (k x : Int) : Int := if k = 2 then x * x else x
/-- the weighted sum of points, and the sum of the weights -/
def sW (k : Int) (p : List Int) (ww : List (List Int)) (i : Nat) : Int := sumI (fun j => (nv (ww.getD j []) : Int) * fk k (p.getD j 0)) i
def aW (ww : List (List Int)) (i : Nat) : Nat := sumN (fun j => nv (ww.getD j [])) i
theorem sW_succ (k : Int) (p : List Int) (ww : List (List Int)) (i : Nat) : sW k p ww (i + 1) = sW k p ww i + (nv (ww.getD i []) : Int) * fk k (p.getD i 0) := rfl
theorem aW_succ (ww : List (List Int)) (i : Nat) : aW ww (i + 1) = aW ww i + nv (ww.getD i []) := rfl
noncomputable def momQ (k : Int) (p : List Int) (ww : List (List Int)) : Rat := Rat.divInt (sW k p ww ww.length) (aW ww ww.length : Nat)
theorem zl_pt {x : Int} (h : -1000 ≤ x ∧ x ≤ 1000) : zl x ≤ 1 := zl_le (by show _ < 4294967296; omega)
theorem zl_sq {x : Int} (h : -1000 ≤ x ∧ x ≤ 1000) : zl (x * x) ≤ 2 := Nat.le_trans (zl_mul x x) (by have := zl_pt h; omega)
theorem zl_fk (k : Int) {x : Int} (h : -1000 ≤ x ∧ x ≤ 1000) : zl (fk k x) ≤ 2 := by
  unfold fk
  split
  · exact zl_sq h
  · exact Nat.le_trans (zl_pt h) (by decide)
theorem zl_sW (k : Int) {p : List Int} {ww : List (List Int)} (hW : LimW 20 ww) (hp : ∀ j, j < p.length → -1000 ≤ p.getD j 0 ∧ p.getD j 0 ≤ 1000) : ∀ i, i ≤ p.length → zl (sW k p ww i) ≤ 30 + i
  | 0, _ => by show zl 0 ≤ _; unfold zl; rw [show (0 : Int).natAbs = 0 from rfl, nl_zero]; simp
  | i + 1, hi => by
    have ih := zl_sW k hW hp i (by omega)
    rw [sW_succ]
    have h1 := zl_add (sW k p ww i) ((nv (ww.getD i []) : Int) * fk k (p.getD i 0))
    have h2 := zl_mul (nv (ww.getD i []) : Int) (fk k (p.getD i 0))
    have h3 := zl_fk k (hp i (by omega))
    have h4 := zl_nv (hW i).1
    have h5 := (hW i).2
    omega
theorem zl_aW {ww : List (List Int)} (hW : LimW 20 ww) : ∀ i, (nl (aW ww i)).length ≤ 30 + i
  | 0 => by show (nl 0).length ≤ _; rw [nl_zero]; simp
  | i + 1 => by
    have ih := zl_aW hW i
    rw [aW_succ]
    have h1 := zl_add (aW ww i : Nat) (nv (ww.getD i []) : Nat)
    rw [← Int.natCast_add] at h1
    have e1 := zl_nat (aW ww i)
    have e2 := zl_nat (aW ww i + nv (ww.getD i []))
    have h4 := zl_nv (hW i).1
    have h5 := (hW i).2
    omega
theorem td_set (s : AS) (d : Nat) (x : AV) (c : Ce) : toD (s.set d x) c = toD s c := by cases c <;> rfl
theorem td_setv (s : AS) (y : Nat × Nat) (cs : List Ce) (c : Ce) : toD (s.setv y cs) c = toD s c := by cases c <;> rfl
theorem td_bump (s : AS) (d : Nat) (c : Ce) : toD (s.bump d) c = toD s c := by cases c <;> rfl
theorem natD_nil : Dt.sl 0 [] = natD (nl 0) := by rw [nl_zero]; rfl
/-- examboard/grid.moment -/
def b39 : AF := ⟨54, 3, [.cell 6 41],
  (.seq (.reg [
    ⟨some 3, .box 24 (.tmp 0), none⟩,
    ⟨some 6, .alloc 41, none⟩])
  (.seq (.reg [
    ⟨some 15, .build 39 #[], none⟩,
    ⟨some 16, .buildSlice 36 0 #[], none⟩,
    ⟨some 7, .alloc 39, none⟩,
    ⟨none, .store 39 (.tmp 7) (.tmp 15), none⟩,
    ⟨some 8, .assign (.tmp 16), none⟩])
  (.seq (.seq (.seq (.gh [.frz 8])
  (.reg [
    ⟨some 17, .move (.tmp 1), none⟩,
    ⟨some 18, .call ⟨(.builtin .len), #[(.tmp 17)], #[30]⟩, none⟩,
    ⟨some 19, .move (.const (.int .i64 0)), none⟩]))
  (.block 0 (.loop (.seq (.reg [
    ⟨some 20, .binOp .lss 3 (.tmp 19) (.tmp 18) 3, none⟩])
  (.seq (.cond (.tmp 20)
    .skip
    (.exit 0))
  (.seq (.block 1 (.seq (.reg [
    ⟨some 21, .move (.tmp 19), none⟩,
    ⟨some 22, .indexAddr 30 (.tmp 17) (.tmp 19), none⟩,
    ⟨some 23, .load 36 (.tmp 22), none⟩,
    ⟨some 9, .assign (.tmp 21), none⟩,
    ⟨some 10, .assign (.tmp 23), none⟩])
  (.seq (.reg [
    ⟨some 24, .fieldAddr 24 (.tmp 3) 0, none⟩,
    ⟨some 25, .load 22 (.tmp 24), none⟩,
    ⟨some 26, .move (.tmp 9), none⟩,
    ⟨some 27, .indexAddr 22 (.tmp 25) (.tmp 26), none⟩,
    ⟨some 28, .load 3 (.tmp 27), none⟩,
    ⟨some 29, .call ⟨(.value (.func 47)), #[(.tmp 28)], #[2]⟩, none⟩,
    ⟨some 11, .alloc 39, none⟩,
    ⟨none, .store 39 (.tmp 11) (.tmp 29), none⟩])
  (.seq (.dreg [
    ⟨some 30, .move (.tmp 10), none⟩,
    ⟨some 31, .call ⟨(.value (.func 64)), #[(.const (.bool false)), (.tmp 30)], #[4, 36]⟩, none⟩,
    ⟨some 32, .load 39 (.tmp 11), none⟩,
    ⟨some 33, .call ⟨(.value (.func 52)), #[(.tmp 31), (.tmp 32)], #[39, 39]⟩, none⟩,
    ⟨some 12, .alloc 39, none⟩,
    ⟨none, .store 39 (.tmp 12) (.tmp 33), none⟩])
  (.seq (.seq (.reg [
    ⟨some 34, .move (.tmp 2), none⟩,
    ⟨some 35, .binOp .eql 3 (.tmp 34) (.const (.int .i64 2)) 3, none⟩])
  (.cond (.tmp 35)
    (.reg [
      ⟨some 36, .load 39 (.tmp 12), none⟩,
      ⟨some 37, .load 39 (.tmp 11), none⟩,
      ⟨some 38, .call ⟨(.value (.func 52)), #[(.tmp 36), (.tmp 37)], #[39, 39]⟩, none⟩,
      ⟨none, .store 39 (.tmp 12) (.tmp 38), none⟩])
    .skip))
  (.seq (.reg [
    ⟨some 39, .load 39 (.tmp 7), none⟩,
    ⟨some 40, .load 39 (.tmp 12), none⟩,
    ⟨some 41, .call ⟨(.value (.func 65)), #[(.tmp 39), (.tmp 40)], #[39, 39]⟩, none⟩,
    ⟨none, .store 39 (.tmp 7) (.tmp 41), none⟩])
  (.reg [
    ⟨some 42, .move (.tmp 8), none⟩,
    ⟨some 43, .move (.tmp 10), none⟩,
    ⟨some 44, .call ⟨(.value (.func 66)), #[(.tmp 42), (.tmp 43)], #[36, 36]⟩, none⟩,
    ⟨some 8, .assign (.tmp 44), none⟩])))))))
  (.reg [
    ⟨some 45, .binOp .add 3 (.tmp 19) (.const (.int .i64 1)) 3, none⟩,
    ⟨some 19, .move (.tmp 45), none⟩])))))))
  (.seq (.dreg [
    ⟨some 47, .load 39 (.tmp 7), none⟩,
    ⟨some 48, .move (.tmp 8), none⟩,
    ⟨some 49, .call ⟨(.value (.func 64)), #[(.const (.bool false)), (.tmp 48)], #[4, 36]⟩, none⟩,
    ⟨some 50, .call ⟨(.value (.func 46)), #[(.tmp 47), (.tmp 49)], #[39, 39]⟩, none⟩,
    ⟨some 46, .move (.tmp 50), none⟩,
    ⟨some 51, .extract (.tmp 46) 0, none⟩,
    ⟨some 52, .extract (.tmp 46) 1, none⟩,
    ⟨some 13, .alloc 41, none⟩,
    ⟨none, .store 41 (.tmp 13) (.tmp 51), none⟩,
    ⟨some 14, .assign (.tmp 52), none⟩])
  (.seq (.reg [
    ⟨some 53, .load 41 (.tmp 13), none⟩,
    ⟨none, .store 41 (.tmp 6) (.tmp 53), none⟩])
  .ret)))))⟩
theorem c39 : fcomp Try.prog 39 = ⟨b39.n, b39.np, b39.res, b39.body.bare⟩ := by kernel_rfl
theorem k39 : fok Try.prog 39 = true := by kernel_rfl
theorem grid_moment (p w : List Int) (ww : List (List Int)) (k : Int) (hW : LimW 20 ww) (hp : ∀ j, j < p.length → -1000 ≤ p.getD j 0 ∧ p.getD j 0 ≤ 1000) (hl : ww.length = p.length) (h21 : p.length ≤ 21) :
    AFun Try.prog 39 [.agg [intsD p, intsD w], .one (natsD ww), .one (.lit (.int .i64 k))] [.agg (ratC (momQ k p ww))] := by
  refine afun_intro mo_ _ _ c39 k39 _ _ rfl (by decide) ?_
  unfold b39
  simp (maxSteps := 1000000) (disch := first | omega | (simp only [LL]; omega)) only [W, V, TY, CC, reduceIte, Nat.reduceEqDiff, Nat.reduceAdd, Nat.reduceLeDiff, Nat.reduceLT, Int.reduceLE, Int.reduceLT, Int.reduceAdd, Int.reduceSub, Int.reduceToNat, Nat.reduceMul]
  refine w_loop (fun n s => ∃ (i : Nat) (c c' : Ce), n + i = ww.length ∧ s.t 2 = .one (.dt (.lit (.int .i64 k))) ∧ s.t 3 = .ptr (3, 0) 0 ∧ s.t 6 = .ptr (6, 0) 0 ∧ s.t 7 = .ptr (7, 0) 0 ∧ s.t 17 = .one (.dt (natsD ww)) ∧ s.t 18 = .one (.dt (.lit (.int .i64 ww.length))) ∧ s.t 19 = .one (.dt (.lit (.int .i64 i))) ∧ s.v (3, 0) = some [.dt (intsD p), .dt (intsD w)] ∧ s.v (6, 0) = some [.dt (.lit (.bool false)), .z, .z] ∧ s.f (6, 0) = false ∧ s.f (7, 0) = false ∧ s.v (7, 0) = some [.dt (.lit (.bool (decide (sW k p ww i < 0)))), c'] ∧ s.t 8 = .one c ∧ toD s c = some (natD (nl (aW ww i))) ∧ toD s c' = some (natD (nl (sW k p ww i).natAbs))) ww.length ⟨0, .row (16, 0) 0, .z, rfl, ?_, ?_, ?_, ?_, ?_, ?_, ?_, ?_, ?_, ?_, ?_, ?_, ?_, ?_, ?_⟩ ?_
  · simp (maxSteps := 1000000) (disch := first | omega | (simp only [LL]; omega)) only [W, V, TY, CC, reduceIte, Nat.reduceEqDiff, Nat.reduceAdd, Nat.reduceLeDiff, Nat.reduceLT, Int.reduceLE, Int.reduceLT, Int.reduceAdd, Int.reduceSub, Int.reduceToNat, Nat.reduceMul]
  · simp (maxSteps := 1000000) (disch := first | omega | (simp only [LL]; omega)) only [W, V, TY, CC, reduceIte, Nat.reduceEqDiff, Nat.reduceAdd, Nat.reduceLeDiff, Nat.reduceLT, Int.reduceLE, Int.reduceLT, Int.reduceAdd, Int.reduceSub, Int.reduceToNat, Nat.reduceMul]
  · simp (maxSteps := 1000000) (disch := first | omega | (simp only [LL]; omega)) only [W, V, TY, CC, reduceIte, Nat.reduceEqDiff, Nat.reduceAdd, Nat.reduceLeDiff, Nat.reduceLT, Int.reduceLE, Int.reduceLT, Int.reduceAdd, Int.reduceSub, Int.reduceToNat, Nat.reduceMul]
  · simp (maxSteps := 1000000) (disch := first | omega | (simp only [LL]; omega)) only [W, V, TY, CC, reduceIte, Nat.reduceEqDiff, Nat.reduceAdd, Nat.reduceLeDiff, Nat.reduceLT, Int.reduceLE, Int.reduceLT, Int.reduceAdd, Int.reduceSub, Int.reduceToNat, Nat.reduceMul]
  · simp (maxSteps := 1000000) (disch := first | omega | (simp only [LL]; omega)) only [W, V, TY, CC, reduceIte, Nat.reduceEqDiff, Nat.reduceAdd, Nat.reduceLeDiff, Nat.reduceLT, Int.reduceLE, Int.reduceLT, Int.reduceAdd, Int.reduceSub, Int.reduceToNat, Nat.reduceMul]
  · simp (maxSteps := 1000000) (disch := first | omega | (simp only [LL]; omega)) only [W, V, TY, CC, reduceIte, Nat.reduceEqDiff, Nat.reduceAdd, Nat.reduceLeDiff, Nat.reduceLT, Int.reduceLE, Int.reduceLT, Int.reduceAdd, Int.reduceSub, Int.reduceToNat, Nat.reduceMul]
  · simp (maxSteps := 1000000) (disch := first | omega | (simp only [LL]; omega)) only [W, V, TY, CC, reduceIte, Nat.reduceEqDiff, Nat.reduceAdd, Nat.reduceLeDiff, Nat.reduceLT, Int.reduceLE, Int.reduceLT, Int.reduceAdd, Int.reduceSub, Int.reduceToNat, Nat.reduceMul]
  · simp (maxSteps := 1000000) (disch := first | omega | (simp only [LL]; omega)) only [W, V, TY, CC, reduceIte, Nat.reduceEqDiff, Nat.reduceAdd, Nat.reduceLeDiff, Nat.reduceLT, Int.reduceLE, Int.reduceLT, Int.reduceAdd, Int.reduceSub, Int.reduceToNat, Nat.reduceMul]
  · simp (maxSteps := 1000000) (disch := first | omega | (simp only [LL]; omega)) only [W, V, TY, CC, reduceIte, Nat.reduceEqDiff, Nat.reduceAdd, Nat.reduceLeDiff, Nat.reduceLT, Int.reduceLE, Int.reduceLT, Int.reduceAdd, Int.reduceSub, Int.reduceToNat, Nat.reduceMul]
  · simp (maxSteps := 1000000) (disch := first | omega | (simp only [LL]; omega)) only [W, V, TY, CC, reduceIte, Nat.reduceEqDiff, Nat.reduceAdd, Nat.reduceLeDiff, Nat.reduceLT, Int.reduceLE, Int.reduceLT, Int.reduceAdd, Int.reduceSub, Int.reduceToNat, Nat.reduceMul]
  · simp (maxSteps := 1000000) (disch := first | omega | (simp only [LL]; omega)) only [W, V, TY, CC, reduceIte, Nat.reduceEqDiff, Nat.reduceAdd, Nat.reduceLeDiff, Nat.reduceLT, Int.reduceLE, Int.reduceLT, Int.reduceAdd, Int.reduceSub, Int.reduceToNat, Nat.reduceMul]
  · simp (maxSteps := 1000000) (disch := first | omega | (simp only [LL]; omega)) only [W, V, TY, CC, reduceIte, Nat.reduceEqDiff, Nat.reduceAdd, Nat.reduceLeDiff, Nat.reduceLT, Int.reduceLE, Int.reduceLT, Int.reduceAdd, Int.reduceSub, Int.reduceToNat, Nat.reduceMul]
    rfl
  · simp (maxSteps := 1000000) (disch := first | omega | (simp only [LL]; omega)) only [W, V, TY, CC, reduceIte, Nat.reduceEqDiff, Nat.reduceAdd, Nat.reduceLeDiff, Nat.reduceLT, Int.reduceLE, Int.reduceLT, Int.reduceAdd, Int.reduceSub, Int.reduceToNat, Nat.reduceMul]
  · simp (maxSteps := 1000000) (disch := first | omega | (simp only [LL]; omega)) only [W, V, TY, CC, reduceIte, Nat.reduceEqDiff, Nat.reduceAdd, Nat.reduceLeDiff, Nat.reduceLT, Int.reduceLE, Int.reduceLT, Int.reduceAdd, Int.reduceSub, Int.reduceToNat, Nat.reduceMul]
    exact natD_nil
  · simp (maxSteps := 1000000) (disch := first | omega | (simp only [LL]; omega)) only [W, V, TY, CC, reduceIte, Nat.reduceEqDiff, Nat.reduceAdd, Nat.reduceLeDiff, Nat.reduceLT, Int.reduceLE, Int.reduceLT, Int.reduceAdd, Int.reduceSub, Int.reduceToNat, Nat.reduceMul]
    exact natD_nil
  intro n s hwf ⟨i, c, c', e, t2, t3, t6, t7, t17, t18, t19, v3, v6, f6, f7, v7, t8, hc, hc'⟩
  have f11 := (hwf 11 (s.g 11) (Nat.le_refl _)).2.2
  have f12 := (hwf 12 (s.g 12) (Nat.le_refl _)).2.2
  have f13 := (hwf 13 (s.g 13) (Nat.le_refl _)).2.2
  simp (maxSteps := 1000000) (disch := first | omega | (simp only [LL]; omega)) only [W, V, TY, CC, reduceIte, Nat.reduceEqDiff, Nat.reduceAdd, Nat.reduceLeDiff, Nat.reduceLT, Int.reduceLE, Int.reduceLT, Int.reduceAdd, Int.reduceSub, Int.reduceToNat, Nat.reduceMul, t18, t19]
  refine c_split (fun hi => ?_) (fun hi => ?_)
  · have hil : i < p.length := by omega
    obtain ⟨w1, w2⟩ := hW i
    have b1 := hp i hil
    have z1 := zl_pt b1
    have z2 := zl_nv w1
    have z3 := zl_sW k hW hp i (by omega)
    have z4 := zl_aW hW i
    have z5 := zl_mul (nv (ww.getD i []) : Int) (p.getD i 0)
    have z6 := zl_mul ((nv (ww.getD i []) : Int) * p.getD i 0) (p.getD i 0)
    have z7 := zl_nat (nv (ww.getD i []))
    have hS := sW_succ k p ww i
    have hA := aW_succ ww i
    generalize hX : p.getD i 0 = x at *
    generalize hT : (nv (ww.getD i []) : Int) * x = tt at *
    simp (maxSteps := 1000000) (disch := first | omega | (simp only [LL]; omega)) only [W, V, TY, CC, reduceIte, Nat.reduceEqDiff, Nat.reduceAdd, Nat.reduceLeDiff, Nat.reduceLT, Int.reduceLE, Int.reduceLT, Int.reduceAdd, Int.reduceSub, Int.reduceToNat, Nat.reduceMul, t2, t3, t7, t17, t18, t19, v3, hX]
    refine a_call _ _ (int_Of x (by omega) (by omega)) (by simp (maxSteps := 1000000) (disch := first | omega | (simp only [LL]; omega)) only [W, V, TY, CC, reduceIte, Nat.reduceEqDiff, Nat.reduceAdd, Nat.reduceLeDiff, Nat.reduceLT, Int.reduceLE, Int.reduceLT, Int.reduceAdd, Int.reduceSub, Int.reduceToNat, Nat.reduceMul, t2, t3, t7, t17, t18, t19, v3, hX]) ?_
    simp (maxSteps := 1000000) (disch := first | omega | (simp only [LL]; omega)) only [W, V, TY, CC, reduceIte, Nat.reduceEqDiff, Nat.reduceAdd, Nat.reduceLeDiff, Nat.reduceLT, Int.reduceLE, Int.reduceLT, Int.reduceAdd, Int.reduceSub, Int.reduceToNat, Nat.reduceMul, t2, t3, t7, t17, t18, t19, v3, hX, intC, f11]
    refine a_call _ _ (int_Make false (ww.getD i []) w1 (by omega)) (by simp (maxSteps := 1000000) (disch := first | omega | (simp only [LL]; omega)) only [W, V, TY, CC, reduceIte, Nat.reduceEqDiff, Nat.reduceAdd, Nat.reduceLeDiff, Nat.reduceLT, Int.reduceLE, Int.reduceLT, Int.reduceAdd, Int.reduceSub, Int.reduceToNat, Nat.reduceMul, t2, t3, t7, t17, t18, t19, v3, hX, intC, f11]) ?_
    rw [show iv false (ww.getD i []) = ((nv (ww.getD i []) : Nat) : Int) from rfl]
    simp (maxSteps := 1000000) (disch := first | omega | (simp only [LL]; omega)) only [W, V, TY, CC, reduceIte, Nat.reduceEqDiff, Nat.reduceAdd, Nat.reduceLeDiff, Nat.reduceLT, Int.reduceLE, Int.reduceLT, Int.reduceAdd, Int.reduceSub, Int.reduceToNat, Nat.reduceMul, t2, t3, t7, t17, t18, t19, v3, intC_nat, f11]
    refine a_call _ _ (int_Mul false (decide (x < 0)) (nl (nv (ww.getD i []))) (nl x.natAbs) (nl_lim _) (nl_lim _) (by omega) (show zl x < _ by omega)) (by simp (maxSteps := 1000000) (disch := first | omega | (simp only [LL]; omega)) only [W, V, TY, CC, reduceIte, Nat.reduceEqDiff, Nat.reduceAdd, Nat.reduceLeDiff, Nat.reduceLT, Int.reduceLE, Int.reduceLT, Int.reduceAdd, Int.reduceSub, Int.reduceToNat, Nat.reduceMul, t2, t3, t7, t17, t18, t19, v3, f11]) ?_
    rw [iv_nat, iv_nl, hT]
    simp (maxSteps := 1000000) (disch := first | omega | (simp only [LL]; omega)) only [W, V, TY, CC, reduceIte, Nat.reduceEqDiff, Nat.reduceAdd, Nat.reduceLeDiff, Nat.reduceLT, Int.reduceLE, Int.reduceLT, Int.reduceAdd, Int.reduceSub, Int.reduceToNat, Nat.reduceMul, t2, t3, t7, t17, t18, t19, v3, intC, f11, f12]
    have fin : ∀ y, y = (nv (ww.getD i []) : Int) * fk k x → zl y ≤ 23 → sW k p ww i + y = sW k p ww (i + 1) := fun y h1 _ => by rw [hS, h1]
    refine c_split (fun hk => ?_) (fun hk => ?_)
    · have e1 : tt * x = (nv (ww.getD i []) : Int) * fk k x := by unfold fk; rw [if_pos hk, ← hT, Int.mul_assoc]
      generalize hY : tt * x = y at *
      have z8 := zl_add (sW k p ww i) y
      have hf := fin y e1 (by omega)
      simp (maxSteps := 1000000) (disch := first | omega | (simp only [LL]; omega)) only [W, V, TY, CC, reduceIte, Nat.reduceEqDiff, Nat.reduceAdd, Nat.reduceLeDiff, Nat.reduceLT, Int.reduceLE, Int.reduceLT, Int.reduceAdd, Int.reduceSub, Int.reduceToNat, Nat.reduceMul, t2, t3, t7, t17, t18, t19, v3, f11, f12]
      refine a_call _ _ (int_Mul (decide (tt < 0)) (decide (x < 0)) (nl tt.natAbs) (nl x.natAbs) (nl_lim _) (nl_lim _) (show zl tt < _ by omega) (show zl x < _ by omega)) (by simp (maxSteps := 1000000) (disch := first | omega | (simp only [LL]; omega)) only [W, V, TY, CC, reduceIte, Nat.reduceEqDiff, Nat.reduceAdd, Nat.reduceLeDiff, Nat.reduceLT, Int.reduceLE, Int.reduceLT, Int.reduceAdd, Int.reduceSub, Int.reduceToNat, Nat.reduceMul, t2, t3, t7, t17, t18, t19, v3, f11, f12]) ?_
      rw [iv_nl, iv_nl, hY]
      simp (maxSteps := 1000000) (disch := first | omega | (simp only [LL]; omega)) only [W, V, TY, CC, reduceIte, Nat.reduceEqDiff, Nat.reduceAdd, Nat.reduceLeDiff, Nat.reduceLT, Int.reduceLE, Int.reduceLT, Int.reduceAdd, Int.reduceSub, Int.reduceToNat, Nat.reduceMul, t2, t3, t7, t17, t18, t19, v3, v7, intC, f11, f12, f7]
      refine a_call _ _ (int_Add (decide (sW k p ww i < 0)) (decide (y < 0)) (nl (sW k p ww i).natAbs) (nl y.natAbs) (nl_lim _) (nl_lim _) (show zl (sW k p ww i) < _ by omega) (show zl y < _ by omega)) (by simp (maxSteps := 1000000) (disch := first | omega | (simp only [LL]; omega)) only [W, V, TY, CC, reduceIte, Nat.reduceEqDiff, Nat.reduceAdd, Nat.reduceLeDiff, Nat.reduceLT, Int.reduceLE, Int.reduceLT, Int.reduceAdd, Int.reduceSub, Int.reduceToNat, Nat.reduceMul, t2, t3, t7, t17, t18, t19, v3, v7, f11, f12, f7, hc', td_set, td_setv, td_bump]) ?_
      rw [iv_nl, iv_nl, hf]
      simp (maxSteps := 1000000) (disch := first | omega | (simp only [LL]; omega)) only [W, V, TY, CC, reduceIte, Nat.reduceEqDiff, Nat.reduceAdd, Nat.reduceLeDiff, Nat.reduceLT, Int.reduceLE, Int.reduceLT, Int.reduceAdd, Int.reduceSub, Int.reduceToNat, Nat.reduceMul, t2, t3, t7, t17, t18, t19, v3, v7, intC, f11, f12, f7, t8]
      refine a_call _ _ (nat_Add (nl (aW ww i)) (ww.getD i []) (nl_lim _) w1 (by omega) (by omega)) (by simp (maxSteps := 1000000) (disch := first | omega | (simp only [LL]; omega)) only [W, V, TY, CC, reduceIte, Nat.reduceEqDiff, Nat.reduceAdd, Nat.reduceLeDiff, Nat.reduceLT, Int.reduceLE, Int.reduceLT, Int.reduceAdd, Int.reduceSub, Int.reduceToNat, Nat.reduceMul, t2, t3, t7, t17, t18, t19, v3, v7, f11, f12, f7, t8, hc, td_set, td_setv, td_bump]) ?_
      rw [nv_nl, ← hA]
      simp (maxSteps := 1000000) (disch := first | omega | (simp only [LL]; omega)) only [W, V, TY, CC, reduceIte, Nat.reduceEqDiff, Nat.reduceAdd, Nat.reduceLeDiff, Nat.reduceLT, Int.reduceLE, Int.reduceLT, Int.reduceAdd, Int.reduceSub, Int.reduceToNat, Nat.reduceMul, t2, t3, t6, t7, t17, t18, t19, v3, v6, f6, v7, f11, f12, f7, t8]
      exact ⟨n - 1, by omega, i + 1, _, _, by omega, rfl, rfl, rfl, rfl, rfl⟩
    · have e1 : tt = (nv (ww.getD i []) : Int) * fk k x := by unfold fk; rw [if_neg hk, ← hT]
      have z8 := zl_add (sW k p ww i) tt
      have hf := fin tt e1 (by omega)
      simp (maxSteps := 1000000) (disch := first | omega | (simp only [LL]; omega)) only [W, V, TY, CC, reduceIte, Nat.reduceEqDiff, Nat.reduceAdd, Nat.reduceLeDiff, Nat.reduceLT, Int.reduceLE, Int.reduceLT, Int.reduceAdd, Int.reduceSub, Int.reduceToNat, Nat.reduceMul, t2, t3, t7, t17, t18, t19, v3, v7, intC, f11, f12, f7]
      refine a_call _ _ (int_Add (decide (sW k p ww i < 0)) (decide (tt < 0)) (nl (sW k p ww i).natAbs) (nl tt.natAbs) (nl_lim _) (nl_lim _) (show zl (sW k p ww i) < _ by omega) (show zl tt < _ by omega)) (by simp (maxSteps := 1000000) (disch := first | omega | (simp only [LL]; omega)) only [W, V, TY, CC, reduceIte, Nat.reduceEqDiff, Nat.reduceAdd, Nat.reduceLeDiff, Nat.reduceLT, Int.reduceLE, Int.reduceLT, Int.reduceAdd, Int.reduceSub, Int.reduceToNat, Nat.reduceMul, t2, t3, t7, t17, t18, t19, v3, v7, f11, f12, f7, hc', td_set, td_setv, td_bump]) ?_
      rw [iv_nl, iv_nl, hf]
      simp (maxSteps := 1000000) (disch := first | omega | (simp only [LL]; omega)) only [W, V, TY, CC, reduceIte, Nat.reduceEqDiff, Nat.reduceAdd, Nat.reduceLeDiff, Nat.reduceLT, Int.reduceLE, Int.reduceLT, Int.reduceAdd, Int.reduceSub, Int.reduceToNat, Nat.reduceMul, t2, t3, t7, t17, t18, t19, v3, v7, intC, f11, f12, f7, t8]
      refine a_call _ _ (nat_Add (nl (aW ww i)) (ww.getD i []) (nl_lim _) w1 (by omega) (by omega)) (by simp (maxSteps := 1000000) (disch := first | omega | (simp only [LL]; omega)) only [W, V, TY, CC, reduceIte, Nat.reduceEqDiff, Nat.reduceAdd, Nat.reduceLeDiff, Nat.reduceLT, Int.reduceLE, Int.reduceLT, Int.reduceAdd, Int.reduceSub, Int.reduceToNat, Nat.reduceMul, t2, t3, t7, t17, t18, t19, v3, v7, f11, f12, f7, t8, hc, td_set, td_setv, td_bump]) ?_
      rw [nv_nl, ← hA]
      simp (maxSteps := 1000000) (disch := first | omega | (simp only [LL]; omega)) only [W, V, TY, CC, reduceIte, Nat.reduceEqDiff, Nat.reduceAdd, Nat.reduceLeDiff, Nat.reduceLT, Int.reduceLE, Int.reduceLT, Int.reduceAdd, Int.reduceSub, Int.reduceToNat, Nat.reduceMul, t2, t3, t6, t7, t17, t18, t19, v3, v6, f6, v7, f11, f12, f7, t8]
      exact ⟨n - 1, by omega, i + 1, _, _, by omega, rfl, rfl, rfl, rfl, rfl⟩
  · have hii : i = ww.length := by omega
    subst hii
    have z3 := zl_sW k hW hp ww.length (by omega)
    have z4 := zl_aW hW ww.length
    have z5 := zl_nat (aW ww ww.length)
    unfold momQ
    simp (maxSteps := 1000000) (disch := first | omega | (simp only [LL]; omega)) only [W, V, TY, CC, reduceIte, Nat.reduceEqDiff, Nat.reduceAdd, Nat.reduceLeDiff, Nat.reduceLT, Int.reduceLE, Int.reduceLT, Int.reduceAdd, Int.reduceSub, Int.reduceToNat, Nat.reduceMul, t2, t3, t7, t8, t17, t18, t19, v3, v7]
    refine a_call _ _ (int_Make false (nl (aW ww ww.length)) (nl_lim _) (by omega)) (by simp (maxSteps := 1000000) (disch := first | omega | (simp only [LL]; omega)) only [W, V, TY, CC, reduceIte, Nat.reduceEqDiff, Nat.reduceAdd, Nat.reduceLeDiff, Nat.reduceLT, Int.reduceLE, Int.reduceLT, Int.reduceAdd, Int.reduceSub, Int.reduceToNat, Nat.reduceMul, t8, hc, td_set, td_setv, td_bump]) ?_
    rw [iv_nat]
    simp (maxSteps := 1000000) (disch := first | omega | (simp only [LL]; omega)) only [W, V, TY, CC, reduceIte, Nat.reduceEqDiff, Nat.reduceAdd, Nat.reduceLeDiff, Nat.reduceLT, Int.reduceLE, Int.reduceLT, Int.reduceAdd, Int.reduceSub, Int.reduceToNat, Nat.reduceMul, intC_nat, t7, v7]
    refine a_call _ _ (rat_Make (decide (sW k p ww ww.length < 0)) false (nl (sW k p ww ww.length).natAbs) (nl (aW ww ww.length)) (nl_lim _) (nl_lim _) (show zl (sW k p ww ww.length) < _ by omega) (by omega)) (by simp (maxSteps := 1000000) (disch := first | omega | (simp only [LL]; omega)) only [W, V, TY, CC, reduceIte, Nat.reduceEqDiff, Nat.reduceAdd, Nat.reduceLeDiff, Nat.reduceLT, Int.reduceLE, Int.reduceLT, Int.reduceAdd, Int.reduceSub, Int.reduceToNat, Nat.reduceMul, hc', td_set, td_setv, td_bump]) ?_
    rw [iv_nl, iv_nat]
    simp (maxSteps := 1000000) (disch := first | omega | (simp only [LL]; omega)) only [W, V, TY, CC, reduceIte, Nat.reduceEqDiff, Nat.reduceAdd, Nat.reduceLeDiff, Nat.reduceLT, Int.reduceLE, Int.reduceLT, Int.reduceAdd, Int.reduceSub, Int.reduceToNat, Nat.reduceMul, ratC, f13, t6, v6, f6]
    refine f_ret _ _ _ ?_
    simp (maxSteps := 1000000) (disch := first | omega | (simp only [LL]; omega)) only [W, V, TY, CC, reduceIte, Nat.reduceEqDiff, Nat.reduceAdd, Nat.reduceLeDiff, Nat.reduceLT, Int.reduceLE, Int.reduceLT, Int.reduceAdd, Int.reduceSub, Int.reduceToNat, Nat.reduceMul, ratC, f13, t6, v6, f6]
end Go.Proofs.Ytnlmfdojnacofaa.E

set_option linter.unusedSimpArgs false
set_option linter.unusedVariables false
set_option maxHeartbeats 2000000
namespace Go.Proofs.Ytnlmfdojnacofaa.E
open Go.RowKit Limbs
/-- a row of integers in normal form -/
def icD (zs : List Int) : Dt := rowD intC zs
def icC (zs : List Int) : List Dt := rowC intC zs
theorem ic_len : ∀ x : Int, (intC x).length = 2 := fun _ => rfl
theorem ICR : (∀ {s : AS} {k : IntKind} {x : Int} (zs : List Int), 0 ≤ x → x < zs.length → idxO s 2 (.one (.dt (icD zs))) (.one (.dt (.lit (.int k x)))) = True) ∧
  (∀ {k : IntKind} {x : Int} (zs : List Int), 0 ≤ x → x < zs.length → idxV 2 (.one (.dt (icD zs))) (.one (.dt (.lit (.int k x)))) = .el (intC (zs.getD x.toNat 0))) ∧
  (∀ {s : AS} (zs : List Int), lenO s (.one (.dt (icD zs))) = True) ∧
  (∀ {s : AS} (zs : List Int), lenV s (.one (.dt (icD zs))) = .one (.dt (.lit (.int .i64 zs.length)))) ∧
  (∀ (zs : List Int) (n : Nat), n = zs.length → Dt.sl n (icC zs) = icD zs) ∧
  (∀ (zs : List Int), (icC zs).length = zs.length * 2) ∧
  (∀ (s : AS) (z : Int), acells s (.el (intC z)) = some [.dt (.lit (.bool (decide (z < 0)))), .dt (natD (nl z.natAbs))]) := by
  refine ⟨fun zs h h' => ?_, fun zs h h' => ?_, fun zs => rfl, fun zs => rfl, fun zs n h => ?_, fun zs => ?_, fun s z => rfl⟩
  · rw [show icD zs = rowD intC zs from rfl, io_rowD ic_len (by decide) zs]; simp [h, h']
  · exact iv_rowD ic_len zs 0 h h'
  · exact rowD_of zs n h
  · exact rowC_len ic_len zs
theorem icC_app1 (zs : List Int) (z : Int) : icC zs ++ [.lit (.bool (decide (z < 0))), natD (nl z.natAbs)] = icC (zs ++ [z]) := by
  show rowC intC zs ++ intC z = rowC intC (zs ++ [z])
  rw [← rowC_app]
  congr 1
/-- examboard/examboardref18.share -/
def b42 : AF := ⟨43, 2, [.cell 4 41],
  (.seq (.reg [
    ⟨some 4, .alloc 41, none⟩])
  (.seq (.reg [
    ⟨some 10, .call ⟨(.value (.func 41)), #[(.const (.int .i64 0))], #[2]⟩, none⟩,
    ⟨some 5, .alloc 39, none⟩,
    ⟨none, .store 39 (.tmp 5) (.tmp 10), none⟩])
  (.seq (.reg [
    ⟨some 6, .assign (.const (.slice none 0 0)), none⟩])
  (.seq (.seq (.reg [
    ⟨some 7, .assign (.const (.int .i64 0)), none⟩])
  (.block 0 (.loop (.seq (.seq (.reg [
    ⟨some 11, .move (.tmp 7), none⟩,
    ⟨some 12, .move (.tmp 0), none⟩,
    ⟨some 13, .call ⟨(.builtin .len), #[(.tmp 12)], #[63]⟩, none⟩,
    ⟨some 14, .binOp .lss 3 (.tmp 11) (.tmp 13) 3, none⟩])
  (.cond (.tmp 14)
    .skip
    (.exit 0)))
  (.seq (.block 1 (.seq (.dreg [
    ⟨some 17, .load 39 (.tmp 5), none⟩,
    ⟨some 18, .move (.tmp 0), none⟩,
    ⟨some 19, .move (.tmp 7), none⟩,
    ⟨some 20, .indexAddr 63 (.tmp 18) (.tmp 19), none⟩,
    ⟨some 21, .load 39 (.tmp 20), none⟩,
    ⟨some 22, .move (.tmp 1), none⟩,
    ⟨some 23, .move (.tmp 7), none⟩,
    ⟨some 24, .indexAddr 30 (.tmp 22) (.tmp 23), none⟩,
    ⟨some 25, .load 36 (.tmp 24), none⟩,
    ⟨some 26, .call ⟨(.value (.func 60)), #[(.const (.bool false)), (.tmp 25)], #[4, 36]⟩, none⟩,
    ⟨some 27, .call ⟨(.value (.func 58)), #[(.tmp 21), (.tmp 26)], #[39, 39]⟩, none⟩,
    ⟨some 28, .call ⟨(.value (.func 68)), #[(.tmp 17), (.tmp 27)], #[39, 39]⟩, none⟩,
    ⟨none, .store 39 (.tmp 5) (.tmp 28), none⟩])
  (.reg [
    ⟨some 29, .move (.tmp 6), none⟩,
    ⟨some 30, .move (.tmp 1), none⟩,
    ⟨some 31, .move (.tmp 7), none⟩,
    ⟨some 32, .indexAddr 30 (.tmp 30) (.tmp 31), none⟩,
    ⟨some 33, .load 36 (.tmp 32), none⟩,
    ⟨some 34, .call ⟨(.value (.func 69)), #[(.tmp 29), (.tmp 33)], #[36, 36]⟩, none⟩,
    ⟨some 6, .assign (.tmp 34), none⟩])))
  (.reg [
    ⟨some 15, .move (.tmp 7), none⟩,
    ⟨some 16, .binOp .add 3 (.tmp 15) (.const (.int .i64 1)) 3, none⟩,
    ⟨some 7, .assign (.tmp 16), none⟩]))))))
  (.seq (.dreg [
    ⟨some 36, .load 39 (.tmp 5), none⟩,
    ⟨some 37, .move (.tmp 6), none⟩,
    ⟨some 38, .call ⟨(.value (.func 60)), #[(.const (.bool false)), (.tmp 37)], #[4, 36]⟩, none⟩,
    ⟨some 39, .call ⟨(.value (.func 70)), #[(.tmp 36), (.tmp 38)], #[39, 39]⟩, none⟩,
    ⟨some 35, .move (.tmp 39), none⟩,
    ⟨some 40, .extract (.tmp 35) 0, none⟩,
    ⟨some 41, .extract (.tmp 35) 1, none⟩,
    ⟨some 8, .alloc 41, none⟩,
    ⟨none, .store 41 (.tmp 8) (.tmp 40), none⟩,
    ⟨some 9, .assign (.tmp 41), none⟩])
  (.seq (.reg [
    ⟨some 42, .load 41 (.tmp 8), none⟩,
    ⟨none, .store 41 (.tmp 4) (.tmp 42), none⟩])
  .ret))))))⟩
theorem c42 : fcomp Try.prog 42 = ⟨b42.n, b42.np, b42.res, b42.body.bare⟩ := by kernel_rfl
theorem k42 : fok Try.prog 42 = true := by kernel_rfl
theorem ref_share (k : Int) (p zs : List Int) (ww : List (List Int)) (hW : LimW 20 ww) (hp : ∀ j, j < p.length → -1000 ≤ p.getD j 0 ∧ p.getD j 0 ≤ 1000) (hl : ww.length = p.length) (h21 : p.length ≤ 21) (hzl : zs.length = ww.length) (hz : ∀ j, j < ww.length → zs.getD j 0 = fk k (p.getD j 0)) :
    AFun Try.prog 42 [.one (icD zs), .one (natsD ww)] [.agg (ratC (momQ k p ww))] := by
  refine afun_intro mo_ _ _ c42 k42 _ _ rfl (by decide) ?_
  unfold b42
  simp (maxSteps := 1000000) (disch := first | omega | (simp only [LL]; omega)) only [W, V, TY, CC, reduceIte, Nat.reduceEqDiff, Nat.reduceAdd, Nat.reduceLeDiff, Nat.reduceLT, Int.reduceLE, Int.reduceLT, Int.reduceAdd, Int.reduceSub, Int.reduceToNat, Nat.reduceMul]
  refine a_call _ _ (ri_Of 0 (by decide) (by decide)) (by simp (maxSteps := 1000000) (disch := first | omega | (simp only [LL]; omega)) only [W, V, TY, CC, reduceIte, Nat.reduceEqDiff, Nat.reduceAdd, Nat.reduceLeDiff, Nat.reduceLT, Int.reduceLE, Int.reduceLT, Int.reduceAdd, Int.reduceSub, Int.reduceToNat, Nat.reduceMul]) ?_
  simp (maxSteps := 1000000) (disch := first | omega | (simp only [LL]; omega)) only [W, V, TY, CC, reduceIte, Nat.reduceEqDiff, Nat.reduceAdd, Nat.reduceLeDiff, Nat.reduceLT, Int.reduceLE, Int.reduceLT, Int.reduceAdd, Int.reduceSub, Int.reduceToNat, Nat.reduceMul, intC]
  refine w_loop (fun n s => ∃ (i : Nat) (c : Ce), n + i = ww.length ∧ s.t 0 = .one (.dt (icD zs)) ∧ s.t 1 = .one (.dt (natsD ww)) ∧ s.t 4 = .ptr (4, 0) 0 ∧ s.t 5 = .ptr (5, 0) 0 ∧ s.t 7 = .one (.dt (.lit (.int .i64 i))) ∧ s.v (4, 0) = some [.dt (.lit (.bool false)), .z, .z] ∧ s.f (4, 0) = false ∧ s.f (5, 0) = false ∧ s.v (5, 0) = some [.dt (.lit (.bool (decide (sW k p ww i < 0)))), .dt (natD (nl (sW k p ww i).natAbs))] ∧ s.t 6 = .one c ∧ toD s c = some (natD (nl (aW ww i)))) ww.length ⟨0, .z, rfl, ?_, ?_, ?_, ?_, ?_, ?_, ?_, ?_, ?_, ?_, ?_⟩ ?_
  · simp (maxSteps := 1000000) (disch := first | omega | (simp only [LL]; omega)) only [W, V, TY, CC, reduceIte, Nat.reduceEqDiff, Nat.reduceAdd, Nat.reduceLeDiff, Nat.reduceLT, Int.reduceLE, Int.reduceLT, Int.reduceAdd, Int.reduceSub, Int.reduceToNat, Nat.reduceMul]
  · simp (maxSteps := 1000000) (disch := first | omega | (simp only [LL]; omega)) only [W, V, TY, CC, reduceIte, Nat.reduceEqDiff, Nat.reduceAdd, Nat.reduceLeDiff, Nat.reduceLT, Int.reduceLE, Int.reduceLT, Int.reduceAdd, Int.reduceSub, Int.reduceToNat, Nat.reduceMul]
  · simp (maxSteps := 1000000) (disch := first | omega | (simp only [LL]; omega)) only [W, V, TY, CC, reduceIte, Nat.reduceEqDiff, Nat.reduceAdd, Nat.reduceLeDiff, Nat.reduceLT, Int.reduceLE, Int.reduceLT, Int.reduceAdd, Int.reduceSub, Int.reduceToNat, Nat.reduceMul]
  · simp (maxSteps := 1000000) (disch := first | omega | (simp only [LL]; omega)) only [W, V, TY, CC, reduceIte, Nat.reduceEqDiff, Nat.reduceAdd, Nat.reduceLeDiff, Nat.reduceLT, Int.reduceLE, Int.reduceLT, Int.reduceAdd, Int.reduceSub, Int.reduceToNat, Nat.reduceMul]
  · simp (maxSteps := 1000000) (disch := first | omega | (simp only [LL]; omega)) only [W, V, TY, CC, reduceIte, Nat.reduceEqDiff, Nat.reduceAdd, Nat.reduceLeDiff, Nat.reduceLT, Int.reduceLE, Int.reduceLT, Int.reduceAdd, Int.reduceSub, Int.reduceToNat, Nat.reduceMul]
  · simp (maxSteps := 1000000) (disch := first | omega | (simp only [LL]; omega)) only [W, V, TY, CC, reduceIte, Nat.reduceEqDiff, Nat.reduceAdd, Nat.reduceLeDiff, Nat.reduceLT, Int.reduceLE, Int.reduceLT, Int.reduceAdd, Int.reduceSub, Int.reduceToNat, Nat.reduceMul]
  · simp (maxSteps := 1000000) (disch := first | omega | (simp only [LL]; omega)) only [W, V, TY, CC, reduceIte, Nat.reduceEqDiff, Nat.reduceAdd, Nat.reduceLeDiff, Nat.reduceLT, Int.reduceLE, Int.reduceLT, Int.reduceAdd, Int.reduceSub, Int.reduceToNat, Nat.reduceMul]
  · simp (maxSteps := 1000000) (disch := first | omega | (simp only [LL]; omega)) only [W, V, TY, CC, reduceIte, Nat.reduceEqDiff, Nat.reduceAdd, Nat.reduceLeDiff, Nat.reduceLT, Int.reduceLE, Int.reduceLT, Int.reduceAdd, Int.reduceSub, Int.reduceToNat, Nat.reduceMul]
  · simp (maxSteps := 1000000) (disch := first | omega | (simp only [LL]; omega)) only [W, V, TY, CC, reduceIte, Nat.reduceEqDiff, Nat.reduceAdd, Nat.reduceLeDiff, Nat.reduceLT, Int.reduceLE, Int.reduceLT, Int.reduceAdd, Int.reduceSub, Int.reduceToNat, Nat.reduceMul]
    rfl
  · simp (maxSteps := 1000000) (disch := first | omega | (simp only [LL]; omega)) only [W, V, TY, CC, reduceIte, Nat.reduceEqDiff, Nat.reduceAdd, Nat.reduceLeDiff, Nat.reduceLT, Int.reduceLE, Int.reduceLT, Int.reduceAdd, Int.reduceSub, Int.reduceToNat, Nat.reduceMul]
  · simp (maxSteps := 1000000) (disch := first | omega | (simp only [LL]; omega)) only [W, V, TY, CC, reduceIte, Nat.reduceEqDiff, Nat.reduceAdd, Nat.reduceLeDiff, Nat.reduceLT, Int.reduceLE, Int.reduceLT, Int.reduceAdd, Int.reduceSub, Int.reduceToNat, Nat.reduceMul]
    exact natD_nil
  intro n s hwf ⟨i, c, e, t0, t1, t4, t5, t7, v4, f4, f5, v5, t6, hc⟩
  have f8 := (hwf 8 (s.g 8) (Nat.le_refl _)).2.2
  simp (maxSteps := 1000000) (disch := first | omega | (simp only [LL]; omega)) only [W, V, TY, CC, reduceIte, Nat.reduceEqDiff, Nat.reduceAdd, Nat.reduceLeDiff, Nat.reduceLT, Int.reduceLE, Int.reduceLT, Int.reduceAdd, Int.reduceSub, Int.reduceToNat, Nat.reduceMul, t0, t1, t4, t5, t7, ICR]
  refine c_split (fun hi => ?_) (fun hi => ?_)
  · have hil : i < p.length := by omega
    obtain ⟨w1, w2⟩ := hW i
    have b1 := hp i hil
    have z1 := zl_fk k b1
    have z2 := zl_nv w1
    have z3 := zl_sW k hW hp i (by omega)
    have z4 := zl_aW hW i
    have z7 := zl_nat (nv (ww.getD i []))
    have hS := sW_succ k p ww i
    have hA := aW_succ ww i
    have z5 := zl_mul (fk k (p.getD i 0)) (nv (ww.getD i []) : Int)
    have hzi := hz i (by omega)
    generalize fk k (p.getD i 0) = x at *
    rw [Int.mul_comm] at hS
    generalize hT : x * (nv (ww.getD i []) : Int) = tt at *
    have z6 := zl_add (sW k p ww i) tt
    simp (maxSteps := 1000000) (disch := first | omega | (simp only [LL]; omega)) only [W, V, TY, CC, reduceIte, Nat.reduceEqDiff, Nat.reduceAdd, Nat.reduceLeDiff, Nat.reduceLT, Int.reduceLE, Int.reduceLT, Int.reduceAdd, Int.reduceSub, Int.reduceToNat, Nat.reduceMul, t0, t1, t4, t5, t7, v5, ICR, hzi]
    refine a_call _ _ (ri_Make false (ww.getD i []) w1 (by omega)) (by simp (maxSteps := 1000000) (disch := first | omega | (simp only [LL]; omega)) only [W, V, TY, CC, reduceIte, Nat.reduceEqDiff, Nat.reduceAdd, Nat.reduceLeDiff, Nat.reduceLT, Int.reduceLE, Int.reduceLT, Int.reduceAdd, Int.reduceSub, Int.reduceToNat, Nat.reduceMul, t0, t1, t4, t5, t7, v5, ICR, hzi]) ?_
    rw [show iv false (ww.getD i []) = ((nv (ww.getD i []) : Nat) : Int) from rfl]
    simp (maxSteps := 1000000) (disch := first | omega | (simp only [LL]; omega)) only [W, V, TY, CC, reduceIte, Nat.reduceEqDiff, Nat.reduceAdd, Nat.reduceLeDiff, Nat.reduceLT, Int.reduceLE, Int.reduceLT, Int.reduceAdd, Int.reduceSub, Int.reduceToNat, Nat.reduceMul, intC_nat, t0, t1, t4, t5, t7, v5]
    refine a_call _ _ (ri_Mul (decide (x < 0)) false (nl x.natAbs) (nl (nv (ww.getD i []))) (nl_lim _) (nl_lim _) (show zl x < _ by omega) (by omega)) (by simp (maxSteps := 1000000) (disch := first | omega | (simp only [LL]; omega)) only [W, V, TY, CC, reduceIte, Nat.reduceEqDiff, Nat.reduceAdd, Nat.reduceLeDiff, Nat.reduceLT, Int.reduceLE, Int.reduceLT, Int.reduceAdd, Int.reduceSub, Int.reduceToNat, Nat.reduceMul, t0, t1, t4, t5, t7, v5, ICR, hzi, intC]) ?_
    rw [iv_nl, iv_nat, hT]
    simp (maxSteps := 1000000) (disch := first | omega | (simp only [LL]; omega)) only [W, V, TY, CC, reduceIte, Nat.reduceEqDiff, Nat.reduceAdd, Nat.reduceLeDiff, Nat.reduceLT, Int.reduceLE, Int.reduceLT, Int.reduceAdd, Int.reduceSub, Int.reduceToNat, Nat.reduceMul, intC, t0, t1, t4, t5, t7, v5]
    refine a_call _ _ (ri_Add (decide (sW k p ww i < 0)) (decide (tt < 0)) (nl (sW k p ww i).natAbs) (nl tt.natAbs) (nl_lim _) (nl_lim _) (show zl (sW k p ww i) < _ by omega) (show zl tt < _ by omega)) (by simp (maxSteps := 1000000) (disch := first | omega | (simp only [LL]; omega)) only [W, V, TY, CC, reduceIte, Nat.reduceEqDiff, Nat.reduceAdd, Nat.reduceLeDiff, Nat.reduceLT, Int.reduceLE, Int.reduceLT, Int.reduceAdd, Int.reduceSub, Int.reduceToNat, Nat.reduceMul, t0, t1, t4, t5, t7, v5]) ?_
    rw [iv_nl, iv_nl, ← hS]
    simp (maxSteps := 1000000) (disch := first | omega | (simp only [LL]; omega)) only [W, V, TY, CC, reduceIte, Nat.reduceEqDiff, Nat.reduceAdd, Nat.reduceLeDiff, Nat.reduceLT, Int.reduceLE, Int.reduceLT, Int.reduceAdd, Int.reduceSub, Int.reduceToNat, Nat.reduceMul, intC, t0, t1, t4, t5, t6, t7, v5, f5, ICR]
    refine a_call _ _ (ref_Add (nl (aW ww i)) (ww.getD i []) (nl_lim _) w1 (by omega) (by omega)) (by simp (maxSteps := 1000000) (disch := first | omega | (simp only [LL]; omega)) only [W, V, TY, CC, reduceIte, Nat.reduceEqDiff, Nat.reduceAdd, Nat.reduceLeDiff, Nat.reduceLT, Int.reduceLE, Int.reduceLT, Int.reduceAdd, Int.reduceSub, Int.reduceToNat, Nat.reduceMul, t0, t1, t4, t5, t6, t7, v5, f5, hc, td_set, td_setv, td_bump]) ?_
    rw [nv_nl, ← hA]
    simp (maxSteps := 1000000) (disch := first | omega | (simp only [LL]; omega)) only [W, V, TY, CC, reduceIte, Nat.reduceEqDiff, Nat.reduceAdd, Nat.reduceLeDiff, Nat.reduceLT, Int.reduceLE, Int.reduceLT, Int.reduceAdd, Int.reduceSub, Int.reduceToNat, Nat.reduceMul, t0, t1, t4, t5, t6, t7, v4, v5, f4, f5]
    exact ⟨n - 1, by omega, i + 1, _, by omega, rfl, rfl, rfl, rfl⟩
  · have hii : i = ww.length := by omega
    subst hii
    have z3 := zl_sW k hW hp ww.length (by omega)
    have z4 := zl_aW hW ww.length
    have z5 := zl_nat (aW ww ww.length)
    unfold momQ
    simp (maxSteps := 1000000) (disch := first | omega | (simp only [LL]; omega)) only [W, V, TY, CC, reduceIte, Nat.reduceEqDiff, Nat.reduceAdd, Nat.reduceLeDiff, Nat.reduceLT, Int.reduceLE, Int.reduceLT, Int.reduceAdd, Int.reduceSub, Int.reduceToNat, Nat.reduceMul, t4, t5, t6, v5]
    refine a_call _ _ (ri_Make false (nl (aW ww ww.length)) (nl_lim _) (by omega)) (by simp (maxSteps := 1000000) (disch := first | omega | (simp only [LL]; omega)) only [W, V, TY, CC, reduceIte, Nat.reduceEqDiff, Nat.reduceAdd, Nat.reduceLeDiff, Nat.reduceLT, Int.reduceLE, Int.reduceLT, Int.reduceAdd, Int.reduceSub, Int.reduceToNat, Nat.reduceMul, t4, t5, t6, v5, hc, td_set, td_setv, td_bump]) ?_
    rw [iv_nat]
    simp (maxSteps := 1000000) (disch := first | omega | (simp only [LL]; omega)) only [W, V, TY, CC, reduceIte, Nat.reduceEqDiff, Nat.reduceAdd, Nat.reduceLeDiff, Nat.reduceLT, Int.reduceLE, Int.reduceLT, Int.reduceAdd, Int.reduceSub, Int.reduceToNat, Nat.reduceMul, intC_nat, t4, t5, t6, v5]
    refine a_call _ _ (rr_Make (decide (sW k p ww ww.length < 0)) false (nl (sW k p ww ww.length).natAbs) (nl (aW ww ww.length)) (nl_lim _) (nl_lim _) (show zl (sW k p ww ww.length) < _ by omega) (by omega)) (by simp (maxSteps := 1000000) (disch := first | omega | (simp only [LL]; omega)) only [W, V, TY, CC, reduceIte, Nat.reduceEqDiff, Nat.reduceAdd, Nat.reduceLeDiff, Nat.reduceLT, Int.reduceLE, Int.reduceLT, Int.reduceAdd, Int.reduceSub, Int.reduceToNat, Nat.reduceMul, t4, t5, t6, v5]) ?_
    rw [iv_nl, iv_nat]
    simp (maxSteps := 1000000) (disch := first | omega | (simp only [LL]; omega)) only [W, V, TY, CC, reduceIte, Nat.reduceEqDiff, Nat.reduceAdd, Nat.reduceLeDiff, Nat.reduceLT, Int.reduceLE, Int.reduceLT, Int.reduceAdd, Int.reduceSub, Int.reduceToNat, Nat.reduceMul, ratC, f8, t4, v4, f4]
    refine f_ret _ _ _ ?_
    simp (maxSteps := 1000000) (disch := first | omega | (simp only [LL]; omega)) only [W, V, TY, CC, reduceIte, Nat.reduceEqDiff, Nat.reduceAdd, Nat.reduceLeDiff, Nat.reduceLT, Int.reduceLE, Int.reduceLT, Int.reduceAdd, Int.reduceSub, Int.reduceToNat, Nat.reduceMul, ratC, f8, t4, v4, f4]
end Go.Proofs.Ytnlmfdojnacofaa.E

set_option linter.unusedSimpArgs false
set_option linter.unusedVariables false
set_option maxHeartbeats 2000000
namespace Go.Proofs.Ytnlmfdojnacofaa.E
open Go.RowKit Limbs
/-- what Mean gives -/
noncomputable def meanR (p w : List Int) (ww : List (List Int)) : List RV := if checkV p w ww = 0 then [.agg (ratC (momQ 1 p ww)), .one (.lit (.int .i64 0))] else [.agg (ratC ((0 : Int) : Rat)), .one (.lit (.int .i64 (checkV p w ww)))]
/-- what Variance gives -/
noncomputable def varR (p w : List Int) (ww : List (List Int)) : List RV := if checkV p w ww = 0 then [.agg (ratC (momQ 2 p ww - momQ 1 p ww * momQ 1 p ww)), .one (.lit (.int .i64 0))] else [.agg (ratC ((0 : Int) : Rat)), .one (.lit (.int .i64 (checkV p w ww)))]
theorem checkV_zero {p w : List Int} {ww : List (List Int)} (h : checkV p w ww = 0) : gridV p w = 0 ∧ ww.length = p.length ∧ hasW ww := by
  unfold checkV at h
  split at h
  · rename_i h1; exact absurd h h1
  · rename_i h1
    split at h
    · omega
    · rename_i h2
      split at h
      · rename_i h3; exact ⟨Classical.not_not.1 h1, by omega, h3⟩
      · omega
theorem limW_mono {a b : Nat} {ww : List (List Int)} (h : LimW a ww) (hab : a ≤ b) : LimW b ww := fun i => ⟨(h i).1, Nat.le_trans (h i).2 hab⟩
theorem qs_mom (k : Int) {p : List Int} {ww : List (List Int)} (hW : LimW 20 ww) (hp : ∀ j, j < p.length → -1000 ≤ p.getD j 0 ∧ p.getD j 0 ≤ 1000) (hl : ww.length = p.length) (h21 : p.length ≤ 21) : qs (momQ k p ww) ≤ 60 := by
  unfold momQ
  refine Nat.le_trans (qs_div _ _) ?_
  have z3 := zl_sW k hW hp ww.length (by omega)
  have z4 := zl_aW hW ww.length
  have z5 := zl_nat (aW ww ww.length)
  omega
/-- examboard/grid.Mean -/
def b21 : AF := ⟨17, 2, [.cell 4 41, .tmp 5],
  (.seq (.reg [
    ⟨some 2, .box 24 (.tmp 0), none⟩,
    ⟨some 4, .alloc 41, none⟩,
    ⟨some 5, .assign (.const (.int .i64 0)), none⟩])
  (.seq (.seq (.reg [
    ⟨some 7, .load 24 (.tmp 2), none⟩,
    ⟨some 8, .move (.tmp 1), none⟩,
    ⟨some 9, .call ⟨(.value (.func 37)), #[(.tmp 7), (.tmp 8)], #[24, 30]⟩, none⟩,
    ⟨some 6, .assign (.tmp 9), none⟩])
  (.seq (.reg [
    ⟨some 10, .move (.tmp 6), none⟩,
    ⟨some 11, .binOp .neq 25 (.tmp 10) (.const (.int .i64 0)) 25, none⟩])
  (.cond (.tmp 11)
    (.seq (.reg [
      ⟨some 12, .call ⟨(.value (.func 38)), #[(.const (.int .i64 0))], #[3]⟩, none⟩,
      ⟨some 13, .move (.tmp 6), none⟩,
      ⟨none, .store 41 (.tmp 4) (.tmp 12), none⟩,
      ⟨some 5, .assign (.tmp 13), none⟩])
    .ret)
    .skip)))
  (.seq (.reg [
    ⟨some 14, .load 24 (.tmp 2), none⟩,
    ⟨some 15, .move (.tmp 1), none⟩,
    ⟨some 16, .call ⟨(.value (.func 39)), #[(.tmp 14), (.tmp 15), (.const (.int .i64 1))], #[24, 30, 3]⟩, none⟩,
    ⟨none, .store 41 (.tmp 4) (.tmp 16), none⟩,
    ⟨some 5, .assign (.const (.int .i64 0)), none⟩])
  .ret)))⟩
theorem c21 : fcomp Try.prog 21 = ⟨b21.n, b21.np, b21.res, b21.body.bare⟩ := by kernel_rfl
theorem k21 : fok Try.prog 21 = true := by kernel_rfl
theorem grid_Mean (p w : List Int) (ww : List (List Int)) (hW : LimW 20 ww) : AFun Try.prog 21 [.agg [intsD p, intsD w], .one (natsD ww)] (meanR p w ww) := by
  refine afun_intro mo_ _ _ c21 k21 _ _ rfl (by decide) ?_
  unfold b21
  simp (maxSteps := 1000000) (disch := first | omega | (simp only [LL]; omega)) only [W, V, TY, CC, reduceIte, Nat.reduceEqDiff, Nat.reduceAdd, Nat.reduceLeDiff, Nat.reduceLT, Int.reduceLE, Int.reduceLT, Int.reduceAdd, Int.reduceSub, Int.reduceToNat, Nat.reduceMul]
  refine a_call _ _ (grid_check p w ww (limW_mono hW (by decide))) (by simp (maxSteps := 1000000) (disch := first | omega | (simp only [LL]; omega)) only [W, V, TY, CC, reduceIte, Nat.reduceEqDiff, Nat.reduceAdd, Nat.reduceLeDiff, Nat.reduceLT, Int.reduceLE, Int.reduceLT, Int.reduceAdd, Int.reduceSub, Int.reduceToNat, Nat.reduceMul]) ?_
  simp (maxSteps := 1000000) (disch := first | omega | (simp only [LL]; omega)) only [W, V, TY, CC, reduceIte, Nat.reduceEqDiff, Nat.reduceAdd, Nat.reduceLeDiff, Nat.reduceLT, Int.reduceLE, Int.reduceLT, Int.reduceAdd, Int.reduceSub, Int.reduceToNat, Nat.reduceMul]
  refine c_split (fun h => ?_) (fun h => ?_)
  · simp (maxSteps := 1000000) (disch := first | omega | (simp only [LL]; omega)) only [W, V, TY, CC, reduceIte, Nat.reduceEqDiff, Nat.reduceAdd, Nat.reduceLeDiff, Nat.reduceLT, Int.reduceLE, Int.reduceLT, Int.reduceAdd, Int.reduceSub, Int.reduceToNat, Nat.reduceMul]
    refine a_call _ _ (grid_whole 0 (by decide) (by decide)) (by simp (maxSteps := 1000000) (disch := first | omega | (simp only [LL]; omega)) only [W, V, TY, CC, reduceIte, Nat.reduceEqDiff, Nat.reduceAdd, Nat.reduceLeDiff, Nat.reduceLT, Int.reduceLE, Int.reduceLT, Int.reduceAdd, Int.reduceSub, Int.reduceToNat, Nat.reduceMul]) ?_
    simp (maxSteps := 1000000) (disch := first | omega | (simp only [LL]; omega)) only [W, V, TY, CC, reduceIte, Nat.reduceEqDiff, Nat.reduceAdd, Nat.reduceLeDiff, Nat.reduceLT, Int.reduceLE, Int.reduceLT, Int.reduceAdd, Int.reduceSub, Int.reduceToNat, Nat.reduceMul, ratC]
    refine f_ret _ _ _ ?_
    unfold meanR
    rw [if_neg h]
    simp (maxSteps := 1000000) (disch := first | omega | (simp only [LL]; omega)) only [W, V, TY, CC, reduceIte, Nat.reduceEqDiff, Nat.reduceAdd, Nat.reduceLeDiff, Nat.reduceLT, Int.reduceLE, Int.reduceLT, Int.reduceAdd, Int.reduceSub, Int.reduceToNat, Nat.reduceMul, ratC]
  · have h0 : checkV p w ww = 0 := Classical.not_not.1 h
    obtain ⟨c1, c2, c3⟩ := checkV_zero h0
    obtain ⟨g1, g2, g3, g4⟩ := gridV_zero c1
    simp (maxSteps := 1000000) (disch := first | omega | (simp only [LL]; omega)) only [W, V, TY, CC, reduceIte, Nat.reduceEqDiff, Nat.reduceAdd, Nat.reduceLeDiff, Nat.reduceLT, Int.reduceLE, Int.reduceLT, Int.reduceAdd, Int.reduceSub, Int.reduceToNat, Nat.reduceMul]
    refine a_call _ _ (grid_moment p w ww 1 hW (fun j hj => (g3 j hj).1) c2 g1) (by simp (maxSteps := 1000000) (disch := first | omega | (simp only [LL]; omega)) only [W, V, TY, CC, reduceIte, Nat.reduceEqDiff, Nat.reduceAdd, Nat.reduceLeDiff, Nat.reduceLT, Int.reduceLE, Int.reduceLT, Int.reduceAdd, Int.reduceSub, Int.reduceToNat, Nat.reduceMul]) ?_
    simp (maxSteps := 1000000) (disch := first | omega | (simp only [LL]; omega)) only [W, V, TY, CC, reduceIte, Nat.reduceEqDiff, Nat.reduceAdd, Nat.reduceLeDiff, Nat.reduceLT, Int.reduceLE, Int.reduceLT, Int.reduceAdd, Int.reduceSub, Int.reduceToNat, Nat.reduceMul, ratC]
    refine f_ret _ _ _ ?_
    unfold meanR
    rw [if_pos h0]
    simp (maxSteps := 1000000) (disch := first | omega | (simp only [LL]; omega)) only [W, V, TY, CC, reduceIte, Nat.reduceEqDiff, Nat.reduceAdd, Nat.reduceLeDiff, Nat.reduceLT, Int.reduceLE, Int.reduceLT, Int.reduceAdd, Int.reduceSub, Int.reduceToNat, Nat.reduceMul, ratC]
/-- examboard/grid.Variance -/
def b24 : AF := ⟨25, 2, [.cell 4 41, .tmp 5],
  (.seq (.reg [
    ⟨some 2, .box 24 (.tmp 0), none⟩,
    ⟨some 4, .alloc 41, none⟩,
    ⟨some 5, .assign (.const (.int .i64 0)), none⟩])
  (.seq (.seq (.reg [
    ⟨some 8, .load 24 (.tmp 2), none⟩,
    ⟨some 9, .move (.tmp 1), none⟩,
    ⟨some 10, .call ⟨(.value (.func 37)), #[(.tmp 8), (.tmp 9)], #[24, 30]⟩, none⟩,
    ⟨some 6, .assign (.tmp 10), none⟩])
  (.seq (.reg [
    ⟨some 11, .move (.tmp 6), none⟩,
    ⟨some 12, .binOp .neq 25 (.tmp 11) (.const (.int .i64 0)) 25, none⟩])
  (.cond (.tmp 12)
    (.seq (.reg [
      ⟨some 13, .call ⟨(.value (.func 38)), #[(.const (.int .i64 0))], #[3]⟩, none⟩,
      ⟨some 14, .move (.tmp 6), none⟩,
      ⟨none, .store 41 (.tmp 4) (.tmp 13), none⟩,
      ⟨some 5, .assign (.tmp 14), none⟩])
    .ret)
    .skip)))
  (.seq (.reg [
    ⟨some 15, .load 24 (.tmp 2), none⟩,
    ⟨some 16, .move (.tmp 1), none⟩,
    ⟨some 17, .call ⟨(.value (.func 39)), #[(.tmp 15), (.tmp 16), (.const (.int .i64 1))], #[24, 30, 3]⟩, none⟩,
    ⟨some 7, .alloc 41, none⟩,
    ⟨none, .store 41 (.tmp 7) (.tmp 17), none⟩])
  (.seq (.dreg [
    ⟨some 18, .load 24 (.tmp 2), none⟩,
    ⟨some 19, .move (.tmp 1), none⟩,
    ⟨some 20, .call ⟨(.value (.func 39)), #[(.tmp 18), (.tmp 19), (.const (.int .i64 2))], #[24, 30, 3]⟩, none⟩,
    ⟨some 21, .load 41 (.tmp 7), none⟩,
    ⟨some 22, .load 41 (.tmp 7), none⟩,
    ⟨some 23, .call ⟨(.value (.func 44)), #[(.tmp 21), (.tmp 22)], #[41, 41]⟩, none⟩,
    ⟨some 24, .call ⟨(.value (.func 43)), #[(.tmp 20), (.tmp 23)], #[41, 41]⟩, none⟩,
    ⟨none, .store 41 (.tmp 4) (.tmp 24), none⟩,
    ⟨some 5, .assign (.const (.int .i64 0)), none⟩])
  .ret))))⟩
theorem c24 : fcomp Try.prog 24 = ⟨b24.n, b24.np, b24.res, b24.body.bare⟩ := by kernel_rfl
theorem k24 : fok Try.prog 24 = true := by kernel_rfl
theorem grid_Variance (p w : List Int) (ww : List (List Int)) (hW : LimW 20 ww) : AFun Try.prog 24 [.agg [intsD p, intsD w], .one (natsD ww)] (varR p w ww) := by
  refine afun_intro mo_ _ _ c24 k24 _ _ rfl (by decide) ?_
  unfold b24
  simp (maxSteps := 1000000) (disch := first | omega | (simp only [LL]; omega)) only [W, V, TY, CC, reduceIte, Nat.reduceEqDiff, Nat.reduceAdd, Nat.reduceLeDiff, Nat.reduceLT, Int.reduceLE, Int.reduceLT, Int.reduceAdd, Int.reduceSub, Int.reduceToNat, Nat.reduceMul]
  refine a_call _ _ (grid_check p w ww (limW_mono hW (by decide))) (by simp (maxSteps := 1000000) (disch := first | omega | (simp only [LL]; omega)) only [W, V, TY, CC, reduceIte, Nat.reduceEqDiff, Nat.reduceAdd, Nat.reduceLeDiff, Nat.reduceLT, Int.reduceLE, Int.reduceLT, Int.reduceAdd, Int.reduceSub, Int.reduceToNat, Nat.reduceMul]) ?_
  simp (maxSteps := 1000000) (disch := first | omega | (simp only [LL]; omega)) only [W, V, TY, CC, reduceIte, Nat.reduceEqDiff, Nat.reduceAdd, Nat.reduceLeDiff, Nat.reduceLT, Int.reduceLE, Int.reduceLT, Int.reduceAdd, Int.reduceSub, Int.reduceToNat, Nat.reduceMul]
  refine c_split (fun h => ?_) (fun h => ?_)
  · simp (maxSteps := 1000000) (disch := first | omega | (simp only [LL]; omega)) only [W, V, TY, CC, reduceIte, Nat.reduceEqDiff, Nat.reduceAdd, Nat.reduceLeDiff, Nat.reduceLT, Int.reduceLE, Int.reduceLT, Int.reduceAdd, Int.reduceSub, Int.reduceToNat, Nat.reduceMul]
    refine a_call _ _ (grid_whole 0 (by decide) (by decide)) (by simp (maxSteps := 1000000) (disch := first | omega | (simp only [LL]; omega)) only [W, V, TY, CC, reduceIte, Nat.reduceEqDiff, Nat.reduceAdd, Nat.reduceLeDiff, Nat.reduceLT, Int.reduceLE, Int.reduceLT, Int.reduceAdd, Int.reduceSub, Int.reduceToNat, Nat.reduceMul]) ?_
    simp (maxSteps := 1000000) (disch := first | omega | (simp only [LL]; omega)) only [W, V, TY, CC, reduceIte, Nat.reduceEqDiff, Nat.reduceAdd, Nat.reduceLeDiff, Nat.reduceLT, Int.reduceLE, Int.reduceLT, Int.reduceAdd, Int.reduceSub, Int.reduceToNat, Nat.reduceMul, ratC]
    refine f_ret _ _ _ ?_
    unfold varR
    rw [if_neg h]
    simp (maxSteps := 1000000) (disch := first | omega | (simp only [LL]; omega)) only [W, V, TY, CC, reduceIte, Nat.reduceEqDiff, Nat.reduceAdd, Nat.reduceLeDiff, Nat.reduceLT, Int.reduceLE, Int.reduceLT, Int.reduceAdd, Int.reduceSub, Int.reduceToNat, Nat.reduceMul, ratC]
  · have h0 : checkV p w ww = 0 := Classical.not_not.1 h
    obtain ⟨c1, c2, c3⟩ := checkV_zero h0
    obtain ⟨g1, g2, g3, g4⟩ := gridV_zero c1
    have q1 := qs_mom 1 hW (fun j hj => (g3 j hj).1) c2 g1
    have q2 := qs_mom 2 hW (fun j hj => (g3 j hj).1) c2 g1
    have q3 := qs_mul (momQ 1 p ww) (momQ 1 p ww)
    simp (maxSteps := 1000000) (disch := first | omega | (simp only [LL]; omega)) only [W, V, TY, CC, reduceIte, Nat.reduceEqDiff, Nat.reduceAdd, Nat.reduceLeDiff, Nat.reduceLT, Int.reduceLE, Int.reduceLT, Int.reduceAdd, Int.reduceSub, Int.reduceToNat, Nat.reduceMul]
    refine a_call _ _ (grid_moment p w ww 1 hW (fun j hj => (g3 j hj).1) c2 g1) (by simp (maxSteps := 1000000) (disch := first | omega | (simp only [LL]; omega)) only [W, V, TY, CC, reduceIte, Nat.reduceEqDiff, Nat.reduceAdd, Nat.reduceLeDiff, Nat.reduceLT, Int.reduceLE, Int.reduceLT, Int.reduceAdd, Int.reduceSub, Int.reduceToNat, Nat.reduceMul]) ?_
    simp (maxSteps := 1000000) (disch := first | omega | (simp only [LL]; omega)) only [W, V, TY, CC, reduceIte, Nat.reduceEqDiff, Nat.reduceAdd, Nat.reduceLeDiff, Nat.reduceLT, Int.reduceLE, Int.reduceLT, Int.reduceAdd, Int.reduceSub, Int.reduceToNat, Nat.reduceMul, ratC]
    refine a_call _ _ (grid_moment p w ww 2 hW (fun j hj => (g3 j hj).1) c2 g1) (by simp (maxSteps := 1000000) (disch := first | omega | (simp only [LL]; omega)) only [W, V, TY, CC, reduceIte, Nat.reduceEqDiff, Nat.reduceAdd, Nat.reduceLeDiff, Nat.reduceLT, Int.reduceLE, Int.reduceLT, Int.reduceAdd, Int.reduceSub, Int.reduceToNat, Nat.reduceMul]) ?_
    simp (maxSteps := 1000000) (disch := first | omega | (simp only [LL]; omega)) only [W, V, TY, CC, reduceIte, Nat.reduceEqDiff, Nat.reduceAdd, Nat.reduceLeDiff, Nat.reduceLT, Int.reduceLE, Int.reduceLT, Int.reduceAdd, Int.reduceSub, Int.reduceToNat, Nat.reduceMul]
    refine a_call _ _ (rat_Mul2 (a := momQ 1 p ww) (b := momQ 1 p ww) (by omega) (by omega)) (by simp (maxSteps := 1000000) (disch := first | omega | (simp only [LL]; omega)) only [W, V, TY, CC, reduceIte, Nat.reduceEqDiff, Nat.reduceAdd, Nat.reduceLeDiff, Nat.reduceLT, Int.reduceLE, Int.reduceLT, Int.reduceAdd, Int.reduceSub, Int.reduceToNat, Nat.reduceMul, ratC]) ?_
    simp (maxSteps := 1000000) (disch := first | omega | (simp only [LL]; omega)) only [W, V, TY, CC, reduceIte, Nat.reduceEqDiff, Nat.reduceAdd, Nat.reduceLeDiff, Nat.reduceLT, Int.reduceLE, Int.reduceLT, Int.reduceAdd, Int.reduceSub, Int.reduceToNat, Nat.reduceMul]
    refine a_call _ _ (rat_Sub2 (a := momQ 2 p ww) (b := momQ 1 p ww * momQ 1 p ww) (by omega) (by omega)) (by simp (maxSteps := 1000000) (disch := first | omega | (simp only [LL]; omega)) only [W, V, TY, CC, reduceIte, Nat.reduceEqDiff, Nat.reduceAdd, Nat.reduceLeDiff, Nat.reduceLT, Int.reduceLE, Int.reduceLT, Int.reduceAdd, Int.reduceSub, Int.reduceToNat, Nat.reduceMul, ratC]) ?_
    simp (maxSteps := 1000000) (disch := first | omega | (simp only [LL]; omega)) only [W, V, TY, CC, reduceIte, Nat.reduceEqDiff, Nat.reduceAdd, Nat.reduceLeDiff, Nat.reduceLT, Int.reduceLE, Int.reduceLT, Int.reduceAdd, Int.reduceSub, Int.reduceToNat, Nat.reduceMul, ratC]
    refine f_ret _ _ _ ?_
    unfold varR
    rw [if_pos h0]
    simp (maxSteps := 1000000) (disch := first | omega | (simp only [LL]; omega)) only [W, V, TY, CC, reduceIte, Nat.reduceEqDiff, Nat.reduceAdd, Nat.reduceLeDiff, Nat.reduceLT, Int.reduceLE, Int.reduceLT, Int.reduceAdd, Int.reduceSub, Int.reduceToNat, Nat.reduceMul, ratC]
theorem take_map_app (f : Int → Int) (p : List Int) (i : Nat) (h : i < p.length) : (p.take i).map f ++ [f (p.getD i 0)] = (p.take (i + 1)).map f := take_app f p 0 i h
theorem getD_mapt (f : Int → Int) (p : List Int) (n j : Nat) (hj : j < n) (hn : n ≤ p.length) : ((p.take n).map f).getD j 0 = f (p.getD j 0) := by
  rw [List.getD_eq_getElem?_getD, List.getElem?_map, List.getElem?_take, if_pos hj, List.getD_eq_getElem?_getD, List.getElem?_eq_getElem (by omega)]
  rfl
theorem len_mapt (f : Int → Int) (p : List Int) (n : Nat) (hn : n ≤ p.length) : ((p.take n).map f).length = n := by simp; omega
/-- examboard/examboardref18.Mean -/
def b22 : AF := ⟨34, 2, [.cell 4 41, .tmp 5],
  (.seq (.reg [
    ⟨some 2, .box 24 (.tmp 0), none⟩,
    ⟨some 4, .alloc 41, none⟩,
    ⟨some 5, .assign (.const (.int .i64 0)), none⟩])
  (.seq (.reg [
    ⟨some 9, .load 24 (.tmp 2), none⟩,
    ⟨some 10, .move (.tmp 1), none⟩,
    ⟨some 11, .call ⟨(.value (.func 40)), #[(.tmp 9), (.tmp 10)], #[24, 30]⟩, none⟩,
    ⟨some 6, .assign (.tmp 11), none⟩])
  (.seq (.seq (.reg [
    ⟨some 12, .move (.tmp 6), none⟩,
    ⟨some 13, .binOp .neq 25 (.tmp 12) (.const (.int .i64 0)) 25, none⟩])
  (.cond (.tmp 13)
    (.seq (.reg [
      ⟨some 14, .call ⟨(.value (.func 35)), #[(.const (.int .i64 0))], #[3]⟩, none⟩,
      ⟨some 15, .move (.tmp 6), none⟩,
      ⟨none, .store 41 (.tmp 4) (.tmp 14), none⟩,
      ⟨some 5, .assign (.tmp 15), none⟩])
    .ret)
    .skip))
  (.seq (.reg [
    ⟨some 7, .assign (.const (.slice none 0 0)), none⟩])
  (.seq (.seq (.seq (.gh [.nilt 7 39 2])
  (.reg [
    ⟨some 8, .assign (.const (.int .i64 0)), none⟩]))
  (.block 0 (.loop (.seq (.seq (.reg [
    ⟨some 16, .move (.tmp 8), none⟩,
    ⟨some 17, .move (.tmp 1), none⟩,
    ⟨some 18, .call ⟨(.builtin .len), #[(.tmp 17)], #[30]⟩, none⟩,
    ⟨some 19, .binOp .lss 3 (.tmp 16) (.tmp 18) 3, none⟩])
  (.cond (.tmp 19)
    .skip
    (.exit 0)))
  (.seq (.block 1 (.reg [
    ⟨some 22, .move (.tmp 7), none⟩,
    ⟨some 23, .fieldAddr 24 (.tmp 2) 0, none⟩,
    ⟨some 24, .load 22 (.tmp 23), none⟩,
    ⟨some 25, .move (.tmp 8), none⟩,
    ⟨some 26, .indexAddr 22 (.tmp 24) (.tmp 25), none⟩,
    ⟨some 27, .load 3 (.tmp 26), none⟩,
    ⟨some 28, .call ⟨(.value (.func 41)), #[(.tmp 27)], #[2]⟩, none⟩,
    ⟨some 29, .buildSlice 63 1 #[(0, (.tmp 28))], none⟩,
    ⟨some 30, .call ⟨(.builtin .append), #[(.tmp 22), (.tmp 29)], #[63, 63]⟩, none⟩,
    ⟨some 7, .assign (.tmp 30), none⟩]))
  (.reg [
    ⟨some 20, .move (.tmp 8), none⟩,
    ⟨some 21, .binOp .add 3 (.tmp 20) (.const (.int .i64 1)) 3, none⟩,
    ⟨some 8, .assign (.tmp 21), none⟩]))))))
  (.seq (.seq (.gh [.frz 7])
  (.reg [
    ⟨some 31, .move (.tmp 7), none⟩,
    ⟨some 32, .move (.tmp 1), none⟩,
    ⟨some 33, .call ⟨(.value (.func 42)), #[(.tmp 31), (.tmp 32)], #[63, 30]⟩, none⟩,
    ⟨none, .store 41 (.tmp 4) (.tmp 33), none⟩,
    ⟨some 5, .assign (.const (.int .i64 0)), none⟩]))
  .ret))))))⟩
theorem c22 : fcomp Try.prog 22 = ⟨b22.n, b22.np, b22.res, b22.body.bare⟩ := by kernel_rfl
theorem k22 : fok Try.prog 22 = true := by kernel_rfl
theorem ref_Mean (p w : List Int) (ww : List (List Int)) (hW : LimW 20 ww) : AFun Try.prog 22 [.agg [intsD p, intsD w], .one (natsD ww)] (meanR p w ww) := by
  refine afun_intro mo_ _ _ c22 k22 _ _ rfl (by decide) ?_
  unfold b22
  simp (maxSteps := 1000000) (disch := first | omega | (simp only [LL]; omega)) only [W, V, TY, CC, reduceIte, Nat.reduceEqDiff, Nat.reduceAdd, Nat.reduceLeDiff, Nat.reduceLT, Int.reduceLE, Int.reduceLT, Int.reduceAdd, Int.reduceSub, Int.reduceToNat, Nat.reduceMul]
  refine a_call _ _ (ref_check p w ww (limW_mono hW (by decide))) (by simp (maxSteps := 1000000) (disch := first | omega | (simp only [LL]; omega)) only [W, V, TY, CC, reduceIte, Nat.reduceEqDiff, Nat.reduceAdd, Nat.reduceLeDiff, Nat.reduceLT, Int.reduceLE, Int.reduceLT, Int.reduceAdd, Int.reduceSub, Int.reduceToNat, Nat.reduceMul]) ?_
  simp (maxSteps := 1000000) (disch := first | omega | (simp only [LL]; omega)) only [W, V, TY, CC, reduceIte, Nat.reduceEqDiff, Nat.reduceAdd, Nat.reduceLeDiff, Nat.reduceLT, Int.reduceLE, Int.reduceLT, Int.reduceAdd, Int.reduceSub, Int.reduceToNat, Nat.reduceMul]
  refine c_split (fun h => ?_) (fun h => ?_)
  · simp (maxSteps := 1000000) (disch := first | omega | (simp only [LL]; omega)) only [W, V, TY, CC, reduceIte, Nat.reduceEqDiff, Nat.reduceAdd, Nat.reduceLeDiff, Nat.reduceLT, Int.reduceLE, Int.reduceLT, Int.reduceAdd, Int.reduceSub, Int.reduceToNat, Nat.reduceMul]
    refine a_call _ _ (ref_whole 0 (by decide) (by decide)) (by simp (maxSteps := 1000000) (disch := first | omega | (simp only [LL]; omega)) only [W, V, TY, CC, reduceIte, Nat.reduceEqDiff, Nat.reduceAdd, Nat.reduceLeDiff, Nat.reduceLT, Int.reduceLE, Int.reduceLT, Int.reduceAdd, Int.reduceSub, Int.reduceToNat, Nat.reduceMul]) ?_
    simp (maxSteps := 1000000) (disch := first | omega | (simp only [LL]; omega)) only [W, V, TY, CC, reduceIte, Nat.reduceEqDiff, Nat.reduceAdd, Nat.reduceLeDiff, Nat.reduceLT, Int.reduceLE, Int.reduceLT, Int.reduceAdd, Int.reduceSub, Int.reduceToNat, Nat.reduceMul, ratC]
    refine f_ret _ _ _ ?_
    unfold meanR
    rw [if_neg h]
    simp (maxSteps := 1000000) (disch := first | omega | (simp only [LL]; omega)) only [W, V, TY, CC, reduceIte, Nat.reduceEqDiff, Nat.reduceAdd, Nat.reduceLeDiff, Nat.reduceLT, Int.reduceLE, Int.reduceLT, Int.reduceAdd, Int.reduceSub, Int.reduceToNat, Nat.reduceMul, ratC]
  have h0 : checkV p w ww = 0 := Classical.not_not.1 h
  obtain ⟨c1, c2, c3⟩ := checkV_zero h0
  obtain ⟨g1, g2, g3, g4⟩ := gridV_zero c1
  simp (maxSteps := 1000000) (disch := first | omega | (simp only [LL]; omega)) only [W, V, TY, CC, reduceIte, Nat.reduceEqDiff, Nat.reduceAdd, Nat.reduceLeDiff, Nat.reduceLT, Int.reduceLE, Int.reduceLT, Int.reduceAdd, Int.reduceSub, Int.reduceToNat, Nat.reduceMul]
  refine w_loop (fun n s => ∃ i : Nat, n + i = ww.length ∧ s.t 1 = .one (.dt (natsD ww)) ∧ s.t 2 = .ptr (2, 0) 0 ∧ s.t 4 = .ptr (4, 0) 0 ∧ s.t 8 = .one (.dt (.lit (.int .i64 i))) ∧ s.v (2, 0) = some [.dt (intsD p), .dt (intsD w)] ∧ s.v (4, 0) = some [.dt (.lit (.bool false)), .z, .z] ∧ s.f (4, 0) = false ∧ s.t 7 = .one (.row (7, 0) i) ∧ s.r (7, 0) = some ⟨39, 2, i, icC ((p.take i).map (fk 1)), i, true⟩) ww.length ⟨0, rfl, ?_, ?_, ?_, ?_, ?_, ?_, ?_, ?_, ?_⟩ ?_
  · simp (maxSteps := 1000000) (disch := first | omega | (simp only [LL]; omega)) only [W, V, TY, CC, reduceIte, Nat.reduceEqDiff, Nat.reduceAdd, Nat.reduceLeDiff, Nat.reduceLT, Int.reduceLE, Int.reduceLT, Int.reduceAdd, Int.reduceSub, Int.reduceToNat, Nat.reduceMul]
  · simp (maxSteps := 1000000) (disch := first | omega | (simp only [LL]; omega)) only [W, V, TY, CC, reduceIte, Nat.reduceEqDiff, Nat.reduceAdd, Nat.reduceLeDiff, Nat.reduceLT, Int.reduceLE, Int.reduceLT, Int.reduceAdd, Int.reduceSub, Int.reduceToNat, Nat.reduceMul]
  · simp (maxSteps := 1000000) (disch := first | omega | (simp only [LL]; omega)) only [W, V, TY, CC, reduceIte, Nat.reduceEqDiff, Nat.reduceAdd, Nat.reduceLeDiff, Nat.reduceLT, Int.reduceLE, Int.reduceLT, Int.reduceAdd, Int.reduceSub, Int.reduceToNat, Nat.reduceMul]
  · simp (maxSteps := 1000000) (disch := first | omega | (simp only [LL]; omega)) only [W, V, TY, CC, reduceIte, Nat.reduceEqDiff, Nat.reduceAdd, Nat.reduceLeDiff, Nat.reduceLT, Int.reduceLE, Int.reduceLT, Int.reduceAdd, Int.reduceSub, Int.reduceToNat, Nat.reduceMul]
  · simp (maxSteps := 1000000) (disch := first | omega | (simp only [LL]; omega)) only [W, V, TY, CC, reduceIte, Nat.reduceEqDiff, Nat.reduceAdd, Nat.reduceLeDiff, Nat.reduceLT, Int.reduceLE, Int.reduceLT, Int.reduceAdd, Int.reduceSub, Int.reduceToNat, Nat.reduceMul]
  · simp (maxSteps := 1000000) (disch := first | omega | (simp only [LL]; omega)) only [W, V, TY, CC, reduceIte, Nat.reduceEqDiff, Nat.reduceAdd, Nat.reduceLeDiff, Nat.reduceLT, Int.reduceLE, Int.reduceLT, Int.reduceAdd, Int.reduceSub, Int.reduceToNat, Nat.reduceMul]
  · simp (maxSteps := 1000000) (disch := first | omega | (simp only [LL]; omega)) only [W, V, TY, CC, reduceIte, Nat.reduceEqDiff, Nat.reduceAdd, Nat.reduceLeDiff, Nat.reduceLT, Int.reduceLE, Int.reduceLT, Int.reduceAdd, Int.reduceSub, Int.reduceToNat, Nat.reduceMul]
  · simp (maxSteps := 1000000) (disch := first | omega | (simp only [LL]; omega)) only [W, V, TY, CC, reduceIte, Nat.reduceEqDiff, Nat.reduceAdd, Nat.reduceLeDiff, Nat.reduceLT, Int.reduceLE, Int.reduceLT, Int.reduceAdd, Int.reduceSub, Int.reduceToNat, Nat.reduceMul]
  · simp (maxSteps := 1000000) (disch := first | omega | (simp only [LL]; omega)) only [W, V, TY, CC, reduceIte, Nat.reduceEqDiff, Nat.reduceAdd, Nat.reduceLeDiff, Nat.reduceLT, Int.reduceLE, Int.reduceLT, Int.reduceAdd, Int.reduceSub, Int.reduceToNat, Nat.reduceMul]
    rfl
  intro n s hwf ⟨i, e, t1, t2, t4, t8, v2, v4, f4, t7, r7⟩
  simp (maxSteps := 1000000) (disch := first | omega | (simp only [LL]; omega)) only [W, V, TY, CC, reduceIte, Nat.reduceEqDiff, Nat.reduceAdd, Nat.reduceLeDiff, Nat.reduceLT, Int.reduceLE, Int.reduceLT, Int.reduceAdd, Int.reduceSub, Int.reduceToNat, Nat.reduceMul, t1, t2, t8, v2]
  refine c_split (fun hi => ?_) (fun hi => ?_)
  · have hil : i < p.length := by omega
    have b1 := (g3 i hil).1
    simp (maxSteps := 1000000) (disch := first | omega | (simp only [LL]; omega)) only [W, V, TY, CC, reduceIte, Nat.reduceEqDiff, Nat.reduceAdd, Nat.reduceLeDiff, Nat.reduceLT, Int.reduceLE, Int.reduceLT, Int.reduceAdd, Int.reduceSub, Int.reduceToNat, Nat.reduceMul, t1, t2, t7, t8, v2]
    refine a_call _ _ (ri_Of (p.getD i 0) (by omega) (by omega)) (by simp (maxSteps := 1000000) (disch := first | omega | (simp only [LL]; omega)) only [W, V, TY, CC, reduceIte, Nat.reduceEqDiff, Nat.reduceAdd, Nat.reduceLeDiff, Nat.reduceLT, Int.reduceLE, Int.reduceLT, Int.reduceAdd, Int.reduceSub, Int.reduceToNat, Nat.reduceMul, t1, t2, t7, t8, v2]) ?_
    simp (maxSteps := 1000000) (disch := first | omega | (simp only [LL]; omega)) only [W, V, TY, CC, reduceIte, Nat.reduceEqDiff, Nat.reduceAdd, Nat.reduceLeDiff, Nat.reduceLT, Int.reduceLE, Int.reduceLT, Int.reduceAdd, Int.reduceSub, Int.reduceToNat, Nat.reduceMul, t1, t2, t7, t8, v2, r7, intC, ICR, icC_app1]
    have b5 := take_map_app (fk 1) p i hil
    rw [show fk 1 (p.getD i 0) = p.getD i 0 from rfl] at b5
    exact ⟨⟨by omega, by omega⟩, n - 1, by omega, i + 1, by omega, t4, rfl, v4, f4, rfl, by rw [b5]⟩
  · simp (maxSteps := 1000000) (disch := first | omega | (simp only [LL]; omega)) only [W, V, TY, CC, reduceIte, Nat.reduceEqDiff, Nat.reduceAdd, Nat.reduceLeDiff, Nat.reduceLT, Int.reduceLE, Int.reduceLT, Int.reduceAdd, Int.reduceSub, Int.reduceToNat, Nat.reduceMul, t1, t2, t7, t8, v2, r7]
    have hii : i = ww.length := by omega
    subst hii
    have hzl := len_mapt (fk 1) p ww.length (by omega)
    have hsl : Dt.sl ww.length (icC ((p.take ww.length).map (fk 1))) = icD ((p.take ww.length).map (fk 1)) := ICR.2.2.2.2.1 _ _ hzl.symm
    refine a_call _ _ (ref_share 1 p ((p.take ww.length).map (fk 1)) ww hW (fun j hj => (g3 j hj).1) c2 g1 hzl (fun j hj => getD_mapt (fk 1) p ww.length j hj (by omega))) (by simp (maxSteps := 1000000) (disch := first | omega | (simp only [LL]; omega)) only [W, V, TY, CC, reduceIte, Nat.reduceEqDiff, Nat.reduceAdd, Nat.reduceLeDiff, Nat.reduceLT, Int.reduceLE, Int.reduceLT, Int.reduceAdd, Int.reduceSub, Int.reduceToNat, Nat.reduceMul, t1, t2, t7, t8, v2, r7, hsl]) ?_
    simp (maxSteps := 1000000) (disch := first | omega | (simp only [LL]; omega)) only [W, V, TY, CC, reduceIte, Nat.reduceEqDiff, Nat.reduceAdd, Nat.reduceLeDiff, Nat.reduceLT, Int.reduceLE, Int.reduceLT, Int.reduceAdd, Int.reduceSub, Int.reduceToNat, Nat.reduceMul, ratC, t4, v4, f4]
    refine f_ret _ _ _ ?_
    unfold meanR
    rw [if_pos h0]
    simp (maxSteps := 1000000) (disch := first | omega | (simp only [LL]; omega)) only [W, V, TY, CC, reduceIte, Nat.reduceEqDiff, Nat.reduceAdd, Nat.reduceLeDiff, Nat.reduceLT, Int.reduceLE, Int.reduceLT, Int.reduceAdd, Int.reduceSub, Int.reduceToNat, Nat.reduceMul, ratC, t4, v4, f4]
/-- examboard/examboardref18.Variance -/
def b25 : AF := ⟨48, 2, [.cell 4 41, .tmp 5],
  (.seq (.reg [
    ⟨some 2, .box 24 (.tmp 0), none⟩,
    ⟨some 4, .alloc 41, none⟩,
    ⟨some 5, .assign (.const (.int .i64 0)), none⟩])
  (.seq (.reg [
    ⟨some 11, .load 24 (.tmp 2), none⟩,
    ⟨some 12, .move (.tmp 1), none⟩,
    ⟨some 13, .call ⟨(.value (.func 22)), #[(.tmp 11), (.tmp 12)], #[24, 30]⟩, none⟩,
    ⟨some 10, .move (.tmp 13), none⟩,
    ⟨some 14, .extract (.tmp 10) 0, none⟩,
    ⟨some 15, .extract (.tmp 10) 1, none⟩,
    ⟨some 6, .alloc 41, none⟩,
    ⟨none, .store 41 (.tmp 6) (.tmp 14), none⟩,
    ⟨some 7, .assign (.tmp 15), none⟩])
  (.seq (.seq (.reg [
    ⟨some 16, .move (.tmp 7), none⟩,
    ⟨some 17, .binOp .neq 25 (.tmp 16) (.const (.int .i64 0)) 25, none⟩])
  (.cond (.tmp 17)
    (.seq (.reg [
      ⟨some 18, .call ⟨(.value (.func 35)), #[(.const (.int .i64 0))], #[3]⟩, none⟩,
      ⟨some 19, .move (.tmp 7), none⟩,
      ⟨none, .store 41 (.tmp 4) (.tmp 18), none⟩,
      ⟨some 5, .assign (.tmp 19), none⟩])
    .ret)
    .skip))
  (.seq (.reg [
    ⟨some 8, .assign (.const (.slice none 0 0)), none⟩])
  (.seq (.seq (.seq (.gh [.nilt 8 39 2])
  (.reg [
    ⟨some 9, .assign (.const (.int .i64 0)), none⟩]))
  (.block 0 (.loop (.seq (.seq (.reg [
    ⟨some 20, .move (.tmp 9), none⟩,
    ⟨some 21, .move (.tmp 1), none⟩,
    ⟨some 22, .call ⟨(.builtin .len), #[(.tmp 21)], #[30]⟩, none⟩,
    ⟨some 23, .binOp .lss 3 (.tmp 20) (.tmp 22) 3, none⟩])
  (.cond (.tmp 23)
    .skip
    (.exit 0)))
  (.seq (.block 1 (.dreg [
    ⟨some 26, .move (.tmp 8), none⟩,
    ⟨some 27, .fieldAddr 24 (.tmp 2) 0, none⟩,
    ⟨some 28, .load 22 (.tmp 27), none⟩,
    ⟨some 29, .move (.tmp 9), none⟩,
    ⟨some 30, .indexAddr 22 (.tmp 28) (.tmp 29), none⟩,
    ⟨some 31, .load 3 (.tmp 30), none⟩,
    ⟨some 32, .fieldAddr 24 (.tmp 2) 0, none⟩,
    ⟨some 33, .load 22 (.tmp 32), none⟩,
    ⟨some 34, .move (.tmp 9), none⟩,
    ⟨some 35, .indexAddr 22 (.tmp 33) (.tmp 34), none⟩,
    ⟨some 36, .load 3 (.tmp 35), none⟩,
    ⟨some 37, .binOp .mul 3 (.tmp 31) (.tmp 36) 3, none⟩,
    ⟨some 38, .call ⟨(.value (.func 41)), #[(.tmp 37)], #[2]⟩, none⟩,
    ⟨some 39, .buildSlice 63 1 #[(0, (.tmp 38))], none⟩,
    ⟨some 40, .call ⟨(.builtin .append), #[(.tmp 26), (.tmp 39)], #[63, 63]⟩, none⟩,
    ⟨some 8, .assign (.tmp 40), none⟩]))
  (.reg [
    ⟨some 24, .move (.tmp 9), none⟩,
    ⟨some 25, .binOp .add 3 (.tmp 24) (.const (.int .i64 1)) 3, none⟩,
    ⟨some 9, .assign (.tmp 25), none⟩]))))))
  (.seq (.seq (.gh [.frz 8])
  (.dreg [
    ⟨some 41, .move (.tmp 8), none⟩,
    ⟨some 42, .move (.tmp 1), none⟩,
    ⟨some 43, .call ⟨(.value (.func 42)), #[(.tmp 41), (.tmp 42)], #[63, 30]⟩, none⟩,
    ⟨some 44, .load 41 (.tmp 6), none⟩,
    ⟨some 45, .load 41 (.tmp 6), none⟩,
    ⟨some 46, .call ⟨(.value (.func 45)), #[(.tmp 44), (.tmp 45)], #[41, 41]⟩, none⟩,
    ⟨some 47, .call ⟨(.value (.func 34)), #[(.tmp 43), (.tmp 46)], #[41, 41]⟩, none⟩,
    ⟨none, .store 41 (.tmp 4) (.tmp 47), none⟩,
    ⟨some 5, .assign (.const (.int .i64 0)), none⟩]))
  .ret))))))⟩
theorem c25 : fcomp Try.prog 25 = ⟨b25.n, b25.np, b25.res, b25.body.bare⟩ := by kernel_rfl
theorem k25 : fok Try.prog 25 = true := by kernel_rfl
theorem ref_Variance (p w : List Int) (ww : List (List Int)) (hW : LimW 20 ww) : AFun Try.prog 25 [.agg [intsD p, intsD w], .one (natsD ww)] (varR p w ww) := by
  refine afun_intro mo_ _ _ c25 k25 _ _ rfl (by decide) ?_
  unfold b25
  have hm := ref_Mean p w ww hW
  unfold meanR at hm
  simp (maxSteps := 1000000) (disch := first | omega | (simp only [LL]; omega)) only [W, V, TY, CC, reduceIte, Nat.reduceEqDiff, Nat.reduceAdd, Nat.reduceLeDiff, Nat.reduceLT, Int.reduceLE, Int.reduceLT, Int.reduceAdd, Int.reduceSub, Int.reduceToNat, Nat.reduceMul]
  refine a_call _ _ hm (by simp (maxSteps := 1000000) (disch := first | omega | (simp only [LL]; omega)) only [W, V, TY, CC, reduceIte, Nat.reduceEqDiff, Nat.reduceAdd, Nat.reduceLeDiff, Nat.reduceLT, Int.reduceLE, Int.reduceLT, Int.reduceAdd, Int.reduceSub, Int.reduceToNat, Nat.reduceMul]) ?_
  by_cases h0 : checkV p w ww = 0
  case neg =>
    rw [if_neg h0]
    simp (maxSteps := 1000000) (disch := first | omega | (simp only [LL]; omega)) only [W, V, TY, CC, reduceIte, Nat.reduceEqDiff, Nat.reduceAdd, Nat.reduceLeDiff, Nat.reduceLT, Int.reduceLE, Int.reduceLT, Int.reduceAdd, Int.reduceSub, Int.reduceToNat, Nat.reduceMul, ratC, h0]
    refine a_call _ _ (ref_whole 0 (by decide) (by decide)) (by simp (maxSteps := 1000000) (disch := first | omega | (simp only [LL]; omega)) only [W, V, TY, CC, reduceIte, Nat.reduceEqDiff, Nat.reduceAdd, Nat.reduceLeDiff, Nat.reduceLT, Int.reduceLE, Int.reduceLT, Int.reduceAdd, Int.reduceSub, Int.reduceToNat, Nat.reduceMul]) ?_
    simp (maxSteps := 1000000) (disch := first | omega | (simp only [LL]; omega)) only [W, V, TY, CC, reduceIte, Nat.reduceEqDiff, Nat.reduceAdd, Nat.reduceLeDiff, Nat.reduceLT, Int.reduceLE, Int.reduceLT, Int.reduceAdd, Int.reduceSub, Int.reduceToNat, Nat.reduceMul, ratC]
    refine f_ret _ _ _ ?_
    unfold varR
    rw [if_neg h0]
    simp (maxSteps := 1000000) (disch := first | omega | (simp only [LL]; omega)) only [W, V, TY, CC, reduceIte, Nat.reduceEqDiff, Nat.reduceAdd, Nat.reduceLeDiff, Nat.reduceLT, Int.reduceLE, Int.reduceLT, Int.reduceAdd, Int.reduceSub, Int.reduceToNat, Nat.reduceMul, ratC]
  case pos =>
    rw [if_pos h0]
    obtain ⟨c1, c2, c3⟩ := checkV_zero h0
    obtain ⟨g1, g2, g3, g4⟩ := gridV_zero c1
    have q1 := qs_mom 1 hW (fun j hj => (g3 j hj).1) c2 g1
    have q2 := qs_mom 2 hW (fun j hj => (g3 j hj).1) c2 g1
    have q3 := qs_mul (momQ 1 p ww) (momQ 1 p ww)
    simp (maxSteps := 1000000) (disch := first | omega | (simp only [LL]; omega)) only [W, V, TY, CC, reduceIte, Nat.reduceEqDiff, Nat.reduceAdd, Nat.reduceLeDiff, Nat.reduceLT, Int.reduceLE, Int.reduceLT, Int.reduceAdd, Int.reduceSub, Int.reduceToNat, Nat.reduceMul, ratC]
    refine w_loop (fun n s => ∃ i : Nat, n + i = ww.length ∧ s.t 1 = .one (.dt (natsD ww)) ∧ s.t 2 = .ptr (2, 0) 0 ∧ s.t 4 = .ptr (4, 0) 0 ∧ s.t 6 = .ptr (6, 0) 0 ∧ s.t 9 = .one (.dt (.lit (.int .i64 i))) ∧ s.v (2, 0) = some [.dt (intsD p), .dt (intsD w)] ∧ s.v (4, 0) = some [.dt (.lit (.bool false)), .z, .z] ∧ s.f (4, 0) = false ∧ s.v (6, 0) = some ((ratC (momQ 1 p ww)).map .dt) ∧ s.t 8 = .one (.row (8, 0) i) ∧ s.r (8, 0) = some ⟨39, 2, i, icC ((p.take i).map (fk 2)), i, true⟩) ww.length ⟨0, rfl, ?_, ?_, ?_, ?_, ?_, ?_, ?_, ?_, ?_, ?_, ?_⟩ ?_
    · simp (maxSteps := 1000000) (disch := first | omega | (simp only [LL]; omega)) only [W, V, TY, CC, reduceIte, Nat.reduceEqDiff, Nat.reduceAdd, Nat.reduceLeDiff, Nat.reduceLT, Int.reduceLE, Int.reduceLT, Int.reduceAdd, Int.reduceSub, Int.reduceToNat, Nat.reduceMul]
    · simp (maxSteps := 1000000) (disch := first | omega | (simp only [LL]; omega)) only [W, V, TY, CC, reduceIte, Nat.reduceEqDiff, Nat.reduceAdd, Nat.reduceLeDiff, Nat.reduceLT, Int.reduceLE, Int.reduceLT, Int.reduceAdd, Int.reduceSub, Int.reduceToNat, Nat.reduceMul]
    · simp (maxSteps := 1000000) (disch := first | omega | (simp only [LL]; omega)) only [W, V, TY, CC, reduceIte, Nat.reduceEqDiff, Nat.reduceAdd, Nat.reduceLeDiff, Nat.reduceLT, Int.reduceLE, Int.reduceLT, Int.reduceAdd, Int.reduceSub, Int.reduceToNat, Nat.reduceMul]
    · simp (maxSteps := 1000000) (disch := first | omega | (simp only [LL]; omega)) only [W, V, TY, CC, reduceIte, Nat.reduceEqDiff, Nat.reduceAdd, Nat.reduceLeDiff, Nat.reduceLT, Int.reduceLE, Int.reduceLT, Int.reduceAdd, Int.reduceSub, Int.reduceToNat, Nat.reduceMul]
    · simp (maxSteps := 1000000) (disch := first | omega | (simp only [LL]; omega)) only [W, V, TY, CC, reduceIte, Nat.reduceEqDiff, Nat.reduceAdd, Nat.reduceLeDiff, Nat.reduceLT, Int.reduceLE, Int.reduceLT, Int.reduceAdd, Int.reduceSub, Int.reduceToNat, Nat.reduceMul]
    · simp (maxSteps := 1000000) (disch := first | omega | (simp only [LL]; omega)) only [W, V, TY, CC, reduceIte, Nat.reduceEqDiff, Nat.reduceAdd, Nat.reduceLeDiff, Nat.reduceLT, Int.reduceLE, Int.reduceLT, Int.reduceAdd, Int.reduceSub, Int.reduceToNat, Nat.reduceMul]
    · simp (maxSteps := 1000000) (disch := first | omega | (simp only [LL]; omega)) only [W, V, TY, CC, reduceIte, Nat.reduceEqDiff, Nat.reduceAdd, Nat.reduceLeDiff, Nat.reduceLT, Int.reduceLE, Int.reduceLT, Int.reduceAdd, Int.reduceSub, Int.reduceToNat, Nat.reduceMul]
    · simp (maxSteps := 1000000) (disch := first | omega | (simp only [LL]; omega)) only [W, V, TY, CC, reduceIte, Nat.reduceEqDiff, Nat.reduceAdd, Nat.reduceLeDiff, Nat.reduceLT, Int.reduceLE, Int.reduceLT, Int.reduceAdd, Int.reduceSub, Int.reduceToNat, Nat.reduceMul]
    · simp (maxSteps := 1000000) (disch := first | omega | (simp only [LL]; omega)) only [W, V, TY, CC, reduceIte, Nat.reduceEqDiff, Nat.reduceAdd, Nat.reduceLeDiff, Nat.reduceLT, Int.reduceLE, Int.reduceLT, Int.reduceAdd, Int.reduceSub, Int.reduceToNat, Nat.reduceMul, ratC]
    · simp (maxSteps := 1000000) (disch := first | omega | (simp only [LL]; omega)) only [W, V, TY, CC, reduceIte, Nat.reduceEqDiff, Nat.reduceAdd, Nat.reduceLeDiff, Nat.reduceLT, Int.reduceLE, Int.reduceLT, Int.reduceAdd, Int.reduceSub, Int.reduceToNat, Nat.reduceMul]
    · simp (maxSteps := 1000000) (disch := first | omega | (simp only [LL]; omega)) only [W, V, TY, CC, reduceIte, Nat.reduceEqDiff, Nat.reduceAdd, Nat.reduceLeDiff, Nat.reduceLT, Int.reduceLE, Int.reduceLT, Int.reduceAdd, Int.reduceSub, Int.reduceToNat, Nat.reduceMul]
      rfl
    intro n s hwf ⟨i, e, t1, t2, t4, t6, t9, v2, v4, f4, v6, t8, r8⟩
    simp (maxSteps := 1000000) (disch := first | omega | (simp only [LL]; omega)) only [W, V, TY, CC, reduceIte, Nat.reduceEqDiff, Nat.reduceAdd, Nat.reduceLeDiff, Nat.reduceLT, Int.reduceLE, Int.reduceLT, Int.reduceAdd, Int.reduceSub, Int.reduceToNat, Nat.reduceMul, t1, t2, t9, v2]
    refine c_split (fun hi => ?_) (fun hi => ?_)
    · have hil : i < p.length := by omega
      have b1 := (g3 i hil).1
      have b2 : 0 ≤ (p.getD i 0 + 1000) * (1000 - p.getD i 0) := Int.mul_nonneg (by omega) (by omega)
      have b3 : (p.getD i 0 + 1000) * (1000 - p.getD i 0) = 1000000 - p.getD i 0 * p.getD i 0 := by grind
      have b4 : 0 ≤ p.getD i 0 * p.getD i 0 := by
        rcases Int.le_total 0 (p.getD i 0) with h | h
        · exact Int.mul_nonneg h h
        · have := Int.mul_nonneg (a := -p.getD i 0) (b := -p.getD i 0) (by omega) (by omega)
          rwa [Int.neg_mul_neg] at this
      have b5 := take_map_app (fk 2) p i hil
      rw [show fk 2 (p.getD i 0) = p.getD i 0 * p.getD i 0 from rfl] at b5
      generalize hX : p.getD i 0 * p.getD i 0 = x at *
      simp (maxSteps := 1000000) (disch := first | omega | (simp only [LL]; omega)) only [W, V, TY, CC, reduceIte, Nat.reduceEqDiff, Nat.reduceAdd, Nat.reduceLeDiff, Nat.reduceLT, Int.reduceLE, Int.reduceLT, Int.reduceAdd, Int.reduceSub, Int.reduceToNat, Nat.reduceMul, t1, t2, t8, t9, v2, hX, wi64 (n := x) (by omega) (by omega)]
      refine a_call _ _ (ri_Of x (by omega) (by omega)) (by simp (maxSteps := 1000000) (disch := first | omega | (simp only [LL]; omega)) only [W, V, TY, CC, reduceIte, Nat.reduceEqDiff, Nat.reduceAdd, Nat.reduceLeDiff, Nat.reduceLT, Int.reduceLE, Int.reduceLT, Int.reduceAdd, Int.reduceSub, Int.reduceToNat, Nat.reduceMul, t1, t2, t8, t9, v2, hX, wi64 (n := x) (by omega) (by omega)]) ?_
      simp (maxSteps := 1000000) (disch := first | omega | (simp only [LL]; omega)) only [W, V, TY, CC, reduceIte, Nat.reduceEqDiff, Nat.reduceAdd, Nat.reduceLeDiff, Nat.reduceLT, Int.reduceLE, Int.reduceLT, Int.reduceAdd, Int.reduceSub, Int.reduceToNat, Nat.reduceMul, t1, t2, t8, t9, v2, r8, intC, ICR, icC_app1]
      exact ⟨⟨by omega, by omega⟩, n - 1, by omega, i + 1, by omega, t4, t6, rfl, v4, f4, v6, rfl, by rw [b5]⟩
    · have hii : i = ww.length := by omega
      subst hii
      have hzl := len_mapt (fk 2) p ww.length (by omega)
      have hsl : Dt.sl ww.length (icC ((p.take ww.length).map (fk 2))) = icD ((p.take ww.length).map (fk 2)) := ICR.2.2.2.2.1 _ _ hzl.symm
      simp only [ratC, List.map_cons, List.map_nil] at v6
      simp (maxSteps := 1000000) (disch := first | omega | (simp only [LL]; omega)) only [W, V, TY, CC, reduceIte, Nat.reduceEqDiff, Nat.reduceAdd, Nat.reduceLeDiff, Nat.reduceLT, Int.reduceLE, Int.reduceLT, Int.reduceAdd, Int.reduceSub, Int.reduceToNat, Nat.reduceMul, t1, t2, t8, t9, v2, r8]
      refine a_call _ _ (ref_share 2 p ((p.take ww.length).map (fk 2)) ww hW (fun j hj => (g3 j hj).1) c2 g1 hzl (fun j hj => getD_mapt (fk 2) p ww.length j hj (by omega))) (by simp (maxSteps := 1000000) (disch := first | omega | (simp only [LL]; omega)) only [W, V, TY, CC, reduceIte, Nat.reduceEqDiff, Nat.reduceAdd, Nat.reduceLeDiff, Nat.reduceLT, Int.reduceLE, Int.reduceLT, Int.reduceAdd, Int.reduceSub, Int.reduceToNat, Nat.reduceMul, t1, t2, t8, t9, v2, r8, hsl]) ?_
      simp (maxSteps := 1000000) (disch := first | omega | (simp only [LL]; omega)) only [W, V, TY, CC, reduceIte, Nat.reduceEqDiff, Nat.reduceAdd, Nat.reduceLeDiff, Nat.reduceLT, Int.reduceLE, Int.reduceLT, Int.reduceAdd, Int.reduceSub, Int.reduceToNat, Nat.reduceMul, t6, v6]
      refine a_call _ _ (rr_Mul2 (a := momQ 1 p ww) (b := momQ 1 p ww) (by omega) (by omega)) (by simp (maxSteps := 1000000) (disch := first | omega | (simp only [LL]; omega)) only [W, V, TY, CC, reduceIte, Nat.reduceEqDiff, Nat.reduceAdd, Nat.reduceLeDiff, Nat.reduceLT, Int.reduceLE, Int.reduceLT, Int.reduceAdd, Int.reduceSub, Int.reduceToNat, Nat.reduceMul, ratC, t6, v6]) ?_
      simp (maxSteps := 1000000) (disch := first | omega | (simp only [LL]; omega)) only [W, V, TY, CC, reduceIte, Nat.reduceEqDiff, Nat.reduceAdd, Nat.reduceLeDiff, Nat.reduceLT, Int.reduceLE, Int.reduceLT, Int.reduceAdd, Int.reduceSub, Int.reduceToNat, Nat.reduceMul]
      refine a_call _ _ (rr_Sub2 (a := momQ 2 p ww) (b := momQ 1 p ww * momQ 1 p ww) (by omega) (by omega)) (by simp (maxSteps := 1000000) (disch := first | omega | (simp only [LL]; omega)) only [W, V, TY, CC, reduceIte, Nat.reduceEqDiff, Nat.reduceAdd, Nat.reduceLeDiff, Nat.reduceLT, Int.reduceLE, Int.reduceLT, Int.reduceAdd, Int.reduceSub, Int.reduceToNat, Nat.reduceMul, ratC]) ?_
      simp (maxSteps := 1000000) (disch := first | omega | (simp only [LL]; omega)) only [W, V, TY, CC, reduceIte, Nat.reduceEqDiff, Nat.reduceAdd, Nat.reduceLeDiff, Nat.reduceLT, Int.reduceLE, Int.reduceLT, Int.reduceAdd, Int.reduceSub, Int.reduceToNat, Nat.reduceMul, ratC, t4, v4, f4]
      refine f_ret _ _ _ ?_
      unfold varR
      rw [if_pos h0]
      simp (maxSteps := 1000000) (disch := first | omega | (simp only [LL]; omega)) only [W, V, TY, CC, reduceIte, Nat.reduceEqDiff, Nat.reduceAdd, Nat.reduceLeDiff, Nat.reduceLT, Int.reduceLE, Int.reduceLT, Int.reduceAdd, Int.reduceSub, Int.reduceToNat, Nat.reduceMul, ratC, t4, v4, f4]
theorem meanR_form (p w : List Int) (ww : List (List Int)) (hW : LimW 20 ww) : ∃ (q : Rat) (c : Int), meanR p w ww = [.agg (ratC q), .one (.lit (.int .i64 c))] ∧ qs q < 68719476730 := by
  unfold meanR
  split
  · rename_i h
    obtain ⟨c1, c2, c3⟩ := checkV_zero h
    obtain ⟨g1, g2, g3, g4⟩ := gridV_zero c1
    exact ⟨_, _, rfl, by have := qs_mom 1 hW (fun j hj => (g3 j hj).1) c2 g1; omega⟩
  · exact ⟨_, _, rfl, by have := qs_int (x := 0) (by decide) (by decide); omega⟩
theorem varR_form (p w : List Int) (ww : List (List Int)) (hW : LimW 20 ww) : ∃ (q : Rat) (c : Int), varR p w ww = [.agg (ratC q), .one (.lit (.int .i64 c))] ∧ qs q < 68719476730 := by
  unfold varR
  split
  · rename_i h
    obtain ⟨c1, c2, c3⟩ := checkV_zero h
    obtain ⟨g1, g2, g3, g4⟩ := gridV_zero c1
    have q1 := qs_mom 1 hW (fun j hj => (g3 j hj).1) c2 g1
    have q2 := qs_mom 2 hW (fun j hj => (g3 j hj).1) c2 g1
    have q3 := qs_mul (momQ 1 p ww) (momQ 1 p ww)
    have q4 := qs_sub (momQ 2 p ww) (momQ 1 p ww * momQ 1 p ww)
    exact ⟨_, _, rfl, by omega⟩
  · exact ⟨_, _, rfl, by have := qs_int (x := 0) (by decide) (by decide); omega⟩
/-- examboard/examboardlaw18.GridSums -/
def b6 : AF := ⟨52, 2, [.tmp 4],
  (.seq (.reg [
    ⟨some 2, .box 24 (.tmp 0), none⟩,
    ⟨some 4, .assign (.const (.bool false)), none⟩])
  (.seq (.seq (.reg [
    ⟨some 9, .move (.tmp 1), none⟩,
    ⟨some 10, .call ⟨(.value (.func 20)), #[(.tmp 9)], #[30]⟩, none⟩])
  (.cond (.tmp 10)
    (.seq (.reg [
      ⟨some 4, .assign (.const (.bool true)), none⟩])
    .ret)
    .skip))
  (.seq (.reg [
    ⟨some 12, .load 24 (.tmp 2), none⟩,
    ⟨some 13, .move (.tmp 1), none⟩,
    ⟨some 14, .call ⟨(.value (.func 21)), #[(.tmp 12), (.tmp 13)], #[24, 30]⟩, none⟩,
    ⟨some 11, .move (.tmp 14), none⟩,
    ⟨some 15, .extract (.tmp 11) 0, none⟩,
    ⟨some 16, .extract (.tmp 11) 1, none⟩,
    ⟨some 5, .alloc 41, none⟩,
    ⟨none, .store 41 (.tmp 5) (.tmp 15), none⟩,
    ⟨some 6, .assign (.tmp 16), none⟩])
  (.seq (.reg [
    ⟨some 18, .load 24 (.tmp 2), none⟩,
    ⟨some 19, .move (.tmp 1), none⟩,
    ⟨some 20, .call ⟨(.value (.func 22)), #[(.tmp 18), (.tmp 19)], #[24, 30]⟩, none⟩,
    ⟨some 17, .move (.tmp 20), none⟩,
    ⟨some 21, .extract (.tmp 17) 0, none⟩,
    ⟨some 22, .extract (.tmp 17) 1, none⟩,
    ⟨some 7, .alloc 41, none⟩,
    ⟨none, .store 41 (.tmp 7) (.tmp 21), none⟩,
    ⟨some 8, .assign (.tmp 22), none⟩])
  (.seq (.seq (.reg [
    ⟨some 23, .move (.tmp 6), none⟩,
    ⟨some 24, .move (.tmp 8), none⟩,
    ⟨some 25, .binOp .neq 25 (.tmp 23) (.tmp 24) 25, none⟩,
    ⟨some 26, .move (.tmp 25), none⟩,
    ⟨some 27, .load 41 (.tmp 5), some (26, false)⟩,
    ⟨some 28, .load 41 (.tmp 7), some (26, false)⟩,
    ⟨some 29, .call ⟨(.value (.func 23)), #[(.tmp 27), (.tmp 28)], #[41, 41]⟩, some (26, false)⟩,
    ⟨some 30, .unOp .not 4 (.tmp 29), some (26, false)⟩,
    ⟨some 31, .pick (.tmp 26) (.const (.bool true)) (.tmp 30), none⟩])
  (.cond (.tmp 31)
    (.seq (.reg [
      ⟨some 4, .assign (.const (.bool false)), none⟩])
    .ret)
    .skip))
  (.seq (.reg [
    ⟨some 33, .load 24 (.tmp 2), none⟩,
    ⟨some 34, .move (.tmp 1), none⟩,
    ⟨some 35, .call ⟨(.value (.func 24)), #[(.tmp 33), (.tmp 34)], #[24, 30]⟩, none⟩,
    ⟨some 32, .move (.tmp 35), none⟩,
    ⟨some 36, .extract (.tmp 32) 0, none⟩,
    ⟨some 37, .extract (.tmp 32) 1, none⟩,
    ⟨none, .store 41 (.tmp 5) (.tmp 36), none⟩,
    ⟨some 6, .assign (.tmp 37), none⟩])
  (.seq (.reg [
    ⟨some 39, .load 24 (.tmp 2), none⟩,
    ⟨some 40, .move (.tmp 1), none⟩,
    ⟨some 41, .call ⟨(.value (.func 25)), #[(.tmp 39), (.tmp 40)], #[24, 30]⟩, none⟩,
    ⟨some 38, .move (.tmp 41), none⟩,
    ⟨some 42, .extract (.tmp 38) 0, none⟩,
    ⟨some 43, .extract (.tmp 38) 1, none⟩,
    ⟨none, .store 41 (.tmp 7) (.tmp 42), none⟩,
    ⟨some 8, .assign (.tmp 43), none⟩])
  (.seq (.reg [
    ⟨some 44, .move (.tmp 6), none⟩,
    ⟨some 45, .move (.tmp 8), none⟩,
    ⟨some 46, .binOp .eql 25 (.tmp 44) (.tmp 45) 25, none⟩,
    ⟨some 47, .move (.tmp 46), none⟩,
    ⟨some 48, .load 41 (.tmp 5), some (47, true)⟩,
    ⟨some 49, .load 41 (.tmp 7), some (47, true)⟩,
    ⟨some 50, .call ⟨(.value (.func 23)), #[(.tmp 48), (.tmp 49)], #[41, 41]⟩, some (47, true)⟩,
    ⟨some 51, .pick (.tmp 47) (.tmp 50) (.const (.bool false)), none⟩,
    ⟨some 4, .assign (.tmp 51), none⟩])
  .ret))))))))⟩
theorem c6 : fcomp Try.prog 6 = ⟨b6.n, b6.np, b6.res, b6.body.bare⟩ := by kernel_rfl
theorem k6 : fok Try.prog 6 = true := by kernel_rfl
theorem law_GridSums (p w : List Int) (ww : List (List Int)) (hL : ∀ i, Lim (ww.getD i [])) (hb : ww.length ≤ 9223372036854775807) : AFun Try.prog 6 [.agg [intsD p, intsD w], .one (natsD ww)] [.one (.lit (.bool true))] := by
  refine afun_intro mo_ _ _ c6 k6 _ _ rfl (by decide) ?_
  unfold b6
  simp (maxSteps := 1000000) (disch := first | omega | (simp only [LL]; omega)) only [W, V, TY, CC, reduceIte, Nat.reduceEqDiff, Nat.reduceAdd, Nat.reduceLeDiff, Nat.reduceLT, Int.reduceLE, Int.reduceLT, Int.reduceAdd, Int.reduceSub, Int.reduceToNat, Nat.reduceMul]
  refine a_call _ _ (law_large ww hb) (by simp (maxSteps := 1000000) (disch := first | omega | (simp only [LL]; omega)) only [W, V, TY, CC, reduceIte, Nat.reduceEqDiff, Nat.reduceAdd, Nat.reduceLeDiff, Nat.reduceLT, Int.reduceLE, Int.reduceLT, Int.reduceAdd, Int.reduceSub, Int.reduceToNat, Nat.reduceMul]) ?_
  simp (maxSteps := 1000000) (disch := first | omega | (simp only [LL]; omega)) only [W, V, TY, CC, reduceIte, Nat.reduceEqDiff, Nat.reduceAdd, Nat.reduceLeDiff, Nat.reduceLT, Int.reduceLE, Int.reduceLT, Int.reduceAdd, Int.reduceSub, Int.reduceToNat, Nat.reduceMul]
  refine c_splitb (fun h => ?_) (fun h => ?_)
  · simp (maxSteps := 1000000) (disch := first | omega | (simp only [LL]; omega)) only [W, V, TY, CC, reduceIte, Nat.reduceEqDiff, Nat.reduceAdd, Nat.reduceLeDiff, Nat.reduceLT, Int.reduceLE, Int.reduceLT, Int.reduceAdd, Int.reduceSub, Int.reduceToNat, Nat.reduceMul]
    refine f_ret _ _ _ ?_
    simp (maxSteps := 1000000) (disch := first | omega | (simp only [LL]; omega)) only [W, V, TY, CC, reduceIte, Nat.reduceEqDiff, Nat.reduceAdd, Nat.reduceLeDiff, Nat.reduceLT, Int.reduceLE, Int.reduceLT, Int.reduceAdd, Int.reduceSub, Int.reduceToNat, Nat.reduceMul]
  · have hW : LimW 20 ww := fun i => ⟨hL i, by
      have h1 : ¬ ∃ i, i < ww.length ∧ 20 < (ww.getD i []).length := of_decide_eq_false h
      rcases Nat.lt_or_ge i ww.length with h2 | h2
      · rcases Nat.lt_or_ge 20 (ww.getD i []).length with h3 | h3
        · exact absurd ⟨i, h2, h3⟩ h1
        · exact h3
      · rw [List.getD_eq_getElem?_getD, List.getElem?_eq_none h2]; simp⟩
    obtain ⟨q, c, e1, s1⟩ := meanR_form p w ww hW
    obtain ⟨q', c', e2, s2⟩ := varR_form p w ww hW
    have a1 := grid_Mean p w ww hW
    have a2 := ref_Mean p w ww hW
    have a3 := grid_Variance p w ww hW
    have a4 := ref_Variance p w ww hW
    rw [e1] at a1 a2
    rw [e2] at a3 a4
    simp (maxSteps := 1000000) (disch := first | omega | (simp only [LL]; omega)) only [W, V, TY, CC, reduceIte, Nat.reduceEqDiff, Nat.reduceAdd, Nat.reduceLeDiff, Nat.reduceLT, Int.reduceLE, Int.reduceLT, Int.reduceAdd, Int.reduceSub, Int.reduceToNat, Nat.reduceMul]
    refine a_call _ _ a1 (by simp (maxSteps := 1000000) (disch := first | omega | (simp only [LL]; omega)) only [W, V, TY, CC, reduceIte, Nat.reduceEqDiff, Nat.reduceAdd, Nat.reduceLeDiff, Nat.reduceLT, Int.reduceLE, Int.reduceLT, Int.reduceAdd, Int.reduceSub, Int.reduceToNat, Nat.reduceMul]) ?_
    simp (maxSteps := 1000000) (disch := first | omega | (simp only [LL]; omega)) only [W, V, TY, CC, reduceIte, Nat.reduceEqDiff, Nat.reduceAdd, Nat.reduceLeDiff, Nat.reduceLT, Int.reduceLE, Int.reduceLT, Int.reduceAdd, Int.reduceSub, Int.reduceToNat, Nat.reduceMul, ratC]
    refine a_call _ _ a2 (by simp (maxSteps := 1000000) (disch := first | omega | (simp only [LL]; omega)) only [W, V, TY, CC, reduceIte, Nat.reduceEqDiff, Nat.reduceAdd, Nat.reduceLeDiff, Nat.reduceLT, Int.reduceLE, Int.reduceLT, Int.reduceAdd, Int.reduceSub, Int.reduceToNat, Nat.reduceMul]) ?_
    simp (maxSteps := 1000000) (disch := first | omega | (simp only [LL]; omega)) only [W, V, TY, CC, reduceIte, Nat.reduceEqDiff, Nat.reduceAdd, Nat.reduceLeDiff, Nat.reduceLT, Int.reduceLE, Int.reduceLT, Int.reduceAdd, Int.reduceSub, Int.reduceToNat, Nat.reduceMul, ratC]
    refine a_call _ _ (law_same q s1) (by simp (maxSteps := 1000000) (disch := first | omega | (simp only [LL]; omega)) only [W, V, TY, CC, reduceIte, Nat.reduceEqDiff, Nat.reduceAdd, Nat.reduceLeDiff, Nat.reduceLT, Int.reduceLE, Int.reduceLT, Int.reduceAdd, Int.reduceSub, Int.reduceToNat, Nat.reduceMul, ratC]) ?_
    simp (maxSteps := 1000000) (disch := first | omega | (simp only [LL]; omega)) only [W, V, TY, CC, reduceIte, Nat.reduceEqDiff, Nat.reduceAdd, Nat.reduceLeDiff, Nat.reduceLT, Int.reduceLE, Int.reduceLT, Int.reduceAdd, Int.reduceSub, Int.reduceToNat, Nat.reduceMul]
    refine a_call _ _ a3 (by simp (maxSteps := 1000000) (disch := first | omega | (simp only [LL]; omega)) only [W, V, TY, CC, reduceIte, Nat.reduceEqDiff, Nat.reduceAdd, Nat.reduceLeDiff, Nat.reduceLT, Int.reduceLE, Int.reduceLT, Int.reduceAdd, Int.reduceSub, Int.reduceToNat, Nat.reduceMul]) ?_
    simp (maxSteps := 1000000) (disch := first | omega | (simp only [LL]; omega)) only [W, V, TY, CC, reduceIte, Nat.reduceEqDiff, Nat.reduceAdd, Nat.reduceLeDiff, Nat.reduceLT, Int.reduceLE, Int.reduceLT, Int.reduceAdd, Int.reduceSub, Int.reduceToNat, Nat.reduceMul, ratC]
    refine a_call _ _ a4 (by simp (maxSteps := 1000000) (disch := first | omega | (simp only [LL]; omega)) only [W, V, TY, CC, reduceIte, Nat.reduceEqDiff, Nat.reduceAdd, Nat.reduceLeDiff, Nat.reduceLT, Int.reduceLE, Int.reduceLT, Int.reduceAdd, Int.reduceSub, Int.reduceToNat, Nat.reduceMul]) ?_
    simp (maxSteps := 1000000) (disch := first | omega | (simp only [LL]; omega)) only [W, V, TY, CC, reduceIte, Nat.reduceEqDiff, Nat.reduceAdd, Nat.reduceLeDiff, Nat.reduceLT, Int.reduceLE, Int.reduceLT, Int.reduceAdd, Int.reduceSub, Int.reduceToNat, Nat.reduceMul, ratC]
    refine a_call _ _ (law_same q' s2) (by simp (maxSteps := 1000000) (disch := first | omega | (simp only [LL]; omega)) only [W, V, TY, CC, reduceIte, Nat.reduceEqDiff, Nat.reduceAdd, Nat.reduceLeDiff, Nat.reduceLT, Int.reduceLE, Int.reduceLT, Int.reduceAdd, Int.reduceSub, Int.reduceToNat, Nat.reduceMul, ratC]) ?_
    simp (maxSteps := 1000000) (disch := first | omega | (simp only [LL]; omega)) only [W, V, TY, CC, reduceIte, Nat.reduceEqDiff, Nat.reduceAdd, Nat.reduceLeDiff, Nat.reduceLT, Int.reduceLE, Int.reduceLT, Int.reduceAdd, Int.reduceSub, Int.reduceToNat, Nat.reduceMul]
    refine f_ret _ _ _ ?_
    simp (maxSteps := 1000000) (disch := first | omega | (simp only [LL]; omega)) only [W, V, TY, CC, reduceIte, Nat.reduceEqDiff, Nat.reduceAdd, Nat.reduceLeDiff, Nat.reduceLT, Int.reduceLE, Int.reduceLT, Int.reduceAdd, Int.reduceSub, Int.reduceToNat, Nat.reduceMul]
end Go.Proofs.Ytnlmfdojnacofaa.E

set_option linter.unusedSimpArgs false
set_option linter.unusedVariables false
set_option maxHeartbeats 2000000
namespace Go.Proofs.Ytnlmfdojnacofaa.E
open Go.RowKit Limbs
def pts (lo st : Int) (n : Nat) : List Int := (List.range n).map fun (i : Nat) => lo + (i : Int) * st
def ones (n : Nat) : List Int := List.replicate n 1
theorem len_pts (lo st : Int) (n : Nat) : (pts lo st n).length = n := by unfold pts; simp
theorem len_ones (n : Nat) : (ones n).length = n := by unfold ones; simp
theorem pts_succ (lo st : Int) (n : Nat) : pts lo st n ++ [lo + n * st] = pts lo st (n + 1) := by unfold pts; rw [List.range_succ]; simp
theorem ones_succ (n : Nat) : ones n ++ [1] = ones (n + 1) := by unfold ones; rw [List.replicate_succ']
theorem mulb {a st : Int} (h0 : 0 ≤ a) (h1 : a ≤ 20) (h2 : 0 ≤ st) (h3 : st ≤ 1000) : 0 ≤ a * st ∧ a * st ≤ 20000 := by
  have x := Int.mul_nonneg h0 h2
  have y := Int.mul_nonneg (a := 20 - a) (b := st) (by omega) h2
  rw [Int.sub_mul] at y
  omega
/-- what can be made -/
def spOK (lo st n : Int) : Prop := (1 ≤ n ∧ n ≤ 21) ∧ (1 ≤ st ∧ st ≤ 1000) ∧ (-1000 ≤ lo ∧ lo ≤ 1000) ∧ lo + (n - 1) * st ≤ 1000
/-- how many -/
noncomputable def spN (lo st n : Int) : Nat := by
  classical
  exact if spOK lo st n then n.toNat else 0
/-- the error -/
noncomputable def spE (lo st n : Int) : Int := by
  classical
  exact if spOK lo st n then 0 else 3
theorem spN_no {lo st n : Int} (h : ¬ spOK lo st n) : spN lo st n = 0 ∧ spE lo st n = 3 := by unfold spN spE; exact ⟨if_neg h, if_neg h⟩
theorem spN_yes {lo st n : Int} (h : spOK lo st n) : spN lo st n = n.toNat ∧ spE lo st n = 0 := by unfold spN spE; exact ⟨if_pos h, if_pos h⟩
theorem f_rett (P : Program) (res : List ResultVar) (l0 l1 : List Int) (T : TypeId) (c : Int) (gs : List Gh) (s : AS) (t1 : Nat) (TT : TypeId) (t2 : Nat) (hr : res = [.cell t1 TT, .tmp t2]) (hT : tok P TT = true ∧ tagg P TT = true ∧ tsz P TT = 2)
    (h : ghs gs (fun s => ∃ c0 c1, acells s (s.t t1) = some [c0, c1] ∧ toD s c0 = some (.sl l0.length (intsC l0)) ∧ ((c1 = .z ∧ l1 = []) ∨ ∃ r row, c1 = .row r row.ver ∧ s.r r = some row ∧ row.live = true ∧ row.e = T ∧ row.sz = 1 ∧ row.n = l1.length ∧ row.cells = intsC l1) ∧ s.t t2 = .one (.dt (.lit (.int .i64 c)))) s) : fendT P res l0 l1 T c .ret s := by
  refine ⟨gs, ?_⟩
  have key : ∀ (gs : List Gh) (Q Q' : AS → Prop) (s : AS), (∀ s, Q s → Q' s) → ghs gs Q s → ghs gs Q' s := by
    intro gs
    induction gs with
    | nil => intro Q Q' s h1 h2; exact h1 s h2
    | cons g gs ih => intro Q Q' s h1 h2; exact ⟨h2.1, ih Q Q' _ h1 h2.2⟩
  refine key gs _ _ s (fun s h => ?_) h
  obtain ⟨c0, c1, h1, h2, h3, h4⟩ := h
  refine ⟨t1, TT, t2, c0, c1, hr, hT.1, hT.2.1, hT.2.2, h1, ?_, ?_, h4⟩
  · rw [i64s_ints]; exact h2
  · simp only [i64s_ints]; exact h3
/-- examboard/grid.spaced -/
def b27 : AF := ⟨54, 3, [.cell 6 24, .tmp 7],
  (.seq (.reg [
    ⟨some 6, .alloc 24, none⟩,
    ⟨some 7, .assign (.const (.int .i64 0)), none⟩])
  (.seq (.seq (.reg [
    ⟨some 10, .move (.tmp 2), none⟩,
    ⟨some 11, .call ⟨(.value (.func 31)), #[(.tmp 10), (.const (.int .i64 1)), (.const (.int .i64 21))], #[3, 3, 3]⟩, none⟩,
    ⟨some 12, .unOp .not 4 (.tmp 11), none⟩,
    ⟨some 13, .move (.tmp 12), none⟩,
    ⟨some 14, .move (.tmp 1), some (13, false)⟩,
    ⟨some 15, .call ⟨(.value (.func 31)), #[(.tmp 14), (.const (.int .i64 1)), (.const (.int .i64 1000))], #[3, 3, 3]⟩, some (13, false)⟩,
    ⟨some 16, .unOp .not 4 (.tmp 15), some (13, false)⟩,
    ⟨some 17, .pick (.tmp 13) (.const (.bool true)) (.tmp 16), none⟩,
    ⟨some 18, .move (.tmp 17), none⟩,
    ⟨some 19, .move (.tmp 0), some (18, false)⟩,
    ⟨some 20, .call ⟨(.value (.func 31)), #[(.tmp 19), (.const (.int .i64 (-1000))), (.const (.int .i64 1000))], #[3, 3, 3]⟩, some (18, false)⟩,
    ⟨some 21, .unOp .not 4 (.tmp 20), some (18, false)⟩,
    ⟨some 22, .pick (.tmp 18) (.const (.bool true)) (.tmp 21), none⟩,
    ⟨some 23, .move (.tmp 22), none⟩,
    ⟨some 24, .move (.tmp 0), some (23, false)⟩,
    ⟨some 25, .move (.tmp 2), some (23, false)⟩,
    ⟨some 26, .binOp .sub 3 (.tmp 25) (.const (.int .i64 1)) 3, some (23, false)⟩,
    ⟨some 27, .move (.tmp 1), some (23, false)⟩,
    ⟨some 28, .binOp .mul 3 (.tmp 26) (.tmp 27) 3, some (23, false)⟩,
    ⟨some 29, .binOp .add 3 (.tmp 24) (.tmp 28) 3, some (23, false)⟩,
    ⟨some 30, .binOp .gtr 3 (.tmp 29) (.const (.int .i64 1000)) 3, some (23, false)⟩,
    ⟨some 31, .pick (.tmp 23) (.const (.bool true)) (.tmp 30), none⟩])
  (.cond (.tmp 31)
    (.seq (.reg [
      ⟨some 32, .build 24 #[], none⟩,
      ⟨none, .store 24 (.tmp 6) (.tmp 32), none⟩,
      ⟨some 7, .assign (.const (.int .i64 3)), none⟩])
    .ret)
    .skip))
  (.seq (.reg [
    ⟨some 8, .alloc 24, none⟩])
  (.seq (.seq (.seq (.gh [.nilv 8 0 50 3 1, .nilv 8 1 51 3 1])
  (.reg [
    ⟨some 33, .move (.tmp 2), none⟩,
    ⟨some 34, .move (.const (.int .i64 0)), none⟩]))
  (.block 0 (.loop (.seq (.reg [
    ⟨some 35, .binOp .lss 3 (.tmp 34) (.tmp 33) 3, none⟩])
  (.seq (.cond (.tmp 35)
    .skip
    (.exit 0))
  (.seq (.block 1 (.seq (.reg [
    ⟨some 36, .move (.tmp 34), none⟩,
    ⟨some 9, .assign (.tmp 36), none⟩])
  (.seq (.reg [
    ⟨some 37, .fieldAddr 24 (.tmp 8) 0, none⟩,
    ⟨some 38, .load 22 (.tmp 37), none⟩,
    ⟨some 39, .move (.tmp 0), none⟩,
    ⟨some 40, .move (.tmp 9), none⟩,
    ⟨some 41, .move (.tmp 1), none⟩,
    ⟨some 42, .binOp .mul 3 (.tmp 40) (.tmp 41) 3, none⟩,
    ⟨some 43, .binOp .add 3 (.tmp 39) (.tmp 42) 3, none⟩,
    ⟨some 44, .buildSlice 22 1 #[(0, (.tmp 43))], none⟩,
    ⟨some 45, .call ⟨(.builtin .append), #[(.tmp 38), (.tmp 44)], #[22, 22]⟩, none⟩,
    ⟨some 46, .fieldAddr 24 (.tmp 8) 0, none⟩,
    ⟨none, .store 22 (.tmp 46) (.tmp 45), none⟩])
  (.reg [
    ⟨some 47, .fieldAddr 24 (.tmp 8) 1, none⟩,
    ⟨some 48, .load 22 (.tmp 47), none⟩,
    ⟨some 49, .buildSlice 22 1 #[(0, (.const (.int .i64 1)))], none⟩,
    ⟨some 50, .call ⟨(.builtin .append), #[(.tmp 48), (.tmp 49)], #[22, 22]⟩, none⟩,
    ⟨some 51, .fieldAddr 24 (.tmp 8) 1, none⟩,
    ⟨none, .store 22 (.tmp 51) (.tmp 50), none⟩]))))
  (.reg [
    ⟨some 52, .binOp .add 3 (.tmp 34) (.const (.int .i64 1)) 3, none⟩,
    ⟨some 34, .move (.tmp 52), none⟩])))))))
  (.seq (.reg [
    ⟨some 53, .load 24 (.tmp 8), none⟩,
    ⟨none, .store 24 (.tmp 6) (.tmp 53), none⟩,
    ⟨some 7, .assign (.const (.int .i64 0)), none⟩])
  .ret)))))⟩
theorem c27 : fcomp Try.prog 27 = ⟨b27.n, b27.np, b27.res, b27.body.bare⟩ := by kernel_rfl
theorem k27 : fok Try.prog 27 = true := by kernel_rfl
theorem grid_spaced (lo st n : Int) : TFun Try.prog 27 [.one (.lit (.int .i64 lo)), .one (.lit (.int .i64 st)), .one (.lit (.int .i64 n))] (pts lo st (spN lo st n)) (ones (spN lo st n)) 3 (spE lo st n) := by
  refine tfun_intro mo_ _ _ c27 k27 _ _ _ _ _ rfl (by decide) ?_
  unfold b27
  simp (maxSteps := 1000000) (disch := first | omega | (simp only [LL]; omega)) only [W, V, TY, CC, reduceIte, Nat.reduceEqDiff, Nat.reduceAdd, Nat.reduceLeDiff, Nat.reduceLT, Int.reduceLE, Int.reduceLT, Int.reduceAdd, Int.reduceSub, Int.reduceToNat, Nat.reduceMul]
  refine a_call _ _ (grid_within n 1 21) (by simp (maxSteps := 1000000) (disch := first | omega | (simp only [LL]; omega)) only [W, V, TY, CC, reduceIte, Nat.reduceEqDiff, Nat.reduceAdd, Nat.reduceLeDiff, Nat.reduceLT, Int.reduceLE, Int.reduceLT, Int.reduceAdd, Int.reduceSub, Int.reduceToNat, Nat.reduceMul]) ?_
  simp (maxSteps := 1000000) (disch := first | omega | (simp only [LL]; omega)) only [W, V, TY, CC, reduceIte, Nat.reduceEqDiff, Nat.reduceAdd, Nat.reduceLeDiff, Nat.reduceLT, Int.reduceLE, Int.reduceLT, Int.reduceAdd, Int.reduceSub, Int.reduceToNat, Nat.reduceMul]
  have fin : ¬ spOK lo st n → ∀ s : AS, s.t 6 = .ptr (6, 0) 0 → s.v (6, 0) = some [.z, .z] → s.t 7 = .one (.dt (.lit (.int .i64 3))) → fendT Try.prog b27.res (pts lo st (spN lo st n)) (ones (spN lo st n)) 3 (spE lo st n) .ret s := fun hn s h6 v6 h7 => by
    obtain ⟨e1, e2⟩ := spN_no hn
    rw [e1, e2]
    refine f_rett _ _ _ _ _ _ [] s 6 24 7 rfl (by simp (maxSteps := 1000000) (disch := first | omega | (simp only [LL]; omega)) only [W, V, TY, CC, reduceIte, Nat.reduceEqDiff, Nat.reduceAdd, Nat.reduceLeDiff, Nat.reduceLT, Int.reduceLE, Int.reduceLT, Int.reduceAdd, Int.reduceSub, Int.reduceToNat, Nat.reduceMul]) ⟨.z, .z, ?_, rfl, .inl ⟨rfl, rfl⟩, h7⟩
    simp (maxSteps := 1000000) (disch := first | omega | (simp only [LL]; omega)) only [W, V, TY, CC, reduceIte, Nat.reduceEqDiff, Nat.reduceAdd, Nat.reduceLeDiff, Nat.reduceLT, Int.reduceLE, Int.reduceLT, Int.reduceAdd, Int.reduceSub, Int.reduceToNat, Nat.reduceMul, h6, v6]
  refine g_split (fun h1 => ?_) (fun h1 => ?_)
  · simp (maxSteps := 1000000) (disch := first | omega | (simp only [LL]; omega)) only [W, V, TY, CC, reduceIte, Nat.reduceEqDiff, Nat.reduceAdd, Nat.reduceLeDiff, Nat.reduceLT, Int.reduceLE, Int.reduceLT, Int.reduceAdd, Int.reduceSub, Int.reduceToNat, Nat.reduceMul, h1]
    exact fin (fun h => h1 h.1) _ (by simp (maxSteps := 1000000) (disch := first | omega | (simp only [LL]; omega)) only [W, V, TY, CC, reduceIte, Nat.reduceEqDiff, Nat.reduceAdd, Nat.reduceLeDiff, Nat.reduceLT, Int.reduceLE, Int.reduceLT, Int.reduceAdd, Int.reduceSub, Int.reduceToNat, Nat.reduceMul]) (by simp (maxSteps := 1000000) (disch := first | omega | (simp only [LL]; omega)) only [W, V, TY, CC, reduceIte, Nat.reduceEqDiff, Nat.reduceAdd, Nat.reduceLeDiff, Nat.reduceLT, Int.reduceLE, Int.reduceLT, Int.reduceAdd, Int.reduceSub, Int.reduceToNat, Nat.reduceMul]) (by simp (maxSteps := 1000000) (disch := first | omega | (simp only [LL]; omega)) only [W, V, TY, CC, reduceIte, Nat.reduceEqDiff, Nat.reduceAdd, Nat.reduceLeDiff, Nat.reduceLT, Int.reduceLE, Int.reduceLT, Int.reduceAdd, Int.reduceSub, Int.reduceToNat, Nat.reduceMul])
  simp (maxSteps := 1000000) (disch := first | omega | (simp only [LL]; omega)) only [W, V, TY, CC, reduceIte, Nat.reduceEqDiff, Nat.reduceAdd, Nat.reduceLeDiff, Nat.reduceLT, Int.reduceLE, Int.reduceLT, Int.reduceAdd, Int.reduceSub, Int.reduceToNat, Nat.reduceMul, h1]
  refine a_call _ _ (grid_within st 1 1000) (by simp (maxSteps := 1000000) (disch := first | omega | (simp only [LL]; omega)) only [W, V, TY, CC, reduceIte, Nat.reduceEqDiff, Nat.reduceAdd, Nat.reduceLeDiff, Nat.reduceLT, Int.reduceLE, Int.reduceLT, Int.reduceAdd, Int.reduceSub, Int.reduceToNat, Nat.reduceMul, h1]) ?_
  simp (maxSteps := 1000000) (disch := first | omega | (simp only [LL]; omega)) only [W, V, TY, CC, reduceIte, Nat.reduceEqDiff, Nat.reduceAdd, Nat.reduceLeDiff, Nat.reduceLT, Int.reduceLE, Int.reduceLT, Int.reduceAdd, Int.reduceSub, Int.reduceToNat, Nat.reduceMul, h1]
  refine g_split (fun h2 => ?_) (fun h2 => ?_)
  · simp (maxSteps := 1000000) (disch := first | omega | (simp only [LL]; omega)) only [W, V, TY, CC, reduceIte, Nat.reduceEqDiff, Nat.reduceAdd, Nat.reduceLeDiff, Nat.reduceLT, Int.reduceLE, Int.reduceLT, Int.reduceAdd, Int.reduceSub, Int.reduceToNat, Nat.reduceMul, h2]
    exact fin (fun h => h2 h.2.1) _ (by simp (maxSteps := 1000000) (disch := first | omega | (simp only [LL]; omega)) only [W, V, TY, CC, reduceIte, Nat.reduceEqDiff, Nat.reduceAdd, Nat.reduceLeDiff, Nat.reduceLT, Int.reduceLE, Int.reduceLT, Int.reduceAdd, Int.reduceSub, Int.reduceToNat, Nat.reduceMul]) (by simp (maxSteps := 1000000) (disch := first | omega | (simp only [LL]; omega)) only [W, V, TY, CC, reduceIte, Nat.reduceEqDiff, Nat.reduceAdd, Nat.reduceLeDiff, Nat.reduceLT, Int.reduceLE, Int.reduceLT, Int.reduceAdd, Int.reduceSub, Int.reduceToNat, Nat.reduceMul]) (by simp (maxSteps := 1000000) (disch := first | omega | (simp only [LL]; omega)) only [W, V, TY, CC, reduceIte, Nat.reduceEqDiff, Nat.reduceAdd, Nat.reduceLeDiff, Nat.reduceLT, Int.reduceLE, Int.reduceLT, Int.reduceAdd, Int.reduceSub, Int.reduceToNat, Nat.reduceMul])
  simp (maxSteps := 1000000) (disch := first | omega | (simp only [LL]; omega)) only [W, V, TY, CC, reduceIte, Nat.reduceEqDiff, Nat.reduceAdd, Nat.reduceLeDiff, Nat.reduceLT, Int.reduceLE, Int.reduceLT, Int.reduceAdd, Int.reduceSub, Int.reduceToNat, Nat.reduceMul, h2]
  refine a_call _ _ (grid_within lo (-1000) 1000) (by simp (maxSteps := 1000000) (disch := first | omega | (simp only [LL]; omega)) only [W, V, TY, CC, reduceIte, Nat.reduceEqDiff, Nat.reduceAdd, Nat.reduceLeDiff, Nat.reduceLT, Int.reduceLE, Int.reduceLT, Int.reduceAdd, Int.reduceSub, Int.reduceToNat, Nat.reduceMul, h2]) ?_
  simp (maxSteps := 1000000) (disch := first | omega | (simp only [LL]; omega)) only [W, V, TY, CC, reduceIte, Nat.reduceEqDiff, Nat.reduceAdd, Nat.reduceLeDiff, Nat.reduceLT, Int.reduceLE, Int.reduceLT, Int.reduceAdd, Int.reduceSub, Int.reduceToNat, Nat.reduceMul, h2]
  refine g_split (fun h3 => ?_) (fun h3 => ?_)
  · simp (maxSteps := 1000000) (disch := first | omega | (simp only [LL]; omega)) only [W, V, TY, CC, reduceIte, Nat.reduceEqDiff, Nat.reduceAdd, Nat.reduceLeDiff, Nat.reduceLT, Int.reduceLE, Int.reduceLT, Int.reduceAdd, Int.reduceSub, Int.reduceToNat, Nat.reduceMul, h3]
    exact fin (fun h => h3 h.2.2.1) _ (by simp (maxSteps := 1000000) (disch := first | omega | (simp only [LL]; omega)) only [W, V, TY, CC, reduceIte, Nat.reduceEqDiff, Nat.reduceAdd, Nat.reduceLeDiff, Nat.reduceLT, Int.reduceLE, Int.reduceLT, Int.reduceAdd, Int.reduceSub, Int.reduceToNat, Nat.reduceMul]) (by simp (maxSteps := 1000000) (disch := first | omega | (simp only [LL]; omega)) only [W, V, TY, CC, reduceIte, Nat.reduceEqDiff, Nat.reduceAdd, Nat.reduceLeDiff, Nat.reduceLT, Int.reduceLE, Int.reduceLT, Int.reduceAdd, Int.reduceSub, Int.reduceToNat, Nat.reduceMul]) (by simp (maxSteps := 1000000) (disch := first | omega | (simp only [LL]; omega)) only [W, V, TY, CC, reduceIte, Nat.reduceEqDiff, Nat.reduceAdd, Nat.reduceLeDiff, Nat.reduceLT, Int.reduceLE, Int.reduceLT, Int.reduceAdd, Int.reduceSub, Int.reduceToNat, Nat.reduceMul])
  have h1' := Classical.not_not.1 h1
  have h2' := Classical.not_not.1 h2
  have h3' := Classical.not_not.1 h3
  obtain ⟨b0, b2⟩ := mulb (a := n - 1) (st := st) (by omega) (by omega) (by omega) (by omega)
  simp (maxSteps := 1000000) (disch := first | omega | (simp only [LL]; omega)) only [W, V, TY, CC, reduceIte, Nat.reduceEqDiff, Nat.reduceAdd, Nat.reduceLeDiff, Nat.reduceLT, Int.reduceLE, Int.reduceLT, Int.reduceAdd, Int.reduceSub, Int.reduceToNat, Nat.reduceMul, h3, wi64 (n := (n - 1) * st) (by omega) (by omega)]
  refine c_split (fun h4 => ?_) (fun h4 => ?_)
  · simp (maxSteps := 1000000) (disch := first | omega | (simp only [LL]; omega)) only [W, V, TY, CC, reduceIte, Nat.reduceEqDiff, Nat.reduceAdd, Nat.reduceLeDiff, Nat.reduceLT, Int.reduceLE, Int.reduceLT, Int.reduceAdd, Int.reduceSub, Int.reduceToNat, Nat.reduceMul]
    exact fin (fun h => by have := h.2.2.2; omega) _ (by simp (maxSteps := 1000000) (disch := first | omega | (simp only [LL]; omega)) only [W, V, TY, CC, reduceIte, Nat.reduceEqDiff, Nat.reduceAdd, Nat.reduceLeDiff, Nat.reduceLT, Int.reduceLE, Int.reduceLT, Int.reduceAdd, Int.reduceSub, Int.reduceToNat, Nat.reduceMul]) (by simp (maxSteps := 1000000) (disch := first | omega | (simp only [LL]; omega)) only [W, V, TY, CC, reduceIte, Nat.reduceEqDiff, Nat.reduceAdd, Nat.reduceLeDiff, Nat.reduceLT, Int.reduceLE, Int.reduceLT, Int.reduceAdd, Int.reduceSub, Int.reduceToNat, Nat.reduceMul]) (by simp (maxSteps := 1000000) (disch := first | omega | (simp only [LL]; omega)) only [W, V, TY, CC, reduceIte, Nat.reduceEqDiff, Nat.reduceAdd, Nat.reduceLeDiff, Nat.reduceLT, Int.reduceLE, Int.reduceLT, Int.reduceAdd, Int.reduceSub, Int.reduceToNat, Nat.reduceMul])
  have hok : spOK lo st n := ⟨h1', h2', h3', by omega⟩
  obtain ⟨e1, e2⟩ := spN_yes hok
  clear fin
  rw [e1, e2]
  simp (maxSteps := 1000000) (disch := first | omega | (simp only [LL]; omega)) only [W, V, TY, CC, reduceIte, Nat.reduceEqDiff, Nat.reduceAdd, Nat.reduceLeDiff, Nat.reduceLT, Int.reduceLE, Int.reduceLT, Int.reduceAdd, Int.reduceSub, Int.reduceToNat, Nat.reduceMul]
  refine w_loop (fun k s => ∃ i : Nat, k + i = n.toNat ∧ s.t 0 = .one (.dt (.lit (.int .i64 lo))) ∧ s.t 1 = .one (.dt (.lit (.int .i64 st))) ∧ s.t 6 = .ptr (6, 0) 0 ∧ s.t 8 = .ptr (8, 0) 0 ∧ s.t 33 = .one (.dt (.lit (.int .i64 n))) ∧ s.t 34 = .one (.dt (.lit (.int .i64 i))) ∧ s.v (6, 0) = some [.z, .z] ∧ s.f (6, 0) = false ∧ s.v (8, 0) = some [.row (50, 0) i, .row (51, 0) i] ∧ s.f (8, 0) = false ∧ s.r (50, 0) = some ⟨3, 1, i, intsC (pts lo st i), i, true⟩ ∧ s.r (51, 0) = some ⟨3, 1, i, intsC (ones i), i, true⟩) n.toNat ⟨0, rfl, ?_, ?_, ?_, ?_, ?_, ?_, ?_, ?_, ?_, ?_, ?_, ?_⟩ ?_
  · simp (maxSteps := 1000000) (disch := first | omega | (simp only [LL]; omega)) only [W, V, TY, CC, reduceIte, Nat.reduceEqDiff, Nat.reduceAdd, Nat.reduceLeDiff, Nat.reduceLT, Int.reduceLE, Int.reduceLT, Int.reduceAdd, Int.reduceSub, Int.reduceToNat, Nat.reduceMul]
  · simp (maxSteps := 1000000) (disch := first | omega | (simp only [LL]; omega)) only [W, V, TY, CC, reduceIte, Nat.reduceEqDiff, Nat.reduceAdd, Nat.reduceLeDiff, Nat.reduceLT, Int.reduceLE, Int.reduceLT, Int.reduceAdd, Int.reduceSub, Int.reduceToNat, Nat.reduceMul]
  · simp (maxSteps := 1000000) (disch := first | omega | (simp only [LL]; omega)) only [W, V, TY, CC, reduceIte, Nat.reduceEqDiff, Nat.reduceAdd, Nat.reduceLeDiff, Nat.reduceLT, Int.reduceLE, Int.reduceLT, Int.reduceAdd, Int.reduceSub, Int.reduceToNat, Nat.reduceMul]
  · simp (maxSteps := 1000000) (disch := first | omega | (simp only [LL]; omega)) only [W, V, TY, CC, reduceIte, Nat.reduceEqDiff, Nat.reduceAdd, Nat.reduceLeDiff, Nat.reduceLT, Int.reduceLE, Int.reduceLT, Int.reduceAdd, Int.reduceSub, Int.reduceToNat, Nat.reduceMul]
  · simp (maxSteps := 1000000) (disch := first | omega | (simp only [LL]; omega)) only [W, V, TY, CC, reduceIte, Nat.reduceEqDiff, Nat.reduceAdd, Nat.reduceLeDiff, Nat.reduceLT, Int.reduceLE, Int.reduceLT, Int.reduceAdd, Int.reduceSub, Int.reduceToNat, Nat.reduceMul]
  · simp (maxSteps := 1000000) (disch := first | omega | (simp only [LL]; omega)) only [W, V, TY, CC, reduceIte, Nat.reduceEqDiff, Nat.reduceAdd, Nat.reduceLeDiff, Nat.reduceLT, Int.reduceLE, Int.reduceLT, Int.reduceAdd, Int.reduceSub, Int.reduceToNat, Nat.reduceMul]
  · simp (maxSteps := 1000000) (disch := first | omega | (simp only [LL]; omega)) only [W, V, TY, CC, reduceIte, Nat.reduceEqDiff, Nat.reduceAdd, Nat.reduceLeDiff, Nat.reduceLT, Int.reduceLE, Int.reduceLT, Int.reduceAdd, Int.reduceSub, Int.reduceToNat, Nat.reduceMul]
  · simp (maxSteps := 1000000) (disch := first | omega | (simp only [LL]; omega)) only [W, V, TY, CC, reduceIte, Nat.reduceEqDiff, Nat.reduceAdd, Nat.reduceLeDiff, Nat.reduceLT, Int.reduceLE, Int.reduceLT, Int.reduceAdd, Int.reduceSub, Int.reduceToNat, Nat.reduceMul]
  · simp (maxSteps := 1000000) (disch := first | omega | (simp only [LL]; omega)) only [W, V, TY, CC, reduceIte, Nat.reduceEqDiff, Nat.reduceAdd, Nat.reduceLeDiff, Nat.reduceLT, Int.reduceLE, Int.reduceLT, Int.reduceAdd, Int.reduceSub, Int.reduceToNat, Nat.reduceMul]
  · simp (maxSteps := 1000000) (disch := first | omega | (simp only [LL]; omega)) only [W, V, TY, CC, reduceIte, Nat.reduceEqDiff, Nat.reduceAdd, Nat.reduceLeDiff, Nat.reduceLT, Int.reduceLE, Int.reduceLT, Int.reduceAdd, Int.reduceSub, Int.reduceToNat, Nat.reduceMul]
  · simp (maxSteps := 1000000) (disch := first | omega | (simp only [LL]; omega)) only [W, V, TY, CC, reduceIte, Nat.reduceEqDiff, Nat.reduceAdd, Nat.reduceLeDiff, Nat.reduceLT, Int.reduceLE, Int.reduceLT, Int.reduceAdd, Int.reduceSub, Int.reduceToNat, Nat.reduceMul]
    rfl
  · simp (maxSteps := 1000000) (disch := first | omega | (simp only [LL]; omega)) only [W, V, TY, CC, reduceIte, Nat.reduceEqDiff, Nat.reduceAdd, Nat.reduceLeDiff, Nat.reduceLT, Int.reduceLE, Int.reduceLT, Int.reduceAdd, Int.reduceSub, Int.reduceToNat, Nat.reduceMul]
    rfl
  intro k s hwf ⟨i, e, t0, t1, t6, t8, t33, t34, v6, f6, v8, f8, r50, r51⟩
  simp (maxSteps := 1000000) (disch := first | omega | (simp only [LL]; omega)) only [W, V, TY, CC, reduceIte, Nat.reduceEqDiff, Nat.reduceAdd, Nat.reduceLeDiff, Nat.reduceLT, Int.reduceLE, Int.reduceLT, Int.reduceAdd, Int.reduceSub, Int.reduceToNat, Nat.reduceMul, t33, t34]
  refine c_split (fun hi => ?_) (fun hi => ?_)
  · obtain ⟨c0, c2⟩ := mulb (a := (i : Int)) (st := st) (by omega) (by omega) (by omega) (by omega)
    simp (maxSteps := 1000000) (disch := first | omega | (simp only [LL]; omega)) only [W, V, TY, CC, reduceIte, Nat.reduceEqDiff, Nat.reduceAdd, Nat.reduceLeDiff, Nat.reduceLT, Int.reduceLE, Int.reduceLT, Int.reduceAdd, Int.reduceSub, Int.reduceToNat, Nat.reduceMul, t0, t1, t6, t8, t33, t34, v6, f6, v8, f8, r50, r51, intsC_app1, wi64 (n := (i : Int) * st) (by omega) (by omega), wi64 (n := lo + (i : Int) * st) (by omega) (by omega)]
    exact ⟨⟨by omega, by omega⟩, ⟨by omega, by omega⟩, k - 1, by omega, i + 1, by omega, rfl, rfl, by rw [pts_succ], by rw [ones_succ]⟩
  · obtain rfl : i = n.toNat := by omega
    simp (maxSteps := 1000000) (disch := first | omega | (simp only [LL]; omega)) only [W, V, TY, CC, reduceIte, Nat.reduceEqDiff, Nat.reduceAdd, Nat.reduceLeDiff, Nat.reduceLT, Int.reduceLE, Int.reduceLT, Int.reduceAdd, Int.reduceSub, Int.reduceToNat, Nat.reduceMul, t0, t1, t6, t8, t33, t34, v6, f6, v8, f8, r50, r51]
    refine f_rett _ _ _ _ _ _ [.frzc 6 0] _ 6 24 7 rfl (by simp (maxSteps := 1000000) (disch := first | omega | (simp only [LL]; omega)) only [W, V, TY, CC, reduceIte, Nat.reduceEqDiff, Nat.reduceAdd, Nat.reduceLeDiff, Nat.reduceLT, Int.reduceLE, Int.reduceLT, Int.reduceAdd, Int.reduceSub, Int.reduceToNat, Nat.reduceMul]) ⟨trivial, .row (50, 0) n.toNat, .row (51, 0) n.toNat, ?_, ?_, .inr ⟨(51, 0), ⟨3, 1, n.toNat, intsC (ones n.toNat), n.toNat, true⟩, rfl, ?_, rfl, rfl, rfl, (len_ones _).symm, rfl⟩, ?_⟩
    · simp (maxSteps := 1000000) (disch := first | omega | (simp only [LL]; omega)) only [W, V, TY, CC, reduceIte, Nat.reduceEqDiff, Nat.reduceAdd, Nat.reduceLeDiff, Nat.reduceLT, Int.reduceLE, Int.reduceLT, Int.reduceAdd, Int.reduceSub, Int.reduceToNat, Nat.reduceMul, t6, v6, r50]
    · rw [len_pts]
      simp (maxSteps := 1000000) (disch := first | omega | (simp only [LL]; omega)) only [W, V, TY, CC, reduceIte, Nat.reduceEqDiff, Nat.reduceAdd, Nat.reduceLeDiff, Nat.reduceLT, Int.reduceLE, Int.reduceLT, Int.reduceAdd, Int.reduceSub, Int.reduceToNat, Nat.reduceMul, t6, v6, r50]
    · simp (maxSteps := 1000000) (disch := first | omega | (simp only [LL]; omega)) only [W, V, TY, CC, reduceIte, Nat.reduceEqDiff, Nat.reduceAdd, Nat.reduceLeDiff, Nat.reduceLT, Int.reduceLE, Int.reduceLT, Int.reduceAdd, Int.reduceSub, Int.reduceToNat, Nat.reduceMul, t6, v6, r50, r51]
    · simp (maxSteps := 1000000) (disch := first | omega | (simp only [LL]; omega)) only [W, V, TY, CC, reduceIte, Nat.reduceEqDiff, Nat.reduceAdd, Nat.reduceLeDiff, Nat.reduceLT, Int.reduceLE, Int.reduceLT, Int.reduceAdd, Int.reduceSub, Int.reduceToNat, Nat.reduceMul, t6, v6, r50]
/-- examboard/grid.Uniform -/
def b8 : AF := ⟨14, 3, [.cell 6 24, .tmp 7],
  (.seq (.reg [
    ⟨some 6, .alloc 24, none⟩,
    ⟨some 7, .assign (.const (.int .i64 0)), none⟩])
  (.seq (.reg [
    ⟨some 8, .move (.tmp 0), none⟩,
    ⟨some 9, .move (.tmp 1), none⟩,
    ⟨some 10, .move (.tmp 2), none⟩,
    ⟨some 11, .call ⟨(.value (.func 27)), #[(.tmp 8), (.tmp 9), (.tmp 10)], #[3, 3, 3]⟩, none⟩,
    ⟨some 12, .extract (.tmp 11) 0, none⟩,
    ⟨some 13, .extract (.tmp 11) 1, none⟩,
    ⟨none, .store 24 (.tmp 6) (.tmp 12), none⟩,
    ⟨some 7, .assign (.tmp 13), none⟩])
  .ret))⟩
theorem c8 : fcomp Try.prog 8 = ⟨b8.n, b8.np, b8.res, b8.body.bare⟩ := by kernel_rfl
theorem k8 : fok Try.prog 8 = true := by kernel_rfl
theorem grid_Uniform (lo st n : Int) : AFun Try.prog 8 [.one (.lit (.int .i64 lo)), .one (.lit (.int .i64 st)), .one (.lit (.int .i64 n))] [.agg [intsD (pts lo st (spN lo st n)), intsD (ones (spN lo st n))], .one (.lit (.int .i64 (spE lo st n)))] := by
  refine afun_intro mo_ _ _ c8 k8 _ _ rfl (by decide) ?_
  unfold b8
  simp (maxSteps := 1000000) (disch := first | omega | (simp only [LL]; omega)) only [W, V, TY, CC, reduceIte, Nat.reduceEqDiff, Nat.reduceAdd, Nat.reduceLeDiff, Nat.reduceLT, Int.reduceLE, Int.reduceLT, Int.reduceAdd, Int.reduceSub, Int.reduceToNat, Nat.reduceMul]
  refine a_tcall _ _ _ _ _ (grid_spaced lo st n) (by simp (maxSteps := 1000000) (disch := first | omega | (simp only [LL]; omega)) only [W, V, TY, CC, reduceIte, Nat.reduceEqDiff, Nat.reduceAdd, Nat.reduceLeDiff, Nat.reduceLT, Int.reduceLE, Int.reduceLT, Int.reduceAdd, Int.reduceSub, Int.reduceToNat, Nat.reduceMul]) ?_
  simp (maxSteps := 1000000) (disch := first | omega | (simp only [LL]; omega)) only [W, V, TY, CC, reduceIte, Nat.reduceEqDiff, Nat.reduceAdd, Nat.reduceLeDiff, Nat.reduceLT, Int.reduceLE, Int.reduceLT, Int.reduceAdd, Int.reduceSub, Int.reduceToNat, Nat.reduceMul, i64s_ints]
  refine f_retg _ _ _ [.frzc 6 1] ?_
  simp (maxSteps := 1000000) (disch := first | omega | (simp only [LL]; omega)) only [W, V, TY, CC, reduceIte, Nat.reduceEqDiff, Nat.reduceAdd, Nat.reduceLeDiff, Nat.reduceLT, Int.reduceLE, Int.reduceLT, Int.reduceAdd, Int.reduceSub, Int.reduceToNat, Nat.reduceMul]
end Go.Proofs.Ytnlmfdojnacofaa.E

set_option linter.unusedSimpArgs false
set_option linter.unusedVariables false
set_option maxHeartbeats 2000000
namespace Go.Proofs.Ytnlmfdojnacofaa.E
open Go.RowKit Limbs
def triW (n i : Nat) : Int := (if (n : Int) - 1 - i < i then (n : Int) - 1 - i else i) + 1
def tri (n : Nat) : List Int := (List.range n).map fun i => triW n i
theorem len_tri (n : Nat) : (tri n).length = n := by unfold tri; simp
theorem tri_get (n i : Nat) (h : i < n) : (tri n)[i]? = some (triW n i) := by unfold tri; simp [h]
theorem set_at (a b : List Int) (i : Nat) (x : Int) (hx : a[i]? = some x) (hb : i < b.length) : (a.take i ++ b.drop i).set i x = a.take (i + 1) ++ b.drop (i + 1) := by
  have hi : i < a.length := (List.getElem?_eq_some_iff.1 hx).1
  have hl : (a.take i).length = i := by simp; omega
  rw [List.set_append_right _ _ (by omega), hl, Nat.sub_self, List.drop_eq_getElem_cons hb, List.set_cons_zero, List.take_add_one, hx]
  simp
/-- examboard/grid.Triangle -/
def b11 : AF := ⟨38, 3, [.cell 6 24, .tmp 7],
  (.seq (.reg [
    ⟨some 6, .alloc 24, none⟩,
    ⟨some 7, .assign (.const (.int .i64 0)), none⟩])
  (.seq (.reg [
    ⟨some 12, .move (.tmp 0), none⟩,
    ⟨some 13, .move (.tmp 1), none⟩,
    ⟨some 14, .move (.tmp 2), none⟩,
    ⟨some 15, .call ⟨(.value (.func 27)), #[(.tmp 12), (.tmp 13), (.tmp 14)], #[3, 3, 3]⟩, none⟩,
    ⟨some 11, .move (.tmp 15), none⟩,
    ⟨some 16, .extract (.tmp 11) 0, none⟩,
    ⟨some 17, .extract (.tmp 11) 1, none⟩,
    ⟨some 8, .alloc 24, none⟩,
    ⟨none, .store 24 (.tmp 8) (.tmp 16), none⟩,
    ⟨some 9, .assign (.tmp 17), none⟩])
  (.seq (.seq (.reg [
    ⟨some 18, .fieldAddr 24 (.tmp 8) 1, none⟩,
    ⟨some 19, .load 22 (.tmp 18), none⟩,
    ⟨some 20, .call ⟨(.builtin .len), #[(.tmp 19)], #[22]⟩, none⟩,
    ⟨some 21, .move (.const (.int .i64 0)), none⟩])
  (.block 0 (.loop (.seq (.reg [
    ⟨some 22, .binOp .lss 3 (.tmp 21) (.tmp 20) 3, none⟩])
  (.seq (.cond (.tmp 22)
    .skip
    (.exit 0))
  (.seq (.block 1 (.seq (.reg [
    ⟨some 23, .move (.tmp 21), none⟩,
    ⟨some 10, .assign (.tmp 23), none⟩])
  (.reg [
    ⟨some 24, .fieldAddr 24 (.tmp 8) 1, none⟩,
    ⟨some 25, .load 22 (.tmp 24), none⟩,
    ⟨some 26, .move (.tmp 10), none⟩,
    ⟨some 27, .move (.tmp 10), none⟩,
    ⟨some 28, .move (.tmp 2), none⟩,
    ⟨some 29, .binOp .sub 3 (.tmp 28) (.const (.int .i64 1)) 3, none⟩,
    ⟨some 30, .move (.tmp 10), none⟩,
    ⟨some 31, .binOp .sub 3 (.tmp 29) (.tmp 30) 3, none⟩,
    ⟨some 32, .call ⟨(.builtin .min), #[(.tmp 27), (.tmp 31)], #[3, 3]⟩, none⟩,
    ⟨some 33, .binOp .add 3 (.tmp 32) (.const (.int .i64 1)) 3, none⟩,
    ⟨some 34, .indexAddr 22 (.tmp 25) (.tmp 26), none⟩,
    ⟨none, .store 3 (.tmp 34) (.tmp 33), none⟩])))
  (.reg [
    ⟨some 35, .binOp .add 3 (.tmp 21) (.const (.int .i64 1)) 3, none⟩,
    ⟨some 21, .move (.tmp 35), none⟩])))))))
  (.seq (.reg [
    ⟨some 36, .load 24 (.tmp 8), none⟩,
    ⟨some 37, .move (.tmp 9), none⟩,
    ⟨none, .store 24 (.tmp 6) (.tmp 36), none⟩,
    ⟨some 7, .assign (.tmp 37), none⟩])
  .ret))))⟩
theorem c11 : fcomp Try.prog 11 = ⟨b11.n, b11.np, b11.res, b11.body.bare⟩ := by kernel_rfl
theorem k11 : fok Try.prog 11 = true := by kernel_rfl
theorem grid_Triangle (lo st n : Int) : AFun Try.prog 11 [.one (.lit (.int .i64 lo)), .one (.lit (.int .i64 st)), .one (.lit (.int .i64 n))] [.agg [intsD (pts lo st (spN lo st n)), intsD (tri (spN lo st n))], .one (.lit (.int .i64 (spE lo st n)))] := by
  refine afun_intro mo_ _ _ c11 k11 _ _ rfl (by decide) ?_
  unfold b11
  simp (maxSteps := 1000000) (disch := first | omega | (simp only [LL]; omega)) only [W, V, TY, CC, reduceIte, Nat.reduceEqDiff, Nat.reduceAdd, Nat.reduceLeDiff, Nat.reduceLT, Int.reduceLE, Int.reduceLT, Int.reduceAdd, Int.reduceSub, Int.reduceToNat, Nat.reduceMul]
  refine a_tcall _ _ _ _ _ (grid_spaced lo st n) (by simp (maxSteps := 1000000) (disch := first | omega | (simp only [LL]; omega)) only [W, V, TY, CC, reduceIte, Nat.reduceEqDiff, Nat.reduceAdd, Nat.reduceLeDiff, Nat.reduceLT, Int.reduceLE, Int.reduceLT, Int.reduceAdd, Int.reduceSub, Int.reduceToNat, Nat.reduceMul]) ?_
  simp (maxSteps := 1000000) (disch := first | omega | (simp only [LL]; omega)) only [W, V, TY, CC, reduceIte, Nat.reduceEqDiff, Nat.reduceAdd, Nat.reduceLeDiff, Nat.reduceLT, Int.reduceLE, Int.reduceLT, Int.reduceAdd, Int.reduceSub, Int.reduceToNat, Nat.reduceMul, i64s_ints]
  have hN : spN lo st n = 0 ∨ (n = spN lo st n ∧ spN lo st n ≤ 21) := by
    rcases Classical.em (spOK lo st n) with h | h
    · have := h.1
      rw [(spN_yes h).1]
      right
      omega
    · exact .inl (spN_no h).1
  have lo1 := len_ones (spN lo st n)
  generalize hNN : spN lo st n = N at *
  generalize pts lo st N = pp
  generalize spE lo st n = ee
  refine w_loop (fun k s => ∃ i : Nat, k + i = N ∧ s.t 2 = .one (.dt (.lit (.int .i64 n))) ∧ s.t 6 = .ptr (6, 0) 0 ∧ s.t 8 = .ptr (8, 0) 0 ∧ s.t 9 = .one (.dt (.lit (.int .i64 ee))) ∧ s.t 20 = .one (.dt (.lit (.int .i64 N))) ∧ s.t 21 = .one (.dt (.lit (.int .i64 i))) ∧ s.v (6, 0) = some [.z, .z] ∧ s.f (6, 0) = false ∧ s.v (8, 0) = some [.dt (intsD pp), .row (15, 0) 0] ∧ s.r (15, 0) = some ⟨3, 1, N, intsC ((tri N).take i ++ (ones N).drop i), 0, true⟩) N ⟨0, rfl, ?_, ?_, ?_, ?_, ?_, ?_, ?_, ?_, ?_, ?_⟩ ?_
  · simp (maxSteps := 1000000) (disch := first | omega | (simp only [LL]; omega)) only [W, V, TY, CC, reduceIte, Nat.reduceEqDiff, Nat.reduceAdd, Nat.reduceLeDiff, Nat.reduceLT, Int.reduceLE, Int.reduceLT, Int.reduceAdd, Int.reduceSub, Int.reduceToNat, Nat.reduceMul]
  · simp (maxSteps := 1000000) (disch := first | omega | (simp only [LL]; omega)) only [W, V, TY, CC, reduceIte, Nat.reduceEqDiff, Nat.reduceAdd, Nat.reduceLeDiff, Nat.reduceLT, Int.reduceLE, Int.reduceLT, Int.reduceAdd, Int.reduceSub, Int.reduceToNat, Nat.reduceMul]
  · simp (maxSteps := 1000000) (disch := first | omega | (simp only [LL]; omega)) only [W, V, TY, CC, reduceIte, Nat.reduceEqDiff, Nat.reduceAdd, Nat.reduceLeDiff, Nat.reduceLT, Int.reduceLE, Int.reduceLT, Int.reduceAdd, Int.reduceSub, Int.reduceToNat, Nat.reduceMul]
  · simp (maxSteps := 1000000) (disch := first | omega | (simp only [LL]; omega)) only [W, V, TY, CC, reduceIte, Nat.reduceEqDiff, Nat.reduceAdd, Nat.reduceLeDiff, Nat.reduceLT, Int.reduceLE, Int.reduceLT, Int.reduceAdd, Int.reduceSub, Int.reduceToNat, Nat.reduceMul]
  · simp (maxSteps := 1000000) (disch := first | omega | (simp only [LL]; omega)) only [W, V, TY, CC, reduceIte, Nat.reduceEqDiff, Nat.reduceAdd, Nat.reduceLeDiff, Nat.reduceLT, Int.reduceLE, Int.reduceLT, Int.reduceAdd, Int.reduceSub, Int.reduceToNat, Nat.reduceMul, lo1]
  · simp (maxSteps := 1000000) (disch := first | omega | (simp only [LL]; omega)) only [W, V, TY, CC, reduceIte, Nat.reduceEqDiff, Nat.reduceAdd, Nat.reduceLeDiff, Nat.reduceLT, Int.reduceLE, Int.reduceLT, Int.reduceAdd, Int.reduceSub, Int.reduceToNat, Nat.reduceMul]
  · simp (maxSteps := 1000000) (disch := first | omega | (simp only [LL]; omega)) only [W, V, TY, CC, reduceIte, Nat.reduceEqDiff, Nat.reduceAdd, Nat.reduceLeDiff, Nat.reduceLT, Int.reduceLE, Int.reduceLT, Int.reduceAdd, Int.reduceSub, Int.reduceToNat, Nat.reduceMul]
  · simp (maxSteps := 1000000) (disch := first | omega | (simp only [LL]; omega)) only [W, V, TY, CC, reduceIte, Nat.reduceEqDiff, Nat.reduceAdd, Nat.reduceLeDiff, Nat.reduceLT, Int.reduceLE, Int.reduceLT, Int.reduceAdd, Int.reduceSub, Int.reduceToNat, Nat.reduceMul]
  · simp (maxSteps := 1000000) (disch := first | omega | (simp only [LL]; omega)) only [W, V, TY, CC, reduceIte, Nat.reduceEqDiff, Nat.reduceAdd, Nat.reduceLeDiff, Nat.reduceLT, Int.reduceLE, Int.reduceLT, Int.reduceAdd, Int.reduceSub, Int.reduceToNat, Nat.reduceMul]
  · simp (maxSteps := 1000000) (disch := first | omega | (simp only [LL]; omega)) only [W, V, TY, CC, reduceIte, Nat.reduceEqDiff, Nat.reduceAdd, Nat.reduceLeDiff, Nat.reduceLT, Int.reduceLE, Int.reduceLT, Int.reduceAdd, Int.reduceSub, Int.reduceToNat, Nat.reduceMul, lo1]
  intro k s hwf ⟨i, e, t2, t6, t8, t9, t20, t21, v6, f6, v8, r15⟩
  simp (maxSteps := 1000000) (disch := first | omega | (simp only [LL]; omega)) only [W, V, TY, CC, reduceIte, Nat.reduceEqDiff, Nat.reduceAdd, Nat.reduceLeDiff, Nat.reduceLT, Int.reduceLE, Int.reduceLT, Int.reduceAdd, Int.reduceSub, Int.reduceToNat, Nat.reduceMul, t20, t21]
  refine c_split (fun hi => ?_) (fun hi => ?_)
  · have hn : n = N ∧ N ≤ 21 := by omega
    have hl : ((tri N).take i ++ (ones N).drop i).length = N := by simp [len_tri, len_ones]; omega
    simp (maxSteps := 1000000) (disch := first | omega | (simp only [LL]; omega)) only [W, V, TY, CC, reduceIte, Nat.reduceEqDiff, Nat.reduceAdd, Nat.reduceLeDiff, Nat.reduceLT, Int.reduceLE, Int.reduceLT, Int.reduceAdd, Int.reduceSub, Int.reduceToNat, Nat.reduceMul, t2, t6, t8, t9, t20, t21, v6, f6, v8, r15, hl]
    refine ⟨⟨by omega, by omega⟩, by omega, k - 1, by omega, i + 1, by omega, rfl, ?_⟩
    rw [set_at _ _ _ _ (by rw [tri_get N i (by omega)]; unfold triW; rw [hn.1]) (by rw [lo1]; omega)]
  · obtain rfl : i = N := by omega
    have h1 : (tri i).take i ++ (ones i).drop i = tri i := by rw [List.take_of_length_le (by rw [len_tri]; omega), List.drop_of_length_le (by rw [len_ones]; omega), List.append_nil]
    rw [h1] at r15
    simp (maxSteps := 1000000) (disch := first | omega | (simp only [LL]; omega)) only [W, V, TY, CC, reduceIte, Nat.reduceEqDiff, Nat.reduceAdd, Nat.reduceLeDiff, Nat.reduceLT, Int.reduceLE, Int.reduceLT, Int.reduceAdd, Int.reduceSub, Int.reduceToNat, Nat.reduceMul, t2, t6, t8, t9, t20, t21, v6, f6, v8, r15]
    refine f_retg _ _ _ [.frzc 6 1] ?_
    simp (maxSteps := 1000000) (disch := first | omega | (simp only [LL]; omega)) only [W, V, TY, CC, reduceIte, Nat.reduceEqDiff, Nat.reduceAdd, Nat.reduceLeDiff, Nat.reduceLT, Int.reduceLE, Int.reduceLT, Int.reduceAdd, Int.reduceSub, Int.reduceToNat, Nat.reduceMul, t6, v8, r15]
    rw [show Dt.sl i (intsC (tri i)) = intsD (tri i) from of_intsD _ _ (len_tri i).symm]
/-- examboard/examboardlaw18.ints -/
def b10 : AF := ⟨26, 2, [.tmp 4],
  (.seq (.reg [
    ⟨some 4, .assign (.const (.bool false)), none⟩])
  (.seq (.seq (.reg [
    ⟨some 6, .move (.tmp 0), none⟩,
    ⟨some 7, .call ⟨(.builtin .len), #[(.tmp 6)], #[22]⟩, none⟩,
    ⟨some 8, .move (.tmp 1), none⟩,
    ⟨some 9, .call ⟨(.builtin .len), #[(.tmp 8)], #[22]⟩, none⟩,
    ⟨some 10, .binOp .neq 3 (.tmp 7) (.tmp 9) 3, none⟩])
  (.cond (.tmp 10)
    (.seq (.reg [
      ⟨some 4, .assign (.const (.bool false)), none⟩])
    .ret)
    .skip))
  (.seq (.seq (.reg [
    ⟨some 5, .assign (.const (.int .i64 0)), none⟩])
  (.block 0 (.loop (.seq (.seq (.reg [
    ⟨some 11, .move (.tmp 5), none⟩,
    ⟨some 12, .move (.tmp 0), none⟩,
    ⟨some 13, .call ⟨(.builtin .len), #[(.tmp 12)], #[22]⟩, none⟩,
    ⟨some 14, .binOp .lss 3 (.tmp 11) (.tmp 13) 3, none⟩])
  (.cond (.tmp 14)
    .skip
    (.exit 0)))
  (.seq (.block 1 (.seq (.dreg [
    ⟨some 17, .move (.tmp 0), none⟩,
    ⟨some 18, .move (.tmp 5), none⟩,
    ⟨some 19, .indexAddr 22 (.tmp 17) (.tmp 18), none⟩,
    ⟨some 20, .load 3 (.tmp 19), none⟩,
    ⟨some 21, .move (.tmp 1), none⟩,
    ⟨some 22, .move (.tmp 5), none⟩,
    ⟨some 23, .indexAddr 22 (.tmp 21) (.tmp 22), none⟩,
    ⟨some 24, .load 3 (.tmp 23), none⟩,
    ⟨some 25, .binOp .neq 3 (.tmp 20) (.tmp 24) 3, none⟩])
  (.cond (.tmp 25)
    (.seq (.reg [
      ⟨some 4, .assign (.const (.bool false)), none⟩])
    .ret)
    .skip)))
  (.reg [
    ⟨some 15, .move (.tmp 5), none⟩,
    ⟨some 16, .binOp .add 3 (.tmp 15) (.const (.int .i64 1)) 3, none⟩,
    ⟨some 5, .assign (.tmp 16), none⟩]))))))
  (.seq (.reg [
    ⟨some 4, .assign (.const (.bool true)), none⟩])
  .ret))))⟩
theorem c10 : fcomp Try.prog 10 = ⟨b10.n, b10.np, b10.res, b10.body.bare⟩ := by kernel_rfl
theorem k10 : fok Try.prog 10 = true := by kernel_rfl
theorem law_ints (l : List Int) (hb : l.length ≤ 9223372036854775807) : AFun Try.prog 10 [.one (intsD l), .one (intsD l)] [.one (.lit (.bool true))] := by
  refine afun_intro mo_ _ _ c10 k10 _ _ rfl (by decide) ?_
  unfold b10
  simp (maxSteps := 1000000) (disch := first | omega | (simp only [LL]; omega)) only [W, V, TY, CC, reduceIte, Nat.reduceEqDiff, Nat.reduceAdd, Nat.reduceLeDiff, Nat.reduceLT, Int.reduceLE, Int.reduceLT, Int.reduceAdd, Int.reduceSub, Int.reduceToNat, Nat.reduceMul]
  refine w_loop (fun n s => ∃ i : Nat, n + i = l.length ∧ s.t 0 = .one (.dt (intsD l)) ∧ s.t 1 = .one (.dt (intsD l)) ∧ s.t 5 = .one (.dt (.lit (.int .i64 i)))) l.length ⟨0, rfl, ?_, ?_, ?_⟩ ?_
  · simp (maxSteps := 1000000) (disch := first | omega | (simp only [LL]; omega)) only [W, V, TY, CC, reduceIte, Nat.reduceEqDiff, Nat.reduceAdd, Nat.reduceLeDiff, Nat.reduceLT, Int.reduceLE, Int.reduceLT, Int.reduceAdd, Int.reduceSub, Int.reduceToNat, Nat.reduceMul]
  · simp (maxSteps := 1000000) (disch := first | omega | (simp only [LL]; omega)) only [W, V, TY, CC, reduceIte, Nat.reduceEqDiff, Nat.reduceAdd, Nat.reduceLeDiff, Nat.reduceLT, Int.reduceLE, Int.reduceLT, Int.reduceAdd, Int.reduceSub, Int.reduceToNat, Nat.reduceMul]
  · simp (maxSteps := 1000000) (disch := first | omega | (simp only [LL]; omega)) only [W, V, TY, CC, reduceIte, Nat.reduceEqDiff, Nat.reduceAdd, Nat.reduceLeDiff, Nat.reduceLT, Int.reduceLE, Int.reduceLT, Int.reduceAdd, Int.reduceSub, Int.reduceToNat, Nat.reduceMul]
  intro n s _ ⟨i, e, t0, t1, t5⟩
  simp (maxSteps := 1000000) (disch := first | omega | (simp only [LL]; omega)) only [W, V, TY, CC, reduceIte, Nat.reduceEqDiff, Nat.reduceAdd, Nat.reduceLeDiff, Nat.reduceLT, Int.reduceLE, Int.reduceLT, Int.reduceAdd, Int.reduceSub, Int.reduceToNat, Nat.reduceMul, t0, t1, t5]
  refine c_split (fun hi => ?_) (fun hi => ?_)
  · simp (maxSteps := 1000000) (disch := first | omega | (simp only [LL]; omega)) only [W, V, TY, CC, reduceIte, Nat.reduceEqDiff, Nat.reduceAdd, Nat.reduceLeDiff, Nat.reduceLT, Int.reduceLE, Int.reduceLT, Int.reduceAdd, Int.reduceSub, Int.reduceToNat, Nat.reduceMul, t0, t1, t5]
    exact ⟨n - 1, by omega, i + 1, by omega, rfl⟩
  · simp (maxSteps := 1000000) (disch := first | omega | (simp only [LL]; omega)) only [W, V, TY, CC, reduceIte, Nat.reduceEqDiff, Nat.reduceAdd, Nat.reduceLeDiff, Nat.reduceLT, Int.reduceLE, Int.reduceLT, Int.reduceAdd, Int.reduceSub, Int.reduceToNat, Nat.reduceMul, t0, t1, t5]
    refine f_ret _ _ _ ?_
    simp (maxSteps := 1000000) (disch := first | omega | (simp only [LL]; omega)) only [W, V, TY, CC, reduceIte, Nat.reduceEqDiff, Nat.reduceAdd, Nat.reduceLeDiff, Nat.reduceLT, Int.reduceLE, Int.reduceLT, Int.reduceAdd, Int.reduceSub, Int.reduceToNat, Nat.reduceMul]
end Go.Proofs.Ytnlmfdojnacofaa.E

set_option linter.unusedSimpArgs false
set_option linter.unusedVariables false
set_option maxHeartbeats 2000000
namespace Go.Proofs.Ytnlmfdojnacofaa.E
open Go.RowKit Limbs
theorem sumI_congr {f g : Nat → Int} : ∀ n, (∀ j, j < n → f j = g j) → sumI f n = sumI g n
  | 0, _ => rfl
  | n + 1, h => by unfold sumI; rw [sumI_congr n (fun j hj => h j (by omega)), h n (by omega)]
theorem sumI_head (f : Nat → Int) : ∀ n, sumI f (n + 1) = f 0 + sumI (fun j => f (j + 1)) n
  | 0 => by simp [sumI]
  | n + 1 => by
    have := sumI_head f n
    show sumI f (n + 1) + f (n + 1) = _
    rw [this]
    show _ = f 0 + (sumI (fun j => f (j + 1)) n + f (n + 1))
    omega
theorem sumI_rev : ∀ (n : Nat) (f : Nat → Int), sumI f n = sumI (fun j => f (n - 1 - j)) n
  | 0, _ => rfl
  | n + 1, f => by
    rw [sumI_head, sumI_rev n]
    show _ = sumI (fun j => f (n - j)) n + f (n - n)
    rw [Nat.sub_self, sumI_congr (g := fun j => f (n - j)) n (fun j hj => by
      show f (n - 1 - j + 1) = _
      rw [show n - 1 - j + 1 = n - j by omega])]
    omega
theorem sumI_add (f g : Nat → Int) : ∀ n, sumI (fun j => f j + g j) n = sumI f n + sumI g n
  | 0 => rfl
  | n + 1 => by unfold sumI; rw [sumI_add f g n]; omega
theorem sumI_mul (f : Nat → Int) (c : Int) : ∀ n, sumI (fun j => f j * c) n = sumI f n * c
  | 0 => by simp [sumI]
  | n + 1 => by unfold sumI; rw [sumI_mul f c n, Int.add_mul]
theorem sumI_cast (f : Nat → Nat) : ∀ n, ((sumN f n : Nat) : Int) = sumI (fun j => (f j : Int)) n
  | 0 => rfl
  | n + 1 => by unfold sumN sumI; rw [← sumI_cast f n]; simp
/-- weights that are the same from both ends -/
theorem sumI_sym (n : Nat) (ω p : Nat → Int) (c : Int) (hs : ∀ j, j < n → ω (n - 1 - j) = ω j) (hp : ∀ j, j < n → p j + p (n - 1 - j) = c) : sumI (fun j => ω j * p j) n * 2 = c * sumI ω n := by
  have h1 := sumI_rev n (fun j => ω j * p j)
  have h2 : sumI (fun j => ω j * p j) n * 2 = sumI (fun j => ω j * p j) n + sumI (fun j => ω (n - 1 - j) * p (n - 1 - j)) n := by rw [← h1]; omega
  rw [h2, ← sumI_add, Int.mul_comm, ← sumI_mul]
  exact sumI_congr n fun j hj => by rw [hs j hj, ← Int.mul_add, hp j hj]
theorem sumI_pos {f : Nat → Int} : ∀ n, 0 < n → (∀ j, j < n → 1 ≤ f j) → 1 ≤ sumI f n
  | 0, h, _ => by omega
  | n + 1, _, h => by
    unfold sumI
    have := h n (by omega)
    rcases Nat.eq_zero_or_pos n with rfl | hn
    · simp [sumI]; omega
    · have := sumI_pos n hn (fun j hj => h j (by omega)); omega
theorem getD_of {l : List Int} {i : Nat} {x : Int} (h : l[i]? = some x) : l.getD i 0 = x := by rw [List.getD_eq_getElem?_getD, h]; rfl
theorem pts_get (lo st : Int) (n i : Nat) (h : i < n) : (pts lo st n)[i]? = some (lo + i * st) := by unfold pts; simp [h]
theorem ones_get (n i : Nat) (h : i < n) : (ones n)[i]? = some 1 := by unfold ones; simp [h]
theorem nlz_get {ω : List Int} {i : Nat} {x : Int} (h : ω[i]? = some x) : (ω.map nlz).getD i [] = nl x.toNat := by rw [List.getD_eq_getElem?_getD, List.getElem?_map, h]; rfl
theorem limW_nlz {ω : List Int} (h : ∀ (i : Nat) (x : Int), ω[i]? = some x → x ≤ 1000) : LimW 20 (ω.map nlz) := fun i => by
  cases hx : ω[i]? with
  | none => rw [List.getD_eq_getElem?_getD, List.getElem?_map, hx]; exact ⟨Lim.nil, by decide⟩
  | some x =>
    rw [nlz_get hx]
    have := h i x hx
    exact ⟨nl_lim _, Nat.le_trans (nl_len (m := 1) (by omega)) (by decide)⟩
/-- the mean under weights that are the same from both ends -/
theorem mean_sym (p ω : List Int) (c : Int) (hl : ω.length = p.length) (h0 : 0 < p.length) (f : Nat → Int) (hf : ∀ j, j < p.length → ω[j]? = some (f j) ∧ 1 ≤ f j) (hs : ∀ j, j < p.length → f (p.length - 1 - j) = f j)
    (hp : ∀ j, j < p.length → p.getD j 0 + p.getD (p.length - 1 - j) 0 = c) : momQ 1 p (ω.map nlz) = Rat.divInt c 2 := by
  unfold momQ
  have hln : (ω.map nlz).length = p.length := by rw [List.length_map, hl]
  rw [hln]
  have hw : ∀ j, j < p.length → ((nv ((ω.map nlz).getD j []) : Nat) : Int) = f j := fun j hj => by
    obtain ⟨h1, h2⟩ := hf j hj
    rw [nlz_get h1, nv_nl]
    omega
  have e1 : sW 1 p (ω.map nlz) p.length = sumI (fun j => f j * p.getD j 0) p.length := sumI_congr _ fun j hj => by
    show _ * fk 1 _ = _
    rw [hw j hj]
    rfl
  have e2 : ((aW (ω.map nlz) p.length : Nat) : Int) = sumI f p.length := by
    unfold aW
    rw [sumI_cast]
    exact sumI_congr _ hw
  rw [e1, e2]
  have h1 := sumI_pos p.length h0 (fun j hj => (hf j hj).2)
  rw [Rat.divInt_eq_divInt_iff (by omega) (by decide)]
  exact sumI_sym p.length f (fun j => p.getD j 0) c hs hp
theorem gridV_sp (lo st : Int) (n : Nat) (h1 : 1 ≤ n) (h2 : n ≤ 21) (h3 : 1 ≤ st ∧ st ≤ 1000) (h4 : -1000 ≤ lo) (h5 : lo + ((n : Int) - 1) * st ≤ 1000) (ω : List Int) (hl : ω.length = n) (hw : ∀ j, j < n → 1 ≤ ω.getD j 0 ∧ ω.getD j 0 ≤ 1000) : gridV (pts lo st n) ω = 0 := by
  unfold gridV
  have e := len_pts lo st n
  have hi : ∀ i : Nat, i < n → (i : Int) * st ≤ ((n : Int) - 1) * st ∧ 0 ≤ (i : Int) * st := fun i hi => ⟨Int.mul_le_mul_of_nonneg_right (by omega) (by omega), Int.mul_nonneg (by omega) (by omega)⟩
  rw [if_neg (by omega), if_neg (by omega), if_neg (by omega), if_neg, if_neg]
  · refine fun h => h fun i hi' => ?_
    rw [getD_of (pts_get lo st n i (by omega)), getD_of (pts_get lo st n (i + 1) (by omega))]
    have : ((i + 1 : Nat) : Int) * st = i * st + st := by rw [Int.natCast_add, Int.add_mul]; simp
    omega
  · refine fun h => h fun i hi' => ?_
    have := hi i (by omega)
    rw [getD_of (pts_get lo st n i (by omega))]
    exact ⟨by omega, hw i (by omega)⟩
theorem pts_sym (lo st : Int) (n : Nat) (j : Nat) (hj : j < n) : (pts lo st n).getD j 0 + (pts lo st n).getD (n - 1 - j) 0 = lo + (lo + ((n : Int) - 1) * st) := by
  rw [getD_of (pts_get lo st n j hj), getD_of (pts_get lo st n (n - 1 - j) (by omega))]
  rw [show ((n : Int) - 1) = j + ((n - 1 - j : Nat) : Int) by omega, Int.add_mul]
  omega
end Go.Proofs.Ytnlmfdojnacofaa.E

set_option linter.unusedSimpArgs false
set_option linter.unusedVariables false
set_option maxHeartbeats 2000000
namespace Go.Proofs.Ytnlmfdojnacofaa.E
open Go.RowKit Limbs
theorem tri_sym (n j : Nat) (hj : j < n) : triW n (n - 1 - j) = triW n j := by
  unfold triW
  split <;> split <;> omega
theorem checkV_ok {p w ω : List Int} (h1 : gridV p w = 0) (h2 : (ω.map nlz).length = p.length) (h3 : 0 < p.length) (h4 : ∃ x, ω[0]? = some x ∧ 1 ≤ x) : checkV p w (ω.map nlz) = 0 := by
  obtain ⟨x, hx, h5⟩ := h4
  unfold checkV
  rw [if_neg (by rw [h1]; exact fun h => h rfl), if_neg (by omega), if_pos ⟨0, by omega, by rw [nlz_get hx, nv_nl]; omega⟩]
/-- examboard/examboardlaw18.GridCenters -/
def b7 : AF := ⟨159, 3, [.tmp 6],
  (.seq (.reg [
    ⟨some 6, .assign (.const (.bool false)), none⟩])
  (.seq (.reg [
    ⟨some 18, .move (.tmp 0), none⟩,
    ⟨some 19, .move (.tmp 1), none⟩,
    ⟨some 20, .move (.tmp 2), none⟩,
    ⟨some 21, .call ⟨(.value (.func 8)), #[(.tmp 18), (.tmp 19), (.tmp 20)], #[3, 3, 3]⟩, none⟩,
    ⟨some 17, .move (.tmp 21), none⟩,
    ⟨some 22, .extract (.tmp 17) 0, none⟩,
    ⟨some 23, .extract (.tmp 17) 1, none⟩,
    ⟨some 7, .alloc 24, none⟩,
    ⟨none, .store 24 (.tmp 7) (.tmp 22), none⟩,
    ⟨some 8, .assign (.tmp 23), none⟩])
  (.seq (.reg [
    ⟨some 25, .move (.tmp 0), none⟩,
    ⟨some 26, .move (.tmp 1), none⟩,
    ⟨some 27, .move (.tmp 2), none⟩,
    ⟨some 28, .call ⟨(.value (.func 11)), #[(.tmp 25), (.tmp 26), (.tmp 27)], #[3, 3, 3]⟩, none⟩,
    ⟨some 24, .move (.tmp 28), none⟩,
    ⟨some 29, .extract (.tmp 24) 0, none⟩,
    ⟨some 30, .extract (.tmp 24) 1, none⟩,
    ⟨some 9, .alloc 24, none⟩,
    ⟨none, .store 24 (.tmp 9) (.tmp 29), none⟩,
    ⟨some 10, .assign (.tmp 30), none⟩])
  (.seq (.seq (.reg [
    ⟨some 31, .move (.tmp 8), none⟩,
    ⟨some 32, .move (.tmp 10), none⟩,
    ⟨some 33, .binOp .neq 25 (.tmp 31) (.tmp 32) 25, none⟩,
    ⟨some 34, .move (.tmp 33), none⟩,
    ⟨some 35, .move (.tmp 8), some (34, false)⟩,
    ⟨some 36, .binOp .neq 25 (.tmp 35) (.const (.int .i64 0)) 25, some (34, false)⟩,
    ⟨some 37, .pick (.tmp 34) (.const (.bool true)) (.tmp 36), none⟩])
  (.cond (.tmp 37)
    (.seq (.reg [
      ⟨some 38, .move (.tmp 8), none⟩,
      ⟨some 39, .binOp .eql 25 (.tmp 38) (.const (.int .i64 3)) 25, none⟩,
      ⟨some 40, .move (.tmp 39), none⟩,
      ⟨some 41, .move (.tmp 10), some (40, true)⟩,
      ⟨some 42, .binOp .eql 25 (.tmp 41) (.const (.int .i64 3)) 25, some (40, true)⟩,
      ⟨some 43, .pick (.tmp 40) (.tmp 42) (.const (.bool false)), none⟩,
      ⟨some 44, .move (.tmp 43), none⟩,
      ⟨some 45, .move (.tmp 2), some (44, true)⟩,
      ⟨some 46, .binOp .lss 3 (.tmp 45) (.const (.int .i64 1)) 3, some (44, true)⟩,
      ⟨some 47, .move (.tmp 46), some (44, true)⟩,
      ⟨some 48, .move (.tmp 2), some (47, false)⟩,
      ⟨some 49, .binOp .gtr 3 (.tmp 48) (.const (.int .i64 21)) 3, some (47, false)⟩,
      ⟨some 50, .pick (.tmp 47) (.const (.bool true)) (.tmp 49), some (44, true)⟩,
      ⟨some 51, .move (.tmp 50), some (44, true)⟩,
      ⟨some 52, .move (.tmp 1), some (51, false)⟩,
      ⟨some 53, .binOp .lss 3 (.tmp 52) (.const (.int .i64 1)) 3, some (51, false)⟩,
      ⟨some 54, .pick (.tmp 51) (.const (.bool true)) (.tmp 53), some (44, true)⟩,
      ⟨some 55, .move (.tmp 54), some (44, true)⟩,
      ⟨some 56, .move (.tmp 1), some (55, false)⟩,
      ⟨some 57, .binOp .gtr 3 (.tmp 56) (.const (.int .i64 1000)) 3, some (55, false)⟩,
      ⟨some 58, .pick (.tmp 55) (.const (.bool true)) (.tmp 57), some (44, true)⟩,
      ⟨some 59, .move (.tmp 58), some (44, true)⟩,
      ⟨some 60, .move (.tmp 0), some (59, false)⟩,
      ⟨some 61, .binOp .lss 3 (.tmp 60) (.const (.int .i64 (-1000))) 3, some (59, false)⟩,
      ⟨some 62, .pick (.tmp 59) (.const (.bool true)) (.tmp 61), some (44, true)⟩,
      ⟨some 63, .move (.tmp 62), some (44, true)⟩,
      ⟨some 64, .move (.tmp 0), some (63, false)⟩,
      ⟨some 65, .move (.tmp 2), some (63, false)⟩,
      ⟨some 66, .binOp .sub 3 (.tmp 65) (.const (.int .i64 1)) 3, some (63, false)⟩,
      ⟨some 67, .move (.tmp 1), some (63, false)⟩,
      ⟨some 68, .binOp .mul 3 (.tmp 66) (.tmp 67) 3, some (63, false)⟩,
      ⟨some 69, .binOp .sub 3 (.const (.int .i64 1000)) (.tmp 68) 3, some (63, false)⟩,
      ⟨some 70, .binOp .gtr 3 (.tmp 64) (.tmp 69) 3, some (63, false)⟩,
      ⟨some 71, .pick (.tmp 63) (.const (.bool true)) (.tmp 70), some (44, true)⟩,
      ⟨some 72, .pick (.tmp 44) (.tmp 71) (.const (.bool false)), none⟩,
      ⟨some 6, .assign (.tmp 72), none⟩])
    .ret)
    .skip))
  (.seq (.seq (.reg [
    ⟨some 73, .move (.tmp 2), none⟩,
    ⟨some 74, .binOp .lss 3 (.tmp 73) (.const (.int .i64 1)) 3, none⟩,
    ⟨some 75, .move (.tmp 74), none⟩,
    ⟨some 76, .fieldAddr 24 (.tmp 7) 0, some (75, false)⟩,
    ⟨some 77, .load 22 (.tmp 76), some (75, false)⟩,
    ⟨some 78, .call ⟨(.builtin .len), #[(.tmp 77)], #[22]⟩, some (75, false)⟩,
    ⟨some 79, .move (.tmp 2), some (75, false)⟩,
    ⟨some 80, .binOp .neq 3 (.tmp 78) (.tmp 79) 3, some (75, false)⟩,
    ⟨some 81, .pick (.tmp 75) (.const (.bool true)) (.tmp 80), none⟩,
    ⟨some 82, .move (.tmp 81), none⟩,
    ⟨some 83, .fieldAddr 24 (.tmp 7) 0, some (82, false)⟩,
    ⟨some 84, .load 22 (.tmp 83), some (82, false)⟩,
    ⟨some 85, .fieldAddr 24 (.tmp 9) 0, some (82, false)⟩,
    ⟨some 86, .load 22 (.tmp 85), some (82, false)⟩,
    ⟨some 87, .call ⟨(.value (.func 10)), #[(.tmp 84), (.tmp 86)], #[22, 22]⟩, some (82, false)⟩,
    ⟨some 88, .unOp .not 4 (.tmp 87), some (82, false)⟩,
    ⟨some 89, .pick (.tmp 82) (.const (.bool true)) (.tmp 88), none⟩,
    ⟨some 90, .move (.tmp 89), none⟩,
    ⟨some 91, .load 24 (.tmp 7), some (90, false)⟩,
    ⟨some 92, .call ⟨(.value (.func 15)), #[(.tmp 91)], #[24]⟩, some (90, false)⟩,
    ⟨some 93, .binOp .neq 25 (.tmp 92) (.const (.int .i64 0)) 25, some (90, false)⟩,
    ⟨some 94, .pick (.tmp 90) (.const (.bool true)) (.tmp 93), none⟩,
    ⟨some 95, .move (.tmp 94), none⟩,
    ⟨some 96, .load 24 (.tmp 9), some (95, false)⟩,
    ⟨some 97, .call ⟨(.value (.func 15)), #[(.tmp 96)], #[24]⟩, some (95, false)⟩,
    ⟨some 98, .binOp .neq 25 (.tmp 97) (.const (.int .i64 0)) 25, some (95, false)⟩,
    ⟨some 99, .pick (.tmp 95) (.const (.bool true)) (.tmp 98), none⟩])
  (.cond (.tmp 99)
    (.seq (.reg [
      ⟨some 6, .assign (.const (.bool false)), none⟩])
    .ret)
    .skip))
  (.seq (.dreg [
    ⟨some 101, .fieldAddr 24 (.tmp 7) 0, none⟩,
    ⟨some 102, .load 22 (.tmp 101), none⟩,
    ⟨some 103, .indexAddr 22 (.tmp 102) (.const (.int .i64 0)), none⟩,
    ⟨some 104, .load 3 (.tmp 103), none⟩,
    ⟨some 105, .fieldAddr 24 (.tmp 7) 0, none⟩,
    ⟨some 106, .load 22 (.tmp 105), none⟩,
    ⟨some 107, .move (.tmp 2), none⟩,
    ⟨some 108, .binOp .sub 3 (.tmp 107) (.const (.int .i64 1)) 3, none⟩,
    ⟨some 109, .indexAddr 22 (.tmp 106) (.tmp 108), none⟩,
    ⟨some 110, .load 3 (.tmp 109), none⟩,
    ⟨some 111, .binOp .add 3 (.tmp 104) (.tmp 110) 3, none⟩,
    ⟨some 112, .call ⟨(.value (.func 26)), #[(.tmp 111), (.const (.int .i64 2))], #[2, 2]⟩, none⟩,
    ⟨some 100, .move (.tmp 112), none⟩,
    ⟨some 113, .extract (.tmp 100) 0, none⟩,
    ⟨some 114, .extract (.tmp 100) 1, none⟩,
    ⟨some 11, .alloc 41, none⟩,
    ⟨none, .store 41 (.tmp 11) (.tmp 113), none⟩,
    ⟨some 12, .assign (.tmp 114), none⟩])
  (.seq (.reg [
    ⟨some 116, .load 24 (.tmp 7), none⟩,
    ⟨some 117, .call ⟨(.value (.func 13)), #[(.tmp 116)], #[24]⟩, none⟩,
    ⟨some 115, .move (.tmp 117), none⟩,
    ⟨some 118, .extract (.tmp 115) 0, none⟩,
    ⟨some 119, .extract (.tmp 115) 1, none⟩,
    ⟨some 13, .assign (.tmp 118), none⟩,
    ⟨some 8, .assign (.tmp 119), none⟩])
  (.seq (.reg [
    ⟨some 121, .load 24 (.tmp 9), none⟩,
    ⟨some 122, .call ⟨(.value (.func 13)), #[(.tmp 121)], #[24]⟩, none⟩,
    ⟨some 120, .move (.tmp 122), none⟩,
    ⟨some 123, .extract (.tmp 120) 0, none⟩,
    ⟨some 124, .extract (.tmp 120) 1, none⟩,
    ⟨some 14, .assign (.tmp 123), none⟩,
    ⟨some 10, .assign (.tmp 124), none⟩])
  (.seq (.seq (.reg [
    ⟨some 125, .move (.tmp 8), none⟩,
    ⟨some 126, .binOp .neq 25 (.tmp 125) (.const (.int .i64 0)) 25, none⟩,
    ⟨some 127, .move (.tmp 126), none⟩,
    ⟨some 128, .move (.tmp 10), some (127, false)⟩,
    ⟨some 129, .binOp .neq 25 (.tmp 128) (.const (.int .i64 0)) 25, some (127, false)⟩,
    ⟨some 130, .pick (.tmp 127) (.const (.bool true)) (.tmp 129), none⟩])
  (.cond (.tmp 130)
    (.seq (.reg [
      ⟨some 6, .assign (.const (.bool false)), none⟩])
    .ret)
    .skip))
  (.seq (.reg [
    ⟨some 132, .load 24 (.tmp 7), none⟩,
    ⟨some 133, .move (.tmp 13), none⟩,
    ⟨some 134, .call ⟨(.value (.func 21)), #[(.tmp 132), (.tmp 133)], #[24, 30]⟩, none⟩,
    ⟨some 131, .move (.tmp 134), none⟩,
    ⟨some 135, .extract (.tmp 131) 0, none⟩,
    ⟨some 136, .extract (.tmp 131) 1, none⟩,
    ⟨some 15, .alloc 41, none⟩,
    ⟨none, .store 41 (.tmp 15) (.tmp 135), none⟩,
    ⟨some 8, .assign (.tmp 136), none⟩])
  (.seq (.reg [
    ⟨some 138, .load 24 (.tmp 9), none⟩,
    ⟨some 139, .move (.tmp 14), none⟩,
    ⟨some 140, .call ⟨(.value (.func 21)), #[(.tmp 138), (.tmp 139)], #[24, 30]⟩, none⟩,
    ⟨some 137, .move (.tmp 140), none⟩,
    ⟨some 141, .extract (.tmp 137) 0, none⟩,
    ⟨some 142, .extract (.tmp 137) 1, none⟩,
    ⟨some 16, .alloc 41, none⟩,
    ⟨none, .store 41 (.tmp 16) (.tmp 141), none⟩,
    ⟨some 10, .assign (.tmp 142), none⟩])
  (.seq (.reg [
    ⟨some 143, .move (.tmp 8), none⟩,
    ⟨some 144, .binOp .eql 25 (.tmp 143) (.const (.int .i64 0)) 25, none⟩,
    ⟨some 145, .move (.tmp 144), none⟩,
    ⟨some 146, .move (.tmp 10), some (145, true)⟩,
    ⟨some 147, .binOp .eql 25 (.tmp 146) (.const (.int .i64 0)) 25, some (145, true)⟩,
    ⟨some 148, .pick (.tmp 145) (.tmp 147) (.const (.bool false)), none⟩,
    ⟨some 149, .move (.tmp 148), none⟩,
    ⟨some 150, .load 41 (.tmp 15), some (149, true)⟩,
    ⟨some 151, .load 41 (.tmp 11), some (149, true)⟩,
    ⟨some 152, .call ⟨(.value (.func 23)), #[(.tmp 150), (.tmp 151)], #[41, 41]⟩, some (149, true)⟩,
    ⟨some 153, .pick (.tmp 149) (.tmp 152) (.const (.bool false)), none⟩,
    ⟨some 154, .move (.tmp 153), none⟩,
    ⟨some 155, .load 41 (.tmp 16), some (154, true)⟩,
    ⟨some 156, .load 41 (.tmp 11), some (154, true)⟩,
    ⟨some 157, .call ⟨(.value (.func 23)), #[(.tmp 155), (.tmp 156)], #[41, 41]⟩, some (154, true)⟩,
    ⟨some 158, .pick (.tmp 154) (.tmp 157) (.const (.bool false)), none⟩,
    ⟨some 6, .assign (.tmp 158), none⟩])
  .ret))))))))))))⟩
theorem c7 : fcomp Try.prog 7 = ⟨b7.n, b7.np, b7.res, b7.body.bare⟩ := by kernel_rfl
theorem k7 : fok Try.prog 7 = true := by kernel_rfl
theorem law_GridCenters (lo st n : Int) : AFun Try.prog 7 [.one (.lit (.int .i64 lo)), .one (.lit (.int .i64 st)), .one (.lit (.int .i64 n))] [.one (.lit (.bool true))] := by
  refine afun_intro mo_ _ _ c7 k7 _ _ rfl (by decide) ?_
  unfold b7
  have cu := grid_Uniform lo st n
  have ct := grid_Triangle lo st n
  simp (maxSteps := 1000000) (disch := first | omega | (simp only [LL]; omega)) only [W, V, TY, CC, reduceIte, Nat.reduceEqDiff, Nat.reduceAdd, Nat.reduceLeDiff, Nat.reduceLT, Int.reduceLE, Int.reduceLT, Int.reduceAdd, Int.reduceSub, Int.reduceToNat, Nat.reduceMul]
  refine a_call _ _ cu (by simp (maxSteps := 1000000) (disch := first | omega | (simp only [LL]; omega)) only [W, V, TY, CC, reduceIte, Nat.reduceEqDiff, Nat.reduceAdd, Nat.reduceLeDiff, Nat.reduceLT, Int.reduceLE, Int.reduceLT, Int.reduceAdd, Int.reduceSub, Int.reduceToNat, Nat.reduceMul]) ?_
  simp (maxSteps := 1000000) (disch := first | omega | (simp only [LL]; omega)) only [W, V, TY, CC, reduceIte, Nat.reduceEqDiff, Nat.reduceAdd, Nat.reduceLeDiff, Nat.reduceLT, Int.reduceLE, Int.reduceLT, Int.reduceAdd, Int.reduceSub, Int.reduceToNat, Nat.reduceMul]
  refine a_call _ _ ct (by simp (maxSteps := 1000000) (disch := first | omega | (simp only [LL]; omega)) only [W, V, TY, CC, reduceIte, Nat.reduceEqDiff, Nat.reduceAdd, Nat.reduceLeDiff, Nat.reduceLT, Int.reduceLE, Int.reduceLT, Int.reduceAdd, Int.reduceSub, Int.reduceToNat, Nat.reduceMul]) ?_
  rcases Classical.em (spOK lo st n) with hok | hno
  case inr =>
    obtain ⟨e1, e2⟩ := spN_no hno
    rw [e1, e2]
    have z3 : ((3 : Int) = 0) = False := eq_false (by decide)
    simp (maxSteps := 1000000) (disch := first | omega | (simp only [LL]; omega)) only [W, V, TY, CC, reduceIte, Nat.reduceEqDiff, Nat.reduceAdd, Nat.reduceLeDiff, Nat.reduceLT, Int.reduceLE, Int.reduceLT, Int.reduceAdd, Int.reduceSub, Int.reduceToNat, Nat.reduceMul, z3]
    refine g_split (fun h1 => ?_) (fun h1 => ?_)
    · simp (maxSteps := 1000000) (disch := first | omega | (simp only [LL]; omega)) only [W, V, TY, CC, reduceIte, Nat.reduceEqDiff, Nat.reduceAdd, Nat.reduceLeDiff, Nat.reduceLT, Int.reduceLE, Int.reduceLT, Int.reduceAdd, Int.reduceSub, Int.reduceToNat, Nat.reduceMul, h1]
      refine f_ret _ _ _ ?_
      simp (maxSteps := 1000000) (disch := first | omega | (simp only [LL]; omega)) only [W, V, TY, CC, reduceIte, Nat.reduceEqDiff, Nat.reduceAdd, Nat.reduceLeDiff, Nat.reduceLT, Int.reduceLE, Int.reduceLT, Int.reduceAdd, Int.reduceSub, Int.reduceToNat, Nat.reduceMul]
    simp (maxSteps := 1000000) (disch := first | omega | (simp only [LL]; omega)) only [W, V, TY, CC, reduceIte, Nat.reduceEqDiff, Nat.reduceAdd, Nat.reduceLeDiff, Nat.reduceLT, Int.reduceLE, Int.reduceLT, Int.reduceAdd, Int.reduceSub, Int.reduceToNat, Nat.reduceMul, h1]
    refine g_split (fun h2 => ?_) (fun h2 => ?_)
    · simp (maxSteps := 1000000) (disch := first | omega | (simp only [LL]; omega)) only [W, V, TY, CC, reduceIte, Nat.reduceEqDiff, Nat.reduceAdd, Nat.reduceLeDiff, Nat.reduceLT, Int.reduceLE, Int.reduceLT, Int.reduceAdd, Int.reduceSub, Int.reduceToNat, Nat.reduceMul, h1, h2]
      refine f_ret _ _ _ ?_
      simp (maxSteps := 1000000) (disch := first | omega | (simp only [LL]; omega)) only [W, V, TY, CC, reduceIte, Nat.reduceEqDiff, Nat.reduceAdd, Nat.reduceLeDiff, Nat.reduceLT, Int.reduceLE, Int.reduceLT, Int.reduceAdd, Int.reduceSub, Int.reduceToNat, Nat.reduceMul]
    simp (maxSteps := 1000000) (disch := first | omega | (simp only [LL]; omega)) only [W, V, TY, CC, reduceIte, Nat.reduceEqDiff, Nat.reduceAdd, Nat.reduceLeDiff, Nat.reduceLT, Int.reduceLE, Int.reduceLT, Int.reduceAdd, Int.reduceSub, Int.reduceToNat, Nat.reduceMul, h1, h2]
    refine g_split (fun h3 => ?_) (fun h3 => ?_)
    · simp (maxSteps := 1000000) (disch := first | omega | (simp only [LL]; omega)) only [W, V, TY, CC, reduceIte, Nat.reduceEqDiff, Nat.reduceAdd, Nat.reduceLeDiff, Nat.reduceLT, Int.reduceLE, Int.reduceLT, Int.reduceAdd, Int.reduceSub, Int.reduceToNat, Nat.reduceMul, h1, h2, h3]
      refine f_ret _ _ _ ?_
      simp (maxSteps := 1000000) (disch := first | omega | (simp only [LL]; omega)) only [W, V, TY, CC, reduceIte, Nat.reduceEqDiff, Nat.reduceAdd, Nat.reduceLeDiff, Nat.reduceLT, Int.reduceLE, Int.reduceLT, Int.reduceAdd, Int.reduceSub, Int.reduceToNat, Nat.reduceMul]
    simp (maxSteps := 1000000) (disch := first | omega | (simp only [LL]; omega)) only [W, V, TY, CC, reduceIte, Nat.reduceEqDiff, Nat.reduceAdd, Nat.reduceLeDiff, Nat.reduceLT, Int.reduceLE, Int.reduceLT, Int.reduceAdd, Int.reduceSub, Int.reduceToNat, Nat.reduceMul, h1, h2, h3]
    refine g_split (fun h4 => ?_) (fun h4 => ?_)
    · simp (maxSteps := 1000000) (disch := first | omega | (simp only [LL]; omega)) only [W, V, TY, CC, reduceIte, Nat.reduceEqDiff, Nat.reduceAdd, Nat.reduceLeDiff, Nat.reduceLT, Int.reduceLE, Int.reduceLT, Int.reduceAdd, Int.reduceSub, Int.reduceToNat, Nat.reduceMul, h1, h2, h3, h4]
      refine f_ret _ _ _ ?_
      simp (maxSteps := 1000000) (disch := first | omega | (simp only [LL]; omega)) only [W, V, TY, CC, reduceIte, Nat.reduceEqDiff, Nat.reduceAdd, Nat.reduceLeDiff, Nat.reduceLT, Int.reduceLE, Int.reduceLT, Int.reduceAdd, Int.reduceSub, Int.reduceToNat, Nat.reduceMul]
    simp (maxSteps := 1000000) (disch := first | omega | (simp only [LL]; omega)) only [W, V, TY, CC, reduceIte, Nat.reduceEqDiff, Nat.reduceAdd, Nat.reduceLeDiff, Nat.reduceLT, Int.reduceLE, Int.reduceLT, Int.reduceAdd, Int.reduceSub, Int.reduceToNat, Nat.reduceMul, h1, h2, h3, h4]
    refine g_split (fun h5 => ?_) (fun h5 => ?_)
    · simp (maxSteps := 1000000) (disch := first | omega | (simp only [LL]; omega)) only [W, V, TY, CC, reduceIte, Nat.reduceEqDiff, Nat.reduceAdd, Nat.reduceLeDiff, Nat.reduceLT, Int.reduceLE, Int.reduceLT, Int.reduceAdd, Int.reduceSub, Int.reduceToNat, Nat.reduceMul, h1, h2, h3, h4, h5]
      refine f_ret _ _ _ ?_
      simp (maxSteps := 1000000) (disch := first | omega | (simp only [LL]; omega)) only [W, V, TY, CC, reduceIte, Nat.reduceEqDiff, Nat.reduceAdd, Nat.reduceLeDiff, Nat.reduceLT, Int.reduceLE, Int.reduceLT, Int.reduceAdd, Int.reduceSub, Int.reduceToNat, Nat.reduceMul]
    obtain ⟨b0, b2⟩ := mulb (a := n - 1) (st := st) (by omega) (by omega) (by omega) (by omega)
    simp (maxSteps := 1000000) (disch := first | omega | (simp only [LL]; omega)) only [W, V, TY, CC, reduceIte, Nat.reduceEqDiff, Nat.reduceAdd, Nat.reduceLeDiff, Nat.reduceLT, Int.reduceLE, Int.reduceLT, Int.reduceAdd, Int.reduceSub, Int.reduceToNat, Nat.reduceMul, h1, h2, h3, h4, h5, wi64 (n := (n - 1) * st) (by omega) (by omega)]
    refine f_ret _ _ _ ?_
    simp (maxSteps := 1000000) (disch := first | omega | (simp only [LL]; omega)) only [W, V, TY, CC, reduceIte, Nat.reduceEqDiff, Nat.reduceAdd, Nat.reduceLeDiff, Nat.reduceLT, Int.reduceLE, Int.reduceLT, Int.reduceAdd, Int.reduceSub, Int.reduceToNat, Nat.reduceMul]
    have : 1000 - (n - 1) * st < lo := Classical.byContradiction fun hc => hno ⟨by omega, by omega, by omega, by omega⟩
    rw [decide_eq_true this]
  case inl =>
    obtain ⟨e1, e2⟩ := spN_yes hok
    obtain ⟨o1, o2, o3, o4⟩ := hok
    rw [e1] at *
    have lp := len_pts lo st n.toNat
    have lo1 := len_ones n.toNat
    have lt := len_tri n.toNat
    have hnn : ((n.toNat : Nat) : Int) = n := by omega
    have v1 : gridV (pts lo st n.toNat) (ones n.toNat) = 0 := gridV_sp lo st n.toNat (by omega) (by omega) o2 (by omega) (by rw [hnn]; omega) _ lo1 fun j hj => by rw [getD_of (ones_get _ j hj)]; omega
    have v2 : gridV (pts lo st n.toNat) (tri n.toNat) = 0 := gridV_sp lo st n.toNat (by omega) (by omega) o2 (by omega) (by rw [hnn]; omega) _ lt fun j hj => by
      rw [getD_of (tri_get _ j hj)]
      unfold triW
      split <;> omega
    have m1 := mean_sym (pts lo st n.toNat) (ones n.toNat) _ (by rw [lp, lo1]) (by omega) (fun _ => 1) (fun j hj => ⟨ones_get _ j (by omega), by omega⟩) (fun j hj => rfl) (fun j hj => by rw [lp]; exact pts_sym lo st n.toNat j (by omega))
    have m2 := mean_sym (pts lo st n.toNat) (tri n.toNat) _ (by rw [lp, lt]) (by omega) (triW n.toNat) (fun j hj => ⟨tri_get _ j (by omega), by unfold triW; split <;> omega⟩) (fun j hj => by rw [lp]; exact tri_sym n.toNat j (by omega)) (fun j hj => by rw [lp]; exact pts_sym lo st n.toNat j (by omega))
    have g0 : (pts lo st n.toNat).getD 0 0 = lo := by rw [getD_of (pts_get lo st _ 0 (by omega))]; simp
    have g1 : (pts lo st n.toNat).getD (n - 1).toNat 0 = lo + (n - 1) * st := by rw [getD_of (pts_get lo st _ (n - 1).toNat (by omega))]; rw [show (((n - 1).toNat : Nat) : Int) = n - 1 by omega]
    rw [hnn] at m1 m2
    have w1 : LimW 20 ((ones n.toNat).map nlz) := limW_nlz fun i x hx => by
      have hi := (List.getElem?_eq_some_iff.1 hx).1
      rw [ones_get _ i (by omega)] at hx
      cases hx
      omega
    have w2 : LimW 20 ((tri n.toNat).map nlz) := limW_nlz fun i x hx => by
      have hi := (List.getElem?_eq_some_iff.1 hx).1
      rw [tri_get _ i (by omega)] at hx
      cases hx
      unfold triW
      split <;> omega
    obtain ⟨b0, b2⟩ := mulb (a := n - 1) (st := st) (by omega) (by omega) (by omega) (by omega)
    rw [e2]
    simp (maxSteps := 1000000) (disch := first | omega | (simp only [LL]; omega)) only [W, V, TY, CC, reduceIte, Nat.reduceEqDiff, Nat.reduceAdd, Nat.reduceLeDiff, Nat.reduceLT, Int.reduceLE, Int.reduceLT, Int.reduceAdd, Int.reduceSub, Int.reduceToNat, Nat.reduceMul, hnn]
    refine g_split (fun h => ?_) (fun h => ?_)
    · omega
    have c1 := grid_Valid (pts lo st n.toNat) (ones n.toNat)
    have c2 := grid_Valid (pts lo st n.toNat) (tri n.toNat)
    have p1 := grid_Prior (pts lo st n.toNat) (ones n.toNat)
    have p2 := grid_Prior (pts lo st n.toNat) (tri n.toNat)
    have q1 := grid_Mean (pts lo st n.toNat) (ones n.toNat) _ w1
    have q2 := grid_Mean (pts lo st n.toNat) (tri n.toNat) _ w2
    rw [v1] at c1
    rw [v2] at c2
    rw [show priorR (pts lo st n.toNat) (ones n.toNat) = _ from if_pos v1] at p1
    rw [show priorR (pts lo st n.toNat) (tri n.toNat) = _ from if_pos v2] at p2
    rw [show meanR (pts lo st n.toNat) (ones n.toNat) ((ones n.toNat).map nlz) = _ from if_pos (checkV_ok v1 (by rw [List.length_map, lp, lo1]) (by omega) ⟨_, ones_get _ 0 (by omega), by omega⟩), m1] at q1
    rw [show meanR (pts lo st n.toNat) (tri n.toNat) ((tri n.toNat).map nlz) = _ from if_pos (checkV_ok v2 (by rw [List.length_map, lp, lt]) (by omega) ⟨_, tri_get _ 0 (by omega), by unfold triW; split <;> omega⟩), m2] at q2
    have zq : qs (Rat.divInt (lo + (lo + (n - 1) * st)) 2) < 68719476730 := by
      have := qs_div (lo + (lo + (n - 1) * st)) 2
      have := zl_i64 (x := lo + (lo + (n - 1) * st)) (by omega) (by omega)
      have := zl_i64 (x := 2) (by decide) (by decide)
      omega
    clear cu ct v1 v2 m1 m2 w1 w2
    simp (maxSteps := 1000000) (disch := first | omega | (simp only [LL]; omega)) only [W, V, TY, CC, reduceIte, Nat.reduceEqDiff, Nat.reduceAdd, Nat.reduceLeDiff, Nat.reduceLT, Int.reduceLE, Int.reduceLT, Int.reduceAdd, Int.reduceSub, Int.reduceToNat, Nat.reduceMul, h, lp, hnn]
    refine a_call _ _ (law_ints (pts lo st n.toNat) (by omega)) (by simp (maxSteps := 1000000) (disch := first | omega | (simp only [LL]; omega)) only [W, V, TY, CC, reduceIte, Nat.reduceEqDiff, Nat.reduceAdd, Nat.reduceLeDiff, Nat.reduceLT, Int.reduceLE, Int.reduceLT, Int.reduceAdd, Int.reduceSub, Int.reduceToNat, Nat.reduceMul]) ?_
    simp (maxSteps := 1000000) (disch := first | omega | (simp only [LL]; omega)) only [W, V, TY, CC, reduceIte, Nat.reduceEqDiff, Nat.reduceAdd, Nat.reduceLeDiff, Nat.reduceLT, Int.reduceLE, Int.reduceLT, Int.reduceAdd, Int.reduceSub, Int.reduceToNat, Nat.reduceMul, h, lp, hnn]
    refine a_call _ _ c1 (by simp (maxSteps := 1000000) (disch := first | omega | (simp only [LL]; omega)) only [W, V, TY, CC, reduceIte, Nat.reduceEqDiff, Nat.reduceAdd, Nat.reduceLeDiff, Nat.reduceLT, Int.reduceLE, Int.reduceLT, Int.reduceAdd, Int.reduceSub, Int.reduceToNat, Nat.reduceMul]) ?_
    simp (maxSteps := 1000000) (disch := first | omega | (simp only [LL]; omega)) only [W, V, TY, CC, reduceIte, Nat.reduceEqDiff, Nat.reduceAdd, Nat.reduceLeDiff, Nat.reduceLT, Int.reduceLE, Int.reduceLT, Int.reduceAdd, Int.reduceSub, Int.reduceToNat, Nat.reduceMul, h, lp, hnn]
    refine a_call _ _ c2 (by simp (maxSteps := 1000000) (disch := first | omega | (simp only [LL]; omega)) only [W, V, TY, CC, reduceIte, Nat.reduceEqDiff, Nat.reduceAdd, Nat.reduceLeDiff, Nat.reduceLT, Int.reduceLE, Int.reduceLT, Int.reduceAdd, Int.reduceSub, Int.reduceToNat, Nat.reduceMul]) ?_
    simp (maxSteps := 1000000) (disch := first | omega | (simp only [LL]; omega)) only [W, V, TY, CC, reduceIte, Nat.reduceEqDiff, Nat.reduceAdd, Nat.reduceLeDiff, Nat.reduceLT, Int.reduceLE, Int.reduceLT, Int.reduceAdd, Int.reduceSub, Int.reduceToNat, Nat.reduceMul, h, lp, hnn, g0, g1]
    refine a_call _ _ (rat_Of (lo + (lo + (n - 1) * st)) 2 (by omega) (by omega) (by decide) (by decide)) (by simp (maxSteps := 1000000) (disch := first | omega | (simp only [LL]; omega)) only [W, V, TY, CC, reduceIte, Nat.reduceEqDiff, Nat.reduceAdd, Nat.reduceLeDiff, Nat.reduceLT, Int.reduceLE, Int.reduceLT, Int.reduceAdd, Int.reduceSub, Int.reduceToNat, Nat.reduceMul]) ?_
    simp (maxSteps := 1000000) (disch := first | omega | (simp only [LL]; omega)) only [W, V, TY, CC, reduceIte, Nat.reduceEqDiff, Nat.reduceAdd, Nat.reduceLeDiff, Nat.reduceLT, Int.reduceLE, Int.reduceLT, Int.reduceAdd, Int.reduceSub, Int.reduceToNat, Nat.reduceMul, ratC]
    refine a_call _ _ p1 (by simp (maxSteps := 1000000) (disch := first | omega | (simp only [LL]; omega)) only [W, V, TY, CC, reduceIte, Nat.reduceEqDiff, Nat.reduceAdd, Nat.reduceLeDiff, Nat.reduceLT, Int.reduceLE, Int.reduceLT, Int.reduceAdd, Int.reduceSub, Int.reduceToNat, Nat.reduceMul]) ?_
    simp (maxSteps := 1000000) (disch := first | omega | (simp only [LL]; omega)) only [W, V, TY, CC, reduceIte, Nat.reduceEqDiff, Nat.reduceAdd, Nat.reduceLeDiff, Nat.reduceLT, Int.reduceLE, Int.reduceLT, Int.reduceAdd, Int.reduceSub, Int.reduceToNat, Nat.reduceMul]
    refine a_call _ _ p2 (by simp (maxSteps := 1000000) (disch := first | omega | (simp only [LL]; omega)) only [W, V, TY, CC, reduceIte, Nat.reduceEqDiff, Nat.reduceAdd, Nat.reduceLeDiff, Nat.reduceLT, Int.reduceLE, Int.reduceLT, Int.reduceAdd, Int.reduceSub, Int.reduceToNat, Nat.reduceMul]) ?_
    simp (maxSteps := 1000000) (disch := first | omega | (simp only [LL]; omega)) only [W, V, TY, CC, reduceIte, Nat.reduceEqDiff, Nat.reduceAdd, Nat.reduceLeDiff, Nat.reduceLT, Int.reduceLE, Int.reduceLT, Int.reduceAdd, Int.reduceSub, Int.reduceToNat, Nat.reduceMul]
    refine a_call _ _ q1 (by simp (maxSteps := 1000000) (disch := first | omega | (simp only [LL]; omega)) only [W, V, TY, CC, reduceIte, Nat.reduceEqDiff, Nat.reduceAdd, Nat.reduceLeDiff, Nat.reduceLT, Int.reduceLE, Int.reduceLT, Int.reduceAdd, Int.reduceSub, Int.reduceToNat, Nat.reduceMul]) ?_
    simp (maxSteps := 1000000) (disch := first | omega | (simp only [LL]; omega)) only [W, V, TY, CC, reduceIte, Nat.reduceEqDiff, Nat.reduceAdd, Nat.reduceLeDiff, Nat.reduceLT, Int.reduceLE, Int.reduceLT, Int.reduceAdd, Int.reduceSub, Int.reduceToNat, Nat.reduceMul, ratC]
    refine a_call _ _ q2 (by simp (maxSteps := 1000000) (disch := first | omega | (simp only [LL]; omega)) only [W, V, TY, CC, reduceIte, Nat.reduceEqDiff, Nat.reduceAdd, Nat.reduceLeDiff, Nat.reduceLT, Int.reduceLE, Int.reduceLT, Int.reduceAdd, Int.reduceSub, Int.reduceToNat, Nat.reduceMul]) ?_
    simp (maxSteps := 1000000) (disch := first | omega | (simp only [LL]; omega)) only [W, V, TY, CC, reduceIte, Nat.reduceEqDiff, Nat.reduceAdd, Nat.reduceLeDiff, Nat.reduceLT, Int.reduceLE, Int.reduceLT, Int.reduceAdd, Int.reduceSub, Int.reduceToNat, Nat.reduceMul, ratC]
    refine a_call _ _ (law_same _ zq) (by simp (maxSteps := 1000000) (disch := first | omega | (simp only [LL]; omega)) only [W, V, TY, CC, reduceIte, Nat.reduceEqDiff, Nat.reduceAdd, Nat.reduceLeDiff, Nat.reduceLT, Int.reduceLE, Int.reduceLT, Int.reduceAdd, Int.reduceSub, Int.reduceToNat, Nat.reduceMul, ratC]) ?_
    simp (maxSteps := 1000000) (disch := first | omega | (simp only [LL]; omega)) only [W, V, TY, CC, reduceIte, Nat.reduceEqDiff, Nat.reduceAdd, Nat.reduceLeDiff, Nat.reduceLT, Int.reduceLE, Int.reduceLT, Int.reduceAdd, Int.reduceSub, Int.reduceToNat, Nat.reduceMul]
    refine a_call _ _ (law_same _ zq) (by simp (maxSteps := 1000000) (disch := first | omega | (simp only [LL]; omega)) only [W, V, TY, CC, reduceIte, Nat.reduceEqDiff, Nat.reduceAdd, Nat.reduceLeDiff, Nat.reduceLT, Int.reduceLE, Int.reduceLT, Int.reduceAdd, Int.reduceSub, Int.reduceToNat, Nat.reduceMul, ratC]) ?_
    simp (maxSteps := 1000000) (disch := first | omega | (simp only [LL]; omega)) only [W, V, TY, CC, reduceIte, Nat.reduceEqDiff, Nat.reduceAdd, Nat.reduceLeDiff, Nat.reduceLT, Int.reduceLE, Int.reduceLT, Int.reduceAdd, Int.reduceSub, Int.reduceToNat, Nat.reduceMul]
    refine f_ret _ _ _ ?_
    simp (maxSteps := 1000000) (disch := first | omega | (simp only [LL]; omega)) only [W, V, TY, CC, reduceIte, Nat.reduceEqDiff, Nat.reduceAdd, Nat.reduceLeDiff, Nat.reduceLT, Int.reduceLE, Int.reduceLT, Int.reduceAdd, Int.reduceSub, Int.reduceToNat, Nat.reduceMul]
end Go.Proofs.Ytnlmfdojnacofaa.E
