/- An abstract interpreter over data, and contracts of the program's functions, part 5; no condition. -/
import Derived.Test.YtnlmfdojnacofaaSmd
set_option linter.unusedSimpArgs false
set_option linter.unusedVariables false
set_option maxHeartbeats 2000000
namespace Go.Proofs.Ytnlmfdojnacofaa.E
open Go.RowKit Limbs
def hasW (ww : List (List Int)) : Prop := ∃ i, i < ww.length ∧ nv (ww.getD i []) ≠ 0
open Classical in
/-- the first error of a grid and weights -/
noncomputable def checkV (p w : List Int) (ww : List (List Int)) : Int := if ¬ gridV p w = 0 then gridV p w else if ¬ (ww.length : Int) = p.length then 1 else if hasW ww then 0 else 20
def LimW (k : Nat) (ww : List (List Int)) : Prop := ∀ i, Lim (ww.getD i []) ∧ (ww.getD i []).length ≤ k
/-- examboard/grid.check -/
def b37 : AF := ⟨29, 2, [.tmp 4],
  (.seq (.reg [
    ⟨some 2, .box 24 (.tmp 0), none⟩,
    ⟨some 4, .assign (.const (.int .i64 0)), none⟩])
  (.seq (.seq (.reg [
    ⟨some 8, .load 24 (.tmp 2), none⟩,
    ⟨some 9, .call ⟨(.value (.func 15)), #[(.tmp 8)], #[24]⟩, none⟩,
    ⟨some 5, .assign (.tmp 9), none⟩])
  (.seq (.reg [
    ⟨some 10, .move (.tmp 5), none⟩,
    ⟨some 11, .binOp .neq 25 (.tmp 10) (.const (.int .i64 0)) 25, none⟩])
  (.cond (.tmp 11)
    (.seq (.reg [
      ⟨some 12, .move (.tmp 5), none⟩,
      ⟨some 4, .assign (.tmp 12), none⟩])
    .ret)
    .skip)))
  (.seq (.seq (.reg [
    ⟨some 13, .move (.tmp 1), none⟩,
    ⟨some 14, .call ⟨(.builtin .len), #[(.tmp 13)], #[30]⟩, none⟩,
    ⟨some 15, .fieldAddr 24 (.tmp 2) 0, none⟩,
    ⟨some 16, .load 22 (.tmp 15), none⟩,
    ⟨some 17, .call ⟨(.builtin .len), #[(.tmp 16)], #[22]⟩, none⟩,
    ⟨some 18, .binOp .neq 3 (.tmp 14) (.tmp 17) 3, none⟩])
  (.cond (.tmp 18)
    (.seq (.reg [
      ⟨some 4, .assign (.const (.int .i64 1)), none⟩])
    .ret)
    .skip))
  (.seq (.seq (.reg [
    ⟨some 19, .move (.tmp 1), none⟩,
    ⟨some 20, .call ⟨(.builtin .len), #[(.tmp 19)], #[30]⟩, none⟩,
    ⟨some 21, .move (.const (.int .i64 0)), none⟩])
  (.block 0 (.loop (.seq (.reg [
    ⟨some 22, .binOp .lss 3 (.tmp 21) (.tmp 20) 3, none⟩])
  (.seq (.cond (.tmp 22)
    .skip
    (.exit 0))
  (.seq (.block 1 (.seq (.reg [
    ⟨some 23, .indexAddr 30 (.tmp 19) (.tmp 21), none⟩,
    ⟨some 24, .load 36 (.tmp 23), none⟩,
    ⟨some 7, .assign (.tmp 24), none⟩])
  (.seq (.reg [
    ⟨some 25, .move (.tmp 7), none⟩,
    ⟨some 26, .call ⟨(.value (.func 63)), #[(.tmp 25)], #[36]⟩, none⟩,
    ⟨some 27, .binOp .gtr 3 (.tmp 26) (.const (.int .i64 0)) 3, none⟩])
  (.cond (.tmp 27)
    (.seq (.reg [
      ⟨some 4, .assign (.const (.int .i64 0)), none⟩])
    .ret)
    .skip))))
  (.reg [
    ⟨some 28, .binOp .add 3 (.tmp 21) (.const (.int .i64 1)) 3, none⟩,
    ⟨some 21, .move (.tmp 28), none⟩])))))))
  (.seq (.reg [
    ⟨some 4, .assign (.const (.int .i64 20)), none⟩])
  .ret)))))⟩
theorem c37 : fcomp Try.prog 37 = ⟨b37.n, b37.np, b37.res, b37.body.bare⟩ := by kernel_rfl
theorem k37 : fok Try.prog 37 = true := by kernel_rfl
theorem grid_check (p w : List Int) (ww : List (List Int)) (hW : LimW 1099511627776 ww) : AFun Try.prog 37 [.agg [intsD p, intsD w], .one (natsD ww)] [.one (.lit (.int .i64 (checkV p w ww)))] := by
  refine afun_intro mo_ _ _ c37 k37 _ _ rfl (by decide) ?_
  unfold b37
  simp (maxSteps := 1000000) (disch := first | omega | (simp only [LL]; omega)) only [W, V, TY, CC, reduceIte, Nat.reduceEqDiff, Nat.reduceAdd, Nat.reduceLeDiff, Nat.reduceLT, Int.reduceLE, Int.reduceLT, Int.reduceAdd, Int.reduceSub, Int.reduceToNat, Nat.reduceMul]
  refine a_call _ _ (grid_Valid p w) (by simp (maxSteps := 1000000) (disch := first | omega | (simp only [LL]; omega)) only [W, V, TY, CC, reduceIte, Nat.reduceEqDiff, Nat.reduceAdd, Nat.reduceLeDiff, Nat.reduceLT, Int.reduceLE, Int.reduceLT, Int.reduceAdd, Int.reduceSub, Int.reduceToNat, Nat.reduceMul]) ?_
  simp (maxSteps := 1000000) (disch := first | omega | (simp only [LL]; omega)) only [W, V, TY, CC, reduceIte, Nat.reduceEqDiff, Nat.reduceAdd, Nat.reduceLeDiff, Nat.reduceLT, Int.reduceLE, Int.reduceLT, Int.reduceAdd, Int.reduceSub, Int.reduceToNat, Nat.reduceMul]
  unfold checkV
  refine c_split (fun h1 => ?_) (fun h1 => ?_)
  · rw [if_pos h1]
    simp (maxSteps := 1000000) (disch := first | omega | (simp only [LL]; omega)) only [W, V, TY, CC, reduceIte, Nat.reduceEqDiff, Nat.reduceAdd, Nat.reduceLeDiff, Nat.reduceLT, Int.reduceLE, Int.reduceLT, Int.reduceAdd, Int.reduceSub, Int.reduceToNat, Nat.reduceMul]
    refine f_ret _ _ _ ?_
    simp (maxSteps := 1000000) (disch := first | omega | (simp only [LL]; omega)) only [W, V, TY, CC, reduceIte, Nat.reduceEqDiff, Nat.reduceAdd, Nat.reduceLeDiff, Nat.reduceLT, Int.reduceLE, Int.reduceLT, Int.reduceAdd, Int.reduceSub, Int.reduceToNat, Nat.reduceMul]
  rw [if_neg h1]
  simp (maxSteps := 1000000) (disch := first | omega | (simp only [LL]; omega)) only [W, V, TY, CC, reduceIte, Nat.reduceEqDiff, Nat.reduceAdd, Nat.reduceLeDiff, Nat.reduceLT, Int.reduceLE, Int.reduceLT, Int.reduceAdd, Int.reduceSub, Int.reduceToNat, Nat.reduceMul]
  refine c_split (fun h2 => ?_) (fun h2 => ?_)
  · rw [if_pos h2]
    simp (maxSteps := 1000000) (disch := first | omega | (simp only [LL]; omega)) only [W, V, TY, CC, reduceIte, Nat.reduceEqDiff, Nat.reduceAdd, Nat.reduceLeDiff, Nat.reduceLT, Int.reduceLE, Int.reduceLT, Int.reduceAdd, Int.reduceSub, Int.reduceToNat, Nat.reduceMul]
    refine f_ret _ _ _ ?_
    simp (maxSteps := 1000000) (disch := first | omega | (simp only [LL]; omega)) only [W, V, TY, CC, reduceIte, Nat.reduceEqDiff, Nat.reduceAdd, Nat.reduceLeDiff, Nat.reduceLT, Int.reduceLE, Int.reduceLT, Int.reduceAdd, Int.reduceSub, Int.reduceToNat, Nat.reduceMul]
  rw [if_neg h2]
  have h1' : gridV p w = 0 := Classical.not_not.1 h1
  obtain ⟨g1, _⟩ := gridV_zero h1'
  simp (maxSteps := 1000000) (disch := first | omega | (simp only [LL]; omega)) only [W, V, TY, CC, reduceIte, Nat.reduceEqDiff, Nat.reduceAdd, Nat.reduceLeDiff, Nat.reduceLT, Int.reduceLE, Int.reduceLT, Int.reduceAdd, Int.reduceSub, Int.reduceToNat, Nat.reduceMul]
  refine w_loop (fun n s => ∃ i : Nat, n + i = ww.length ∧ s.t 19 = .one (.dt (natsD ww)) ∧ s.t 20 = .one (.dt (.lit (.int .i64 ww.length))) ∧ s.t 21 = .one (.dt (.lit (.int .i64 i))) ∧ ∀ j, j < i → nv (ww.getD j []) = 0) ww.length ⟨0, rfl, ?_, ?_, ?_, fun j hj => by omega⟩ ?_
  · simp (maxSteps := 1000000) (disch := first | omega | (simp only [LL]; omega)) only [W, V, TY, CC, reduceIte, Nat.reduceEqDiff, Nat.reduceAdd, Nat.reduceLeDiff, Nat.reduceLT, Int.reduceLE, Int.reduceLT, Int.reduceAdd, Int.reduceSub, Int.reduceToNat, Nat.reduceMul]
  · simp (maxSteps := 1000000) (disch := first | omega | (simp only [LL]; omega)) only [W, V, TY, CC, reduceIte, Nat.reduceEqDiff, Nat.reduceAdd, Nat.reduceLeDiff, Nat.reduceLT, Int.reduceLE, Int.reduceLT, Int.reduceAdd, Int.reduceSub, Int.reduceToNat, Nat.reduceMul]
  · simp (maxSteps := 1000000) (disch := first | omega | (simp only [LL]; omega)) only [W, V, TY, CC, reduceIte, Nat.reduceEqDiff, Nat.reduceAdd, Nat.reduceLeDiff, Nat.reduceLT, Int.reduceLE, Int.reduceLT, Int.reduceAdd, Int.reduceSub, Int.reduceToNat, Nat.reduceMul]
  intro n s _ ⟨i, e, t19, t20, t21, hlo⟩
  simp (maxSteps := 1000000) (disch := first | omega | (simp only [LL]; omega)) only [W, V, TY, CC, reduceIte, Nat.reduceEqDiff, Nat.reduceAdd, Nat.reduceLeDiff, Nat.reduceLT, Int.reduceLE, Int.reduceLT, Int.reduceAdd, Int.reduceSub, Int.reduceToNat, Nat.reduceMul, t19, t20, t21]
  refine c_split (fun hi => ?_) (fun hi => ?_)
  · obtain ⟨l1, l2⟩ := hW i
    simp (maxSteps := 1000000) (disch := first | omega | (simp only [LL]; omega)) only [W, V, TY, CC, reduceIte, Nat.reduceEqDiff, Nat.reduceAdd, Nat.reduceLeDiff, Nat.reduceLT, Int.reduceLE, Int.reduceLT, Int.reduceAdd, Int.reduceSub, Int.reduceToNat, Nat.reduceMul, t19, t20, t21]
    refine a_call _ _ (nat_Bits (ww.getD i []) l1 (by omega)) (by simp (maxSteps := 1000000) (disch := first | omega | (simp only [LL]; omega)) only [W, V, TY, CC, reduceIte, Nat.reduceEqDiff, Nat.reduceAdd, Nat.reduceLeDiff, Nat.reduceLT, Int.reduceLE, Int.reduceLT, Int.reduceAdd, Int.reduceSub, Int.reduceToNat, Nat.reduceMul, t19, t20, t21]) ?_
    simp (maxSteps := 1000000) (disch := first | omega | (simp only [LL]; omega)) only [W, V, TY, CC, reduceIte, Nat.reduceEqDiff, Nat.reduceAdd, Nat.reduceLeDiff, Nat.reduceLT, Int.reduceLE, Int.reduceLT, Int.reduceAdd, Int.reduceSub, Int.reduceToNat, Nat.reduceMul, t19, t20, t21]
    refine c_split (fun hc => ?_) (fun hc => ?_)
    · have hh : hasW ww := ⟨i, by omega, fun e => by rw [e, bl_zero] at hc; omega⟩
      rw [if_pos hh]
      simp (maxSteps := 1000000) (disch := first | omega | (simp only [LL]; omega)) only [W, V, TY, CC, reduceIte, Nat.reduceEqDiff, Nat.reduceAdd, Nat.reduceLeDiff, Nat.reduceLT, Int.reduceLE, Int.reduceLT, Int.reduceAdd, Int.reduceSub, Int.reduceToNat, Nat.reduceMul]
      refine f_ret _ _ _ ?_
      simp (maxSteps := 1000000) (disch := first | omega | (simp only [LL]; omega)) only [W, V, TY, CC, reduceIte, Nat.reduceEqDiff, Nat.reduceAdd, Nat.reduceLeDiff, Nat.reduceLT, Int.reduceLE, Int.reduceLT, Int.reduceAdd, Int.reduceSub, Int.reduceToNat, Nat.reduceMul]
    · simp (maxSteps := 1000000) (disch := first | omega | (simp only [LL]; omega)) only [W, V, TY, CC, reduceIte, Nat.reduceEqDiff, Nat.reduceAdd, Nat.reduceLeDiff, Nat.reduceLT, Int.reduceLE, Int.reduceLT, Int.reduceAdd, Int.reduceSub, Int.reduceToNat, Nat.reduceMul, t19, t20, t21]
      refine ⟨n - 1, by omega, i + 1, by omega, rfl, fun j hj => ?_⟩
      rcases Nat.lt_or_ge j i with h | h
      · exact hlo j h
      · have : j = i := by omega
        subst this
        exact bl_eq_zero.1 (by omega)
  · have hh : ¬ hasW ww := fun ⟨j, hj, hn⟩ => hn (hlo j (by omega))
    rw [if_neg hh]
    simp (maxSteps := 1000000) (disch := first | omega | (simp only [LL]; omega)) only [W, V, TY, CC, reduceIte, Nat.reduceEqDiff, Nat.reduceAdd, Nat.reduceLeDiff, Nat.reduceLT, Int.reduceLE, Int.reduceLT, Int.reduceAdd, Int.reduceSub, Int.reduceToNat, Nat.reduceMul, t19, t20, t21]
    refine f_ret _ _ _ ?_
    simp (maxSteps := 1000000) (disch := first | omega | (simp only [LL]; omega)) only [W, V, TY, CC, reduceIte, Nat.reduceEqDiff, Nat.reduceAdd, Nat.reduceLeDiff, Nat.reduceLT, Int.reduceLE, Int.reduceLT, Int.reduceAdd, Int.reduceSub, Int.reduceToNat, Nat.reduceMul]
/-- examboard/examboardref18.check -/
def b40 : AF := ⟨30, 2, [.tmp 4],
  (.seq (.reg [
    ⟨some 2, .box 24 (.tmp 0), none⟩,
    ⟨some 4, .assign (.const (.int .i64 0)), none⟩])
  (.seq (.reg [
    ⟨some 7, .load 24 (.tmp 2), none⟩,
    ⟨some 8, .call ⟨(.value (.func 16)), #[(.tmp 7)], #[24]⟩, none⟩,
    ⟨some 5, .assign (.tmp 8), none⟩])
  (.seq (.seq (.reg [
    ⟨some 9, .move (.tmp 5), none⟩,
    ⟨some 10, .binOp .neq 25 (.tmp 9) (.const (.int .i64 0)) 25, none⟩])
  (.cond (.tmp 10)
    (.seq (.reg [
      ⟨some 11, .move (.tmp 5), none⟩,
      ⟨some 4, .assign (.tmp 11), none⟩])
    .ret)
    .skip))
  (.seq (.seq (.reg [
    ⟨some 12, .move (.tmp 1), none⟩,
    ⟨some 13, .call ⟨(.builtin .len), #[(.tmp 12)], #[30]⟩, none⟩,
    ⟨some 14, .fieldAddr 24 (.tmp 2) 0, none⟩,
    ⟨some 15, .load 22 (.tmp 14), none⟩,
    ⟨some 16, .call ⟨(.builtin .len), #[(.tmp 15)], #[22]⟩, none⟩,
    ⟨some 17, .binOp .neq 3 (.tmp 13) (.tmp 16) 3, none⟩])
  (.cond (.tmp 17)
    (.seq (.reg [
      ⟨some 4, .assign (.const (.int .i64 1)), none⟩])
    .ret)
    .skip))
  (.seq (.seq (.reg [
    ⟨some 6, .assign (.const (.int .i64 0)), none⟩])
  (.block 0 (.loop (.seq (.seq (.reg [
    ⟨some 18, .move (.tmp 6), none⟩,
    ⟨some 19, .move (.tmp 1), none⟩,
    ⟨some 20, .call ⟨(.builtin .len), #[(.tmp 19)], #[30]⟩, none⟩,
    ⟨some 21, .binOp .lss 3 (.tmp 18) (.tmp 20) 3, none⟩])
  (.cond (.tmp 21)
    .skip
    (.exit 0)))
  (.seq (.block 1 (.seq (.reg [
    ⟨some 24, .move (.tmp 1), none⟩,
    ⟨some 25, .move (.tmp 6), none⟩,
    ⟨some 26, .indexAddr 30 (.tmp 24) (.tmp 25), none⟩,
    ⟨some 27, .load 36 (.tmp 26), none⟩,
    ⟨some 28, .call ⟨(.value (.func 67)), #[(.tmp 27)], #[36]⟩, none⟩,
    ⟨some 29, .binOp .gtr 3 (.tmp 28) (.const (.int .i64 0)) 3, none⟩])
  (.cond (.tmp 29)
    (.seq (.reg [
      ⟨some 4, .assign (.const (.int .i64 0)), none⟩])
    .ret)
    .skip)))
  (.reg [
    ⟨some 22, .move (.tmp 6), none⟩,
    ⟨some 23, .binOp .add 3 (.tmp 22) (.const (.int .i64 1)) 3, none⟩,
    ⟨some 6, .assign (.tmp 23), none⟩]))))))
  (.seq (.reg [
    ⟨some 4, .assign (.const (.int .i64 20)), none⟩])
  .ret))))))⟩
theorem c40 : fcomp Try.prog 40 = ⟨b40.n, b40.np, b40.res, b40.body.bare⟩ := by kernel_rfl
theorem k40 : fok Try.prog 40 = true := by kernel_rfl
theorem ref_check (p w : List Int) (ww : List (List Int)) (hW : LimW 1099511627776 ww) : AFun Try.prog 40 [.agg [intsD p, intsD w], .one (natsD ww)] [.one (.lit (.int .i64 (checkV p w ww)))] := by
  refine afun_intro mo_ _ _ c40 k40 _ _ rfl (by decide) ?_
  unfold b40
  simp (maxSteps := 1000000) (disch := first | omega | (simp only [LL]; omega)) only [W, V, TY, CC, reduceIte, Nat.reduceEqDiff, Nat.reduceAdd, Nat.reduceLeDiff, Nat.reduceLT, Int.reduceLE, Int.reduceLT, Int.reduceAdd, Int.reduceSub, Int.reduceToNat, Nat.reduceMul]
  refine a_call _ _ (ref_Valid p w) (by simp (maxSteps := 1000000) (disch := first | omega | (simp only [LL]; omega)) only [W, V, TY, CC, reduceIte, Nat.reduceEqDiff, Nat.reduceAdd, Nat.reduceLeDiff, Nat.reduceLT, Int.reduceLE, Int.reduceLT, Int.reduceAdd, Int.reduceSub, Int.reduceToNat, Nat.reduceMul]) ?_
  simp (maxSteps := 1000000) (disch := first | omega | (simp only [LL]; omega)) only [W, V, TY, CC, reduceIte, Nat.reduceEqDiff, Nat.reduceAdd, Nat.reduceLeDiff, Nat.reduceLT, Int.reduceLE, Int.reduceLT, Int.reduceAdd, Int.reduceSub, Int.reduceToNat, Nat.reduceMul]
  unfold checkV
  refine c_split (fun h1 => ?_) (fun h1 => ?_)
  · rw [if_pos h1]
    simp (maxSteps := 1000000) (disch := first | omega | (simp only [LL]; omega)) only [W, V, TY, CC, reduceIte, Nat.reduceEqDiff, Nat.reduceAdd, Nat.reduceLeDiff, Nat.reduceLT, Int.reduceLE, Int.reduceLT, Int.reduceAdd, Int.reduceSub, Int.reduceToNat, Nat.reduceMul]
    refine f_ret _ _ _ ?_
    simp (maxSteps := 1000000) (disch := first | omega | (simp only [LL]; omega)) only [W, V, TY, CC, reduceIte, Nat.reduceEqDiff, Nat.reduceAdd, Nat.reduceLeDiff, Nat.reduceLT, Int.reduceLE, Int.reduceLT, Int.reduceAdd, Int.reduceSub, Int.reduceToNat, Nat.reduceMul]
  rw [if_neg h1]
  simp (maxSteps := 1000000) (disch := first | omega | (simp only [LL]; omega)) only [W, V, TY, CC, reduceIte, Nat.reduceEqDiff, Nat.reduceAdd, Nat.reduceLeDiff, Nat.reduceLT, Int.reduceLE, Int.reduceLT, Int.reduceAdd, Int.reduceSub, Int.reduceToNat, Nat.reduceMul]
  refine c_split (fun h2 => ?_) (fun h2 => ?_)
  · rw [if_pos h2]
    simp (maxSteps := 1000000) (disch := first | omega | (simp only [LL]; omega)) only [W, V, TY, CC, reduceIte, Nat.reduceEqDiff, Nat.reduceAdd, Nat.reduceLeDiff, Nat.reduceLT, Int.reduceLE, Int.reduceLT, Int.reduceAdd, Int.reduceSub, Int.reduceToNat, Nat.reduceMul]
    refine f_ret _ _ _ ?_
    simp (maxSteps := 1000000) (disch := first | omega | (simp only [LL]; omega)) only [W, V, TY, CC, reduceIte, Nat.reduceEqDiff, Nat.reduceAdd, Nat.reduceLeDiff, Nat.reduceLT, Int.reduceLE, Int.reduceLT, Int.reduceAdd, Int.reduceSub, Int.reduceToNat, Nat.reduceMul]
  rw [if_neg h2]
  have h1' : gridV p w = 0 := Classical.not_not.1 h1
  obtain ⟨g1, _⟩ := gridV_zero h1'
  simp (maxSteps := 1000000) (disch := first | omega | (simp only [LL]; omega)) only [W, V, TY, CC, reduceIte, Nat.reduceEqDiff, Nat.reduceAdd, Nat.reduceLeDiff, Nat.reduceLT, Int.reduceLE, Int.reduceLT, Int.reduceAdd, Int.reduceSub, Int.reduceToNat, Nat.reduceMul]
  refine w_loop (fun n s => ∃ i : Nat, n + i = ww.length ∧ s.t 1 = .one (.dt (natsD ww)) ∧ s.t 6 = .one (.dt (.lit (.int .i64 i))) ∧ ∀ j, j < i → nv (ww.getD j []) = 0) ww.length ⟨0, rfl, ?_, ?_, fun j hj => by omega⟩ ?_
  · simp (maxSteps := 1000000) (disch := first | omega | (simp only [LL]; omega)) only [W, V, TY, CC, reduceIte, Nat.reduceEqDiff, Nat.reduceAdd, Nat.reduceLeDiff, Nat.reduceLT, Int.reduceLE, Int.reduceLT, Int.reduceAdd, Int.reduceSub, Int.reduceToNat, Nat.reduceMul]
  · simp (maxSteps := 1000000) (disch := first | omega | (simp only [LL]; omega)) only [W, V, TY, CC, reduceIte, Nat.reduceEqDiff, Nat.reduceAdd, Nat.reduceLeDiff, Nat.reduceLT, Int.reduceLE, Int.reduceLT, Int.reduceAdd, Int.reduceSub, Int.reduceToNat, Nat.reduceMul]
  intro n s _ ⟨i, e, t1, t6, hlo⟩
  simp (maxSteps := 1000000) (disch := first | omega | (simp only [LL]; omega)) only [W, V, TY, CC, reduceIte, Nat.reduceEqDiff, Nat.reduceAdd, Nat.reduceLeDiff, Nat.reduceLT, Int.reduceLE, Int.reduceLT, Int.reduceAdd, Int.reduceSub, Int.reduceToNat, Nat.reduceMul, t1, t6]
  refine c_split (fun hi => ?_) (fun hi => ?_)
  · obtain ⟨l1, l2⟩ := hW i
    simp (maxSteps := 1000000) (disch := first | omega | (simp only [LL]; omega)) only [W, V, TY, CC, reduceIte, Nat.reduceEqDiff, Nat.reduceAdd, Nat.reduceLeDiff, Nat.reduceLT, Int.reduceLE, Int.reduceLT, Int.reduceAdd, Int.reduceSub, Int.reduceToNat, Nat.reduceMul, t1, t6]
    refine a_call _ _ (ref_Bits (ww.getD i []) l1 (by omega)) (by simp (maxSteps := 1000000) (disch := first | omega | (simp only [LL]; omega)) only [W, V, TY, CC, reduceIte, Nat.reduceEqDiff, Nat.reduceAdd, Nat.reduceLeDiff, Nat.reduceLT, Int.reduceLE, Int.reduceLT, Int.reduceAdd, Int.reduceSub, Int.reduceToNat, Nat.reduceMul, t1, t6]) ?_
    simp (maxSteps := 1000000) (disch := first | omega | (simp only [LL]; omega)) only [W, V, TY, CC, reduceIte, Nat.reduceEqDiff, Nat.reduceAdd, Nat.reduceLeDiff, Nat.reduceLT, Int.reduceLE, Int.reduceLT, Int.reduceAdd, Int.reduceSub, Int.reduceToNat, Nat.reduceMul, t1, t6]
    refine c_split (fun hc => ?_) (fun hc => ?_)
    · have hh : hasW ww := ⟨i, by omega, fun e => by rw [e, bl_zero] at hc; omega⟩
      rw [if_pos hh]
      simp (maxSteps := 1000000) (disch := first | omega | (simp only [LL]; omega)) only [W, V, TY, CC, reduceIte, Nat.reduceEqDiff, Nat.reduceAdd, Nat.reduceLeDiff, Nat.reduceLT, Int.reduceLE, Int.reduceLT, Int.reduceAdd, Int.reduceSub, Int.reduceToNat, Nat.reduceMul]
      refine f_ret _ _ _ ?_
      simp (maxSteps := 1000000) (disch := first | omega | (simp only [LL]; omega)) only [W, V, TY, CC, reduceIte, Nat.reduceEqDiff, Nat.reduceAdd, Nat.reduceLeDiff, Nat.reduceLT, Int.reduceLE, Int.reduceLT, Int.reduceAdd, Int.reduceSub, Int.reduceToNat, Nat.reduceMul]
    · simp (maxSteps := 1000000) (disch := first | omega | (simp only [LL]; omega)) only [W, V, TY, CC, reduceIte, Nat.reduceEqDiff, Nat.reduceAdd, Nat.reduceLeDiff, Nat.reduceLT, Int.reduceLE, Int.reduceLT, Int.reduceAdd, Int.reduceSub, Int.reduceToNat, Nat.reduceMul, t1, t6]
      refine ⟨n - 1, by omega, i + 1, by omega, rfl, fun j hj => ?_⟩
      rcases Nat.lt_or_ge j i with h | h
      · exact hlo j h
      · have : j = i := by omega
        subst this
        exact bl_eq_zero.1 (by omega)
  · have hh : ¬ hasW ww := fun ⟨j, hj, hn⟩ => hn (hlo j (by omega))
    rw [if_neg hh]
    simp (maxSteps := 1000000) (disch := first | omega | (simp only [LL]; omega)) only [W, V, TY, CC, reduceIte, Nat.reduceEqDiff, Nat.reduceAdd, Nat.reduceLeDiff, Nat.reduceLT, Int.reduceLE, Int.reduceLT, Int.reduceAdd, Int.reduceSub, Int.reduceToNat, Nat.reduceMul, t1, t6]
    refine f_ret _ _ _ ?_
    simp (maxSteps := 1000000) (disch := first | omega | (simp only [LL]; omega)) only [W, V, TY, CC, reduceIte, Nat.reduceEqDiff, Nat.reduceAdd, Nat.reduceLeDiff, Nat.reduceLT, Int.reduceLE, Int.reduceLT, Int.reduceAdd, Int.reduceSub, Int.reduceToNat, Nat.reduceMul]
/-- examboard/grid.whole -/
def b38 : AF := ⟨11, 1, [.cell 2 41],
  (.seq (.reg [
    ⟨some 2, .alloc 41, none⟩])
  (.seq (.reg [
    ⟨some 6, .move (.tmp 0), none⟩,
    ⟨some 7, .call ⟨(.value (.func 26)), #[(.tmp 6), (.const (.int .i64 1))], #[2, 2]⟩, none⟩,
    ⟨some 5, .move (.tmp 7), none⟩,
    ⟨some 8, .extract (.tmp 5) 0, none⟩,
    ⟨some 9, .extract (.tmp 5) 1, none⟩,
    ⟨some 3, .alloc 41, none⟩,
    ⟨none, .store 41 (.tmp 3) (.tmp 8), none⟩,
    ⟨some 4, .assign (.tmp 9), none⟩])
  (.seq (.reg [
    ⟨some 10, .load 41 (.tmp 3), none⟩,
    ⟨none, .store 41 (.tmp 2) (.tmp 10), none⟩])
  .ret)))⟩
theorem c38 : fcomp Try.prog 38 = ⟨b38.n, b38.np, b38.res, b38.body.bare⟩ := by kernel_rfl
theorem k38 : fok Try.prog 38 = true := by kernel_rfl
theorem grid_whole (x : Int) (h0 : -9223372036854775808 ≤ x) (h1 : x < 9223372036854775808) : AFun Try.prog 38 [.one (.lit (.int .i64 x))] [.agg (ratC (x : Rat))] := by
  refine afun_intro mo_ _ _ c38 k38 _ _ rfl (by decide) ?_
  unfold b38
  rw [← divInt_one]
  simp (maxSteps := 1000000) (disch := first | omega | (simp only [LL]; omega)) only [W, V, TY, CC, reduceIte, Nat.reduceEqDiff, Nat.reduceAdd, Nat.reduceLeDiff, Nat.reduceLT, Int.reduceLE, Int.reduceLT, Int.reduceAdd, Int.reduceSub, Int.reduceToNat, Nat.reduceMul]
  refine a_call _ _ (rat_Of x 1 h0 h1 (by decide) (by decide)) (by simp (maxSteps := 1000000) (disch := first | omega | (simp only [LL]; omega)) only [W, V, TY, CC, reduceIte, Nat.reduceEqDiff, Nat.reduceAdd, Nat.reduceLeDiff, Nat.reduceLT, Int.reduceLE, Int.reduceLT, Int.reduceAdd, Int.reduceSub, Int.reduceToNat, Nat.reduceMul]) ?_
  simp (maxSteps := 1000000) (disch := first | omega | (simp only [LL]; omega)) only [W, V, TY, CC, reduceIte, Nat.reduceEqDiff, Nat.reduceAdd, Nat.reduceLeDiff, Nat.reduceLT, Int.reduceLE, Int.reduceLT, Int.reduceAdd, Int.reduceSub, Int.reduceToNat, Nat.reduceMul, ratC]
  refine f_ret _ _ _ ?_
  simp (maxSteps := 1000000) (disch := first | omega | (simp only [LL]; omega)) only [W, V, TY, CC, reduceIte, Nat.reduceEqDiff, Nat.reduceAdd, Nat.reduceLeDiff, Nat.reduceLT, Int.reduceLE, Int.reduceLT, Int.reduceAdd, Int.reduceSub, Int.reduceToNat, Nat.reduceMul, ratC]
open Classical in
noncomputable def bigB (ww : List (List Int)) : Bool := decide (∃ i, i < ww.length ∧ 20 < (ww.getD i []).length)
def bigW (ww : List (List Int)) : Prop := ∃ i, i < ww.length ∧ 20 < (ww.getD i []).length
/-- examboard/examboardlaw18.large -/
def b20 : AF := ⟨16, 1, [.tmp 2],
  (.seq (.reg [
    ⟨some 2, .assign (.const (.bool false)), none⟩])
  (.seq (.seq (.reg [
    ⟨some 3, .assign (.const (.int .i64 0)), none⟩])
  (.block 0 (.loop (.seq (.seq (.reg [
    ⟨some 4, .move (.tmp 3), none⟩,
    ⟨some 5, .move (.tmp 0), none⟩,
    ⟨some 6, .call ⟨(.builtin .len), #[(.tmp 5)], #[30]⟩, none⟩,
    ⟨some 7, .binOp .lss 3 (.tmp 4) (.tmp 6) 3, none⟩])
  (.cond (.tmp 7)
    .skip
    (.exit 0)))
  (.seq (.block 1 (.seq (.reg [
    ⟨some 10, .move (.tmp 0), none⟩,
    ⟨some 11, .move (.tmp 3), none⟩,
    ⟨some 12, .indexAddr 30 (.tmp 10) (.tmp 11), none⟩,
    ⟨some 13, .load 36 (.tmp 12), none⟩,
    ⟨some 14, .call ⟨(.builtin .len), #[(.tmp 13)], #[36]⟩, none⟩,
    ⟨some 15, .binOp .gtr 3 (.tmp 14) (.const (.int .i64 20)) 3, none⟩])
  (.cond (.tmp 15)
    (.seq (.reg [
      ⟨some 2, .assign (.const (.bool true)), none⟩])
    .ret)
    .skip)))
  (.reg [
    ⟨some 8, .move (.tmp 3), none⟩,
    ⟨some 9, .binOp .add 3 (.tmp 8) (.const (.int .i64 1)) 3, none⟩,
    ⟨some 3, .assign (.tmp 9), none⟩]))))))
  (.seq (.reg [
    ⟨some 2, .assign (.const (.bool false)), none⟩])
  .ret)))⟩
theorem c20 : fcomp Try.prog 20 = ⟨b20.n, b20.np, b20.res, b20.body.bare⟩ := by kernel_rfl
theorem k20 : fok Try.prog 20 = true := by kernel_rfl
theorem law_large (ww : List (List Int)) (hb : ww.length ≤ 9223372036854775807) : AFun Try.prog 20 [.one (natsD ww)] [.one (.lit (.bool (bigB ww)))] := by
  refine afun_intro mo_ _ _ c20 k20 _ _ rfl (by decide) ?_
  unfold b20
  simp (maxSteps := 1000000) (disch := first | omega | (simp only [LL]; omega)) only [W, V, TY, CC, reduceIte, Nat.reduceEqDiff, Nat.reduceAdd, Nat.reduceLeDiff, Nat.reduceLT, Int.reduceLE, Int.reduceLT, Int.reduceAdd, Int.reduceSub, Int.reduceToNat, Nat.reduceMul]
  refine w_loop (fun n s => ∃ i : Nat, n + i = ww.length ∧ s.t 0 = .one (.dt (natsD ww)) ∧ s.t 3 = .one (.dt (.lit (.int .i64 i))) ∧ ∀ j, j < i → (ww.getD j []).length ≤ 20) ww.length ⟨0, rfl, ?_, ?_, fun j hj => by omega⟩ ?_
  · simp (maxSteps := 1000000) (disch := first | omega | (simp only [LL]; omega)) only [W, V, TY, CC, reduceIte, Nat.reduceEqDiff, Nat.reduceAdd, Nat.reduceLeDiff, Nat.reduceLT, Int.reduceLE, Int.reduceLT, Int.reduceAdd, Int.reduceSub, Int.reduceToNat, Nat.reduceMul]
  · simp (maxSteps := 1000000) (disch := first | omega | (simp only [LL]; omega)) only [W, V, TY, CC, reduceIte, Nat.reduceEqDiff, Nat.reduceAdd, Nat.reduceLeDiff, Nat.reduceLT, Int.reduceLE, Int.reduceLT, Int.reduceAdd, Int.reduceSub, Int.reduceToNat, Nat.reduceMul]
  intro n s _ ⟨i, e, t0, t3, hlo⟩
  simp (maxSteps := 1000000) (disch := first | omega | (simp only [LL]; omega)) only [W, V, TY, CC, reduceIte, Nat.reduceEqDiff, Nat.reduceAdd, Nat.reduceLeDiff, Nat.reduceLT, Int.reduceLE, Int.reduceLT, Int.reduceAdd, Int.reduceSub, Int.reduceToNat, Nat.reduceMul, t0, t3]
  refine c_split (fun hi => ?_) (fun hi => ?_)
  · simp (maxSteps := 1000000) (disch := first | omega | (simp only [LL]; omega)) only [W, V, TY, CC, reduceIte, Nat.reduceEqDiff, Nat.reduceAdd, Nat.reduceLeDiff, Nat.reduceLT, Int.reduceLE, Int.reduceLT, Int.reduceAdd, Int.reduceSub, Int.reduceToNat, Nat.reduceMul, t0, t3]
    refine c_split (fun hc => ?_) (fun hc => ?_)
    · have hh : bigW ww := ⟨i, by omega, by omega⟩
      rw [show bigB ww = true from decide_eq_true hh]
      simp (maxSteps := 1000000) (disch := first | omega | (simp only [LL]; omega)) only [W, V, TY, CC, reduceIte, Nat.reduceEqDiff, Nat.reduceAdd, Nat.reduceLeDiff, Nat.reduceLT, Int.reduceLE, Int.reduceLT, Int.reduceAdd, Int.reduceSub, Int.reduceToNat, Nat.reduceMul]
      refine f_ret _ _ _ ?_
      simp (maxSteps := 1000000) (disch := first | omega | (simp only [LL]; omega)) only [W, V, TY, CC, reduceIte, Nat.reduceEqDiff, Nat.reduceAdd, Nat.reduceLeDiff, Nat.reduceLT, Int.reduceLE, Int.reduceLT, Int.reduceAdd, Int.reduceSub, Int.reduceToNat, Nat.reduceMul]
    · simp (maxSteps := 1000000) (disch := first | omega | (simp only [LL]; omega)) only [W, V, TY, CC, reduceIte, Nat.reduceEqDiff, Nat.reduceAdd, Nat.reduceLeDiff, Nat.reduceLT, Int.reduceLE, Int.reduceLT, Int.reduceAdd, Int.reduceSub, Int.reduceToNat, Nat.reduceMul, t0, t3]
      refine ⟨n - 1, by omega, i + 1, by omega, rfl, fun j hj => ?_⟩
      rcases Nat.lt_or_ge j i with h | h
      · exact hlo j h
      · have : j = i := by omega
        subst this
        omega
  · have hh : ¬ bigW ww := fun ⟨j, hj, hn⟩ => by have := hlo j (by omega); omega
    rw [show bigB ww = false from decide_eq_false hh]
    simp (maxSteps := 1000000) (disch := first | omega | (simp only [LL]; omega)) only [W, V, TY, CC, reduceIte, Nat.reduceEqDiff, Nat.reduceAdd, Nat.reduceLeDiff, Nat.reduceLT, Int.reduceLE, Int.reduceLT, Int.reduceAdd, Int.reduceSub, Int.reduceToNat, Nat.reduceMul, t0, t3]
    refine f_ret _ _ _ ?_
    simp (maxSteps := 1000000) (disch := first | omega | (simp only [LL]; omega)) only [W, V, TY, CC, reduceIte, Nat.reduceEqDiff, Nat.reduceAdd, Nat.reduceLeDiff, Nat.reduceLT, Int.reduceLE, Int.reduceLT, Int.reduceAdd, Int.reduceSub, Int.reduceToNat, Nat.reduceMul]
/-- examboard/examboardlaw18.same -/
def b23 : AF := ⟨28, 2, [.tmp 4],
  (.seq (.reg [
    ⟨some 2, .box 41 (.tmp 0), none⟩,
    ⟨some 3, .box 41 (.tmp 1), none⟩,
    ⟨some 4, .assign (.const (.bool false)), none⟩])
  (.seq (.reg [
    ⟨some 5, .fieldAddr 41 (.tmp 2) 0, none⟩,
    ⟨some 6, .fieldAddr 39 (.tmp 5) 0, none⟩,
    ⟨some 7, .load 4 (.tmp 6), none⟩,
    ⟨some 8, .fieldAddr 41 (.tmp 3) 0, none⟩,
    ⟨some 9, .fieldAddr 39 (.tmp 8) 0, none⟩,
    ⟨some 10, .load 4 (.tmp 9), none⟩,
    ⟨some 11, .binOp .eql 4 (.tmp 7) (.tmp 10) 4, none⟩,
    ⟨some 12, .move (.tmp 11), none⟩,
    ⟨some 13, .fieldAddr 41 (.tmp 2) 0, some (12, true)⟩,
    ⟨some 14, .fieldAddr 39 (.tmp 13) 1, some (12, true)⟩,
    ⟨some 15, .load 36 (.tmp 14), some (12, true)⟩,
    ⟨some 16, .fieldAddr 41 (.tmp 3) 0, some (12, true)⟩,
    ⟨some 17, .fieldAddr 39 (.tmp 16) 1, some (12, true)⟩,
    ⟨some 18, .load 36 (.tmp 17), some (12, true)⟩,
    ⟨some 19, .call ⟨(.value (.func 17)), #[(.tmp 15), (.tmp 18)], #[36, 36]⟩, some (12, true)⟩,
    ⟨some 20, .pick (.tmp 12) (.tmp 19) (.const (.bool false)), none⟩,
    ⟨some 21, .move (.tmp 20), none⟩,
    ⟨some 22, .fieldAddr 41 (.tmp 2) 1, some (21, true)⟩,
    ⟨some 23, .load 36 (.tmp 22), some (21, true)⟩,
    ⟨some 24, .fieldAddr 41 (.tmp 3) 1, some (21, true)⟩,
    ⟨some 25, .load 36 (.tmp 24), some (21, true)⟩,
    ⟨some 26, .call ⟨(.value (.func 17)), #[(.tmp 23), (.tmp 25)], #[36, 36]⟩, some (21, true)⟩,
    ⟨some 27, .pick (.tmp 21) (.tmp 26) (.const (.bool false)), none⟩,
    ⟨some 4, .assign (.tmp 27), none⟩])
  .ret))⟩
theorem c23 : fcomp Try.prog 23 = ⟨b23.n, b23.np, b23.res, b23.body.bare⟩ := by kernel_rfl
theorem k23 : fok Try.prog 23 = true := by kernel_rfl
theorem law_same (q : Rat) (hq : qs q < 68719476730) : AFun Try.prog 23 [.agg (ratC q), .agg (ratC q)] [.one (.lit (.bool true))] := by
  refine afun_intro mo_ _ _ c23 k23 _ _ rfl (by decide) ?_
  unfold b23
  have h1 := qs_num q
  have h2 := qs_den q
  have hb : ∀ b : Bool, (b == b) = true := fun b => by cases b <;> rfl
  simp (maxSteps := 1000000) (disch := first | omega | (simp only [LL]; omega)) only [W, V, TY, CC, reduceIte, Nat.reduceEqDiff, Nat.reduceAdd, Nat.reduceLeDiff, Nat.reduceLT, Int.reduceLE, Int.reduceLT, Int.reduceAdd, Int.reduceSub, Int.reduceToNat, Nat.reduceMul, ratC, hb]
  refine a_call _ _ (law_limbs (nl q.num.natAbs) (nl q.num.natAbs) (by omega)) (by simp (maxSteps := 1000000) (disch := first | omega | (simp only [LL]; omega)) only [W, V, TY, CC, reduceIte, Nat.reduceEqDiff, Nat.reduceAdd, Nat.reduceLeDiff, Nat.reduceLT, Int.reduceLE, Int.reduceLT, Int.reduceAdd, Int.reduceSub, Int.reduceToNat, Nat.reduceMul]) ?_
  simp (maxSteps := 1000000) (disch := first | omega | (simp only [LL]; omega)) only [W, V, TY, CC, reduceIte, Nat.reduceEqDiff, Nat.reduceAdd, Nat.reduceLeDiff, Nat.reduceLT, Int.reduceLE, Int.reduceLT, Int.reduceAdd, Int.reduceSub, Int.reduceToNat, Nat.reduceMul]
  refine a_call _ _ (law_limbs (nl q.den) (nl q.den) (by omega)) (by simp (maxSteps := 1000000) (disch := first | omega | (simp only [LL]; omega)) only [W, V, TY, CC, reduceIte, Nat.reduceEqDiff, Nat.reduceAdd, Nat.reduceLeDiff, Nat.reduceLT, Int.reduceLE, Int.reduceLT, Int.reduceAdd, Int.reduceSub, Int.reduceToNat, Nat.reduceMul]) ?_
  simp (maxSteps := 1000000) (disch := first | omega | (simp only [LL]; omega)) only [W, V, TY, CC, reduceIte, Nat.reduceEqDiff, Nat.reduceAdd, Nat.reduceLeDiff, Nat.reduceLT, Int.reduceLE, Int.reduceLT, Int.reduceAdd, Int.reduceSub, Int.reduceToNat, Nat.reduceMul]
  refine f_ret _ _ _ ?_
  simp (maxSteps := 1000000) (disch := first | omega | (simp only [LL]; omega)) only [W, V, TY, CC, reduceIte, Nat.reduceEqDiff, Nat.reduceAdd, Nat.reduceLeDiff, Nat.reduceLT, Int.reduceLE, Int.reduceLT, Int.reduceAdd, Int.reduceSub, Int.reduceToNat, Nat.reduceMul]
end Go.Proofs.Ytnlmfdojnacofaa.E

set_option linter.unusedSimpArgs false
set_option linter.unusedVariables false
set_option maxHeartbeats 2000000
namespace Go.Proofs.Ytnlmfdojnacofaa.E
open Go.RowKit Limbs
def sumI (f : Nat → Int) : Nat → Int
  | 0 => 0
  | i + 1 => sumI f i + f i
def sumN (f : Nat → Nat) : Nat → Nat
  | 0 => 0
  | i + 1 => sumN f i + f i
/-- a point, or its square -/
def fk (k x : Int) : Int := if k = 2 then x * x else x
/-- the weighted sum of points, and the sum of the weights -/
def sW (k : Int) (p : List Int) (ww : List (List Int)) (i : Nat) : Int := sumI (fun j => (nv (ww.getD j []) : Int) * fk k (p.getD j 0)) i
def aW (ww : List (List Int)) (i : Nat) : Nat := sumN (fun j => nv (ww.getD j [])) i
theorem sW_succ (k : Int) (p : List Int) (ww : List (List Int)) (i : Nat) : sW k p ww (i + 1) = sW k p ww i + (nv (ww.getD i []) : Int) * fk k (p.getD i 0) := rfl
theorem aW_succ (ww : List (List Int)) (i : Nat) : aW ww (i + 1) = aW ww i + nv (ww.getD i []) := rfl
noncomputable def momQ (k : Int) (p : List Int) (ww : List (List Int)) : Rat := Rat.divInt (sW k p ww ww.length) (aW ww ww.length : Nat)
theorem zl_pt {x : Int} (h : -1000 ≤ x ∧ x ≤ 1000) : zl x ≤ 1 := zl_le (by show _ < 4294967296; omega)
theorem zl_sq {x : Int} (h : -1000 ≤ x ∧ x ≤ 1000) : zl (x * x) ≤ 2 := Nat.le_trans (zl_mul x x) (by have := zl_pt h; omega)
theorem zl_fk (k : Int) {x : Int} (h : -1000 ≤ x ∧ x ≤ 1000) : zl (fk k x) ≤ 2 := by
  unfold fk
  split
  · exact zl_sq h
  · exact Nat.le_trans (zl_pt h) (by decide)
theorem zl_sW (k : Int) {p : List Int} {ww : List (List Int)} (hW : LimW 20 ww) (hp : ∀ j, j < p.length → -1000 ≤ p.getD j 0 ∧ p.getD j 0 ≤ 1000) : ∀ i, i ≤ p.length → zl (sW k p ww i) ≤ 30 + i
  | 0, _ => by show zl 0 ≤ _; unfold zl; rw [show (0 : Int).natAbs = 0 from rfl, nl_zero]; simp
  | i + 1, hi => by
    have ih := zl_sW k hW hp i (by omega)
    rw [sW_succ]
    have h1 := zl_add (sW k p ww i) ((nv (ww.getD i []) : Int) * fk k (p.getD i 0))
    have h2 := zl_mul (nv (ww.getD i []) : Int) (fk k (p.getD i 0))
    have h3 := zl_fk k (hp i (by omega))
    have h4 := zl_nv (hW i).1
    have h5 := (hW i).2
    omega
theorem zl_aW {ww : List (List Int)} (hW : LimW 20 ww) : ∀ i, (nl (aW ww i)).length ≤ 30 + i
  | 0 => by show (nl 0).length ≤ _; rw [nl_zero]; simp
  | i + 1 => by
    have ih := zl_aW hW i
    rw [aW_succ]
    have h1 := zl_add (aW ww i : Nat) (nv (ww.getD i []) : Nat)
    rw [← Int.natCast_add] at h1
    have e1 := zl_nat (aW ww i)
    have e2 := zl_nat (aW ww i + nv (ww.getD i []))
    have h4 := zl_nv (hW i).1
    have h5 := (hW i).2
    omega
theorem td_set (s : AS) (d : Nat) (x : AV) (c : Ce) : toD (s.set d x) c = toD s c := by cases c <;> rfl
theorem td_setv (s : AS) (y : Nat × Nat) (cs : List Ce) (c : Ce) : toD (s.setv y cs) c = toD s c := by cases c <;> rfl
theorem td_bump (s : AS) (d : Nat) (c : Ce) : toD (s.bump d) c = toD s c := by cases c <;> rfl
theorem natD_nil : Dt.sl 0 [] = natD (nl 0) := by rw [nl_zero]; rfl
/-- examboard/grid.moment -/
def b39 : AF := ⟨54, 3, [.cell 6 41],
  (.seq (.reg [
    ⟨some 3, .box 24 (.tmp 0), none⟩,
    ⟨some 6, .alloc 41, none⟩])
  (.seq (.reg [
    ⟨some 15, .build 39 #[], none⟩,
    ⟨some 16, .buildSlice 36 0 #[], none⟩,
    ⟨some 7, .alloc 39, none⟩,
    ⟨none, .store 39 (.tmp 7) (.tmp 15), none⟩,
    ⟨some 8, .assign (.tmp 16), none⟩])
  (.seq (.seq (.seq (.gh [.frz 8])
  (.reg [
    ⟨some 17, .move (.tmp 1), none⟩,
    ⟨some 18, .call ⟨(.builtin .len), #[(.tmp 17)], #[30]⟩, none⟩,
    ⟨some 19, .move (.const (.int .i64 0)), none⟩]))
  (.block 0 (.loop (.seq (.reg [
    ⟨some 20, .binOp .lss 3 (.tmp 19) (.tmp 18) 3, none⟩])
  (.seq (.cond (.tmp 20)
    .skip
    (.exit 0))
  (.seq (.block 1 (.seq (.reg [
    ⟨some 21, .move (.tmp 19), none⟩,
    ⟨some 22, .indexAddr 30 (.tmp 17) (.tmp 19), none⟩,
    ⟨some 23, .load 36 (.tmp 22), none⟩,
    ⟨some 9, .assign (.tmp 21), none⟩,
    ⟨some 10, .assign (.tmp 23), none⟩])
  (.seq (.reg [
    ⟨some 24, .fieldAddr 24 (.tmp 3) 0, none⟩,
    ⟨some 25, .load 22 (.tmp 24), none⟩,
    ⟨some 26, .move (.tmp 9), none⟩,
    ⟨some 27, .indexAddr 22 (.tmp 25) (.tmp 26), none⟩,
    ⟨some 28, .load 3 (.tmp 27), none⟩,
    ⟨some 29, .call ⟨(.value (.func 47)), #[(.tmp 28)], #[2]⟩, none⟩,
    ⟨some 11, .alloc 39, none⟩,
    ⟨none, .store 39 (.tmp 11) (.tmp 29), none⟩])
  (.seq (.dreg [
    ⟨some 30, .move (.tmp 10), none⟩,
    ⟨some 31, .call ⟨(.value (.func 64)), #[(.const (.bool false)), (.tmp 30)], #[4, 36]⟩, none⟩,
    ⟨some 32, .load 39 (.tmp 11), none⟩,
    ⟨some 33, .call ⟨(.value (.func 52)), #[(.tmp 31), (.tmp 32)], #[39, 39]⟩, none⟩,
    ⟨some 12, .alloc 39, none⟩,
    ⟨none, .store 39 (.tmp 12) (.tmp 33), none⟩])
  (.seq (.seq (.reg [
    ⟨some 34, .move (.tmp 2), none⟩,
    ⟨some 35, .binOp .eql 3 (.tmp 34) (.const (.int .i64 2)) 3, none⟩])
  (.cond (.tmp 35)
    (.reg [
      ⟨some 36, .load 39 (.tmp 12), none⟩,
      ⟨some 37, .load 39 (.tmp 11), none⟩,
      ⟨some 38, .call ⟨(.value (.func 52)), #[(.tmp 36), (.tmp 37)], #[39, 39]⟩, none⟩,
      ⟨none, .store 39 (.tmp 12) (.tmp 38), none⟩])
    .skip))
  (.seq (.reg [
    ⟨some 39, .load 39 (.tmp 7), none⟩,
    ⟨some 40, .load 39 (.tmp 12), none⟩,
    ⟨some 41, .call ⟨(.value (.func 65)), #[(.tmp 39), (.tmp 40)], #[39, 39]⟩, none⟩,
    ⟨none, .store 39 (.tmp 7) (.tmp 41), none⟩])
  (.reg [
    ⟨some 42, .move (.tmp 8), none⟩,
    ⟨some 43, .move (.tmp 10), none⟩,
    ⟨some 44, .call ⟨(.value (.func 66)), #[(.tmp 42), (.tmp 43)], #[36, 36]⟩, none⟩,
    ⟨some 8, .assign (.tmp 44), none⟩])))))))
  (.reg [
    ⟨some 45, .binOp .add 3 (.tmp 19) (.const (.int .i64 1)) 3, none⟩,
    ⟨some 19, .move (.tmp 45), none⟩])))))))
  (.seq (.dreg [
    ⟨some 47, .load 39 (.tmp 7), none⟩,
    ⟨some 48, .move (.tmp 8), none⟩,
    ⟨some 49, .call ⟨(.value (.func 64)), #[(.const (.bool false)), (.tmp 48)], #[4, 36]⟩, none⟩,
    ⟨some 50, .call ⟨(.value (.func 46)), #[(.tmp 47), (.tmp 49)], #[39, 39]⟩, none⟩,
    ⟨some 46, .move (.tmp 50), none⟩,
    ⟨some 51, .extract (.tmp 46) 0, none⟩,
    ⟨some 52, .extract (.tmp 46) 1, none⟩,
    ⟨some 13, .alloc 41, none⟩,
    ⟨none, .store 41 (.tmp 13) (.tmp 51), none⟩,
    ⟨some 14, .assign (.tmp 52), none⟩])
  (.seq (.reg [
    ⟨some 53, .load 41 (.tmp 13), none⟩,
    ⟨none, .store 41 (.tmp 6) (.tmp 53), none⟩])
  .ret)))))⟩
theorem c39 : fcomp Try.prog 39 = ⟨b39.n, b39.np, b39.res, b39.body.bare⟩ := by kernel_rfl
theorem k39 : fok Try.prog 39 = true := by kernel_rfl
theorem grid_moment (p w : List Int) (ww : List (List Int)) (k : Int) (hW : LimW 20 ww) (hp : ∀ j, j < p.length → -1000 ≤ p.getD j 0 ∧ p.getD j 0 ≤ 1000) (hl : ww.length = p.length) (h21 : p.length ≤ 21) :
    AFun Try.prog 39 [.agg [intsD p, intsD w], .one (natsD ww), .one (.lit (.int .i64 k))] [.agg (ratC (momQ k p ww))] := by
  refine afun_intro mo_ _ _ c39 k39 _ _ rfl (by decide) ?_
  unfold b39
  simp (maxSteps := 1000000) (disch := first | omega | (simp only [LL]; omega)) only [W, V, TY, CC, reduceIte, Nat.reduceEqDiff, Nat.reduceAdd, Nat.reduceLeDiff, Nat.reduceLT, Int.reduceLE, Int.reduceLT, Int.reduceAdd, Int.reduceSub, Int.reduceToNat, Nat.reduceMul]
  refine w_loop (fun n s => ∃ (i : Nat) (c c' : Ce), n + i = ww.length ∧ s.t 2 = .one (.dt (.lit (.int .i64 k))) ∧ s.t 3 = .ptr (3, 0) 0 ∧ s.t 6 = .ptr (6, 0) 0 ∧ s.t 7 = .ptr (7, 0) 0 ∧ s.t 17 = .one (.dt (natsD ww)) ∧ s.t 18 = .one (.dt (.lit (.int .i64 ww.length))) ∧ s.t 19 = .one (.dt (.lit (.int .i64 i))) ∧ s.v (3, 0) = some [.dt (intsD p), .dt (intsD w)] ∧ s.v (6, 0) = some [.dt (.lit (.bool false)), .z, .z] ∧ s.f (6, 0) = false ∧ s.f (7, 0) = false ∧ s.v (7, 0) = some [.dt (.lit (.bool (decide (sW k p ww i < 0)))), c'] ∧ s.t 8 = .one c ∧ toD s c = some (natD (nl (aW ww i))) ∧ toD s c' = some (natD (nl (sW k p ww i).natAbs))) ww.length ⟨0, .row (16, 0) 0, .z, rfl, ?_, ?_, ?_, ?_, ?_, ?_, ?_, ?_, ?_, ?_, ?_, ?_, ?_, ?_, ?_⟩ ?_
  · simp (maxSteps := 1000000) (disch := first | omega | (simp only [LL]; omega)) only [W, V, TY, CC, reduceIte, Nat.reduceEqDiff, Nat.reduceAdd, Nat.reduceLeDiff, Nat.reduceLT, Int.reduceLE, Int.reduceLT, Int.reduceAdd, Int.reduceSub, Int.reduceToNat, Nat.reduceMul]
  · simp (maxSteps := 1000000) (disch := first | omega | (simp only [LL]; omega)) only [W, V, TY, CC, reduceIte, Nat.reduceEqDiff, Nat.reduceAdd, Nat.reduceLeDiff, Nat.reduceLT, Int.reduceLE, Int.reduceLT, Int.reduceAdd, Int.reduceSub, Int.reduceToNat, Nat.reduceMul]
  · simp (maxSteps := 1000000) (disch := first | omega | (simp only [LL]; omega)) only [W, V, TY, CC, reduceIte, Nat.reduceEqDiff, Nat.reduceAdd, Nat.reduceLeDiff, Nat.reduceLT, Int.reduceLE, Int.reduceLT, Int.reduceAdd, Int.reduceSub, Int.reduceToNat, Nat.reduceMul]
  · simp (maxSteps := 1000000) (disch := first | omega | (simp only [LL]; omega)) only [W, V, TY, CC, reduceIte, Nat.reduceEqDiff, Nat.reduceAdd, Nat.reduceLeDiff, Nat.reduceLT, Int.reduceLE, Int.reduceLT, Int.reduceAdd, Int.reduceSub, Int.reduceToNat, Nat.reduceMul]
  · simp (maxSteps := 1000000) (disch := first | omega | (simp only [LL]; omega)) only [W, V, TY, CC, reduceIte, Nat.reduceEqDiff, Nat.reduceAdd, Nat.reduceLeDiff, Nat.reduceLT, Int.reduceLE, Int.reduceLT, Int.reduceAdd, Int.reduceSub, Int.reduceToNat, Nat.reduceMul]
  · simp (maxSteps := 1000000) (disch := first | omega | (simp only [LL]; omega)) only [W, V, TY, CC, reduceIte, Nat.reduceEqDiff, Nat.reduceAdd, Nat.reduceLeDiff, Nat.reduceLT, Int.reduceLE, Int.reduceLT, Int.reduceAdd, Int.reduceSub, Int.reduceToNat, Nat.reduceMul]
  · simp (maxSteps := 1000000) (disch := first | omega | (simp only [LL]; omega)) only [W, V, TY, CC, reduceIte, Nat.reduceEqDiff, Nat.reduceAdd, Nat.reduceLeDiff, Nat.reduceLT, Int.reduceLE, Int.reduceLT, Int.reduceAdd, Int.reduceSub, Int.reduceToNat, Nat.reduceMul]
  · simp (maxSteps := 1000000) (disch := first | omega | (simp only [LL]; omega)) only [W, V, TY, CC, reduceIte, Nat.reduceEqDiff, Nat.reduceAdd, Nat.reduceLeDiff, Nat.reduceLT, Int.reduceLE, Int.reduceLT, Int.reduceAdd, Int.reduceSub, Int.reduceToNat, Nat.reduceMul]
  · simp (maxSteps := 1000000) (disch := first | omega | (simp only [LL]; omega)) only [W, V, TY, CC, reduceIte, Nat.reduceEqDiff, Nat.reduceAdd, Nat.reduceLeDiff, Nat.reduceLT, Int.reduceLE, Int.reduceLT, Int.reduceAdd, Int.reduceSub, Int.reduceToNat, Nat.reduceMul]
  · simp (maxSteps := 1000000) (disch := first | omega | (simp only [LL]; omega)) only [W, V, TY, CC, reduceIte, Nat.reduceEqDiff, Nat.reduceAdd, Nat.reduceLeDiff, Nat.reduceLT, Int.reduceLE, Int.reduceLT, Int.reduceAdd, Int.reduceSub, Int.reduceToNat, Nat.reduceMul]
  · simp (maxSteps := 1000000) (disch := first | omega | (simp only [LL]; omega)) only [W, V, TY, CC, reduceIte, Nat.reduceEqDiff, Nat.reduceAdd, Nat.reduceLeDiff, Nat.reduceLT, Int.reduceLE, Int.reduceLT, Int.reduceAdd, Int.reduceSub, Int.reduceToNat, Nat.reduceMul]
  · simp (maxSteps := 1000000) (disch := first | omega | (simp only [LL]; omega)) only [W, V, TY, CC, reduceIte, Nat.reduceEqDiff, Nat.reduceAdd, Nat.reduceLeDiff, Nat.reduceLT, Int.reduceLE, Int.reduceLT, Int.reduceAdd, Int.reduceSub, Int.reduceToNat, Nat.reduceMul]
    rfl
  · simp (maxSteps := 1000000) (disch := first | omega | (simp only [LL]; omega)) only [W, V, TY, CC, reduceIte, Nat.reduceEqDiff, Nat.reduceAdd, Nat.reduceLeDiff, Nat.reduceLT, Int.reduceLE, Int.reduceLT, Int.reduceAdd, Int.reduceSub, Int.reduceToNat, Nat.reduceMul]
  · simp (maxSteps := 1000000) (disch := first | omega | (simp only [LL]; omega)) only [W, V, TY, CC, reduceIte, Nat.reduceEqDiff, Nat.reduceAdd, Nat.reduceLeDiff, Nat.reduceLT, Int.reduceLE, Int.reduceLT, Int.reduceAdd, Int.reduceSub, Int.reduceToNat, Nat.reduceMul]
    exact natD_nil
  · simp (maxSteps := 1000000) (disch := first | omega | (simp only [LL]; omega)) only [W, V, TY, CC, reduceIte, Nat.reduceEqDiff, Nat.reduceAdd, Nat.reduceLeDiff, Nat.reduceLT, Int.reduceLE, Int.reduceLT, Int.reduceAdd, Int.reduceSub, Int.reduceToNat, Nat.reduceMul]
    exact natD_nil
  intro n s hwf ⟨i, c, c', e, t2, t3, t6, t7, t17, t18, t19, v3, v6, f6, f7, v7, t8, hc, hc'⟩
  have f11 := (hwf 11 (s.g 11) (Nat.le_refl _)).2.2
  have f12 := (hwf 12 (s.g 12) (Nat.le_refl _)).2.2
  have f13 := (hwf 13 (s.g 13) (Nat.le_refl _)).2.2
  simp (maxSteps := 1000000) (disch := first | omega | (simp only [LL]; omega)) only [W, V, TY, CC, reduceIte, Nat.reduceEqDiff, Nat.reduceAdd, Nat.reduceLeDiff, Nat.reduceLT, Int.reduceLE, Int.reduceLT, Int.reduceAdd, Int.reduceSub, Int.reduceToNat, Nat.reduceMul, t18, t19]
  refine c_split (fun hi => ?_) (fun hi => ?_)
  · have hil : i < p.length := by omega
    obtain ⟨w1, w2⟩ := hW i
    have b1 := hp i hil
    have z1 := zl_pt b1
    have z2 := zl_nv w1
    have z3 := zl_sW k hW hp i (by omega)
    have z4 := zl_aW hW i
    have z5 := zl_mul (nv (ww.getD i []) : Int) (p.getD i 0)
    have z6 := zl_mul ((nv (ww.getD i []) : Int) * p.getD i 0) (p.getD i 0)
    have z7 := zl_nat (nv (ww.getD i []))
    have hS := sW_succ k p ww i
    have hA := aW_succ ww i
    generalize hX : p.getD i 0 = x at *
    generalize hT : (nv (ww.getD i []) : Int) * x = tt at *
    simp (maxSteps := 1000000) (disch := first | omega | (simp only [LL]; omega)) only [W, V, TY, CC, reduceIte, Nat.reduceEqDiff, Nat.reduceAdd, Nat.reduceLeDiff, Nat.reduceLT, Int.reduceLE, Int.reduceLT, Int.reduceAdd, Int.reduceSub, Int.reduceToNat, Nat.reduceMul, t2, t3, t7, t17, t18, t19, v3, hX]
    refine a_call _ _ (int_Of x (by omega) (by omega)) (by simp (maxSteps := 1000000) (disch := first | omega | (simp only [LL]; omega)) only [W, V, TY, CC, reduceIte, Nat.reduceEqDiff, Nat.reduceAdd, Nat.reduceLeDiff, Nat.reduceLT, Int.reduceLE, Int.reduceLT, Int.reduceAdd, Int.reduceSub, Int.reduceToNat, Nat.reduceMul, t2, t3, t7, t17, t18, t19, v3, hX]) ?_
    simp (maxSteps := 1000000) (disch := first | omega | (simp only [LL]; omega)) only [W, V, TY, CC, reduceIte, Nat.reduceEqDiff, Nat.reduceAdd, Nat.reduceLeDiff, Nat.reduceLT, Int.reduceLE, Int.reduceLT, Int.reduceAdd, Int.reduceSub, Int.reduceToNat, Nat.reduceMul, t2, t3, t7, t17, t18, t19, v3, hX, intC, f11]
    refine a_call _ _ (int_Make false (ww.getD i []) w1 (by omega)) (by simp (maxSteps := 1000000) (disch := first | omega | (simp only [LL]; omega)) only [W, V, TY, CC, reduceIte, Nat.reduceEqDiff, Nat.reduceAdd, Nat.reduceLeDiff, Nat.reduceLT, Int.reduceLE, Int.reduceLT, Int.reduceAdd, Int.reduceSub, Int.reduceToNat, Nat.reduceMul, t2, t3, t7, t17, t18, t19, v3, hX, intC, f11]) ?_
    rw [show iv false (ww.getD i []) = ((nv (ww.getD i []) : Nat) : Int) from rfl]
    simp (maxSteps := 1000000) (disch := first | omega | (simp only [LL]; omega)) only [W, V, TY, CC, reduceIte, Nat.reduceEqDiff, Nat.reduceAdd, Nat.reduceLeDiff, Nat.reduceLT, Int.reduceLE, Int.reduceLT, Int.reduceAdd, Int.reduceSub, Int.reduceToNat, Nat.reduceMul, t2, t3, t7, t17, t18, t19, v3, intC_nat, f11]
    refine a_call _ _ (int_Mul false (decide (x < 0)) (nl (nv (ww.getD i []))) (nl x.natAbs) (nl_lim _) (nl_lim _) (by omega) (show zl x < _ by omega)) (by simp (maxSteps := 1000000) (disch := first | omega | (simp only [LL]; omega)) only [W, V, TY, CC, reduceIte, Nat.reduceEqDiff, Nat.reduceAdd, Nat.reduceLeDiff, Nat.reduceLT, Int.reduceLE, Int.reduceLT, Int.reduceAdd, Int.reduceSub, Int.reduceToNat, Nat.reduceMul, t2, t3, t7, t17, t18, t19, v3, f11]) ?_
    rw [iv_nat, iv_nl, hT]
    simp (maxSteps := 1000000) (disch := first | omega | (simp only [LL]; omega)) only [W, V, TY, CC, reduceIte, Nat.reduceEqDiff, Nat.reduceAdd, Nat.reduceLeDiff, Nat.reduceLT, Int.reduceLE, Int.reduceLT, Int.reduceAdd, Int.reduceSub, Int.reduceToNat, Nat.reduceMul, t2, t3, t7, t17, t18, t19, v3, intC, f11, f12]
    have fin : ∀ y, y = (nv (ww.getD i []) : Int) * fk k x → zl y ≤ 23 → sW k p ww i + y = sW k p ww (i + 1) := fun y h1 _ => by rw [hS, h1]
    refine c_split (fun hk => ?_) (fun hk => ?_)
    · have e1 : tt * x = (nv (ww.getD i []) : Int) * fk k x := by unfold fk; rw [if_pos hk, ← hT, Int.mul_assoc]
      generalize hY : tt * x = y at *
      have z8 := zl_add (sW k p ww i) y
      have hf := fin y e1 (by omega)
      simp (maxSteps := 1000000) (disch := first | omega | (simp only [LL]; omega)) only [W, V, TY, CC, reduceIte, Nat.reduceEqDiff, Nat.reduceAdd, Nat.reduceLeDiff, Nat.reduceLT, Int.reduceLE, Int.reduceLT, Int.reduceAdd, Int.reduceSub, Int.reduceToNat, Nat.reduceMul, t2, t3, t7, t17, t18, t19, v3, f11, f12]
      refine a_call _ _ (int_Mul (decide (tt < 0)) (decide (x < 0)) (nl tt.natAbs) (nl x.natAbs) (nl_lim _) (nl_lim _) (show zl tt < _ by omega) (show zl x < _ by omega)) (by simp (maxSteps := 1000000) (disch := first | omega | (simp only [LL]; omega)) only [W, V, TY, CC, reduceIte, Nat.reduceEqDiff, Nat.reduceAdd, Nat.reduceLeDiff, Nat.reduceLT, Int.reduceLE, Int.reduceLT, Int.reduceAdd, Int.reduceSub, Int.reduceToNat, Nat.reduceMul, t2, t3, t7, t17, t18, t19, v3, f11, f12]) ?_
      rw [iv_nl, iv_nl, hY]
      simp (maxSteps := 1000000) (disch := first | omega | (simp only [LL]; omega)) only [W, V, TY, CC, reduceIte, Nat.reduceEqDiff, Nat.reduceAdd, Nat.reduceLeDiff, Nat.reduceLT, Int.reduceLE, Int.reduceLT, Int.reduceAdd, Int.reduceSub, Int.reduceToNat, Nat.reduceMul, t2, t3, t7, t17, t18, t19, v3, v7, intC, f11, f12, f7]
      refine a_call _ _ (int_Add (decide (sW k p ww i < 0)) (decide (y < 0)) (nl (sW k p ww i).natAbs) (nl y.natAbs) (nl_lim _) (nl_lim _) (show zl (sW k p ww i) < _ by omega) (show zl y < _ by omega)) (by simp (maxSteps := 1000000) (disch := first | omega | (simp only [LL]; omega)) only [W, V, TY, CC, reduceIte, Nat.reduceEqDiff, Nat.reduceAdd, Nat.reduceLeDiff, Nat.reduceLT, Int.reduceLE, Int.reduceLT, Int.reduceAdd, Int.reduceSub, Int.reduceToNat, Nat.reduceMul, t2, t3, t7, t17, t18, t19, v3, v7, f11, f12, f7, hc', td_set, td_setv, td_bump]) ?_
      rw [iv_nl, iv_nl, hf]
      simp (maxSteps := 1000000) (disch := first | omega | (simp only [LL]; omega)) only [W, V, TY, CC, reduceIte, Nat.reduceEqDiff, Nat.reduceAdd, Nat.reduceLeDiff, Nat.reduceLT, Int.reduceLE, Int.reduceLT, Int.reduceAdd, Int.reduceSub, Int.reduceToNat, Nat.reduceMul, t2, t3, t7, t17, t18, t19, v3, v7, intC, f11, f12, f7, t8]
      refine a_call _ _ (nat_Add (nl (aW ww i)) (ww.getD i []) (nl_lim _) w1 (by omega) (by omega)) (by simp (maxSteps := 1000000) (disch := first | omega | (simp only [LL]; omega)) only [W, V, TY, CC, reduceIte, Nat.reduceEqDiff, Nat.reduceAdd, Nat.reduceLeDiff, Nat.reduceLT, Int.reduceLE, Int.reduceLT, Int.reduceAdd, Int.reduceSub, Int.reduceToNat, Nat.reduceMul, t2, t3, t7, t17, t18, t19, v3, v7, f11, f12, f7, t8, hc, td_set, td_setv, td_bump]) ?_
      rw [nv_nl, ← hA]
      simp (maxSteps := 1000000) (disch := first | omega | (simp only [LL]; omega)) only [W, V, TY, CC, reduceIte, Nat.reduceEqDiff, Nat.reduceAdd, Nat.reduceLeDiff, Nat.reduceLT, Int.reduceLE, Int.reduceLT, Int.reduceAdd, Int.reduceSub, Int.reduceToNat, Nat.reduceMul, t2, t3, t6, t7, t17, t18, t19, v3, v6, f6, v7, f11, f12, f7, t8]
      exact ⟨n - 1, by omega, i + 1, _, _, by omega, rfl, rfl, rfl, rfl, rfl⟩
    · have e1 : tt = (nv (ww.getD i []) : Int) * fk k x := by unfold fk; rw [if_neg hk, ← hT]
      have z8 := zl_add (sW k p ww i) tt
      have hf := fin tt e1 (by omega)
      simp (maxSteps := 1000000) (disch := first | omega | (simp only [LL]; omega)) only [W, V, TY, CC, reduceIte, Nat.reduceEqDiff, Nat.reduceAdd, Nat.reduceLeDiff, Nat.reduceLT, Int.reduceLE, Int.reduceLT, Int.reduceAdd, Int.reduceSub, Int.reduceToNat, Nat.reduceMul, t2, t3, t7, t17, t18, t19, v3, v7, intC, f11, f12, f7]
      refine a_call _ _ (int_Add (decide (sW k p ww i < 0)) (decide (tt < 0)) (nl (sW k p ww i).natAbs) (nl tt.natAbs) (nl_lim _) (nl_lim _) (show zl (sW k p ww i) < _ by omega) (show zl tt < _ by omega)) (by simp (maxSteps := 1000000) (disch := first | omega | (simp only [LL]; omega)) only [W, V, TY, CC, reduceIte, Nat.reduceEqDiff, Nat.reduceAdd, Nat.reduceLeDiff, Nat.reduceLT, Int.reduceLE, Int.reduceLT, Int.reduceAdd, Int.reduceSub, Int.reduceToNat, Nat.reduceMul, t2, t3, t7, t17, t18, t19, v3, v7, f11, f12, f7, hc', td_set, td_setv, td_bump]) ?_
      rw [iv_nl, iv_nl, hf]
      simp (maxSteps := 1000000) (disch := first | omega | (simp only [LL]; omega)) only [W, V, TY, CC, reduceIte, Nat.reduceEqDiff, Nat.reduceAdd, Nat.reduceLeDiff, Nat.reduceLT, Int.reduceLE, Int.reduceLT, Int.reduceAdd, Int.reduceSub, Int.reduceToNat, Nat.reduceMul, t2, t3, t7, t17, t18, t19, v3, v7, intC, f11, f12, f7, t8]
      refine a_call _ _ (nat_Add (nl (aW ww i)) (ww.getD i []) (nl_lim _) w1 (by omega) (by omega)) (by simp (maxSteps := 1000000) (disch := first | omega | (simp only [LL]; omega)) only [W, V, TY, CC, reduceIte, Nat.reduceEqDiff, Nat.reduceAdd, Nat.reduceLeDiff, Nat.reduceLT, Int.reduceLE, Int.reduceLT, Int.reduceAdd, Int.reduceSub, Int.reduceToNat, Nat.reduceMul, t2, t3, t7, t17, t18, t19, v3, v7, f11, f12, f7, t8, hc, td_set, td_setv, td_bump]) ?_
      rw [nv_nl, ← hA]
      simp (maxSteps := 1000000) (disch := first | omega | (simp only [LL]; omega)) only [W, V, TY, CC, reduceIte, Nat.reduceEqDiff, Nat.reduceAdd, Nat.reduceLeDiff, Nat.reduceLT, Int.reduceLE, Int.reduceLT, Int.reduceAdd, Int.reduceSub, Int.reduceToNat, Nat.reduceMul, t2, t3, t6, t7, t17, t18, t19, v3, v6, f6, v7, f11, f12, f7, t8]
      exact ⟨n - 1, by omega, i + 1, _, _, by omega, rfl, rfl, rfl, rfl, rfl⟩
  · have hii : i = ww.length := by omega
    subst hii
    have z3 := zl_sW k hW hp ww.length (by omega)
    have z4 := zl_aW hW ww.length
    have z5 := zl_nat (aW ww ww.length)
    unfold momQ
    simp (maxSteps := 1000000) (disch := first | omega | (simp only [LL]; omega)) only [W, V, TY, CC, reduceIte, Nat.reduceEqDiff, Nat.reduceAdd, Nat.reduceLeDiff, Nat.reduceLT, Int.reduceLE, Int.reduceLT, Int.reduceAdd, Int.reduceSub, Int.reduceToNat, Nat.reduceMul, t2, t3, t7, t8, t17, t18, t19, v3, v7]
    refine a_call _ _ (int_Make false (nl (aW ww ww.length)) (nl_lim _) (by omega)) (by simp (maxSteps := 1000000) (disch := first | omega | (simp only [LL]; omega)) only [W, V, TY, CC, reduceIte, Nat.reduceEqDiff, Nat.reduceAdd, Nat.reduceLeDiff, Nat.reduceLT, Int.reduceLE, Int.reduceLT, Int.reduceAdd, Int.reduceSub, Int.reduceToNat, Nat.reduceMul, t8, hc, td_set, td_setv, td_bump]) ?_
    rw [iv_nat]
    simp (maxSteps := 1000000) (disch := first | omega | (simp only [LL]; omega)) only [W, V, TY, CC, reduceIte, Nat.reduceEqDiff, Nat.reduceAdd, Nat.reduceLeDiff, Nat.reduceLT, Int.reduceLE, Int.reduceLT, Int.reduceAdd, Int.reduceSub, Int.reduceToNat, Nat.reduceMul, intC_nat, t7, v7]
    refine a_call _ _ (rat_Make (decide (sW k p ww ww.length < 0)) false (nl (sW k p ww ww.length).natAbs) (nl (aW ww ww.length)) (nl_lim _) (nl_lim _) (show zl (sW k p ww ww.length) < _ by omega) (by omega)) (by simp (maxSteps := 1000000) (disch := first | omega | (simp only [LL]; omega)) only [W, V, TY, CC, reduceIte, Nat.reduceEqDiff, Nat.reduceAdd, Nat.reduceLeDiff, Nat.reduceLT, Int.reduceLE, Int.reduceLT, Int.reduceAdd, Int.reduceSub, Int.reduceToNat, Nat.reduceMul, hc', td_set, td_setv, td_bump]) ?_
    rw [iv_nl, iv_nat]
    simp (maxSteps := 1000000) (disch := first | omega | (simp only [LL]; omega)) only [W, V, TY, CC, reduceIte, Nat.reduceEqDiff, Nat.reduceAdd, Nat.reduceLeDiff, Nat.reduceLT, Int.reduceLE, Int.reduceLT, Int.reduceAdd, Int.reduceSub, Int.reduceToNat, Nat.reduceMul, ratC, f13, t6, v6, f6]
    refine f_ret _ _ _ ?_
    simp (maxSteps := 1000000) (disch := first | omega | (simp only [LL]; omega)) only [W, V, TY, CC, reduceIte, Nat.reduceEqDiff, Nat.reduceAdd, Nat.reduceLeDiff, Nat.reduceLT, Int.reduceLE, Int.reduceLT, Int.reduceAdd, Int.reduceSub, Int.reduceToNat, Nat.reduceMul, ratC, f13, t6, v6, f6]
end Go.Proofs.Ytnlmfdojnacofaa.E

set_option linter.unusedSimpArgs false
set_option linter.unusedVariables false
set_option maxHeartbeats 2000000
namespace Go.Proofs.Ytnlmfdojnacofaa.E
open Go.RowKit Limbs
/-- a row of integers in normal form -/
def icD (zs : List Int) : Dt := rowD intC zs
def icC (zs : List Int) : List Dt := rowC intC zs
theorem ic_len : ∀ x : Int, (intC x).length = 2 := fun _ => rfl
theorem ICR : (∀ {s : AS} {k : IntKind} {x : Int} (zs : List Int), 0 ≤ x → x < zs.length → idxO s 2 (.one (.dt (icD zs))) (.one (.dt (.lit (.int k x)))) = True) ∧
  (∀ {k : IntKind} {x : Int} (zs : List Int), 0 ≤ x → x < zs.length → idxV 2 (.one (.dt (icD zs))) (.one (.dt (.lit (.int k x)))) = .el (intC (zs.getD x.toNat 0))) ∧
  (∀ {s : AS} (zs : List Int), lenO s (.one (.dt (icD zs))) = True) ∧
  (∀ {s : AS} (zs : List Int), lenV s (.one (.dt (icD zs))) = .one (.dt (.lit (.int .i64 zs.length)))) ∧
  (∀ (zs : List Int) (n : Nat), n = zs.length → Dt.sl n (icC zs) = icD zs) ∧
  (∀ (zs : List Int), (icC zs).length = zs.length * 2) ∧
  (∀ (s : AS) (z : Int), acells s (.el (intC z)) = some [.dt (.lit (.bool (decide (z < 0)))), .dt (natD (nl z.natAbs))]) := by
  refine ⟨fun zs h h' => ?_, fun zs h h' => ?_, fun zs => rfl, fun zs => rfl, fun zs n h => ?_, fun zs => ?_, fun s z => rfl⟩
  · rw [show icD zs = rowD intC zs from rfl, io_rowD ic_len (by decide) zs]; simp [h, h']
  · exact iv_rowD ic_len zs 0 h h'
  · exact rowD_of zs n h
  · exact rowC_len ic_len zs
theorem icC_app1 (zs : List Int) (z : Int) : icC zs ++ [.lit (.bool (decide (z < 0))), natD (nl z.natAbs)] = icC (zs ++ [z]) := by
  show rowC intC zs ++ intC z = rowC intC (zs ++ [z])
  rw [← rowC_app]
  congr 1
/-- examboard/examboardref18.share -/
def b42 : AF := ⟨43, 2, [.cell 4 41],
  (.seq (.reg [
    ⟨some 4, .alloc 41, none⟩])
  (.seq (.reg [
    ⟨some 10, .call ⟨(.value (.func 41)), #[(.const (.int .i64 0))], #[2]⟩, none⟩,
    ⟨some 5, .alloc 39, none⟩,
    ⟨none, .store 39 (.tmp 5) (.tmp 10), none⟩])
  (.seq (.reg [
    ⟨some 6, .assign (.const (.slice none 0 0)), none⟩])
  (.seq (.seq (.reg [
    ⟨some 7, .assign (.const (.int .i64 0)), none⟩])
  (.block 0 (.loop (.seq (.seq (.reg [
    ⟨some 11, .move (.tmp 7), none⟩,
    ⟨some 12, .move (.tmp 0), none⟩,
    ⟨some 13, .call ⟨(.builtin .len), #[(.tmp 12)], #[63]⟩, none⟩,
    ⟨some 14, .binOp .lss 3 (.tmp 11) (.tmp 13) 3, none⟩])
  (.cond (.tmp 14)
    .skip
    (.exit 0)))
  (.seq (.block 1 (.seq (.dreg [
    ⟨some 17, .load 39 (.tmp 5), none⟩,
    ⟨some 18, .move (.tmp 0), none⟩,
    ⟨some 19, .move (.tmp 7), none⟩,
    ⟨some 20, .indexAddr 63 (.tmp 18) (.tmp 19), none⟩,
    ⟨some 21, .load 39 (.tmp 20), none⟩,
    ⟨some 22, .move (.tmp 1), none⟩,
    ⟨some 23, .move (.tmp 7), none⟩,
    ⟨some 24, .indexAddr 30 (.tmp 22) (.tmp 23), none⟩,
    ⟨some 25, .load 36 (.tmp 24), none⟩,
    ⟨some 26, .call ⟨(.value (.func 60)), #[(.const (.bool false)), (.tmp 25)], #[4, 36]⟩, none⟩,
    ⟨some 27, .call ⟨(.value (.func 58)), #[(.tmp 21), (.tmp 26)], #[39, 39]⟩, none⟩,
    ⟨some 28, .call ⟨(.value (.func 68)), #[(.tmp 17), (.tmp 27)], #[39, 39]⟩, none⟩,
    ⟨none, .store 39 (.tmp 5) (.tmp 28), none⟩])
  (.reg [
    ⟨some 29, .move (.tmp 6), none⟩,
    ⟨some 30, .move (.tmp 1), none⟩,
    ⟨some 31, .move (.tmp 7), none⟩,
    ⟨some 32, .indexAddr 30 (.tmp 30) (.tmp 31), none⟩,
    ⟨some 33, .load 36 (.tmp 32), none⟩,
    ⟨some 34, .call ⟨(.value (.func 69)), #[(.tmp 29), (.tmp 33)], #[36, 36]⟩, none⟩,
    ⟨some 6, .assign (.tmp 34), none⟩])))
  (.reg [
    ⟨some 15, .move (.tmp 7), none⟩,
    ⟨some 16, .binOp .add 3 (.tmp 15) (.const (.int .i64 1)) 3, none⟩,
    ⟨some 7, .assign (.tmp 16), none⟩]))))))
  (.seq (.dreg [
    ⟨some 36, .load 39 (.tmp 5), none⟩,
    ⟨some 37, .move (.tmp 6), none⟩,
    ⟨some 38, .call ⟨(.value (.func 60)), #[(.const (.bool false)), (.tmp 37)], #[4, 36]⟩, none⟩,
    ⟨some 39, .call ⟨(.value (.func 70)), #[(.tmp 36), (.tmp 38)], #[39, 39]⟩, none⟩,
    ⟨some 35, .move (.tmp 39), none⟩,
    ⟨some 40, .extract (.tmp 35) 0, none⟩,
    ⟨some 41, .extract (.tmp 35) 1, none⟩,
    ⟨some 8, .alloc 41, none⟩,
    ⟨none, .store 41 (.tmp 8) (.tmp 40), none⟩,
    ⟨some 9, .assign (.tmp 41), none⟩])
  (.seq (.reg [
    ⟨some 42, .load 41 (.tmp 8), none⟩,
    ⟨none, .store 41 (.tmp 4) (.tmp 42), none⟩])
  .ret))))))⟩
theorem c42 : fcomp Try.prog 42 = ⟨b42.n, b42.np, b42.res, b42.body.bare⟩ := by kernel_rfl
theorem k42 : fok Try.prog 42 = true := by kernel_rfl
theorem ref_share (k : Int) (p zs : List Int) (ww : List (List Int)) (hW : LimW 20 ww) (hp : ∀ j, j < p.length → -1000 ≤ p.getD j 0 ∧ p.getD j 0 ≤ 1000) (hl : ww.length = p.length) (h21 : p.length ≤ 21) (hzl : zs.length = ww.length) (hz : ∀ j, j < ww.length → zs.getD j 0 = fk k (p.getD j 0)) :
    AFun Try.prog 42 [.one (icD zs), .one (natsD ww)] [.agg (ratC (momQ k p ww))] := by
  refine afun_intro mo_ _ _ c42 k42 _ _ rfl (by decide) ?_
  unfold b42
  simp (maxSteps := 1000000) (disch := first | omega | (simp only [LL]; omega)) only [W, V, TY, CC, reduceIte, Nat.reduceEqDiff, Nat.reduceAdd, Nat.reduceLeDiff, Nat.reduceLT, Int.reduceLE, Int.reduceLT, Int.reduceAdd, Int.reduceSub, Int.reduceToNat, Nat.reduceMul]
  refine a_call _ _ (ri_Of 0 (by decide) (by decide)) (by simp (maxSteps := 1000000) (disch := first | omega | (simp only [LL]; omega)) only [W, V, TY, CC, reduceIte, Nat.reduceEqDiff, Nat.reduceAdd, Nat.reduceLeDiff, Nat.reduceLT, Int.reduceLE, Int.reduceLT, Int.reduceAdd, Int.reduceSub, Int.reduceToNat, Nat.reduceMul]) ?_
  simp (maxSteps := 1000000) (disch := first | omega | (simp only [LL]; omega)) only [W, V, TY, CC, reduceIte, Nat.reduceEqDiff, Nat.reduceAdd, Nat.reduceLeDiff, Nat.reduceLT, Int.reduceLE, Int.reduceLT, Int.reduceAdd, Int.reduceSub, Int.reduceToNat, Nat.reduceMul, intC]
  refine w_loop (fun n s => ∃ (i : Nat) (c : Ce), n + i = ww.length ∧ s.t 0 = .one (.dt (icD zs)) ∧ s.t 1 = .one (.dt (natsD ww)) ∧ s.t 4 = .ptr (4, 0) 0 ∧ s.t 5 = .ptr (5, 0) 0 ∧ s.t 7 = .one (.dt (.lit (.int .i64 i))) ∧ s.v (4, 0) = some [.dt (.lit (.bool false)), .z, .z] ∧ s.f (4, 0) = false ∧ s.f (5, 0) = false ∧ s.v (5, 0) = some [.dt (.lit (.bool (decide (sW k p ww i < 0)))), .dt (natD (nl (sW k p ww i).natAbs))] ∧ s.t 6 = .one c ∧ toD s c = some (natD (nl (aW ww i)))) ww.length ⟨0, .z, rfl, ?_, ?_, ?_, ?_, ?_, ?_, ?_, ?_, ?_, ?_, ?_⟩ ?_
  · simp (maxSteps := 1000000) (disch := first | omega | (simp only [LL]; omega)) only [W, V, TY, CC, reduceIte, Nat.reduceEqDiff, Nat.reduceAdd, Nat.reduceLeDiff, Nat.reduceLT, Int.reduceLE, Int.reduceLT, Int.reduceAdd, Int.reduceSub, Int.reduceToNat, Nat.reduceMul]
  · simp (maxSteps := 1000000) (disch := first | omega | (simp only [LL]; omega)) only [W, V, TY, CC, reduceIte, Nat.reduceEqDiff, Nat.reduceAdd, Nat.reduceLeDiff, Nat.reduceLT, Int.reduceLE, Int.reduceLT, Int.reduceAdd, Int.reduceSub, Int.reduceToNat, Nat.reduceMul]
  · simp (maxSteps := 1000000) (disch := first | omega | (simp only [LL]; omega)) only [W, V, TY, CC, reduceIte, Nat.reduceEqDiff, Nat.reduceAdd, Nat.reduceLeDiff, Nat.reduceLT, Int.reduceLE, Int.reduceLT, Int.reduceAdd, Int.reduceSub, Int.reduceToNat, Nat.reduceMul]
  · simp (maxSteps := 1000000) (disch := first | omega | (simp only [LL]; omega)) only [W, V, TY, CC, reduceIte, Nat.reduceEqDiff, Nat.reduceAdd, Nat.reduceLeDiff, Nat.reduceLT, Int.reduceLE, Int.reduceLT, Int.reduceAdd, Int.reduceSub, Int.reduceToNat, Nat.reduceMul]
  · simp (maxSteps := 1000000) (disch := first | omega | (simp only [LL]; omega)) only [W, V, TY, CC, reduceIte, Nat.reduceEqDiff, Nat.reduceAdd, Nat.reduceLeDiff, Nat.reduceLT, Int.reduceLE, Int.reduceLT, Int.reduceAdd, Int.reduceSub, Int.reduceToNat, Nat.reduceMul]
  · simp (maxSteps := 1000000) (disch := first | omega | (simp only [LL]; omega)) only [W, V, TY, CC, reduceIte, Nat.reduceEqDiff, Nat.reduceAdd, Nat.reduceLeDiff, Nat.reduceLT, Int.reduceLE, Int.reduceLT, Int.reduceAdd, Int.reduceSub, Int.reduceToNat, Nat.reduceMul]
  · simp (maxSteps := 1000000) (disch := first | omega | (simp only [LL]; omega)) only [W, V, TY, CC, reduceIte, Nat.reduceEqDiff, Nat.reduceAdd, Nat.reduceLeDiff, Nat.reduceLT, Int.reduceLE, Int.reduceLT, Int.reduceAdd, Int.reduceSub, Int.reduceToNat, Nat.reduceMul]
  · simp (maxSteps := 1000000) (disch := first | omega | (simp only [LL]; omega)) only [W, V, TY, CC, reduceIte, Nat.reduceEqDiff, Nat.reduceAdd, Nat.reduceLeDiff, Nat.reduceLT, Int.reduceLE, Int.reduceLT, Int.reduceAdd, Int.reduceSub, Int.reduceToNat, Nat.reduceMul]
  · simp (maxSteps := 1000000) (disch := first | omega | (simp only [LL]; omega)) only [W, V, TY, CC, reduceIte, Nat.reduceEqDiff, Nat.reduceAdd, Nat.reduceLeDiff, Nat.reduceLT, Int.reduceLE, Int.reduceLT, Int.reduceAdd, Int.reduceSub, Int.reduceToNat, Nat.reduceMul]
    rfl
  · simp (maxSteps := 1000000) (disch := first | omega | (simp only [LL]; omega)) only [W, V, TY, CC, reduceIte, Nat.reduceEqDiff, Nat.reduceAdd, Nat.reduceLeDiff, Nat.reduceLT, Int.reduceLE, Int.reduceLT, Int.reduceAdd, Int.reduceSub, Int.reduceToNat, Nat.reduceMul]
  · simp (maxSteps := 1000000) (disch := first | omega | (simp only [LL]; omega)) only [W, V, TY, CC, reduceIte, Nat.reduceEqDiff, Nat.reduceAdd, Nat.reduceLeDiff, Nat.reduceLT, Int.reduceLE, Int.reduceLT, Int.reduceAdd, Int.reduceSub, Int.reduceToNat, Nat.reduceMul]
    exact natD_nil
  intro n s hwf ⟨i, c, e, t0, t1, t4, t5, t7, v4, f4, f5, v5, t6, hc⟩
  have f8 := (hwf 8 (s.g 8) (Nat.le_refl _)).2.2
  simp (maxSteps := 1000000) (disch := first | omega | (simp only [LL]; omega)) only [W, V, TY, CC, reduceIte, Nat.reduceEqDiff, Nat.reduceAdd, Nat.reduceLeDiff, Nat.reduceLT, Int.reduceLE, Int.reduceLT, Int.reduceAdd, Int.reduceSub, Int.reduceToNat, Nat.reduceMul, t0, t1, t4, t5, t7, ICR]
  refine c_split (fun hi => ?_) (fun hi => ?_)
  · have hil : i < p.length := by omega
    obtain ⟨w1, w2⟩ := hW i
    have b1 := hp i hil
    have z1 := zl_fk k b1
    have z2 := zl_nv w1
    have z3 := zl_sW k hW hp i (by omega)
    have z4 := zl_aW hW i
    have z7 := zl_nat (nv (ww.getD i []))
    have hS := sW_succ k p ww i
    have hA := aW_succ ww i
    have z5 := zl_mul (fk k (p.getD i 0)) (nv (ww.getD i []) : Int)
    have hzi := hz i (by omega)
    generalize fk k (p.getD i 0) = x at *
    rw [Int.mul_comm] at hS
    generalize hT : x * (nv (ww.getD i []) : Int) = tt at *
    have z6 := zl_add (sW k p ww i) tt
    simp (maxSteps := 1000000) (disch := first | omega | (simp only [LL]; omega)) only [W, V, TY, CC, reduceIte, Nat.reduceEqDiff, Nat.reduceAdd, Nat.reduceLeDiff, Nat.reduceLT, Int.reduceLE, Int.reduceLT, Int.reduceAdd, Int.reduceSub, Int.reduceToNat, Nat.reduceMul, t0, t1, t4, t5, t7, v5, ICR, hzi]
    refine a_call _ _ (ri_Make false (ww.getD i []) w1 (by omega)) (by simp (maxSteps := 1000000) (disch := first | omega | (simp only [LL]; omega)) only [W, V, TY, CC, reduceIte, Nat.reduceEqDiff, Nat.reduceAdd, Nat.reduceLeDiff, Nat.reduceLT, Int.reduceLE, Int.reduceLT, Int.reduceAdd, Int.reduceSub, Int.reduceToNat, Nat.reduceMul, t0, t1, t4, t5, t7, v5, ICR, hzi]) ?_
    rw [show iv false (ww.getD i []) = ((nv (ww.getD i []) : Nat) : Int) from rfl]
    simp (maxSteps := 1000000) (disch := first | omega | (simp only [LL]; omega)) only [W, V, TY, CC, reduceIte, Nat.reduceEqDiff, Nat.reduceAdd, Nat.reduceLeDiff, Nat.reduceLT, Int.reduceLE, Int.reduceLT, Int.reduceAdd, Int.reduceSub, Int.reduceToNat, Nat.reduceMul, intC_nat, t0, t1, t4, t5, t7, v5]
    refine a_call _ _ (ri_Mul (decide (x < 0)) false (nl x.natAbs) (nl (nv (ww.getD i []))) (nl_lim _) (nl_lim _) (show zl x < _ by omega) (by omega)) (by simp (maxSteps := 1000000) (disch := first | omega | (simp only [LL]; omega)) only [W, V, TY, CC, reduceIte, Nat.reduceEqDiff, Nat.reduceAdd, Nat.reduceLeDiff, Nat.reduceLT, Int.reduceLE, Int.reduceLT, Int.reduceAdd, Int.reduceSub, Int.reduceToNat, Nat.reduceMul, t0, t1, t4, t5, t7, v5, ICR, hzi, intC]) ?_
    rw [iv_nl, iv_nat, hT]
    simp (maxSteps := 1000000) (disch := first | omega | (simp only [LL]; omega)) only [W, V, TY, CC, reduceIte, Nat.reduceEqDiff, Nat.reduceAdd, Nat.reduceLeDiff, Nat.reduceLT, Int.reduceLE, Int.reduceLT, Int.reduceAdd, Int.reduceSub, Int.reduceToNat, Nat.reduceMul, intC, t0, t1, t4, t5, t7, v5]
    refine a_call _ _ (ri_Add (decide (sW k p ww i < 0)) (decide (tt < 0)) (nl (sW k p ww i).natAbs) (nl tt.natAbs) (nl_lim _) (nl_lim _) (show zl (sW k p ww i) < _ by omega) (show zl tt < _ by omega)) (by simp (maxSteps := 1000000) (disch := first | omega | (simp only [LL]; omega)) only [W, V, TY, CC, reduceIte, Nat.reduceEqDiff, Nat.reduceAdd, Nat.reduceLeDiff, Nat.reduceLT, Int.reduceLE, Int.reduceLT, Int.reduceAdd, Int.reduceSub, Int.reduceToNat, Nat.reduceMul, t0, t1, t4, t5, t7, v5]) ?_
    rw [iv_nl, iv_nl, ← hS]
    simp (maxSteps := 1000000) (disch := first | omega | (simp only [LL]; omega)) only [W, V, TY, CC, reduceIte, Nat.reduceEqDiff, Nat.reduceAdd, Nat.reduceLeDiff, Nat.reduceLT, Int.reduceLE, Int.reduceLT, Int.reduceAdd, Int.reduceSub, Int.reduceToNat, Nat.reduceMul, intC, t0, t1, t4, t5, t6, t7, v5, f5, ICR]
    refine a_call _ _ (ref_Add (nl (aW ww i)) (ww.getD i []) (nl_lim _) w1 (by omega) (by omega)) (by simp (maxSteps := 1000000) (disch := first | omega | (simp only [LL]; omega)) only [W, V, TY, CC, reduceIte, Nat.reduceEqDiff, Nat.reduceAdd, Nat.reduceLeDiff, Nat.reduceLT, Int.reduceLE, Int.reduceLT, Int.reduceAdd, Int.reduceSub, Int.reduceToNat, Nat.reduceMul, t0, t1, t4, t5, t6, t7, v5, f5, hc, td_set, td_setv, td_bump]) ?_
    rw [nv_nl, ← hA]
    simp (maxSteps := 1000000) (disch := first | omega | (simp only [LL]; omega)) only [W, V, TY, CC, reduceIte, Nat.reduceEqDiff, Nat.reduceAdd, Nat.reduceLeDiff, Nat.reduceLT, Int.reduceLE, Int.reduceLT, Int.reduceAdd, Int.reduceSub, Int.reduceToNat, Nat.reduceMul, t0, t1, t4, t5, t6, t7, v4, v5, f4, f5]
    exact ⟨n - 1, by omega, i + 1, _, by omega, rfl, rfl, rfl, rfl⟩
  · have hii : i = ww.length := by omega
    subst hii
    have z3 := zl_sW k hW hp ww.length (by omega)
    have z4 := zl_aW hW ww.length
    have z5 := zl_nat (aW ww ww.length)
    unfold momQ
    simp (maxSteps := 1000000) (disch := first | omega | (simp only [LL]; omega)) only [W, V, TY, CC, reduceIte, Nat.reduceEqDiff, Nat.reduceAdd, Nat.reduceLeDiff, Nat.reduceLT, Int.reduceLE, Int.reduceLT, Int.reduceAdd, Int.reduceSub, Int.reduceToNat, Nat.reduceMul, t4, t5, t6, v5]
    refine a_call _ _ (ri_Make false (nl (aW ww ww.length)) (nl_lim _) (by omega)) (by simp (maxSteps := 1000000) (disch := first | omega | (simp only [LL]; omega)) only [W, V, TY, CC, reduceIte, Nat.reduceEqDiff, Nat.reduceAdd, Nat.reduceLeDiff, Nat.reduceLT, Int.reduceLE, Int.reduceLT, Int.reduceAdd, Int.reduceSub, Int.reduceToNat, Nat.reduceMul, t4, t5, t6, v5, hc, td_set, td_setv, td_bump]) ?_
    rw [iv_nat]
    simp (maxSteps := 1000000) (disch := first | omega | (simp only [LL]; omega)) only [W, V, TY, CC, reduceIte, Nat.reduceEqDiff, Nat.reduceAdd, Nat.reduceLeDiff, Nat.reduceLT, Int.reduceLE, Int.reduceLT, Int.reduceAdd, Int.reduceSub, Int.reduceToNat, Nat.reduceMul, intC_nat, t4, t5, t6, v5]
    refine a_call _ _ (rr_Make (decide (sW k p ww ww.length < 0)) false (nl (sW k p ww ww.length).natAbs) (nl (aW ww ww.length)) (nl_lim _) (nl_lim _) (show zl (sW k p ww ww.length) < _ by omega) (by omega)) (by simp (maxSteps := 1000000) (disch := first | omega | (simp only [LL]; omega)) only [W, V, TY, CC, reduceIte, Nat.reduceEqDiff, Nat.reduceAdd, Nat.reduceLeDiff, Nat.reduceLT, Int.reduceLE, Int.reduceLT, Int.reduceAdd, Int.reduceSub, Int.reduceToNat, Nat.reduceMul, t4, t5, t6, v5]) ?_
    rw [iv_nl, iv_nat]
    simp (maxSteps := 1000000) (disch := first | omega | (simp only [LL]; omega)) only [W, V, TY, CC, reduceIte, Nat.reduceEqDiff, Nat.reduceAdd, Nat.reduceLeDiff, Nat.reduceLT, Int.reduceLE, Int.reduceLT, Int.reduceAdd, Int.reduceSub, Int.reduceToNat, Nat.reduceMul, ratC, f8, t4, v4, f4]
    refine f_ret _ _ _ ?_
    simp (maxSteps := 1000000) (disch := first | omega | (simp only [LL]; omega)) only [W, V, TY, CC, reduceIte, Nat.reduceEqDiff, Nat.reduceAdd, Nat.reduceLeDiff, Nat.reduceLT, Int.reduceLE, Int.reduceLT, Int.reduceAdd, Int.reduceSub, Int.reduceToNat, Nat.reduceMul, ratC, f8, t4, v4, f4]
end Go.Proofs.Ytnlmfdojnacofaa.E

set_option linter.unusedSimpArgs false
set_option linter.unusedVariables false
set_option maxHeartbeats 2000000
namespace Go.Proofs.Ytnlmfdojnacofaa.E
open Go.RowKit Limbs
/-- what Mean gives -/
noncomputable def meanR (p w : List Int) (ww : List (List Int)) : List RV := if checkV p w ww = 0 then [.agg (ratC (momQ 1 p ww)), .one (.lit (.int .i64 0))] else [.agg (ratC ((0 : Int) : Rat)), .one (.lit (.int .i64 (checkV p w ww)))]
/-- what Variance gives -/
noncomputable def varR (p w : List Int) (ww : List (List Int)) : List RV := if checkV p w ww = 0 then [.agg (ratC (momQ 2 p ww - momQ 1 p ww * momQ 1 p ww)), .one (.lit (.int .i64 0))] else [.agg (ratC ((0 : Int) : Rat)), .one (.lit (.int .i64 (checkV p w ww)))]
theorem checkV_zero {p w : List Int} {ww : List (List Int)} (h : checkV p w ww = 0) : gridV p w = 0 ∧ ww.length = p.length ∧ hasW ww := by
  unfold checkV at h
  split at h
  · rename_i h1; exact absurd h h1
  · rename_i h1
    split at h
    · omega
    · rename_i h2
      split at h
      · rename_i h3; exact ⟨Classical.not_not.1 h1, by omega, h3⟩
      · omega
theorem limW_mono {a b : Nat} {ww : List (List Int)} (h : LimW a ww) (hab : a ≤ b) : LimW b ww := fun i => ⟨(h i).1, Nat.le_trans (h i).2 hab⟩
theorem qs_mom (k : Int) {p : List Int} {ww : List (List Int)} (hW : LimW 20 ww) (hp : ∀ j, j < p.length → -1000 ≤ p.getD j 0 ∧ p.getD j 0 ≤ 1000) (hl : ww.length = p.length) (h21 : p.length ≤ 21) : qs (momQ k p ww) ≤ 60 := by
  unfold momQ
  refine Nat.le_trans (qs_div _ _) ?_
  have z3 := zl_sW k hW hp ww.length (by omega)
  have z4 := zl_aW hW ww.length
  have z5 := zl_nat (aW ww ww.length)
  omega
/-- examboard/grid.Mean -/
def b21 : AF := ⟨17, 2, [.cell 4 41, .tmp 5],
  (.seq (.reg [
    ⟨some 2, .box 24 (.tmp 0), none⟩,
    ⟨some 4, .alloc 41, none⟩,
    ⟨some 5, .assign (.const (.int .i64 0)), none⟩])
  (.seq (.seq (.reg [
    ⟨some 7, .load 24 (.tmp 2), none⟩,
    ⟨some 8, .move (.tmp 1), none⟩,
    ⟨some 9, .call ⟨(.value (.func 37)), #[(.tmp 7), (.tmp 8)], #[24, 30]⟩, none⟩,
    ⟨some 6, .assign (.tmp 9), none⟩])
  (.seq (.reg [
    ⟨some 10, .move (.tmp 6), none⟩,
    ⟨some 11, .binOp .neq 25 (.tmp 10) (.const (.int .i64 0)) 25, none⟩])
  (.cond (.tmp 11)
    (.seq (.reg [
      ⟨some 12, .call ⟨(.value (.func 38)), #[(.const (.int .i64 0))], #[3]⟩, none⟩,
      ⟨some 13, .move (.tmp 6), none⟩,
      ⟨none, .store 41 (.tmp 4) (.tmp 12), none⟩,
      ⟨some 5, .assign (.tmp 13), none⟩])
    .ret)
    .skip)))
  (.seq (.reg [
    ⟨some 14, .load 24 (.tmp 2), none⟩,
    ⟨some 15, .move (.tmp 1), none⟩,
    ⟨some 16, .call ⟨(.value (.func 39)), #[(.tmp 14), (.tmp 15), (.const (.int .i64 1))], #[24, 30, 3]⟩, none⟩,
    ⟨none, .store 41 (.tmp 4) (.tmp 16), none⟩,
    ⟨some 5, .assign (.const (.int .i64 0)), none⟩])
  .ret)))⟩
theorem c21 : fcomp Try.prog 21 = ⟨b21.n, b21.np, b21.res, b21.body.bare⟩ := by kernel_rfl
theorem k21 : fok Try.prog 21 = true := by kernel_rfl
theorem grid_Mean (p w : List Int) (ww : List (List Int)) (hW : LimW 20 ww) : AFun Try.prog 21 [.agg [intsD p, intsD w], .one (natsD ww)] (meanR p w ww) := by
  refine afun_intro mo_ _ _ c21 k21 _ _ rfl (by decide) ?_
  unfold b21
  simp (maxSteps := 1000000) (disch := first | omega | (simp only [LL]; omega)) only [W, V, TY, CC, reduceIte, Nat.reduceEqDiff, Nat.reduceAdd, Nat.reduceLeDiff, Nat.reduceLT, Int.reduceLE, Int.reduceLT, Int.reduceAdd, Int.reduceSub, Int.reduceToNat, Nat.reduceMul]
  refine a_call _ _ (grid_check p w ww (limW_mono hW (by decide))) (by simp (maxSteps := 1000000) (disch := first | omega | (simp only [LL]; omega)) only [W, V, TY, CC, reduceIte, Nat.reduceEqDiff, Nat.reduceAdd, Nat.reduceLeDiff, Nat.reduceLT, Int.reduceLE, Int.reduceLT, Int.reduceAdd, Int.reduceSub, Int.reduceToNat, Nat.reduceMul]) ?_
  simp (maxSteps := 1000000) (disch := first | omega | (simp only [LL]; omega)) only [W, V, TY, CC, reduceIte, Nat.reduceEqDiff, Nat.reduceAdd, Nat.reduceLeDiff, Nat.reduceLT, Int.reduceLE, Int.reduceLT, Int.reduceAdd, Int.reduceSub, Int.reduceToNat, Nat.reduceMul]
  refine c_split (fun h => ?_) (fun h => ?_)
  · simp (maxSteps := 1000000) (disch := first | omega | (simp only [LL]; omega)) only [W, V, TY, CC, reduceIte, Nat.reduceEqDiff, Nat.reduceAdd, Nat.reduceLeDiff, Nat.reduceLT, Int.reduceLE, Int.reduceLT, Int.reduceAdd, Int.reduceSub, Int.reduceToNat, Nat.reduceMul]
    refine a_call _ _ (grid_whole 0 (by decide) (by decide)) (by simp (maxSteps := 1000000) (disch := first | omega | (simp only [LL]; omega)) only [W, V, TY, CC, reduceIte, Nat.reduceEqDiff, Nat.reduceAdd, Nat.reduceLeDiff, Nat.reduceLT, Int.reduceLE, Int.reduceLT, Int.reduceAdd, Int.reduceSub, Int.reduceToNat, Nat.reduceMul]) ?_
    simp (maxSteps := 1000000) (disch := first | omega | (simp only [LL]; omega)) only [W, V, TY, CC, reduceIte, Nat.reduceEqDiff, Nat.reduceAdd, Nat.reduceLeDiff, Nat.reduceLT, Int.reduceLE, Int.reduceLT, Int.reduceAdd, Int.reduceSub, Int.reduceToNat, Nat.reduceMul, ratC]
    refine f_ret _ _ _ ?_
    unfold meanR
    rw [if_neg h]
    simp (maxSteps := 1000000) (disch := first | omega | (simp only [LL]; omega)) only [W, V, TY, CC, reduceIte, Nat.reduceEqDiff, Nat.reduceAdd, Nat.reduceLeDiff, Nat.reduceLT, Int.reduceLE, Int.reduceLT, Int.reduceAdd, Int.reduceSub, Int.reduceToNat, Nat.reduceMul, ratC]
  · have h0 : checkV p w ww = 0 := Classical.not_not.1 h
    obtain ⟨c1, c2, c3⟩ := checkV_zero h0
    obtain ⟨g1, g2, g3, g4⟩ := gridV_zero c1
    simp (maxSteps := 1000000) (disch := first | omega | (simp only [LL]; omega)) only [W, V, TY, CC, reduceIte, Nat.reduceEqDiff, Nat.reduceAdd, Nat.reduceLeDiff, Nat.reduceLT, Int.reduceLE, Int.reduceLT, Int.reduceAdd, Int.reduceSub, Int.reduceToNat, Nat.reduceMul]
    refine a_call _ _ (grid_moment p w ww 1 hW (fun j hj => (g3 j hj).1) c2 g1) (by simp (maxSteps := 1000000) (disch := first | omega | (simp only [LL]; omega)) only [W, V, TY, CC, reduceIte, Nat.reduceEqDiff, Nat.reduceAdd, Nat.reduceLeDiff, Nat.reduceLT, Int.reduceLE, Int.reduceLT, Int.reduceAdd, Int.reduceSub, Int.reduceToNat, Nat.reduceMul]) ?_
    simp (maxSteps := 1000000) (disch := first | omega | (simp only [LL]; omega)) only [W, V, TY, CC, reduceIte, Nat.reduceEqDiff, Nat.reduceAdd, Nat.reduceLeDiff, Nat.reduceLT, Int.reduceLE, Int.reduceLT, Int.reduceAdd, Int.reduceSub, Int.reduceToNat, Nat.reduceMul, ratC]
    refine f_ret _ _ _ ?_
    unfold meanR
    rw [if_pos h0]
    simp (maxSteps := 1000000) (disch := first | omega | (simp only [LL]; omega)) only [W, V, TY, CC, reduceIte, Nat.reduceEqDiff, Nat.reduceAdd, Nat.reduceLeDiff, Nat.reduceLT, Int.reduceLE, Int.reduceLT, Int.reduceAdd, Int.reduceSub, Int.reduceToNat, Nat.reduceMul, ratC]
/-- examboard/grid.Variance -/
def b24 : AF := ⟨25, 2, [.cell 4 41, .tmp 5],
  (.seq (.reg [
    ⟨some 2, .box 24 (.tmp 0), none⟩,
    ⟨some 4, .alloc 41, none⟩,
    ⟨some 5, .assign (.const (.int .i64 0)), none⟩])
  (.seq (.seq (.reg [
    ⟨some 8, .load 24 (.tmp 2), none⟩,
    ⟨some 9, .move (.tmp 1), none⟩,
    ⟨some 10, .call ⟨(.value (.func 37)), #[(.tmp 8), (.tmp 9)], #[24, 30]⟩, none⟩,
    ⟨some 6, .assign (.tmp 10), none⟩])
  (.seq (.reg [
    ⟨some 11, .move (.tmp 6), none⟩,
    ⟨some 12, .binOp .neq 25 (.tmp 11) (.const (.int .i64 0)) 25, none⟩])
  (.cond (.tmp 12)
    (.seq (.reg [
      ⟨some 13, .call ⟨(.value (.func 38)), #[(.const (.int .i64 0))], #[3]⟩, none⟩,
      ⟨some 14, .move (.tmp 6), none⟩,
      ⟨none, .store 41 (.tmp 4) (.tmp 13), none⟩,
      ⟨some 5, .assign (.tmp 14), none⟩])
    .ret)
    .skip)))
  (.seq (.reg [
    ⟨some 15, .load 24 (.tmp 2), none⟩,
    ⟨some 16, .move (.tmp 1), none⟩,
    ⟨some 17, .call ⟨(.value (.func 39)), #[(.tmp 15), (.tmp 16), (.const (.int .i64 1))], #[24, 30, 3]⟩, none⟩,
    ⟨some 7, .alloc 41, none⟩,
    ⟨none, .store 41 (.tmp 7) (.tmp 17), none⟩])
  (.seq (.dreg [
    ⟨some 18, .load 24 (.tmp 2), none⟩,
    ⟨some 19, .move (.tmp 1), none⟩,
    ⟨some 20, .call ⟨(.value (.func 39)), #[(.tmp 18), (.tmp 19), (.const (.int .i64 2))], #[24, 30, 3]⟩, none⟩,
    ⟨some 21, .load 41 (.tmp 7), none⟩,
    ⟨some 22, .load 41 (.tmp 7), none⟩,
    ⟨some 23, .call ⟨(.value (.func 44)), #[(.tmp 21), (.tmp 22)], #[41, 41]⟩, none⟩,
    ⟨some 24, .call ⟨(.value (.func 43)), #[(.tmp 20), (.tmp 23)], #[41, 41]⟩, none⟩,
    ⟨none, .store 41 (.tmp 4) (.tmp 24), none⟩,
    ⟨some 5, .assign (.const (.int .i64 0)), none⟩])
  .ret))))⟩
theorem c24 : fcomp Try.prog 24 = ⟨b24.n, b24.np, b24.res, b24.body.bare⟩ := by kernel_rfl
theorem k24 : fok Try.prog 24 = true := by kernel_rfl
theorem grid_Variance (p w : List Int) (ww : List (List Int)) (hW : LimW 20 ww) : AFun Try.prog 24 [.agg [intsD p, intsD w], .one (natsD ww)] (varR p w ww) := by
  refine afun_intro mo_ _ _ c24 k24 _ _ rfl (by decide) ?_
  unfold b24
  simp (maxSteps := 1000000) (disch := first | omega | (simp only [LL]; omega)) only [W, V, TY, CC, reduceIte, Nat.reduceEqDiff, Nat.reduceAdd, Nat.reduceLeDiff, Nat.reduceLT, Int.reduceLE, Int.reduceLT, Int.reduceAdd, Int.reduceSub, Int.reduceToNat, Nat.reduceMul]
  refine a_call _ _ (grid_check p w ww (limW_mono hW (by decide))) (by simp (maxSteps := 1000000) (disch := first | omega | (simp only [LL]; omega)) only [W, V, TY, CC, reduceIte, Nat.reduceEqDiff, Nat.reduceAdd, Nat.reduceLeDiff, Nat.reduceLT, Int.reduceLE, Int.reduceLT, Int.reduceAdd, Int.reduceSub, Int.reduceToNat, Nat.reduceMul]) ?_
  simp (maxSteps := 1000000) (disch := first | omega | (simp only [LL]; omega)) only [W, V, TY, CC, reduceIte, Nat.reduceEqDiff, Nat.reduceAdd, Nat.reduceLeDiff, Nat.reduceLT, Int.reduceLE, Int.reduceLT, Int.reduceAdd, Int.reduceSub, Int.reduceToNat, Nat.reduceMul]
  refine c_split (fun h => ?_) (fun h => ?_)
  · simp (maxSteps := 1000000) (disch := first | omega | (simp only [LL]; omega)) only [W, V, TY, CC, reduceIte, Nat.reduceEqDiff, Nat.reduceAdd, Nat.reduceLeDiff, Nat.reduceLT, Int.reduceLE, Int.reduceLT, Int.reduceAdd, Int.reduceSub, Int.reduceToNat, Nat.reduceMul]
    refine a_call _ _ (grid_whole 0 (by decide) (by decide)) (by simp (maxSteps := 1000000) (disch := first | omega | (simp only [LL]; omega)) only [W, V, TY, CC, reduceIte, Nat.reduceEqDiff, Nat.reduceAdd, Nat.reduceLeDiff, Nat.reduceLT, Int.reduceLE, Int.reduceLT, Int.reduceAdd, Int.reduceSub, Int.reduceToNat, Nat.reduceMul]) ?_
    simp (maxSteps := 1000000) (disch := first | omega | (simp only [LL]; omega)) only [W, V, TY, CC, reduceIte, Nat.reduceEqDiff, Nat.reduceAdd, Nat.reduceLeDiff, Nat.reduceLT, Int.reduceLE, Int.reduceLT, Int.reduceAdd, Int.reduceSub, Int.reduceToNat, Nat.reduceMul, ratC]
    refine f_ret _ _ _ ?_
    unfold varR
    rw [if_neg h]
    simp (maxSteps := 1000000) (disch := first | omega | (simp only [LL]; omega)) only [W, V, TY, CC, reduceIte, Nat.reduceEqDiff, Nat.reduceAdd, Nat.reduceLeDiff, Nat.reduceLT, Int.reduceLE, Int.reduceLT, Int.reduceAdd, Int.reduceSub, Int.reduceToNat, Nat.reduceMul, ratC]
  · have h0 : checkV p w ww = 0 := Classical.not_not.1 h
    obtain ⟨c1, c2, c3⟩ := checkV_zero h0
    obtain ⟨g1, g2, g3, g4⟩ := gridV_zero c1
    have q1 := qs_mom 1 hW (fun j hj => (g3 j hj).1) c2 g1
    have q2 := qs_mom 2 hW (fun j hj => (g3 j hj).1) c2 g1
    have q3 := qs_mul (momQ 1 p ww) (momQ 1 p ww)
    simp (maxSteps := 1000000) (disch := first | omega | (simp only [LL]; omega)) only [W, V, TY, CC, reduceIte, Nat.reduceEqDiff, Nat.reduceAdd, Nat.reduceLeDiff, Nat.reduceLT, Int.reduceLE, Int.reduceLT, Int.reduceAdd, Int.reduceSub, Int.reduceToNat, Nat.reduceMul]
    refine a_call _ _ (grid_moment p w ww 1 hW (fun j hj => (g3 j hj).1) c2 g1) (by simp (maxSteps := 1000000) (disch := first | omega | (simp only [LL]; omega)) only [W, V, TY, CC, reduceIte, Nat.reduceEqDiff, Nat.reduceAdd, Nat.reduceLeDiff, Nat.reduceLT, Int.reduceLE, Int.reduceLT, Int.reduceAdd, Int.reduceSub, Int.reduceToNat, Nat.reduceMul]) ?_
    simp (maxSteps := 1000000) (disch := first | omega | (simp only [LL]; omega)) only [W, V, TY, CC, reduceIte, Nat.reduceEqDiff, Nat.reduceAdd, Nat.reduceLeDiff, Nat.reduceLT, Int.reduceLE, Int.reduceLT, Int.reduceAdd, Int.reduceSub, Int.reduceToNat, Nat.reduceMul, ratC]
    refine a_call _ _ (grid_moment p w ww 2 hW (fun j hj => (g3 j hj).1) c2 g1) (by simp (maxSteps := 1000000) (disch := first | omega | (simp only [LL]; omega)) only [W, V, TY, CC, reduceIte, Nat.reduceEqDiff, Nat.reduceAdd, Nat.reduceLeDiff, Nat.reduceLT, Int.reduceLE, Int.reduceLT, Int.reduceAdd, Int.reduceSub, Int.reduceToNat, Nat.reduceMul]) ?_
    simp (maxSteps := 1000000) (disch := first | omega | (simp only [LL]; omega)) only [W, V, TY, CC, reduceIte, Nat.reduceEqDiff, Nat.reduceAdd, Nat.reduceLeDiff, Nat.reduceLT, Int.reduceLE, Int.reduceLT, Int.reduceAdd, Int.reduceSub, Int.reduceToNat, Nat.reduceMul]
    refine a_call _ _ (rat_Mul2 (a := momQ 1 p ww) (b := momQ 1 p ww) (by omega) (by omega)) (by simp (maxSteps := 1000000) (disch := first | omega | (simp only [LL]; omega)) only [W, V, TY, CC, reduceIte, Nat.reduceEqDiff, Nat.reduceAdd, Nat.reduceLeDiff, Nat.reduceLT, Int.reduceLE, Int.reduceLT, Int.reduceAdd, Int.reduceSub, Int.reduceToNat, Nat.reduceMul, ratC]) ?_
    simp (maxSteps := 1000000) (disch := first | omega | (simp only [LL]; omega)) only [W, V, TY, CC, reduceIte, Nat.reduceEqDiff, Nat.reduceAdd, Nat.reduceLeDiff, Nat.reduceLT, Int.reduceLE, Int.reduceLT, Int.reduceAdd, Int.reduceSub, Int.reduceToNat, Nat.reduceMul]
    refine a_call _ _ (rat_Sub2 (a := momQ 2 p ww) (b := momQ 1 p ww * momQ 1 p ww) (by omega) (by omega)) (by simp (maxSteps := 1000000) (disch := first | omega | (simp only [LL]; omega)) only [W, V, TY, CC, reduceIte, Nat.reduceEqDiff, Nat.reduceAdd, Nat.reduceLeDiff, Nat.reduceLT, Int.reduceLE, Int.reduceLT, Int.reduceAdd, Int.reduceSub, Int.reduceToNat, Nat.reduceMul, ratC]) ?_
    simp (maxSteps := 1000000) (disch := first | omega | (simp only [LL]; omega)) only [W, V, TY, CC, reduceIte, Nat.reduceEqDiff, Nat.reduceAdd, Nat.reduceLeDiff, Nat.reduceLT, Int.reduceLE, Int.reduceLT, Int.reduceAdd, Int.reduceSub, Int.reduceToNat, Nat.reduceMul, ratC]
    refine f_ret _ _ _ ?_
    unfold varR
    rw [if_pos h0]
    simp (maxSteps := 1000000) (disch := first | omega | (simp only [LL]; omega)) only [W, V, TY, CC, reduceIte, Nat.reduceEqDiff, Nat.reduceAdd, Nat.reduceLeDiff, Nat.reduceLT, Int.reduceLE, Int.reduceLT, Int.reduceAdd, Int.reduceSub, Int.reduceToNat, Nat.reduceMul, ratC]
theorem take_map_app (f : Int → Int) (p : List Int) (i : Nat) (h : i < p.length) : (p.take i).map f ++ [f (p.getD i 0)] = (p.take (i + 1)).map f := take_app f p 0 i h
theorem getD_mapt (f : Int → Int) (p : List Int) (n j : Nat) (hj : j < n) (hn : n ≤ p.length) : ((p.take n).map f).getD j 0 = f (p.getD j 0) := by
  rw [List.getD_eq_getElem?_getD, List.getElem?_map, List.getElem?_take, if_pos hj, List.getD_eq_getElem?_getD, List.getElem?_eq_getElem (by omega)]
  rfl
theorem len_mapt (f : Int → Int) (p : List Int) (n : Nat) (hn : n ≤ p.length) : ((p.take n).map f).length = n := by simp; omega
/-- examboard/examboardref18.Mean -/
def b22 : AF := ⟨34, 2, [.cell 4 41, .tmp 5],
  (.seq (.reg [
    ⟨some 2, .box 24 (.tmp 0), none⟩,
    ⟨some 4, .alloc 41, none⟩,
    ⟨some 5, .assign (.const (.int .i64 0)), none⟩])
  (.seq (.reg [
    ⟨some 9, .load 24 (.tmp 2), none⟩,
    ⟨some 10, .move (.tmp 1), none⟩,
    ⟨some 11, .call ⟨(.value (.func 40)), #[(.tmp 9), (.tmp 10)], #[24, 30]⟩, none⟩,
    ⟨some 6, .assign (.tmp 11), none⟩])
  (.seq (.seq (.reg [
    ⟨some 12, .move (.tmp 6), none⟩,
    ⟨some 13, .binOp .neq 25 (.tmp 12) (.const (.int .i64 0)) 25, none⟩])
  (.cond (.tmp 13)
    (.seq (.reg [
      ⟨some 14, .call ⟨(.value (.func 35)), #[(.const (.int .i64 0))], #[3]⟩, none⟩,
      ⟨some 15, .move (.tmp 6), none⟩,
      ⟨none, .store 41 (.tmp 4) (.tmp 14), none⟩,
      ⟨some 5, .assign (.tmp 15), none⟩])
    .ret)
    .skip))
  (.seq (.reg [
    ⟨some 7, .assign (.const (.slice none 0 0)), none⟩])
  (.seq (.seq (.seq (.gh [.nilt 7 39 2])
  (.reg [
    ⟨some 8, .assign (.const (.int .i64 0)), none⟩]))
  (.block 0 (.loop (.seq (.seq (.reg [
    ⟨some 16, .move (.tmp 8), none⟩,
    ⟨some 17, .move (.tmp 1), none⟩,
    ⟨some 18, .call ⟨(.builtin .len), #[(.tmp 17)], #[30]⟩, none⟩,
    ⟨some 19, .binOp .lss 3 (.tmp 16) (.tmp 18) 3, none⟩])
  (.cond (.tmp 19)
    .skip
    (.exit 0)))
  (.seq (.block 1 (.reg [
    ⟨some 22, .move (.tmp 7), none⟩,
    ⟨some 23, .fieldAddr 24 (.tmp 2) 0, none⟩,
    ⟨some 24, .load 22 (.tmp 23), none⟩,
    ⟨some 25, .move (.tmp 8), none⟩,
    ⟨some 26, .indexAddr 22 (.tmp 24) (.tmp 25), none⟩,
    ⟨some 27, .load 3 (.tmp 26), none⟩,
    ⟨some 28, .call ⟨(.value (.func 41)), #[(.tmp 27)], #[2]⟩, none⟩,
    ⟨some 29, .buildSlice 63 1 #[(0, (.tmp 28))], none⟩,
    ⟨some 30, .call ⟨(.builtin .append), #[(.tmp 22), (.tmp 29)], #[63, 63]⟩, none⟩,
    ⟨some 7, .assign (.tmp 30), none⟩]))
  (.reg [
    ⟨some 20, .move (.tmp 8), none⟩,
    ⟨some 21, .binOp .add 3 (.tmp 20) (.const (.int .i64 1)) 3, none⟩,
    ⟨some 8, .assign (.tmp 21), none⟩]))))))
  (.seq (.seq (.gh [.frz 7])
  (.reg [
    ⟨some 31, .move (.tmp 7), none⟩,
    ⟨some 32, .move (.tmp 1), none⟩,
    ⟨some 33, .call ⟨(.value (.func 42)), #[(.tmp 31), (.tmp 32)], #[63, 30]⟩, none⟩,
    ⟨none, .store 41 (.tmp 4) (.tmp 33), none⟩,
    ⟨some 5, .assign (.const (.int .i64 0)), none⟩]))
  .ret))))))⟩
theorem c22 : fcomp Try.prog 22 = ⟨b22.n, b22.np, b22.res, b22.body.bare⟩ := by kernel_rfl
theorem k22 : fok Try.prog 22 = true := by kernel_rfl
theorem ref_Mean (p w : List Int) (ww : List (List Int)) (hW : LimW 20 ww) : AFun Try.prog 22 [.agg [intsD p, intsD w], .one (natsD ww)] (meanR p w ww) := by
  refine afun_intro mo_ _ _ c22 k22 _ _ rfl (by decide) ?_
  unfold b22
  simp (maxSteps := 1000000) (disch := first | omega | (simp only [LL]; omega)) only [W, V, TY, CC, reduceIte, Nat.reduceEqDiff, Nat.reduceAdd, Nat.reduceLeDiff, Nat.reduceLT, Int.reduceLE, Int.reduceLT, Int.reduceAdd, Int.reduceSub, Int.reduceToNat, Nat.reduceMul]
  refine a_call _ _ (ref_check p w ww (limW_mono hW (by decide))) (by simp (maxSteps := 1000000) (disch := first | omega | (simp only [LL]; omega)) only [W, V, TY, CC, reduceIte, Nat.reduceEqDiff, Nat.reduceAdd, Nat.reduceLeDiff, Nat.reduceLT, Int.reduceLE, Int.reduceLT, Int.reduceAdd, Int.reduceSub, Int.reduceToNat, Nat.reduceMul]) ?_
  simp (maxSteps := 1000000) (disch := first | omega | (simp only [LL]; omega)) only [W, V, TY, CC, reduceIte, Nat.reduceEqDiff, Nat.reduceAdd, Nat.reduceLeDiff, Nat.reduceLT, Int.reduceLE, Int.reduceLT, Int.reduceAdd, Int.reduceSub, Int.reduceToNat, Nat.reduceMul]
  refine c_split (fun h => ?_) (fun h => ?_)
  · simp (maxSteps := 1000000) (disch := first | omega | (simp only [LL]; omega)) only [W, V, TY, CC, reduceIte, Nat.reduceEqDiff, Nat.reduceAdd, Nat.reduceLeDiff, Nat.reduceLT, Int.reduceLE, Int.reduceLT, Int.reduceAdd, Int.reduceSub, Int.reduceToNat, Nat.reduceMul]
    refine a_call _ _ (ref_whole 0 (by decide) (by decide)) (by simp (maxSteps := 1000000) (disch := first | omega | (simp only [LL]; omega)) only [W, V, TY, CC, reduceIte, Nat.reduceEqDiff, Nat.reduceAdd, Nat.reduceLeDiff, Nat.reduceLT, Int.reduceLE, Int.reduceLT, Int.reduceAdd, Int.reduceSub, Int.reduceToNat, Nat.reduceMul]) ?_
    simp (maxSteps := 1000000) (disch := first | omega | (simp only [LL]; omega)) only [W, V, TY, CC, reduceIte, Nat.reduceEqDiff, Nat.reduceAdd, Nat.reduceLeDiff, Nat.reduceLT, Int.reduceLE, Int.reduceLT, Int.reduceAdd, Int.reduceSub, Int.reduceToNat, Nat.reduceMul, ratC]
    refine f_ret _ _ _ ?_
    unfold meanR
    rw [if_neg h]
    simp (maxSteps := 1000000) (disch := first | omega | (simp only [LL]; omega)) only [W, V, TY, CC, reduceIte, Nat.reduceEqDiff, Nat.reduceAdd, Nat.reduceLeDiff, Nat.reduceLT, Int.reduceLE, Int.reduceLT, Int.reduceAdd, Int.reduceSub, Int.reduceToNat, Nat.reduceMul, ratC]
  have h0 : checkV p w ww = 0 := Classical.not_not.1 h
  obtain ⟨c1, c2, c3⟩ := checkV_zero h0
  obtain ⟨g1, g2, g3, g4⟩ := gridV_zero c1
  simp (maxSteps := 1000000) (disch := first | omega | (simp only [LL]; omega)) only [W, V, TY, CC, reduceIte, Nat.reduceEqDiff, Nat.reduceAdd, Nat.reduceLeDiff, Nat.reduceLT, Int.reduceLE, Int.reduceLT, Int.reduceAdd, Int.reduceSub, Int.reduceToNat, Nat.reduceMul]
  refine w_loop (fun n s => ∃ i : Nat, n + i = ww.length ∧ s.t 1 = .one (.dt (natsD ww)) ∧ s.t 2 = .ptr (2, 0) 0 ∧ s.t 4 = .ptr (4, 0) 0 ∧ s.t 8 = .one (.dt (.lit (.int .i64 i))) ∧ s.v (2, 0) = some [.dt (intsD p), .dt (intsD w)] ∧ s.v (4, 0) = some [.dt (.lit (.bool false)), .z, .z] ∧ s.f (4, 0) = false ∧ s.t 7 = .one (.row (7, 0) i) ∧ s.r (7, 0) = some ⟨39, 2, i, icC ((p.take i).map (fk 1)), i, true⟩) ww.length ⟨0, rfl, ?_, ?_, ?_, ?_, ?_, ?_, ?_, ?_, ?_⟩ ?_
  · simp (maxSteps := 1000000) (disch := first | omega | (simp only [LL]; omega)) only [W, V, TY, CC, reduceIte, Nat.reduceEqDiff, Nat.reduceAdd, Nat.reduceLeDiff, Nat.reduceLT, Int.reduceLE, Int.reduceLT, Int.reduceAdd, Int.reduceSub, Int.reduceToNat, Nat.reduceMul]
  · simp (maxSteps := 1000000) (disch := first | omega | (simp only [LL]; omega)) only [W, V, TY, CC, reduceIte, Nat.reduceEqDiff, Nat.reduceAdd, Nat.reduceLeDiff, Nat.reduceLT, Int.reduceLE, Int.reduceLT, Int.reduceAdd, Int.reduceSub, Int.reduceToNat, Nat.reduceMul]
  · simp (maxSteps := 1000000) (disch := first | omega | (simp only [LL]; omega)) only [W, V, TY, CC, reduceIte, Nat.reduceEqDiff, Nat.reduceAdd, Nat.reduceLeDiff, Nat.reduceLT, Int.reduceLE, Int.reduceLT, Int.reduceAdd, Int.reduceSub, Int.reduceToNat, Nat.reduceMul]
  · simp (maxSteps := 1000000) (disch := first | omega | (simp only [LL]; omega)) only [W, V, TY, CC, reduceIte, Nat.reduceEqDiff, Nat.reduceAdd, Nat.reduceLeDiff, Nat.reduceLT, Int.reduceLE, Int.reduceLT, Int.reduceAdd, Int.reduceSub, Int.reduceToNat, Nat.reduceMul]
  · simp (maxSteps := 1000000) (disch := first | omega | (simp only [LL]; omega)) only [W, V, TY, CC, reduceIte, Nat.reduceEqDiff, Nat.reduceAdd, Nat.reduceLeDiff, Nat.reduceLT, Int.reduceLE, Int.reduceLT, Int.reduceAdd, Int.reduceSub, Int.reduceToNat, Nat.reduceMul]
  · simp (maxSteps := 1000000) (disch := first | omega | (simp only [LL]; omega)) only [W, V, TY, CC, reduceIte, Nat.reduceEqDiff, Nat.reduceAdd, Nat.reduceLeDiff, Nat.reduceLT, Int.reduceLE, Int.reduceLT, Int.reduceAdd, Int.reduceSub, Int.reduceToNat, Nat.reduceMul]
  · simp (maxSteps := 1000000) (disch := first | omega | (simp only [LL]; omega)) only [W, V, TY, CC, reduceIte, Nat.reduceEqDiff, Nat.reduceAdd, Nat.reduceLeDiff, Nat.reduceLT, Int.reduceLE, Int.reduceLT, Int.reduceAdd, Int.reduceSub, Int.reduceToNat, Nat.reduceMul]
  · simp (maxSteps := 1000000) (disch := first | omega | (simp only [LL]; omega)) only [W, V, TY, CC, reduceIte, Nat.reduceEqDiff, Nat.reduceAdd, Nat.reduceLeDiff, Nat.reduceLT, Int.reduceLE, Int.reduceLT, Int.reduceAdd, Int.reduceSub, Int.reduceToNat, Nat.reduceMul]
  · simp (maxSteps := 1000000) (disch := first | omega | (simp only [LL]; omega)) only [W, V, TY, CC, reduceIte, Nat.reduceEqDiff, Nat.reduceAdd, Nat.reduceLeDiff, Nat.reduceLT, Int.reduceLE, Int.reduceLT, Int.reduceAdd, Int.reduceSub, Int.reduceToNat, Nat.reduceMul]
    rfl
  intro n s hwf ⟨i, e, t1, t2, t4, t8, v2, v4, f4, t7, r7⟩
  simp (maxSteps := 1000000) (disch := first | omega | (simp only [LL]; omega)) only [W, V, TY, CC, reduceIte, Nat.reduceEqDiff, Nat.reduceAdd, Nat.reduceLeDiff, Nat.reduceLT, Int.reduceLE, Int.reduceLT, Int.reduceAdd, Int.reduceSub, Int.reduceToNat, Nat.reduceMul, t1, t2, t8, v2]
  refine c_split (fun hi => ?_) (fun hi => ?_)
  · have hil : i < p.length := by omega
    have b1 := (g3 i hil).1
    simp (maxSteps := 1000000) (disch := first | omega | (simp only [LL]; omega)) only [W, V, TY, CC, reduceIte, Nat.reduceEqDiff, Nat.reduceAdd, Nat.reduceLeDiff, Nat.reduceLT, Int.reduceLE, Int.reduceLT, Int.reduceAdd, Int.reduceSub, Int.reduceToNat, Nat.reduceMul, t1, t2, t7, t8, v2]
    refine a_call _ _ (ri_Of (p.getD i 0) (by omega) (by omega)) (by simp (maxSteps := 1000000) (disch := first | omega | (simp only [LL]; omega)) only [W, V, TY, CC, reduceIte, Nat.reduceEqDiff, Nat.reduceAdd, Nat.reduceLeDiff, Nat.reduceLT, Int.reduceLE, Int.reduceLT, Int.reduceAdd, Int.reduceSub, Int.reduceToNat, Nat.reduceMul, t1, t2, t7, t8, v2]) ?_
    simp (maxSteps := 1000000) (disch := first | omega | (simp only [LL]; omega)) only [W, V, TY, CC, reduceIte, Nat.reduceEqDiff, Nat.reduceAdd, Nat.reduceLeDiff, Nat.reduceLT, Int.reduceLE, Int.reduceLT, Int.reduceAdd, Int.reduceSub, Int.reduceToNat, Nat.reduceMul, t1, t2, t7, t8, v2, r7, intC, ICR, icC_app1]
    have b5 := take_map_app (fk 1) p i hil
    rw [show fk 1 (p.getD i 0) = p.getD i 0 from rfl] at b5
    exact ⟨⟨by omega, by omega⟩, n - 1, by omega, i + 1, by omega, t4, rfl, v4, f4, rfl, by rw [b5]⟩
  · simp (maxSteps := 1000000) (disch := first | omega | (simp only [LL]; omega)) only [W, V, TY, CC, reduceIte, Nat.reduceEqDiff, Nat.reduceAdd, Nat.reduceLeDiff, Nat.reduceLT, Int.reduceLE, Int.reduceLT, Int.reduceAdd, Int.reduceSub, Int.reduceToNat, Nat.reduceMul, t1, t2, t7, t8, v2, r7]
    have hii : i = ww.length := by omega
    subst hii
    have hzl := len_mapt (fk 1) p ww.length (by omega)
    have hsl : Dt.sl ww.length (icC ((p.take ww.length).map (fk 1))) = icD ((p.take ww.length).map (fk 1)) := ICR.2.2.2.2.1 _ _ hzl.symm
    refine a_call _ _ (ref_share 1 p ((p.take ww.length).map (fk 1)) ww hW (fun j hj => (g3 j hj).1) c2 g1 hzl (fun j hj => getD_mapt (fk 1) p ww.length j hj (by omega))) (by simp (maxSteps := 1000000) (disch := first | omega | (simp only [LL]; omega)) only [W, V, TY, CC, reduceIte, Nat.reduceEqDiff, Nat.reduceAdd, Nat.reduceLeDiff, Nat.reduceLT, Int.reduceLE, Int.reduceLT, Int.reduceAdd, Int.reduceSub, Int.reduceToNat, Nat.reduceMul, t1, t2, t7, t8, v2, r7, hsl]) ?_
    simp (maxSteps := 1000000) (disch := first | omega | (simp only [LL]; omega)) only [W, V, TY, CC, reduceIte, Nat.reduceEqDiff, Nat.reduceAdd, Nat.reduceLeDiff, Nat.reduceLT, Int.reduceLE, Int.reduceLT, Int.reduceAdd, Int.reduceSub, Int.reduceToNat, Nat.reduceMul, ratC, t4, v4, f4]
    refine f_ret _ _ _ ?_
    unfold meanR
    rw [if_pos h0]
    simp (maxSteps := 1000000) (disch := first | omega | (simp only [LL]; omega)) only [W, V, TY, CC, reduceIte, Nat.reduceEqDiff, Nat.reduceAdd, Nat.reduceLeDiff, Nat.reduceLT, Int.reduceLE, Int.reduceLT, Int.reduceAdd, Int.reduceSub, Int.reduceToNat, Nat.reduceMul, ratC, t4, v4, f4]
/-- examboard/examboardref18.Variance -/
def b25 : AF := ⟨48, 2, [.cell 4 41, .tmp 5],
  (.seq (.reg [
    ⟨some 2, .box 24 (.tmp 0), none⟩,
    ⟨some 4, .alloc 41, none⟩,
    ⟨some 5, .assign (.const (.int .i64 0)), none⟩])
  (.seq (.reg [
    ⟨some 11, .load 24 (.tmp 2), none⟩,
    ⟨some 12, .move (.tmp 1), none⟩,
    ⟨some 13, .call ⟨(.value (.func 22)), #[(.tmp 11), (.tmp 12)], #[24, 30]⟩, none⟩,
    ⟨some 10, .move (.tmp 13), none⟩,
    ⟨some 14, .extract (.tmp 10) 0, none⟩,
    ⟨some 15, .extract (.tmp 10) 1, none⟩,
    ⟨some 6, .alloc 41, none⟩,
    ⟨none, .store 41 (.tmp 6) (.tmp 14), none⟩,
    ⟨some 7, .assign (.tmp 15), none⟩])
  (.seq (.seq (.reg [
    ⟨some 16, .move (.tmp 7), none⟩,
    ⟨some 17, .binOp .neq 25 (.tmp 16) (.const (.int .i64 0)) 25, none⟩])
  (.cond (.tmp 17)
    (.seq (.reg [
      ⟨some 18, .call ⟨(.value (.func 35)), #[(.const (.int .i64 0))], #[3]⟩, none⟩,
      ⟨some 19, .move (.tmp 7), none⟩,
      ⟨none, .store 41 (.tmp 4) (.tmp 18), none⟩,
      ⟨some 5, .assign (.tmp 19), none⟩])
    .ret)
    .skip))
  (.seq (.reg [
    ⟨some 8, .assign (.const (.slice none 0 0)), none⟩])
  (.seq (.seq (.seq (.gh [.nilt 8 39 2])
  (.reg [
    ⟨some 9, .assign (.const (.int .i64 0)), none⟩]))
  (.block 0 (.loop (.seq (.seq (.reg [
    ⟨some 20, .move (.tmp 9), none⟩,
    ⟨some 21, .move (.tmp 1), none⟩,
    ⟨some 22, .call ⟨(.builtin .len), #[(.tmp 21)], #[30]⟩, none⟩,
    ⟨some 23, .binOp .lss 3 (.tmp 20) (.tmp 22) 3, none⟩])
  (.cond (.tmp 23)
    .skip
    (.exit 0)))
  (.seq (.block 1 (.dreg [
    ⟨some 26, .move (.tmp 8), none⟩,
    ⟨some 27, .fieldAddr 24 (.tmp 2) 0, none⟩,
    ⟨some 28, .load 22 (.tmp 27), none⟩,
    ⟨some 29, .move (.tmp 9), none⟩,
    ⟨some 30, .indexAddr 22 (.tmp 28) (.tmp 29), none⟩,
    ⟨some 31, .load 3 (.tmp 30), none⟩,
    ⟨some 32, .fieldAddr 24 (.tmp 2) 0, none⟩,
    ⟨some 33, .load 22 (.tmp 32), none⟩,
    ⟨some 34, .move (.tmp 9), none⟩,
    ⟨some 35, .indexAddr 22 (.tmp 33) (.tmp 34), none⟩,
    ⟨some 36, .load 3 (.tmp 35), none⟩,
    ⟨some 37, .binOp .mul 3 (.tmp 31) (.tmp 36) 3, none⟩,
    ⟨some 38, .call ⟨(.value (.func 41)), #[(.tmp 37)], #[2]⟩, none⟩,
    ⟨some 39, .buildSlice 63 1 #[(0, (.tmp 38))], none⟩,
    ⟨some 40, .call ⟨(.builtin .append), #[(.tmp 26), (.tmp 39)], #[63, 63]⟩, none⟩,
    ⟨some 8, .assign (.tmp 40), none⟩]))
  (.reg [
    ⟨some 24, .move (.tmp 9), none⟩,
    ⟨some 25, .binOp .add 3 (.tmp 24) (.const (.int .i64 1)) 3, none⟩,
    ⟨some 9, .assign (.tmp 25), none⟩]))))))
  (.seq (.seq (.gh [.frz 8])
  (.dreg [
    ⟨some 41, .move (.tmp 8), none⟩,
    ⟨some 42, .move (.tmp 1), none⟩,
    ⟨some 43, .call ⟨(.value (.func 42)), #[(.tmp 41), (.tmp 42)], #[63, 30]⟩, none⟩,
    ⟨some 44, .load 41 (.tmp 6), none⟩,
    ⟨some 45, .load 41 (.tmp 6), none⟩,
    ⟨some 46, .call ⟨(.value (.func 45)), #[(.tmp 44), (.tmp 45)], #[41, 41]⟩, none⟩,
    ⟨some 47, .call ⟨(.value (.func 34)), #[(.tmp 43), (.tmp 46)], #[41, 41]⟩, none⟩,
    ⟨none, .store 41 (.tmp 4) (.tmp 47), none⟩,
    ⟨some 5, .assign (.const (.int .i64 0)), none⟩]))
  .ret))))))⟩
theorem c25 : fcomp Try.prog 25 = ⟨b25.n, b25.np, b25.res, b25.body.bare⟩ := by kernel_rfl
theorem k25 : fok Try.prog 25 = true := by kernel_rfl
theorem ref_Variance (p w : List Int) (ww : List (List Int)) (hW : LimW 20 ww) : AFun Try.prog 25 [.agg [intsD p, intsD w], .one (natsD ww)] (varR p w ww) := by
  refine afun_intro mo_ _ _ c25 k25 _ _ rfl (by decide) ?_
  unfold b25
  have hm := ref_Mean p w ww hW
  unfold meanR at hm
  simp (maxSteps := 1000000) (disch := first | omega | (simp only [LL]; omega)) only [W, V, TY, CC, reduceIte, Nat.reduceEqDiff, Nat.reduceAdd, Nat.reduceLeDiff, Nat.reduceLT, Int.reduceLE, Int.reduceLT, Int.reduceAdd, Int.reduceSub, Int.reduceToNat, Nat.reduceMul]
  refine a_call _ _ hm (by simp (maxSteps := 1000000) (disch := first | omega | (simp only [LL]; omega)) only [W, V, TY, CC, reduceIte, Nat.reduceEqDiff, Nat.reduceAdd, Nat.reduceLeDiff, Nat.reduceLT, Int.reduceLE, Int.reduceLT, Int.reduceAdd, Int.reduceSub, Int.reduceToNat, Nat.reduceMul]) ?_
  by_cases h0 : checkV p w ww = 0
  case neg =>
    rw [if_neg h0]
    simp (maxSteps := 1000000) (disch := first | omega | (simp only [LL]; omega)) only [W, V, TY, CC, reduceIte, Nat.reduceEqDiff, Nat.reduceAdd, Nat.reduceLeDiff, Nat.reduceLT, Int.reduceLE, Int.reduceLT, Int.reduceAdd, Int.reduceSub, Int.reduceToNat, Nat.reduceMul, ratC, h0]
    refine a_call _ _ (ref_whole 0 (by decide) (by decide)) (by simp (maxSteps := 1000000) (disch := first | omega | (simp only [LL]; omega)) only [W, V, TY, CC, reduceIte, Nat.reduceEqDiff, Nat.reduceAdd, Nat.reduceLeDiff, Nat.reduceLT, Int.reduceLE, Int.reduceLT, Int.reduceAdd, Int.reduceSub, Int.reduceToNat, Nat.reduceMul]) ?_
    simp (maxSteps := 1000000) (disch := first | omega | (simp only [LL]; omega)) only [W, V, TY, CC, reduceIte, Nat.reduceEqDiff, Nat.reduceAdd, Nat.reduceLeDiff, Nat.reduceLT, Int.reduceLE, Int.reduceLT, Int.reduceAdd, Int.reduceSub, Int.reduceToNat, Nat.reduceMul, ratC]
    refine f_ret _ _ _ ?_
    unfold varR
    rw [if_neg h0]
    simp (maxSteps := 1000000) (disch := first | omega | (simp only [LL]; omega)) only [W, V, TY, CC, reduceIte, Nat.reduceEqDiff, Nat.reduceAdd, Nat.reduceLeDiff, Nat.reduceLT, Int.reduceLE, Int.reduceLT, Int.reduceAdd, Int.reduceSub, Int.reduceToNat, Nat.reduceMul, ratC]
  case pos =>
    rw [if_pos h0]
    obtain ⟨c1, c2, c3⟩ := checkV_zero h0
    obtain ⟨g1, g2, g3, g4⟩ := gridV_zero c1
    have q1 := qs_mom 1 hW (fun j hj => (g3 j hj).1) c2 g1
    have q2 := qs_mom 2 hW (fun j hj => (g3 j hj).1) c2 g1
    have q3 := qs_mul (momQ 1 p ww) (momQ 1 p ww)
    simp (maxSteps := 1000000) (disch := first | omega | (simp only [LL]; omega)) only [W, V, TY, CC, reduceIte, Nat.reduceEqDiff, Nat.reduceAdd, Nat.reduceLeDiff, Nat.reduceLT, Int.reduceLE, Int.reduceLT, Int.reduceAdd, Int.reduceSub, Int.reduceToNat, Nat.reduceMul, ratC]
    refine w_loop (fun n s => ∃ i : Nat, n + i = ww.length ∧ s.t 1 = .one (.dt (natsD ww)) ∧ s.t 2 = .ptr (2, 0) 0 ∧ s.t 4 = .ptr (4, 0) 0 ∧ s.t 6 = .ptr (6, 0) 0 ∧ s.t 9 = .one (.dt (.lit (.int .i64 i))) ∧ s.v (2, 0) = some [.dt (intsD p), .dt (intsD w)] ∧ s.v (4, 0) = some [.dt (.lit (.bool false)), .z, .z] ∧ s.f (4, 0) = false ∧ s.v (6, 0) = some ((ratC (momQ 1 p ww)).map .dt) ∧ s.t 8 = .one (.row (8, 0) i) ∧ s.r (8, 0) = some ⟨39, 2, i, icC ((p.take i).map (fk 2)), i, true⟩) ww.length ⟨0, rfl, ?_, ?_, ?_, ?_, ?_, ?_, ?_, ?_, ?_, ?_, ?_⟩ ?_
    · simp (maxSteps := 1000000) (disch := first | omega | (simp only [LL]; omega)) only [W, V, TY, CC, reduceIte, Nat.reduceEqDiff, Nat.reduceAdd, Nat.reduceLeDiff, Nat.reduceLT, Int.reduceLE, Int.reduceLT, Int.reduceAdd, Int.reduceSub, Int.reduceToNat, Nat.reduceMul]
    · simp (maxSteps := 1000000) (disch := first | omega | (simp only [LL]; omega)) only [W, V, TY, CC, reduceIte, Nat.reduceEqDiff, Nat.reduceAdd, Nat.reduceLeDiff, Nat.reduceLT, Int.reduceLE, Int.reduceLT, Int.reduceAdd, Int.reduceSub, Int.reduceToNat, Nat.reduceMul]
    · simp (maxSteps := 1000000) (disch := first | omega | (simp only [LL]; omega)) only [W, V, TY, CC, reduceIte, Nat.reduceEqDiff, Nat.reduceAdd, Nat.reduceLeDiff, Nat.reduceLT, Int.reduceLE, Int.reduceLT, Int.reduceAdd, Int.reduceSub, Int.reduceToNat, Nat.reduceMul]
    · simp (maxSteps := 1000000) (disch := first | omega | (simp only [LL]; omega)) only [W, V, TY, CC, reduceIte, Nat.reduceEqDiff, Nat.reduceAdd, Nat.reduceLeDiff, Nat.reduceLT, Int.reduceLE, Int.reduceLT, Int.reduceAdd, Int.reduceSub, Int.reduceToNat, Nat.reduceMul]
    · simp (maxSteps := 1000000) (disch := first | omega | (simp only [LL]; omega)) only [W, V, TY, CC, reduceIte, Nat.reduceEqDiff, Nat.reduceAdd, Nat.reduceLeDiff, Nat.reduceLT, Int.reduceLE, Int.reduceLT, Int.reduceAdd, Int.reduceSub, Int.reduceToNat, Nat.reduceMul]
    · simp (maxSteps := 1000000) (disch := first | omega | (simp only [LL]; omega)) only [W, V, TY, CC, reduceIte, Nat.reduceEqDiff, Nat.reduceAdd, Nat.reduceLeDiff, Nat.reduceLT, Int.reduceLE, Int.reduceLT, Int.reduceAdd, Int.reduceSub, Int.reduceToNat, Nat.reduceMul]
    · simp (maxSteps := 1000000) (disch := first | omega | (simp only [LL]; omega)) only [W, V, TY, CC, reduceIte, Nat.reduceEqDiff, Nat.reduceAdd, Nat.reduceLeDiff, Nat.reduceLT, Int.reduceLE, Int.reduceLT, Int.reduceAdd, Int.reduceSub, Int.reduceToNat, Nat.reduceMul]
    · simp (maxSteps := 1000000) (disch := first | omega | (simp only [LL]; omega)) only [W, V, TY, CC, reduceIte, Nat.reduceEqDiff, Nat.reduceAdd, Nat.reduceLeDiff, Nat.reduceLT, Int.reduceLE, Int.reduceLT, Int.reduceAdd, Int.reduceSub, Int.reduceToNat, Nat.reduceMul]
    · simp (maxSteps := 1000000) (disch := first | omega | (simp only [LL]; omega)) only [W, V, TY, CC, reduceIte, Nat.reduceEqDiff, Nat.reduceAdd, Nat.reduceLeDiff, Nat.reduceLT, Int.reduceLE, Int.reduceLT, Int.reduceAdd, Int.reduceSub, Int.reduceToNat, Nat.reduceMul, ratC]
    · simp (maxSteps := 1000000) (disch := first | omega | (simp only [LL]; omega)) only [W, V, TY, CC, reduceIte, Nat.reduceEqDiff, Nat.reduceAdd, Nat.reduceLeDiff, Nat.reduceLT, Int.reduceLE, Int.reduceLT, Int.reduceAdd, Int.reduceSub, Int.reduceToNat, Nat.reduceMul]
    · simp (maxSteps := 1000000) (disch := first | omega | (simp only [LL]; omega)) only [W, V, TY, CC, reduceIte, Nat.reduceEqDiff, Nat.reduceAdd, Nat.reduceLeDiff, Nat.reduceLT, Int.reduceLE, Int.reduceLT, Int.reduceAdd, Int.reduceSub, Int.reduceToNat, Nat.reduceMul]
      rfl
    intro n s hwf ⟨i, e, t1, t2, t4, t6, t9, v2, v4, f4, v6, t8, r8⟩
    simp (maxSteps := 1000000) (disch := first | omega | (simp only [LL]; omega)) only [W, V, TY, CC, reduceIte, Nat.reduceEqDiff, Nat.reduceAdd, Nat.reduceLeDiff, Nat.reduceLT, Int.reduceLE, Int.reduceLT, Int.reduceAdd, Int.reduceSub, Int.reduceToNat, Nat.reduceMul, t1, t2, t9, v2]
    refine c_split (fun hi => ?_) (fun hi => ?_)
    · have hil : i < p.length := by omega
      have b1 := (g3 i hil).1
      have b2 : 0 ≤ (p.getD i 0 + 1000) * (1000 - p.getD i 0) := Int.mul_nonneg (by omega) (by omega)
      have b3 : (p.getD i 0 + 1000) * (1000 - p.getD i 0) = 1000000 - p.getD i 0 * p.getD i 0 := by grind
      have b4 : 0 ≤ p.getD i 0 * p.getD i 0 := by
        rcases Int.le_total 0 (p.getD i 0) with h | h
        · exact Int.mul_nonneg h h
        · have := Int.mul_nonneg (a := -p.getD i 0) (b := -p.getD i 0) (by omega) (by omega)
          rwa [Int.neg_mul_neg] at this
      have b5 := take_map_app (fk 2) p i hil
      rw [show fk 2 (p.getD i 0) = p.getD i 0 * p.getD i 0 from rfl] at b5
      generalize hX : p.getD i 0 * p.getD i 0 = x at *
      simp (maxSteps := 1000000) (disch := first | omega | (simp only [LL]; omega)) only [W, V, TY, CC, reduceIte, Nat.reduceEqDiff, Nat.reduceAdd, Nat.reduceLeDiff, Nat.reduceLT, Int.reduceLE, Int.reduceLT, Int.reduceAdd, Int.reduceSub, Int.reduceToNat, Nat.reduceMul, t1, t2, t8, t9, v2, hX, wi64 (n := x) (by omega) (by omega)]
      refine a_call _ _ (ri_Of x (by omega) (by omega)) (by simp (maxSteps := 1000000) (disch := first | omega | (simp only [LL]; omega)) only [W, V, TY, CC, reduceIte, Nat.reduceEqDiff, Nat.reduceAdd, Nat.reduceLeDiff, Nat.reduceLT, Int.reduceLE, Int.reduceLT, Int.reduceAdd, Int.reduceSub, Int.reduceToNat, Nat.reduceMul, t1, t2, t8, t9, v2, hX, wi64 (n := x) (by omega) (by omega)]) ?_
      simp (maxSteps := 1000000) (disch := first | omega | (simp only [LL]; omega)) only [W, V, TY, CC, reduceIte, Nat.reduceEqDiff, Nat.reduceAdd, Nat.reduceLeDiff, Nat.reduceLT, Int.reduceLE, Int.reduceLT, Int.reduceAdd, Int.reduceSub, Int.reduceToNat, Nat.reduceMul, t1, t2, t8, t9, v2, r8, intC, ICR, icC_app1]
      exact ⟨⟨by omega, by omega⟩, n - 1, by omega, i + 1, by omega, t4, t6, rfl, v4, f4, v6, rfl, by rw [b5]⟩
    · have hii : i = ww.length := by omega
      subst hii
      have hzl := len_mapt (fk 2) p ww.length (by omega)
      have hsl : Dt.sl ww.length (icC ((p.take ww.length).map (fk 2))) = icD ((p.take ww.length).map (fk 2)) := ICR.2.2.2.2.1 _ _ hzl.symm
      simp only [ratC, List.map_cons, List.map_nil] at v6
      simp (maxSteps := 1000000) (disch := first | omega | (simp only [LL]; omega)) only [W, V, TY, CC, reduceIte, Nat.reduceEqDiff, Nat.reduceAdd, Nat.reduceLeDiff, Nat.reduceLT, Int.reduceLE, Int.reduceLT, Int.reduceAdd, Int.reduceSub, Int.reduceToNat, Nat.reduceMul, t1, t2, t8, t9, v2, r8]
      refine a_call _ _ (ref_share 2 p ((p.take ww.length).map (fk 2)) ww hW (fun j hj => (g3 j hj).1) c2 g1 hzl (fun j hj => getD_mapt (fk 2) p ww.length j hj (by omega))) (by simp (maxSteps := 1000000) (disch := first | omega | (simp only [LL]; omega)) only [W, V, TY, CC, reduceIte, Nat.reduceEqDiff, Nat.reduceAdd, Nat.reduceLeDiff, Nat.reduceLT, Int.reduceLE, Int.reduceLT, Int.reduceAdd, Int.reduceSub, Int.reduceToNat, Nat.reduceMul, t1, t2, t8, t9, v2, r8, hsl]) ?_
      simp (maxSteps := 1000000) (disch := first | omega | (simp only [LL]; omega)) only [W, V, TY, CC, reduceIte, Nat.reduceEqDiff, Nat.reduceAdd, Nat.reduceLeDiff, Nat.reduceLT, Int.reduceLE, Int.reduceLT, Int.reduceAdd, Int.reduceSub, Int.reduceToNat, Nat.reduceMul, t6, v6]
      refine a_call _ _ (rr_Mul2 (a := momQ 1 p ww) (b := momQ 1 p ww) (by omega) (by omega)) (by simp (maxSteps := 1000000) (disch := first | omega | (simp only [LL]; omega)) only [W, V, TY, CC, reduceIte, Nat.reduceEqDiff, Nat.reduceAdd, Nat.reduceLeDiff, Nat.reduceLT, Int.reduceLE, Int.reduceLT, Int.reduceAdd, Int.reduceSub, Int.reduceToNat, Nat.reduceMul, ratC, t6, v6]) ?_
      simp (maxSteps := 1000000) (disch := first | omega | (simp only [LL]; omega)) only [W, V, TY, CC, reduceIte, Nat.reduceEqDiff, Nat.reduceAdd, Nat.reduceLeDiff, Nat.reduceLT, Int.reduceLE, Int.reduceLT, Int.reduceAdd, Int.reduceSub, Int.reduceToNat, Nat.reduceMul]
      refine a_call _ _ (rr_Sub2 (a := momQ 2 p ww) (b := momQ 1 p ww * momQ 1 p ww) (by omega) (by omega)) (by simp (maxSteps := 1000000) (disch := first | omega | (simp only [LL]; omega)) only [W, V, TY, CC, reduceIte, Nat.reduceEqDiff, Nat.reduceAdd, Nat.reduceLeDiff, Nat.reduceLT, Int.reduceLE, Int.reduceLT, Int.reduceAdd, Int.reduceSub, Int.reduceToNat, Nat.reduceMul, ratC]) ?_
      simp (maxSteps := 1000000) (disch := first | omega | (simp only [LL]; omega)) only [W, V, TY, CC, reduceIte, Nat.reduceEqDiff, Nat.reduceAdd, Nat.reduceLeDiff, Nat.reduceLT, Int.reduceLE, Int.reduceLT, Int.reduceAdd, Int.reduceSub, Int.reduceToNat, Nat.reduceMul, ratC, t4, v4, f4]
      refine f_ret _ _ _ ?_
      unfold varR
      rw [if_pos h0]
      simp (maxSteps := 1000000) (disch := first | omega | (simp only [LL]; omega)) only [W, V, TY, CC, reduceIte, Nat.reduceEqDiff, Nat.reduceAdd, Nat.reduceLeDiff, Nat.reduceLT, Int.reduceLE, Int.reduceLT, Int.reduceAdd, Int.reduceSub, Int.reduceToNat, Nat.reduceMul, ratC, t4, v4, f4]
theorem meanR_form (p w : List Int) (ww : List (List Int)) (hW : LimW 20 ww) : ∃ (q : Rat) (c : Int), meanR p w ww = [.agg (ratC q), .one (.lit (.int .i64 c))] ∧ qs q < 68719476730 := by
  unfold meanR
  split
  · rename_i h
    obtain ⟨c1, c2, c3⟩ := checkV_zero h
    obtain ⟨g1, g2, g3, g4⟩ := gridV_zero c1
    exact ⟨_, _, rfl, by have := qs_mom 1 hW (fun j hj => (g3 j hj).1) c2 g1; omega⟩
  · exact ⟨_, _, rfl, by have := qs_int (x := 0) (by decide) (by decide); omega⟩
theorem varR_form (p w : List Int) (ww : List (List Int)) (hW : LimW 20 ww) : ∃ (q : Rat) (c : Int), varR p w ww = [.agg (ratC q), .one (.lit (.int .i64 c))] ∧ qs q < 68719476730 := by
  unfold varR
  split
  · rename_i h
    obtain ⟨c1, c2, c3⟩ := checkV_zero h
    obtain ⟨g1, g2, g3, g4⟩ := gridV_zero c1
    have q1 := qs_mom 1 hW (fun j hj => (g3 j hj).1) c2 g1
    have q2 := qs_mom 2 hW (fun j hj => (g3 j hj).1) c2 g1
    have q3 := qs_mul (momQ 1 p ww) (momQ 1 p ww)
    have q4 := qs_sub (momQ 2 p ww) (momQ 1 p ww * momQ 1 p ww)
    exact ⟨_, _, rfl, by omega⟩
  · exact ⟨_, _, rfl, by have := qs_int (x := 0) (by decide) (by decide); omega⟩
/-- examboard/examboardlaw18.GridSums -/
def b6 : AF := ⟨52, 2, [.tmp 4],
  (.seq (.reg [
    ⟨some 2, .box 24 (.tmp 0), none⟩,
    ⟨some 4, .assign (.const (.bool false)), none⟩])
  (.seq (.seq (.reg [
    ⟨some 9, .move (.tmp 1), none⟩,
    ⟨some 10, .call ⟨(.value (.func 20)), #[(.tmp 9)], #[30]⟩, none⟩])
  (.cond (.tmp 10)
    (.seq (.reg [
      ⟨some 4, .assign (.const (.bool true)), none⟩])
    .ret)
    .skip))
  (.seq (.reg [
    ⟨some 12, .load 24 (.tmp 2), none⟩,
    ⟨some 13, .move (.tmp 1), none⟩,
    ⟨some 14, .call ⟨(.value (.func 21)), #[(.tmp 12), (.tmp 13)], #[24, 30]⟩, none⟩,
    ⟨some 11, .move (.tmp 14), none⟩,
    ⟨some 15, .extract (.tmp 11) 0, none⟩,
    ⟨some 16, .extract (.tmp 11) 1, none⟩,
    ⟨some 5, .alloc 41, none⟩,
    ⟨none, .store 41 (.tmp 5) (.tmp 15), none⟩,
    ⟨some 6, .assign (.tmp 16), none⟩])
  (.seq (.reg [
    ⟨some 18, .load 24 (.tmp 2), none⟩,
    ⟨some 19, .move (.tmp 1), none⟩,
    ⟨some 20, .call ⟨(.value (.func 22)), #[(.tmp 18), (.tmp 19)], #[24, 30]⟩, none⟩,
    ⟨some 17, .move (.tmp 20), none⟩,
    ⟨some 21, .extract (.tmp 17) 0, none⟩,
    ⟨some 22, .extract (.tmp 17) 1, none⟩,
    ⟨some 7, .alloc 41, none⟩,
    ⟨none, .store 41 (.tmp 7) (.tmp 21), none⟩,
    ⟨some 8, .assign (.tmp 22), none⟩])
  (.seq (.seq (.reg [
    ⟨some 23, .move (.tmp 6), none⟩,
    ⟨some 24, .move (.tmp 8), none⟩,
    ⟨some 25, .binOp .neq 25 (.tmp 23) (.tmp 24) 25, none⟩,
    ⟨some 26, .move (.tmp 25), none⟩,
    ⟨some 27, .load 41 (.tmp 5), some (26, false)⟩,
    ⟨some 28, .load 41 (.tmp 7), some (26, false)⟩,
    ⟨some 29, .call ⟨(.value (.func 23)), #[(.tmp 27), (.tmp 28)], #[41, 41]⟩, some (26, false)⟩,
    ⟨some 30, .unOp .not 4 (.tmp 29), some (26, false)⟩,
    ⟨some 31, .pick (.tmp 26) (.const (.bool true)) (.tmp 30), none⟩])
  (.cond (.tmp 31)
    (.seq (.reg [
      ⟨some 4, .assign (.const (.bool false)), none⟩])
    .ret)
    .skip))
  (.seq (.reg [
    ⟨some 33, .load 24 (.tmp 2), none⟩,
    ⟨some 34, .move (.tmp 1), none⟩,
    ⟨some 35, .call ⟨(.value (.func 24)), #[(.tmp 33), (.tmp 34)], #[24, 30]⟩, none⟩,
    ⟨some 32, .move (.tmp 35), none⟩,
    ⟨some 36, .extract (.tmp 32) 0, none⟩,
    ⟨some 37, .extract (.tmp 32) 1, none⟩,
    ⟨none, .store 41 (.tmp 5) (.tmp 36), none⟩,
    ⟨some 6, .assign (.tmp 37), none⟩])
  (.seq (.reg [
    ⟨some 39, .load 24 (.tmp 2), none⟩,
    ⟨some 40, .move (.tmp 1), none⟩,
    ⟨some 41, .call ⟨(.value (.func 25)), #[(.tmp 39), (.tmp 40)], #[24, 30]⟩, none⟩,
    ⟨some 38, .move (.tmp 41), none⟩,
    ⟨some 42, .extract (.tmp 38) 0, none⟩,
    ⟨some 43, .extract (.tmp 38) 1, none⟩,
    ⟨none, .store 41 (.tmp 7) (.tmp 42), none⟩,
    ⟨some 8, .assign (.tmp 43), none⟩])
  (.seq (.reg [
    ⟨some 44, .move (.tmp 6), none⟩,
    ⟨some 45, .move (.tmp 8), none⟩,
    ⟨some 46, .binOp .eql 25 (.tmp 44) (.tmp 45) 25, none⟩,
    ⟨some 47, .move (.tmp 46), none⟩,
    ⟨some 48, .load 41 (.tmp 5), some (47, true)⟩,
    ⟨some 49, .load 41 (.tmp 7), some (47, true)⟩,
    ⟨some 50, .call ⟨(.value (.func 23)), #[(.tmp 48), (.tmp 49)], #[41, 41]⟩, some (47, true)⟩,
    ⟨some 51, .pick (.tmp 47) (.tmp 50) (.const (.bool false)), none⟩,
    ⟨some 4, .assign (.tmp 51), none⟩])
  .ret))))))))⟩
theorem c6 : fcomp Try.prog 6 = ⟨b6.n, b6.np, b6.res, b6.body.bare⟩ := by kernel_rfl
theorem k6 : fok Try.prog 6 = true := by kernel_rfl
theorem law_GridSums (p w : List Int) (ww : List (List Int)) (hL : ∀ i, Lim (ww.getD i [])) (hb : ww.length ≤ 9223372036854775807) : AFun Try.prog 6 [.agg [intsD p, intsD w], .one (natsD ww)] [.one (.lit (.bool true))] := by
  refine afun_intro mo_ _ _ c6 k6 _ _ rfl (by decide) ?_
  unfold b6
  simp (maxSteps := 1000000) (disch := first | omega | (simp only [LL]; omega)) only [W, V, TY, CC, reduceIte, Nat.reduceEqDiff, Nat.reduceAdd, Nat.reduceLeDiff, Nat.reduceLT, Int.reduceLE, Int.reduceLT, Int.reduceAdd, Int.reduceSub, Int.reduceToNat, Nat.reduceMul]
  refine a_call _ _ (law_large ww hb) (by simp (maxSteps := 1000000) (disch := first | omega | (simp only [LL]; omega)) only [W, V, TY, CC, reduceIte, Nat.reduceEqDiff, Nat.reduceAdd, Nat.reduceLeDiff, Nat.reduceLT, Int.reduceLE, Int.reduceLT, Int.reduceAdd, Int.reduceSub, Int.reduceToNat, Nat.reduceMul]) ?_
  simp (maxSteps := 1000000) (disch := first | omega | (simp only [LL]; omega)) only [W, V, TY, CC, reduceIte, Nat.reduceEqDiff, Nat.reduceAdd, Nat.reduceLeDiff, Nat.reduceLT, Int.reduceLE, Int.reduceLT, Int.reduceAdd, Int.reduceSub, Int.reduceToNat, Nat.reduceMul]
  refine c_splitb (fun h => ?_) (fun h => ?_)
  · simp (maxSteps := 1000000) (disch := first | omega | (simp only [LL]; omega)) only [W, V, TY, CC, reduceIte, Nat.reduceEqDiff, Nat.reduceAdd, Nat.reduceLeDiff, Nat.reduceLT, Int.reduceLE, Int.reduceLT, Int.reduceAdd, Int.reduceSub, Int.reduceToNat, Nat.reduceMul]
    refine f_ret _ _ _ ?_
    simp (maxSteps := 1000000) (disch := first | omega | (simp only [LL]; omega)) only [W, V, TY, CC, reduceIte, Nat.reduceEqDiff, Nat.reduceAdd, Nat.reduceLeDiff, Nat.reduceLT, Int.reduceLE, Int.reduceLT, Int.reduceAdd, Int.reduceSub, Int.reduceToNat, Nat.reduceMul]
  · have hW : LimW 20 ww := fun i => ⟨hL i, by
      have h1 : ¬ ∃ i, i < ww.length ∧ 20 < (ww.getD i []).length := of_decide_eq_false h
      rcases Nat.lt_or_ge i ww.length with h2 | h2
      · rcases Nat.lt_or_ge 20 (ww.getD i []).length with h3 | h3
        · exact absurd ⟨i, h2, h3⟩ h1
        · exact h3
      · rw [List.getD_eq_getElem?_getD, List.getElem?_eq_none h2]; simp⟩
    obtain ⟨q, c, e1, s1⟩ := meanR_form p w ww hW
    obtain ⟨q', c', e2, s2⟩ := varR_form p w ww hW
    have a1 := grid_Mean p w ww hW
    have a2 := ref_Mean p w ww hW
    have a3 := grid_Variance p w ww hW
    have a4 := ref_Variance p w ww hW
    rw [e1] at a1 a2
    rw [e2] at a3 a4
    simp (maxSteps := 1000000) (disch := first | omega | (simp only [LL]; omega)) only [W, V, TY, CC, reduceIte, Nat.reduceEqDiff, Nat.reduceAdd, Nat.reduceLeDiff, Nat.reduceLT, Int.reduceLE, Int.reduceLT, Int.reduceAdd, Int.reduceSub, Int.reduceToNat, Nat.reduceMul]
    refine a_call _ _ a1 (by simp (maxSteps := 1000000) (disch := first | omega | (simp only [LL]; omega)) only [W, V, TY, CC, reduceIte, Nat.reduceEqDiff, Nat.reduceAdd, Nat.reduceLeDiff, Nat.reduceLT, Int.reduceLE, Int.reduceLT, Int.reduceAdd, Int.reduceSub, Int.reduceToNat, Nat.reduceMul]) ?_
    simp (maxSteps := 1000000) (disch := first | omega | (simp only [LL]; omega)) only [W, V, TY, CC, reduceIte, Nat.reduceEqDiff, Nat.reduceAdd, Nat.reduceLeDiff, Nat.reduceLT, Int.reduceLE, Int.reduceLT, Int.reduceAdd, Int.reduceSub, Int.reduceToNat, Nat.reduceMul, ratC]
    refine a_call _ _ a2 (by simp (maxSteps := 1000000) (disch := first | omega | (simp only [LL]; omega)) only [W, V, TY, CC, reduceIte, Nat.reduceEqDiff, Nat.reduceAdd, Nat.reduceLeDiff, Nat.reduceLT, Int.reduceLE, Int.reduceLT, Int.reduceAdd, Int.reduceSub, Int.reduceToNat, Nat.reduceMul]) ?_
    simp (maxSteps := 1000000) (disch := first | omega | (simp only [LL]; omega)) only [W, V, TY, CC, reduceIte, Nat.reduceEqDiff, Nat.reduceAdd, Nat.reduceLeDiff, Nat.reduceLT, Int.reduceLE, Int.reduceLT, Int.reduceAdd, Int.reduceSub, Int.reduceToNat, Nat.reduceMul, ratC]
    refine a_call _ _ (law_same q s1) (by simp (maxSteps := 1000000) (disch := first | omega | (simp only [LL]; omega)) only [W, V, TY, CC, reduceIte, Nat.reduceEqDiff, Nat.reduceAdd, Nat.reduceLeDiff, Nat.reduceLT, Int.reduceLE, Int.reduceLT, Int.reduceAdd, Int.reduceSub, Int.reduceToNat, Nat.reduceMul, ratC]) ?_
    simp (maxSteps := 1000000) (disch := first | omega | (simp only [LL]; omega)) only [W, V, TY, CC, reduceIte, Nat.reduceEqDiff, Nat.reduceAdd, Nat.reduceLeDiff, Nat.reduceLT, Int.reduceLE, Int.reduceLT, Int.reduceAdd, Int.reduceSub, Int.reduceToNat, Nat.reduceMul]
    refine a_call _ _ a3 (by simp (maxSteps := 1000000) (disch := first | omega | (simp only [LL]; omega)) only [W, V, TY, CC, reduceIte, Nat.reduceEqDiff, Nat.reduceAdd, Nat.reduceLeDiff, Nat.reduceLT, Int.reduceLE, Int.reduceLT, Int.reduceAdd, Int.reduceSub, Int.reduceToNat, Nat.reduceMul]) ?_
    simp (maxSteps := 1000000) (disch := first | omega | (simp only [LL]; omega)) only [W, V, TY, CC, reduceIte, Nat.reduceEqDiff, Nat.reduceAdd, Nat.reduceLeDiff, Nat.reduceLT, Int.reduceLE, Int.reduceLT, Int.reduceAdd, Int.reduceSub, Int.reduceToNat, Nat.reduceMul, ratC]
    refine a_call _ _ a4 (by simp (maxSteps := 1000000) (disch := first | omega | (simp only [LL]; omega)) only [W, V, TY, CC, reduceIte, Nat.reduceEqDiff, Nat.reduceAdd, Nat.reduceLeDiff, Nat.reduceLT, Int.reduceLE, Int.reduceLT, Int.reduceAdd, Int.reduceSub, Int.reduceToNat, Nat.reduceMul]) ?_
    simp (maxSteps := 1000000) (disch := first | omega | (simp only [LL]; omega)) only [W, V, TY, CC, reduceIte, Nat.reduceEqDiff, Nat.reduceAdd, Nat.reduceLeDiff, Nat.reduceLT, Int.reduceLE, Int.reduceLT, Int.reduceAdd, Int.reduceSub, Int.reduceToNat, Nat.reduceMul, ratC]
    refine a_call _ _ (law_same q' s2) (by simp (maxSteps := 1000000) (disch := first | omega | (simp only [LL]; omega)) only [W, V, TY, CC, reduceIte, Nat.reduceEqDiff, Nat.reduceAdd, Nat.reduceLeDiff, Nat.reduceLT, Int.reduceLE, Int.reduceLT, Int.reduceAdd, Int.reduceSub, Int.reduceToNat, Nat.reduceMul, ratC]) ?_
    simp (maxSteps := 1000000) (disch := first | omega | (simp only [LL]; omega)) only [W, V, TY, CC, reduceIte, Nat.reduceEqDiff, Nat.reduceAdd, Nat.reduceLeDiff, Nat.reduceLT, Int.reduceLE, Int.reduceLT, Int.reduceAdd, Int.reduceSub, Int.reduceToNat, Nat.reduceMul]
    refine f_ret _ _ _ ?_
    simp (maxSteps := 1000000) (disch := first | omega | (simp only [LL]; omega)) only [W, V, TY, CC, reduceIte, Nat.reduceEqDiff, Nat.reduceAdd, Nat.reduceLeDiff, Nat.reduceLT, Int.reduceLE, Int.reduceLT, Int.reduceAdd, Int.reduceSub, Int.reduceToNat, Nat.reduceMul]
end Go.Proofs.Ytnlmfdojnacofaa.E
