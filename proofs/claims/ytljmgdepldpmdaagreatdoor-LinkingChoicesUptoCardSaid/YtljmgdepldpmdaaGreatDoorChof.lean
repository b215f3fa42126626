/- An abstract interpreter over data, and contracts of the program's functions, part 6; no condition. -/
import Derived.Test.YtljmgdepldpmdaaGreatDoorRows
import Derived.Test.YtljmgdepldpmdaaGreatDoorChoe
set_option linter.unusedSimpArgs false
set_option linter.unusedVariables false
set_option maxHeartbeats 2000000
namespace Go.Proofs.YtljmgdepldpmdaaGreatDoor.E
open Go.RowKit Limbs
section
variable {x y : RR} (hx : rok 68719476600 x) (hy : rok 68719476600 y)
include hx hy
theorem G_Add : AFun Tryz.prog 47 [.agg (rC x), .agg (rC y)] [.agg (ratC (x.q + y.q))] := by
  obtain ⟨h1, h2, h3, h4⟩ := hx
  obtain ⟨k1, k2, k3, k4⟩ := hy
  exact rr_Add x.n x.m x.d y.n y.m y.d h1 h2 k1 k2 (by omega) (by omega) (by omega) (by omega)
theorem G_Mul : AFun Tryz.prog 52 [.agg (rC x), .agg (rC y)] [.agg (ratC (x.q * y.q))] := by
  obtain ⟨h1, h2, h3, h4⟩ := hx
  obtain ⟨k1, k2, k3, k4⟩ := hy
  exact rr_Mul x.n x.m x.d y.n y.m y.d h1 h2 k1 k2 (by omega) (by omega) (by omega) (by omega)
end
theorem G_Add2 {p q : Rat} (hp : qs p ≤ 68719476600) (hq : qs q ≤ 68719476600) : AFun Tryz.prog 47 [.agg (ratC p), .agg (ratC q)] [.agg (ratC (p + q))] := by
  have := G_Add (rok_nr hp) (rok_nr hq)
  simp only [nr_q, rC_nr] at this
  exact this
/-! ### the rational deviation -/
/-! ### the functions -/
/-- examboard/examboardref45.whole -/
def b62 : AF := ⟨11, 1, [.cell 2 27],
  (.seq (.reg [
    ⟨some 2, .alloc 27, none⟩])
  (.seq (.reg [
    ⟨some 6, .move (.tmp 0), none⟩,
    ⟨some 7, .call ⟨(.value (.func 106)), #[(.tmp 6), (.const (.int .i64 1))], #[2, 2]⟩, none⟩,
    ⟨some 5, .move (.tmp 7), none⟩,
    ⟨some 8, .extract (.tmp 5) 0, none⟩,
    ⟨some 9, .extract (.tmp 5) 1, none⟩,
    ⟨some 3, .alloc 27, none⟩,
    ⟨none, .store 27 (.tmp 3) (.tmp 8), none⟩,
    ⟨some 4, .assign (.tmp 9), none⟩])
  (.seq (.reg [
    ⟨some 10, .load 27 (.tmp 3), none⟩,
    ⟨none, .store 27 (.tmp 2) (.tmp 10), none⟩])
  .ret)))⟩
theorem c62 : fcomp Tryz.prog 62 = ⟨b62.n, b62.np, b62.res, b62.body.bare⟩ := by kernel_rfl
theorem k62 : fok Tryz.prog 62 = true := by kernel_rfl
theorem f_whole45 (a : Int) (a0 : -9223372036854775808 ≤ a) (a1 : a < 9223372036854775808) : AFun Tryz.prog 62 [.one (.lit (.int .i64 a))] [.agg (ratC (a : Rat))] := by
  have co := rr_Of a 1 a0 a1 (by decide) (by decide)
  rw [divInt_one] at co
  refine afun_intro mo_ _ _ c62 k62 _ _ rfl (by decide) ?_
  unfold b62
  simp (maxSteps := 1000000) (disch := first | omega | (simp only [LL]; omega)) only [W, V, TY, CC, reduceIte, Nat.reduceEqDiff, Nat.reduceAdd, Nat.reduceLeDiff, Nat.reduceLT, Int.reduceLE, Int.reduceLT, Int.reduceAdd, Int.reduceSub, Int.reduceToNat, Nat.reduceMul]
  refine a_call _ _ co (by simp (maxSteps := 1000000) (disch := first | omega | (simp only [LL]; omega)) only [W, V, TY, CC, reduceIte, Nat.reduceEqDiff, Nat.reduceAdd, Nat.reduceLeDiff, Nat.reduceLT, Int.reduceLE, Int.reduceLT, Int.reduceAdd, Int.reduceSub, Int.reduceToNat, Nat.reduceMul, ratC]) ?_
  simp (maxSteps := 1000000) (disch := first | omega | (simp only [LL]; omega)) only [W, V, TY, CC, reduceIte, Nat.reduceEqDiff, Nat.reduceAdd, Nat.reduceLeDiff, Nat.reduceLT, Int.reduceLE, Int.reduceLT, Int.reduceAdd, Int.reduceSub, Int.reduceToNat, Nat.reduceMul, ratC]
  refine f_ret _ _ _ ?_
  simp (maxSteps := 1000000) (disch := first | omega | (simp only [LL]; omega)) only [W, V, TY, CC, reduceIte, Nat.reduceEqDiff, Nat.reduceAdd, Nat.reduceLeDiff, Nat.reduceLT, Int.reduceLE, Int.reduceLT, Int.reduceAdd, Int.reduceSub, Int.reduceToNat, Nat.reduceMul, ratC]
/-- examboard/examboardref45.Valid -/
def b23 : AF := ⟨7, 1, [.tmp 2],
  (.seq (.reg [
    ⟨some 1, .box 37 (.tmp 0), none⟩,
    ⟨some 2, .assign (.const (.bool false)), none⟩])
  (.seq (.reg [
    ⟨some 3, .fieldAddr 37 (.tmp 1) 0, none⟩,
    ⟨some 4, .load 27 (.tmp 3), none⟩,
    ⟨some 5, .call ⟨(.value (.func 65)), #[(.tmp 4)], #[27]⟩, none⟩,
    ⟨some 6, .binOp .gtr 3 (.tmp 5) (.const (.int .i64 0)) 3, none⟩,
    ⟨some 2, .assign (.tmp 6), none⟩])
  .ret))⟩
theorem c23 : fcomp Tryz.prog 23 = ⟨b23.n, b23.np, b23.res, b23.body.bare⟩ := by kernel_rfl
theorem k23 : fok Tryz.prog 23 = true := by kernel_rfl
/-- examboard/examboardref45.Apply -/
def b26 : AF := ⟨12, 2, [.cell 4 27],
  (.seq (.reg [
    ⟨some 2, .box 37 (.tmp 0), none⟩,
    ⟨some 3, .box 27 (.tmp 1), none⟩,
    ⟨some 4, .alloc 27, none⟩])
  (.seq (.dreg [
    ⟨some 5, .fieldAddr 37 (.tmp 2) 0, none⟩,
    ⟨some 6, .load 27 (.tmp 5), none⟩,
    ⟨some 7, .load 27 (.tmp 3), none⟩,
    ⟨some 8, .call ⟨(.value (.func 52)), #[(.tmp 6), (.tmp 7)], #[27, 27]⟩, none⟩,
    ⟨some 9, .fieldAddr 37 (.tmp 2) 1, none⟩,
    ⟨some 10, .load 27 (.tmp 9), none⟩,
    ⟨some 11, .call ⟨(.value (.func 47)), #[(.tmp 8), (.tmp 10)], #[27, 27]⟩, none⟩,
    ⟨none, .store 27 (.tmp 4) (.tmp 11), none⟩])
  .ret))⟩
theorem c26 : fcomp Tryz.prog 26 = ⟨b26.n, b26.np, b26.res, b26.body.bare⟩ := by kernel_rfl
theorem k26 : fok Tryz.prog 26 = true := by kernel_rfl
/-- examboard/examboardref45.Compose -/
def b28 : AF := ⟨15, 2, [.cell 4 37],
  (.seq (.reg [
    ⟨some 2, .box 37 (.tmp 0), none⟩,
    ⟨some 3, .box 37 (.tmp 1), none⟩,
    ⟨some 4, .alloc 37, none⟩])
  (.seq (.dreg [
    ⟨some 5, .fieldAddr 37 (.tmp 2) 0, none⟩,
    ⟨some 6, .load 27 (.tmp 5), none⟩,
    ⟨some 7, .fieldAddr 37 (.tmp 3) 0, none⟩,
    ⟨some 8, .load 27 (.tmp 7), none⟩,
    ⟨some 9, .call ⟨(.value (.func 52)), #[(.tmp 6), (.tmp 8)], #[27, 27]⟩, none⟩,
    ⟨some 10, .load 37 (.tmp 3), none⟩,
    ⟨some 11, .fieldAddr 37 (.tmp 2) 1, none⟩,
    ⟨some 12, .load 27 (.tmp 11), none⟩,
    ⟨some 13, .call ⟨(.value (.func 26)), #[(.tmp 10), (.tmp 12)], #[37, 27]⟩, none⟩,
    ⟨some 14, .build 37 #[(0, (.tmp 9)), (1, (.tmp 13))], none⟩,
    ⟨none, .store 37 (.tmp 4) (.tmp 14), none⟩])
  .ret))⟩
theorem c28 : fcomp Tryz.prog 28 = ⟨b28.n, b28.np, b28.res, b28.body.bare⟩ := by kernel_rfl
theorem k28 : fok Tryz.prog 28 = true := by kernel_rfl
section
variable {A B : RR} (hA : rok 68719476600 A) (hB : rok 68719476600 B)
include hA
theorem f_Valid : AFun Tryz.prog 23 [.agg (rC A ++ rC B)] [.one (.lit (.bool (decide (0 < A.q))))] := by
  have cs := F_Sign hA
  have g : (0 < sgnQ A.q) = (0 < A.q) := propext (sgnQ_pos A.q)
  generalize sgnQ A.q = sg at *
  refine afun_intro mo_ _ _ c23 k23 _ _ rfl (by decide) ?_
  unfold b23
  simp (maxSteps := 1000000) (disch := first | omega | (simp only [LL]; omega)) only [W, V, TY, CC, reduceIte, Nat.reduceEqDiff, Nat.reduceAdd, Nat.reduceLeDiff, Nat.reduceLT, Int.reduceLE, Int.reduceLT, Int.reduceAdd, Int.reduceSub, Int.reduceToNat, Nat.reduceMul, rC]
  refine a_call _ _ cs (by simp (maxSteps := 1000000) (disch := first | omega | (simp only [LL]; omega)) only [W, V, TY, CC, reduceIte, Nat.reduceEqDiff, Nat.reduceAdd, Nat.reduceLeDiff, Nat.reduceLT, Int.reduceLE, Int.reduceLT, Int.reduceAdd, Int.reduceSub, Int.reduceToNat, Nat.reduceMul, rC, sQ, ratC]) ?_
  simp (maxSteps := 1000000) (disch := first | omega | (simp only [LL]; omega)) only [W, V, TY, CC, reduceIte, Nat.reduceEqDiff, Nat.reduceAdd, Nat.reduceLeDiff, Nat.reduceLT, Int.reduceLE, Int.reduceLT, Int.reduceAdd, Int.reduceSub, Int.reduceToNat, Nat.reduceMul, rC, sQ, ratC]
  refine f_ret _ _ _ ?_
  simp (maxSteps := 1000000) (disch := first | omega | (simp only [LL]; omega)) only [W, V, TY, CC, reduceIte, Nat.reduceEqDiff, Nat.reduceAdd, Nat.reduceLeDiff, Nat.reduceLT, Int.reduceLE, Int.reduceLT, Int.reduceAdd, Int.reduceSub, Int.reduceToNat, Nat.reduceMul, g]
include hB
theorem f_Apply {x : RR} (hx : rok 68719476600 x) (hm : qs (A.q * x.q) ≤ 68719476600) : AFun Tryz.prog 26 [.agg (rC A ++ rC B), .agg (rC x)] [.agg (ratC (A.q * x.q + B.q))] := by
  have m1 := G_Mul hA hx
  have a1 := G_Add (rok_nr hm) hB
  rw [nr_q, rC_nr] at a1
  refine afun_intro mo_ _ _ c26 k26 _ _ rfl (by decide) ?_
  unfold b26
  simp (maxSteps := 1000000) (disch := first | omega | (simp only [LL]; omega)) only [W, V, TY, CC, reduceIte, Nat.reduceEqDiff, Nat.reduceAdd, Nat.reduceLeDiff, Nat.reduceLT, Int.reduceLE, Int.reduceLT, Int.reduceAdd, Int.reduceSub, Int.reduceToNat, Nat.reduceMul, rC]
  refine a_call _ _ m1 (by simp (maxSteps := 1000000) (disch := first | omega | (simp only [LL]; omega)) only [W, V, TY, CC, reduceIte, Nat.reduceEqDiff, Nat.reduceAdd, Nat.reduceLeDiff, Nat.reduceLT, Int.reduceLE, Int.reduceLT, Int.reduceAdd, Int.reduceSub, Int.reduceToNat, Nat.reduceMul, rC, sQ, ratC]) ?_
  simp (maxSteps := 1000000) (disch := first | omega | (simp only [LL]; omega)) only [W, V, TY, CC, reduceIte, Nat.reduceEqDiff, Nat.reduceAdd, Nat.reduceLeDiff, Nat.reduceLT, Int.reduceLE, Int.reduceLT, Int.reduceAdd, Int.reduceSub, Int.reduceToNat, Nat.reduceMul, rC, sQ, ratC]
  refine a_call _ _ a1 (by simp (maxSteps := 1000000) (disch := first | omega | (simp only [LL]; omega)) only [W, V, TY, CC, reduceIte, Nat.reduceEqDiff, Nat.reduceAdd, Nat.reduceLeDiff, Nat.reduceLT, Int.reduceLE, Int.reduceLT, Int.reduceAdd, Int.reduceSub, Int.reduceToNat, Nat.reduceMul, rC, sQ, ratC]) ?_
  simp (maxSteps := 1000000) (disch := first | omega | (simp only [LL]; omega)) only [W, V, TY, CC, reduceIte, Nat.reduceEqDiff, Nat.reduceAdd, Nat.reduceLeDiff, Nat.reduceLT, Int.reduceLE, Int.reduceLT, Int.reduceAdd, Int.reduceSub, Int.reduceToNat, Nat.reduceMul, rC, sQ, ratC]
  refine f_ret _ _ _ ?_
  simp (maxSteps := 1000000) (disch := first | omega | (simp only [LL]; omega)) only [W, V, TY, CC, reduceIte, Nat.reduceEqDiff, Nat.reduceAdd, Nat.reduceLeDiff, Nat.reduceLT, Int.reduceLE, Int.reduceLT, Int.reduceAdd, Int.reduceSub, Int.reduceToNat, Nat.reduceMul, rC, sQ, ratC]
end
theorem f_Compose {A B C D : RR} (hA : rok 68719476600 A) (hB : rok 68719476600 B) (hC : rok 68719476600 C) (hD : rok 68719476600 D) (hm : qs (C.q * B.q) ≤ 68719476600) : AFun Tryz.prog 28 [.agg (rC A ++ rC B), .agg (rC C ++ rC D)] [.agg (sQ (A.q * C.q) (C.q * B.q + D.q))] := by
  have m1 := G_Mul hA hC
  have a1 := f_Apply hC hD hB hm
  refine afun_intro mo_ _ _ c28 k28 _ _ rfl (by decide) ?_
  unfold b28
  simp (maxSteps := 1000000) (disch := first | omega | (simp only [LL]; omega)) only [W, V, TY, CC, reduceIte, Nat.reduceEqDiff, Nat.reduceAdd, Nat.reduceLeDiff, Nat.reduceLT, Int.reduceLE, Int.reduceLT, Int.reduceAdd, Int.reduceSub, Int.reduceToNat, Nat.reduceMul, rC, sQ]
  refine a_call _ _ m1 (by simp (maxSteps := 1000000) (disch := first | omega | (simp only [LL]; omega)) only [W, V, TY, CC, reduceIte, Nat.reduceEqDiff, Nat.reduceAdd, Nat.reduceLeDiff, Nat.reduceLT, Int.reduceLE, Int.reduceLT, Int.reduceAdd, Int.reduceSub, Int.reduceToNat, Nat.reduceMul, rC, sQ, ratC]) ?_
  simp (maxSteps := 1000000) (disch := first | omega | (simp only [LL]; omega)) only [W, V, TY, CC, reduceIte, Nat.reduceEqDiff, Nat.reduceAdd, Nat.reduceLeDiff, Nat.reduceLT, Int.reduceLE, Int.reduceLT, Int.reduceAdd, Int.reduceSub, Int.reduceToNat, Nat.reduceMul, rC, sQ, ratC]
  refine a_call _ _ a1 (by simp (maxSteps := 1000000) (disch := first | omega | (simp only [LL]; omega)) only [W, V, TY, CC, reduceIte, Nat.reduceEqDiff, Nat.reduceAdd, Nat.reduceLeDiff, Nat.reduceLT, Int.reduceLE, Int.reduceLT, Int.reduceAdd, Int.reduceSub, Int.reduceToNat, Nat.reduceMul, rC, sQ, ratC]) ?_
  simp (maxSteps := 1000000) (disch := first | omega | (simp only [LL]; omega)) only [W, V, TY, CC, reduceIte, Nat.reduceEqDiff, Nat.reduceAdd, Nat.reduceLeDiff, Nat.reduceLT, Int.reduceLE, Int.reduceLT, Int.reduceAdd, Int.reduceSub, Int.reduceToNat, Nat.reduceMul, rC, sQ, ratC]
  refine f_ret _ _ _ ?_
  simp (maxSteps := 1000000) (disch := first | omega | (simp only [LL]; omega)) only [W, V, TY, CC, reduceIte, Nat.reduceEqDiff, Nat.reduceAdd, Nat.reduceLeDiff, Nat.reduceLT, Int.reduceLE, Int.reduceLT, Int.reduceAdd, Int.reduceSub, Int.reduceToNat, Nat.reduceMul, rC, sQ, ratC]
/-- examboard/examboardref45.Same -/
def b21 : AF := ⟨17, 2, [.tmp 4],
  (.seq (.reg [
    ⟨some 2, .box 37 (.tmp 0), none⟩,
    ⟨some 3, .box 37 (.tmp 1), none⟩,
    ⟨some 4, .assign (.const (.bool false)), none⟩])
  (.seq (.reg [
    ⟨some 5, .fieldAddr 37 (.tmp 2) 0, none⟩,
    ⟨some 6, .load 27 (.tmp 5), none⟩,
    ⟨some 7, .fieldAddr 37 (.tmp 3) 0, none⟩,
    ⟨some 8, .load 27 (.tmp 7), none⟩,
    ⟨some 9, .call ⟨(.value (.func 24)), #[(.tmp 6), (.tmp 8)], #[27, 27]⟩, none⟩,
    ⟨some 10, .move (.tmp 9), none⟩,
    ⟨some 11, .fieldAddr 37 (.tmp 2) 1, some (10, true)⟩,
    ⟨some 12, .load 27 (.tmp 11), some (10, true)⟩,
    ⟨some 13, .fieldAddr 37 (.tmp 3) 1, some (10, true)⟩,
    ⟨some 14, .load 27 (.tmp 13), some (10, true)⟩,
    ⟨some 15, .call ⟨(.value (.func 24)), #[(.tmp 12), (.tmp 14)], #[27, 27]⟩, some (10, true)⟩,
    ⟨some 16, .pick (.tmp 10) (.tmp 15) (.const (.bool false)), none⟩,
    ⟨some 4, .assign (.tmp 16), none⟩])
  .ret))⟩
theorem c21 : fcomp Tryz.prog 21 = ⟨b21.n, b21.np, b21.res, b21.body.bare⟩ := by kernel_rfl
theorem k21 : fok Tryz.prog 21 = true := by kernel_rfl
theorem f_Same {p q : Rat} (hp : qs p ≤ 68719476600) (hq : qs q ≤ 68719476600) : AFun Tryz.prog 21 [.agg (sQ p q), .agg (sQ p q)] [.one (.lit (.bool true))] := by
  have c1 := f4_SameRatio hp
  have c2 := f4_SameRatio hq
  refine afun_intro mo_ _ _ c21 k21 _ _ rfl (by decide) ?_
  unfold b21
  simp (maxSteps := 1000000) (disch := first | omega | (simp only [LL]; omega)) only [W, V, TY, CC, reduceIte, Nat.reduceEqDiff, Nat.reduceAdd, Nat.reduceLeDiff, Nat.reduceLT, Int.reduceLE, Int.reduceLT, Int.reduceAdd, Int.reduceSub, Int.reduceToNat, Nat.reduceMul, sQ, ratC]
  refine a_call _ _ c1 (by simp (maxSteps := 1000000) (disch := first | omega | (simp only [LL]; omega)) only [W, V, TY, CC, reduceIte, Nat.reduceEqDiff, Nat.reduceAdd, Nat.reduceLeDiff, Nat.reduceLT, Int.reduceLE, Int.reduceLT, Int.reduceAdd, Int.reduceSub, Int.reduceToNat, Nat.reduceMul, rC, sQ, ratC]) ?_
  simp (maxSteps := 1000000) (disch := first | omega | (simp only [LL]; omega)) only [W, V, TY, CC, reduceIte, Nat.reduceEqDiff, Nat.reduceAdd, Nat.reduceLeDiff, Nat.reduceLT, Int.reduceLE, Int.reduceLT, Int.reduceAdd, Int.reduceSub, Int.reduceToNat, Nat.reduceMul, rC, sQ, ratC]
  refine a_call _ _ c2 (by simp (maxSteps := 1000000) (disch := first | omega | (simp only [LL]; omega)) only [W, V, TY, CC, reduceIte, Nat.reduceEqDiff, Nat.reduceAdd, Nat.reduceLeDiff, Nat.reduceLT, Int.reduceLE, Int.reduceLT, Int.reduceAdd, Int.reduceSub, Int.reduceToNat, Nat.reduceMul, rC, sQ, ratC]) ?_
  simp (maxSteps := 1000000) (disch := first | omega | (simp only [LL]; omega)) only [W, V, TY, CC, reduceIte, Nat.reduceEqDiff, Nat.reduceAdd, Nat.reduceLeDiff, Nat.reduceLT, Int.reduceLE, Int.reduceLT, Int.reduceAdd, Int.reduceSub, Int.reduceToNat, Nat.reduceMul, rC, sQ, ratC]
  refine f_ret _ _ _ ?_
  simp (maxSteps := 1000000) (disch := first | omega | (simp only [LL]; omega)) only [W, V, TY, CC, reduceIte, Nat.reduceEqDiff, Nat.reduceAdd, Nat.reduceLeDiff, Nat.reduceLT, Int.reduceLE, Int.reduceLT, Int.reduceAdd, Int.reduceSub, Int.reduceToNat, Nat.reduceMul, rC, sQ, ratC]
/-- two links of zeros that aren't numbers are the same, field by field -/
theorem f4_SameRatioZ : AFun Tryz.prog 24 [.agg rZ, .agg rZ] [.one (.lit (.bool true))] := by
  have c1 := f4_SameInt false [] (by decide)
  have c2 := f1_Same [] (by decide)
  refine afun_intro mo_ _ _ c24 k24 _ _ rfl (by decide) ?_
  unfold b24
  simp (maxSteps := 1000000) (disch := first | omega | (simp only [LL]; omega)) only [W, V, TY, CC, reduceIte, Nat.reduceEqDiff, Nat.reduceAdd, Nat.reduceLeDiff, Nat.reduceLT, Int.reduceLE, Int.reduceLT, Int.reduceAdd, Int.reduceSub, Int.reduceToNat, Nat.reduceMul, rZ]
  refine a_call _ _ c1 (by simp (maxSteps := 1000000) (disch := first | omega | (simp only [LL]; omega)) only [W, V, TY, CC, reduceIte, Nat.reduceEqDiff, Nat.reduceAdd, Nat.reduceLeDiff, Nat.reduceLT, Int.reduceLE, Int.reduceLT, Int.reduceAdd, Int.reduceSub, Int.reduceToNat, Nat.reduceMul, rZ]) ?_
  simp (maxSteps := 1000000) (disch := first | omega | (simp only [LL]; omega)) only [W, V, TY, CC, reduceIte, Nat.reduceEqDiff, Nat.reduceAdd, Nat.reduceLeDiff, Nat.reduceLT, Int.reduceLE, Int.reduceLT, Int.reduceAdd, Int.reduceSub, Int.reduceToNat, Nat.reduceMul, rZ]
  refine a_call _ _ c2 (by simp (maxSteps := 1000000) (disch := first | omega | (simp only [LL]; omega)) only [W, V, TY, CC, reduceIte, Nat.reduceEqDiff, Nat.reduceAdd, Nat.reduceLeDiff, Nat.reduceLT, Int.reduceLE, Int.reduceLT, Int.reduceAdd, Int.reduceSub, Int.reduceToNat, Nat.reduceMul, rZ]) ?_
  simp (maxSteps := 1000000) (disch := first | omega | (simp only [LL]; omega)) only [W, V, TY, CC, reduceIte, Nat.reduceEqDiff, Nat.reduceAdd, Nat.reduceLeDiff, Nat.reduceLT, Int.reduceLE, Int.reduceLT, Int.reduceAdd, Int.reduceSub, Int.reduceToNat, Nat.reduceMul, rZ]
  refine f_ret _ _ _ ?_
  simp (maxSteps := 1000000) (disch := first | omega | (simp only [LL]; omega)) only [W, V, TY, CC, reduceIte, Nat.reduceEqDiff, Nat.reduceAdd, Nat.reduceLeDiff, Nat.reduceLT, Int.reduceLE, Int.reduceLT, Int.reduceAdd, Int.reduceSub, Int.reduceToNat, Nat.reduceMul, rC, sQ, ratC]
theorem f_SameZ : AFun Tryz.prog 21 [.agg zS, .agg zS] [.one (.lit (.bool true))] := by
  have c1 := f4_SameRatioZ
  refine afun_intro mo_ _ _ c21 k21 _ _ rfl (by decide) ?_
  unfold b21
  simp (maxSteps := 1000000) (disch := first | omega | (simp only [LL]; omega)) only [W, V, TY, CC, reduceIte, Nat.reduceEqDiff, Nat.reduceAdd, Nat.reduceLeDiff, Nat.reduceLT, Int.reduceLE, Int.reduceLT, Int.reduceAdd, Int.reduceSub, Int.reduceToNat, Nat.reduceMul, zS]
  refine a_call _ _ c1 (by simp (maxSteps := 1000000) (disch := first | omega | (simp only [LL]; omega)) only [W, V, TY, CC, reduceIte, Nat.reduceEqDiff, Nat.reduceAdd, Nat.reduceLeDiff, Nat.reduceLT, Int.reduceLE, Int.reduceLT, Int.reduceAdd, Int.reduceSub, Int.reduceToNat, Nat.reduceMul, zS, rZ]) ?_
  simp (maxSteps := 1000000) (disch := first | omega | (simp only [LL]; omega)) only [W, V, TY, CC, reduceIte, Nat.reduceEqDiff, Nat.reduceAdd, Nat.reduceLeDiff, Nat.reduceLT, Int.reduceLE, Int.reduceLT, Int.reduceAdd, Int.reduceSub, Int.reduceToNat, Nat.reduceMul, zS, rZ]
  refine a_call _ _ c1 (by simp (maxSteps := 1000000) (disch := first | omega | (simp only [LL]; omega)) only [W, V, TY, CC, reduceIte, Nat.reduceEqDiff, Nat.reduceAdd, Nat.reduceLeDiff, Nat.reduceLT, Int.reduceLE, Int.reduceLT, Int.reduceAdd, Int.reduceSub, Int.reduceToNat, Nat.reduceMul, zS, rZ]) ?_
  simp (maxSteps := 1000000) (disch := first | omega | (simp only [LL]; omega)) only [W, V, TY, CC, reduceIte, Nat.reduceEqDiff, Nat.reduceAdd, Nat.reduceLeDiff, Nat.reduceLT, Int.reduceLE, Int.reduceLT, Int.reduceAdd, Int.reduceSub, Int.reduceToNat, Nat.reduceMul, zS, rZ]
  refine f_ret _ _ _ ?_
  simp (maxSteps := 1000000) (disch := first | omega | (simp only [LL]; omega)) only [W, V, TY, CC, reduceIte, Nat.reduceEqDiff, Nat.reduceAdd, Nat.reduceLeDiff, Nat.reduceLT, Int.reduceLE, Int.reduceLT, Int.reduceAdd, Int.reduceSub, Int.reduceToNat, Nat.reduceMul, rC, sQ, ratC]
/-- examboard/examboardref45.anchors -/
def b73 : AF := ⟨54, 2, [.tmp 4],
  (.seq (.reg [
    ⟨some 4, .assign (.const (.int .i64 0)), none⟩])
  (.seq (.seq (.reg [
    ⟨some 6, .move (.tmp 0), none⟩,
    ⟨some 7, .call ⟨(.builtin .len), #[(.tmp 6)], #[47]⟩, none⟩,
    ⟨some 8, .binOp .gtr 3 (.tmp 7) (.const (.int .i64 60)) 3, none⟩,
    ⟨some 9, .move (.tmp 8), none⟩,
    ⟨some 10, .move (.tmp 1), some (9, false)⟩,
    ⟨some 11, .call ⟨(.builtin .len), #[(.tmp 10)], #[47]⟩, some (9, false)⟩,
    ⟨some 12, .binOp .gtr 3 (.tmp 11) (.const (.int .i64 60)) 3, some (9, false)⟩,
    ⟨some 13, .pick (.tmp 9) (.const (.bool true)) (.tmp 12), none⟩])
  (.cond (.tmp 13)
    (.seq (.reg [
      ⟨some 4, .assign (.const (.int .i64 5)), none⟩])
    .ret)
    .skip))
  (.seq (.seq (.reg [
    ⟨some 14, .move (.tmp 0), none⟩,
    ⟨some 15, .call ⟨(.builtin .len), #[(.tmp 14)], #[47]⟩, none⟩,
    ⟨some 16, .move (.tmp 1), none⟩,
    ⟨some 17, .call ⟨(.builtin .len), #[(.tmp 16)], #[47]⟩, none⟩,
    ⟨some 18, .binOp .neq 3 (.tmp 15) (.tmp 17) 3, none⟩])
  (.cond (.tmp 18)
    (.seq (.reg [
      ⟨some 4, .assign (.const (.int .i64 1)), none⟩])
    .ret)
    .skip))
  (.seq (.seq (.reg [
    ⟨some 19, .move (.tmp 0), none⟩,
    ⟨some 20, .call ⟨(.builtin .len), #[(.tmp 19)], #[47]⟩, none⟩,
    ⟨some 21, .binOp .eql 3 (.tmp 20) (.const (.int .i64 0)) 3, none⟩])
  (.cond (.tmp 21)
    (.seq (.reg [
      ⟨some 4, .assign (.const (.int .i64 20)), none⟩])
    .ret)
    .skip))
  (.seq (.seq (.reg [
    ⟨some 5, .assign (.const (.int .i64 0)), none⟩])
  (.block 0 (.loop (.seq (.seq (.reg [
    ⟨some 22, .move (.tmp 5), none⟩,
    ⟨some 23, .move (.tmp 0), none⟩,
    ⟨some 24, .call ⟨(.builtin .len), #[(.tmp 23)], #[47]⟩, none⟩,
    ⟨some 25, .binOp .lss 3 (.tmp 22) (.tmp 24) 3, none⟩])
  (.cond (.tmp 25)
    .skip
    (.exit 0)))
  (.seq (.block 1 (.seq (.reg [
    ⟨some 28, .move (.tmp 0), none⟩,
    ⟨some 29, .move (.tmp 5), none⟩,
    ⟨some 30, .indexAddr 47 (.tmp 28) (.tmp 29), none⟩,
    ⟨some 31, .load 3 (.tmp 30), none⟩,
    ⟨some 32, .binOp .lss 3 (.tmp 31) (.const (.int .i64 (-1000000))) 3, none⟩,
    ⟨some 33, .move (.tmp 32), none⟩,
    ⟨some 34, .move (.tmp 0), some (33, false)⟩,
    ⟨some 35, .move (.tmp 5), some (33, false)⟩,
    ⟨some 36, .indexAddr 47 (.tmp 34) (.tmp 35), some (33, false)⟩,
    ⟨some 37, .load 3 (.tmp 36), some (33, false)⟩,
    ⟨some 38, .binOp .gtr 3 (.tmp 37) (.const (.int .i64 1000000)) 3, some (33, false)⟩,
    ⟨some 39, .pick (.tmp 33) (.const (.bool true)) (.tmp 38), none⟩,
    ⟨some 40, .move (.tmp 39), none⟩,
    ⟨some 41, .move (.tmp 1), some (40, false)⟩,
    ⟨some 42, .move (.tmp 5), some (40, false)⟩,
    ⟨some 43, .indexAddr 47 (.tmp 41) (.tmp 42), some (40, false)⟩,
    ⟨some 44, .load 3 (.tmp 43), some (40, false)⟩,
    ⟨some 45, .binOp .lss 3 (.tmp 44) (.const (.int .i64 (-1000000))) 3, some (40, false)⟩,
    ⟨some 46, .pick (.tmp 40) (.const (.bool true)) (.tmp 45), none⟩,
    ⟨some 47, .move (.tmp 46), none⟩,
    ⟨some 48, .move (.tmp 1), some (47, false)⟩,
    ⟨some 49, .move (.tmp 5), some (47, false)⟩,
    ⟨some 50, .indexAddr 47 (.tmp 48) (.tmp 49), some (47, false)⟩,
    ⟨some 51, .load 3 (.tmp 50), some (47, false)⟩,
    ⟨some 52, .binOp .gtr 3 (.tmp 51) (.const (.int .i64 1000000)) 3, some (47, false)⟩,
    ⟨some 53, .pick (.tmp 47) (.const (.bool true)) (.tmp 52), none⟩])
  (.cond (.tmp 53)
    (.seq (.reg [
      ⟨some 4, .assign (.const (.int .i64 3)), none⟩])
    .ret)
    .skip)))
  (.reg [
    ⟨some 26, .move (.tmp 5), none⟩,
    ⟨some 27, .binOp .add 3 (.tmp 26) (.const (.int .i64 1)) 3, none⟩,
    ⟨some 5, .assign (.tmp 27), none⟩]))))))
  (.seq (.reg [
    ⟨some 4, .assign (.const (.int .i64 0)), none⟩])
  .ret))))))⟩
theorem c73 : fcomp Tryz.prog 73 = ⟨b73.n, b73.np, b73.res, b73.body.bare⟩ := by kernel_rfl
theorem k73 : fok Tryz.prog 73 = true := by kernel_rfl
theorem f_anchors (x y : List Int) (hx : x.length ≤ 9223372036854775807) (hy : y.length ≤ 9223372036854775807) : AFun Tryz.prog 73 [.one (intsD x), .one (intsD y)] [.one (.lit (.int .i64 (anchV x y)))] := by
  unfold anchV
  refine afun_intro mo_ _ _ c73 k73 _ _ rfl (by decide) ?_
  unfold b73
  simp (maxSteps := 1000000) (disch := first | omega | (simp only [LL]; omega)) only [W, V, TY, CC, reduceIte, Nat.reduceEqDiff, Nat.reduceAdd, Nat.reduceLeDiff, Nat.reduceLT, Int.reduceLE, Int.reduceLT, Int.reduceAdd, Int.reduceSub, Int.reduceToNat, Nat.reduceMul]
  by_cases h1 : 60 < x.length
  · have h1' : (60 : Int) < x.length := by omega
    rw [if_pos (.inl h1)]
    simp (maxSteps := 1000000) (disch := first | omega | (simp only [LL]; omega)) only [W, V, TY, CC, reduceIte, Nat.reduceEqDiff, Nat.reduceAdd, Nat.reduceLeDiff, Nat.reduceLT, Int.reduceLE, Int.reduceLT, Int.reduceAdd, Int.reduceSub, Int.reduceToNat, Nat.reduceMul, h1', decide_true]
    refine f_ret _ _ _ ?_
    simp (maxSteps := 1000000) (disch := first | omega | (simp only [LL]; omega)) only [W, V, TY, CC, reduceIte, Nat.reduceEqDiff, Nat.reduceAdd, Nat.reduceLeDiff, Nat.reduceLT, Int.reduceLE, Int.reduceLT, Int.reduceAdd, Int.reduceSub, Int.reduceToNat, Nat.reduceMul, h1']
  · have h1' : ¬ (60 : Int) < x.length := by omega
    by_cases h2 : 60 < y.length
    · have h2' : (60 : Int) < y.length := by omega
      rw [if_pos (.inr h2)]
      simp (maxSteps := 1000000) (disch := first | omega | (simp only [LL]; omega)) only [W, V, TY, CC, reduceIte, Nat.reduceEqDiff, Nat.reduceAdd, Nat.reduceLeDiff, Nat.reduceLT, Int.reduceLE, Int.reduceLT, Int.reduceAdd, Int.reduceSub, Int.reduceToNat, Nat.reduceMul, h1', h2', decide_true, decide_false]
      refine f_ret _ _ _ ?_
      simp (maxSteps := 1000000) (disch := first | omega | (simp only [LL]; omega)) only [W, V, TY, CC, reduceIte, Nat.reduceEqDiff, Nat.reduceAdd, Nat.reduceLeDiff, Nat.reduceLT, Int.reduceLE, Int.reduceLT, Int.reduceAdd, Int.reduceSub, Int.reduceToNat, Nat.reduceMul, h1']
    · have h2' : ¬ (60 : Int) < y.length := by omega
      rw [if_neg (by omega : ¬ (60 < x.length ∨ 60 < y.length))]
      by_cases h3 : x.length = y.length
      case neg =>
        have h3' : ¬ (x.length : Int) = y.length := by omega
        rw [if_pos h3]
        simp (maxSteps := 1000000) (disch := first | omega | (simp only [LL]; omega)) only [W, V, TY, CC, reduceIte, Nat.reduceEqDiff, Nat.reduceAdd, Nat.reduceLeDiff, Nat.reduceLT, Int.reduceLE, Int.reduceLT, Int.reduceAdd, Int.reduceSub, Int.reduceToNat, Nat.reduceMul, h1', h2', h3', not_false_eq_true, decide_true, decide_false]
        refine f_ret _ _ _ ?_
        simp (maxSteps := 1000000) (disch := first | omega | (simp only [LL]; omega)) only [W, V, TY, CC, reduceIte, Nat.reduceEqDiff, Nat.reduceAdd, Nat.reduceLeDiff, Nat.reduceLT, Int.reduceLE, Int.reduceLT, Int.reduceAdd, Int.reduceSub, Int.reduceToNat, Nat.reduceMul, h1']
      case pos =>
        have h3' : (x.length : Int) = y.length := by omega
        rw [if_neg (not_not_intro h3)]
        by_cases h4 : x.length = 0
        · have h4' : (y.length : Int) = 0 := by omega
          rw [if_pos h4]
          simp (maxSteps := 1000000) (disch := first | omega | (simp only [LL]; omega)) only [W, V, TY, CC, reduceIte, Nat.reduceEqDiff, Nat.reduceAdd, Nat.reduceLeDiff, Nat.reduceLT, Int.reduceLE, Int.reduceLT, Int.reduceAdd, Int.reduceSub, Int.reduceToNat, Nat.reduceMul, h1', h2', h3', h4', not_true_eq_false, decide_true, decide_false]
          refine f_ret _ _ _ ?_
          simp (maxSteps := 1000000) (disch := first | omega | (simp only [LL]; omega)) only [W, V, TY, CC, reduceIte, Nat.reduceEqDiff, Nat.reduceAdd, Nat.reduceLeDiff, Nat.reduceLT, Int.reduceLE, Int.reduceLT, Int.reduceAdd, Int.reduceSub, Int.reduceToNat, Nat.reduceMul, h1']
        · have h4' : ¬ (y.length : Int) = 0 := by omega
          rw [if_neg h4]
          simp (maxSteps := 1000000) (disch := first | omega | (simp only [LL]; omega)) only [W, V, TY, CC, reduceIte, Nat.reduceEqDiff, Nat.reduceAdd, Nat.reduceLeDiff, Nat.reduceLT, Int.reduceLE, Int.reduceLT, Int.reduceAdd, Int.reduceSub, Int.reduceToNat, Nat.reduceMul, h1', h2', h3', h4', not_true_eq_false, decide_true, decide_false]
          refine w_loop (fun n s => ∃ i : Nat, n + i = x.length ∧ s.t 0 = .one (.dt (intsD x)) ∧ s.t 1 = .one (.dt (intsD y)) ∧ s.t 5 = .one (.dt (.lit (.int .i64 i))) ∧ ∀ j : Nat, j < i → (-1000000 ≤ x.getD j 0 ∧ x.getD j 0 ≤ 1000000) ∧ (-1000000 ≤ y.getD j 0 ∧ y.getD j 0 ≤ 1000000)) x.length ⟨0, rfl, ?_, ?_, ?_, fun j hj => by omega⟩ ?_
          · simp (maxSteps := 1000000) (disch := first | omega | (simp only [LL]; omega)) only [W, V, TY, CC, reduceIte, Nat.reduceEqDiff, Nat.reduceAdd, Nat.reduceLeDiff, Nat.reduceLT, Int.reduceLE, Int.reduceLT, Int.reduceAdd, Int.reduceSub, Int.reduceToNat, Nat.reduceMul]
          · simp (maxSteps := 1000000) (disch := first | omega | (simp only [LL]; omega)) only [W, V, TY, CC, reduceIte, Nat.reduceEqDiff, Nat.reduceAdd, Nat.reduceLeDiff, Nat.reduceLT, Int.reduceLE, Int.reduceLT, Int.reduceAdd, Int.reduceSub, Int.reduceToNat, Nat.reduceMul]
          · simp (maxSteps := 1000000) (disch := first | omega | (simp only [LL]; omega)) only [W, V, TY, CC, reduceIte, Nat.reduceEqDiff, Nat.reduceAdd, Nat.reduceLeDiff, Nat.reduceLT, Int.reduceLE, Int.reduceLT, Int.reduceAdd, Int.reduceSub, Int.reduceToNat, Nat.reduceMul]
          intro n s _ ⟨i, e, t0, t1, t5, ho⟩
          simp (maxSteps := 1000000) (disch := first | omega | (simp only [LL]; omega)) only [W, V, TY, CC, reduceIte, Nat.reduceEqDiff, Nat.reduceAdd, Nat.reduceLeDiff, Nat.reduceLT, Int.reduceLE, Int.reduceLT, Int.reduceAdd, Int.reduceSub, Int.reduceToNat, Nat.reduceMul, t0, t1, t5]
          refine c_split (fun hi => ?_) (fun hi => ?_)
          · have hil : i < x.length := by omega
            have hiy : i < y.length := by omega
            by_cases c1 : x.getD i 0 < -1000000
            · rw [if_neg (by rw [numB_not hil (by omega)]; simp)]
              simp (maxSteps := 1000000) (disch := first | omega | (simp only [LL]; omega)) only [W, V, TY, CC, reduceIte, Nat.reduceEqDiff, Nat.reduceAdd, Nat.reduceLeDiff, Nat.reduceLT, Int.reduceLE, Int.reduceLT, Int.reduceAdd, Int.reduceSub, Int.reduceToNat, Nat.reduceMul, t0, t1, t5, c1, decide_true, decide_false]
              refine f_ret _ _ _ ?_
              simp (maxSteps := 1000000) (disch := first | omega | (simp only [LL]; omega)) only [W, V, TY, CC, reduceIte, Nat.reduceEqDiff, Nat.reduceAdd, Nat.reduceLeDiff, Nat.reduceLT, Int.reduceLE, Int.reduceLT, Int.reduceAdd, Int.reduceSub, Int.reduceToNat, Nat.reduceMul, rC, sQ, ratC]
            · by_cases c2 : 1000000 < x.getD i 0
              · rw [if_neg (by rw [numB_not hil (by omega)]; simp)]
                simp (maxSteps := 1000000) (disch := first | omega | (simp only [LL]; omega)) only [W, V, TY, CC, reduceIte, Nat.reduceEqDiff, Nat.reduceAdd, Nat.reduceLeDiff, Nat.reduceLT, Int.reduceLE, Int.reduceLT, Int.reduceAdd, Int.reduceSub, Int.reduceToNat, Nat.reduceMul, t0, t1, t5, c1, c2, decide_true, decide_false]
                refine f_ret _ _ _ ?_
                simp (maxSteps := 1000000) (disch := first | omega | (simp only [LL]; omega)) only [W, V, TY, CC, reduceIte, Nat.reduceEqDiff, Nat.reduceAdd, Nat.reduceLeDiff, Nat.reduceLT, Int.reduceLE, Int.reduceLT, Int.reduceAdd, Int.reduceSub, Int.reduceToNat, Nat.reduceMul, rC, sQ, ratC]
              · by_cases c3 : y.getD i 0 < -1000000
                · rw [if_neg (by rw [numB_not hiy (by omega)]; simp)]
                  simp (maxSteps := 1000000) (disch := first | omega | (simp only [LL]; omega)) only [W, V, TY, CC, reduceIte, Nat.reduceEqDiff, Nat.reduceAdd, Nat.reduceLeDiff, Nat.reduceLT, Int.reduceLE, Int.reduceLT, Int.reduceAdd, Int.reduceSub, Int.reduceToNat, Nat.reduceMul, t0, t1, t5, c1, c2, c3, decide_true, decide_false]
                  refine f_ret _ _ _ ?_
                  simp (maxSteps := 1000000) (disch := first | omega | (simp only [LL]; omega)) only [W, V, TY, CC, reduceIte, Nat.reduceEqDiff, Nat.reduceAdd, Nat.reduceLeDiff, Nat.reduceLT, Int.reduceLE, Int.reduceLT, Int.reduceAdd, Int.reduceSub, Int.reduceToNat, Nat.reduceMul, rC, sQ, ratC]
                · by_cases c4 : 1000000 < y.getD i 0
                  · rw [if_neg (by rw [numB_not hiy (by omega)]; simp)]
                    simp (maxSteps := 1000000) (disch := first | omega | (simp only [LL]; omega)) only [W, V, TY, CC, reduceIte, Nat.reduceEqDiff, Nat.reduceAdd, Nat.reduceLeDiff, Nat.reduceLT, Int.reduceLE, Int.reduceLT, Int.reduceAdd, Int.reduceSub, Int.reduceToNat, Nat.reduceMul, t0, t1, t5, c1, c2, c3, c4, decide_true, decide_false]
                    refine f_ret _ _ _ ?_
                    simp (maxSteps := 1000000) (disch := first | omega | (simp only [LL]; omega)) only [W, V, TY, CC, reduceIte, Nat.reduceEqDiff, Nat.reduceAdd, Nat.reduceLeDiff, Nat.reduceLT, Int.reduceLE, Int.reduceLT, Int.reduceAdd, Int.reduceSub, Int.reduceToNat, Nat.reduceMul, rC, sQ, ratC]
                  · simp (maxSteps := 1000000) (disch := first | omega | (simp only [LL]; omega)) only [W, V, TY, CC, reduceIte, Nat.reduceEqDiff, Nat.reduceAdd, Nat.reduceLeDiff, Nat.reduceLT, Int.reduceLE, Int.reduceLT, Int.reduceAdd, Int.reduceSub, Int.reduceToNat, Nat.reduceMul, t0, t1, t5, c1, c2, c3, c4, decide_true, decide_false]
                    refine ⟨n - 1, by omega, i + 1, by omega, rfl, fun j hj => ?_⟩
                    by_cases hji : j = i
                    · subst hji; omega
                    · exact ho j (by omega)
          · rw [if_pos ⟨numB_of fun j hj => (ho j (by omega)).1, numB_of fun j hj => (ho j (by omega)).2⟩]
            simp (maxSteps := 1000000) (disch := first | omega | (simp only [LL]; omega)) only [W, V, TY, CC, reduceIte, Nat.reduceEqDiff, Nat.reduceAdd, Nat.reduceLeDiff, Nat.reduceLT, Int.reduceLE, Int.reduceLT, Int.reduceAdd, Int.reduceSub, Int.reduceToNat, Nat.reduceMul, t0, t1, t5]
            refine f_ret _ _ _ ?_
            simp (maxSteps := 1000000) (disch := first | omega | (simp only [LL]; omega)) only [W, V, TY, CC, reduceIte, Nat.reduceEqDiff, Nat.reduceAdd, Nat.reduceLeDiff, Nat.reduceLT, Int.reduceLE, Int.reduceLT, Int.reduceAdd, Int.reduceSub, Int.reduceToNat, Nat.reduceMul, rC, sQ, ratC]
section
variable {x y : List Int} (lx : x.length ≤ 9223372036854775807) (ly : y.length ≤ 9223372036854775807)
include lx ly
end
/-- examboard/examboardref45.Loss -/
def b35 : AF := ⟨45, 3, [.cell 6 27, .tmp 7],
  (.seq (.reg [
    ⟨some 3, .box 37 (.tmp 0), none⟩,
    ⟨some 6, .alloc 27, none⟩,
    ⟨some 7, .assign (.const (.int .i64 0)), none⟩])
  (.seq (.reg [
    ⟨some 12, .move (.tmp 1), none⟩,
    ⟨some 13, .move (.tmp 2), none⟩,
    ⟨some 14, .call ⟨(.value (.func 73)), #[(.tmp 12), (.tmp 13)], #[47, 47]⟩, none⟩,
    ⟨some 8, .assign (.tmp 14), none⟩])
  (.seq (.seq (.reg [
    ⟨some 15, .move (.tmp 8), none⟩,
    ⟨some 16, .binOp .neq 38 (.tmp 15) (.const (.int .i64 0)) 38, none⟩])
  (.cond (.tmp 16)
    (.seq (.reg [
      ⟨some 17, .build 27 #[], none⟩,
      ⟨some 18, .move (.tmp 8), none⟩,
      ⟨none, .store 27 (.tmp 6) (.tmp 17), none⟩,
      ⟨some 7, .assign (.tmp 18), none⟩])
    .ret)
    .skip))
  (.seq (.reg [
    ⟨some 19, .call ⟨(.value (.func 62)), #[(.const (.int .i64 0))], #[3]⟩, none⟩,
    ⟨some 9, .alloc 27, none⟩,
    ⟨none, .store 27 (.tmp 9) (.tmp 19), none⟩])
  (.seq (.seq (.reg [
    ⟨some 10, .assign (.const (.int .i64 0)), none⟩])
  (.block 0 (.loop (.seq (.seq (.reg [
    ⟨some 20, .move (.tmp 10), none⟩,
    ⟨some 21, .move (.tmp 1), none⟩,
    ⟨some 22, .call ⟨(.builtin .len), #[(.tmp 21)], #[47]⟩, none⟩,
    ⟨some 23, .binOp .lss 3 (.tmp 20) (.tmp 22) 3, none⟩])
  (.cond (.tmp 23)
    .skip
    (.exit 0)))
  (.seq (.block 1 (.seq (.dreg [
    ⟨some 26, .load 37 (.tmp 3), none⟩,
    ⟨some 27, .move (.tmp 1), none⟩,
    ⟨some 28, .move (.tmp 10), none⟩,
    ⟨some 29, .indexAddr 47 (.tmp 27) (.tmp 28), none⟩,
    ⟨some 30, .load 3 (.tmp 29), none⟩,
    ⟨some 31, .call ⟨(.value (.func 62)), #[(.tmp 30)], #[3]⟩, none⟩,
    ⟨some 32, .call ⟨(.value (.func 26)), #[(.tmp 26), (.tmp 31)], #[37, 27]⟩, none⟩,
    ⟨some 33, .move (.tmp 2), none⟩,
    ⟨some 34, .move (.tmp 10), none⟩,
    ⟨some 35, .indexAddr 47 (.tmp 33) (.tmp 34), none⟩,
    ⟨some 36, .load 3 (.tmp 35), none⟩,
    ⟨some 37, .call ⟨(.value (.func 62)), #[(.tmp 36)], #[3]⟩, none⟩,
    ⟨some 38, .call ⟨(.value (.func 49)), #[(.tmp 32), (.tmp 37)], #[27, 27]⟩, none⟩,
    ⟨some 11, .alloc 27, none⟩,
    ⟨none, .store 27 (.tmp 11) (.tmp 38), none⟩])
  (.dreg [
    ⟨some 39, .load 27 (.tmp 9), none⟩,
    ⟨some 40, .load 27 (.tmp 11), none⟩,
    ⟨some 41, .load 27 (.tmp 11), none⟩,
    ⟨some 42, .call ⟨(.value (.func 52)), #[(.tmp 40), (.tmp 41)], #[27, 27]⟩, none⟩,
    ⟨some 43, .call ⟨(.value (.func 47)), #[(.tmp 39), (.tmp 42)], #[27, 27]⟩, none⟩,
    ⟨none, .store 27 (.tmp 9) (.tmp 43), none⟩])))
  (.reg [
    ⟨some 24, .move (.tmp 10), none⟩,
    ⟨some 25, .binOp .add 3 (.tmp 24) (.const (.int .i64 1)) 3, none⟩,
    ⟨some 10, .assign (.tmp 25), none⟩]))))))
  (.seq (.reg [
    ⟨some 44, .load 27 (.tmp 9), none⟩,
    ⟨none, .store 27 (.tmp 6) (.tmp 44), none⟩,
    ⟨some 7, .assign (.const (.int .i64 0)), none⟩])
  .ret))))))⟩
theorem c35 : fcomp Tryz.prog 35 = ⟨b35.n, b35.np, b35.res, b35.body.bare⟩ := by kernel_rfl
theorem k35 : fok Tryz.prog 35 = true := by kernel_rfl
theorem f_LossE {A B : RR} {x y : List Int} (lx : x.length ≤ 9223372036854775807) (ly : y.length ≤ 9223372036854775807) (h : ¬ anchV x y = 0) : AFun Tryz.prog 35 [.agg (rC A ++ rC B), .one (intsD x), .one (intsD y)] [.agg rZ, .one (.lit (.int .i64 (anchV x y)))] := by
  have ca := f_anchors x y lx ly
  generalize anchV x y = e at *
  refine afun_intro mo_ _ _ c35 k35 _ _ rfl (by decide) ?_
  unfold b35
  simp (maxSteps := 1000000) (disch := first | omega | (simp only [LL]; omega)) only [W, V, TY, CC, reduceIte, Nat.reduceEqDiff, Nat.reduceAdd, Nat.reduceLeDiff, Nat.reduceLT, Int.reduceLE, Int.reduceLT, Int.reduceAdd, Int.reduceSub, Int.reduceToNat, Nat.reduceMul, rC]
  refine a_call _ _ ca (by simp (maxSteps := 1000000) (disch := first | omega | (simp only [LL]; omega)) only [W, V, TY, CC, reduceIte, Nat.reduceEqDiff, Nat.reduceAdd, Nat.reduceLeDiff, Nat.reduceLT, Int.reduceLE, Int.reduceLT, Int.reduceAdd, Int.reduceSub, Int.reduceToNat, Nat.reduceMul, h, not_false_eq_true, decide_true]) ?_
  simp (maxSteps := 1000000) (disch := first | omega | (simp only [LL]; omega)) only [W, V, TY, CC, reduceIte, Nat.reduceEqDiff, Nat.reduceAdd, Nat.reduceLeDiff, Nat.reduceLT, Int.reduceLE, Int.reduceLT, Int.reduceAdd, Int.reduceSub, Int.reduceToNat, Nat.reduceMul, h, not_false_eq_true, decide_true]
  refine f_ret _ _ _ ?_
  simp (maxSteps := 1000000) (disch := first | omega | (simp only [LL]; omega)) only [W, V, TY, CC, reduceIte, Nat.reduceEqDiff, Nat.reduceAdd, Nat.reduceLeDiff, Nat.reduceLT, Int.reduceLE, Int.reduceLT, Int.reduceAdd, Int.reduceSub, Int.reduceToNat, Nat.reduceMul, rZ]
  rfl
theorem f_Loss0 {A B : RR} (hA : rok 68719476600 A) (hB : rok 68719476600 B) {k : Nat} (qA : qs A.q ≤ k) (qB : qs B.q ≤ k) (hk : k ≤ 100000000) {x y : List Int} (h : anchV x y = 0) :
    AFun Tryz.prog 35 [.agg (rC A ++ rC B), .one (intsD x), .one (intsD y)] [.agg (ratC (lossQ A.q B.q x y x.length)), .one (.lit (.int .i64 0))] := by
  have ho := anch_ok h
  have ca := f_anchors x y (by have := ho.lx; omega) (by have := ho.swap.lx; omega)
  rw [h] at ca
  have f0 := f_whole45 0 (by decide) (by decide)
  rw [show ((0 : Int) : Rat) = 0 from rfl] at f0
  have l60 := ho.lx
  have lyx := ho.ly
  refine afun_intro mo_ _ _ c35 k35 _ _ rfl (by decide) ?_
  unfold b35
  simp (maxSteps := 1000000) (disch := first | omega | (simp only [LL]; omega)) only [W, V, TY, CC, reduceIte, Nat.reduceEqDiff, Nat.reduceAdd, Nat.reduceLeDiff, Nat.reduceLT, Int.reduceLE, Int.reduceLT, Int.reduceAdd, Int.reduceSub, Int.reduceToNat, Nat.reduceMul, rC]
  refine a_call _ _ ca (by simp (maxSteps := 1000000) (disch := first | omega | (simp only [LL]; omega)) only [W, V, TY, CC, reduceIte, Nat.reduceEqDiff, Nat.reduceAdd, Nat.reduceLeDiff, Nat.reduceLT, Int.reduceLE, Int.reduceLT, Int.reduceAdd, Int.reduceSub, Int.reduceToNat, Nat.reduceMul, rC, sQ, ratC]) ?_
  simp (maxSteps := 1000000) (disch := first | omega | (simp only [LL]; omega)) only [W, V, TY, CC, reduceIte, Nat.reduceEqDiff, Nat.reduceAdd, Nat.reduceLeDiff, Nat.reduceLT, Int.reduceLE, Int.reduceLT, Int.reduceAdd, Int.reduceSub, Int.reduceToNat, Nat.reduceMul, rC, sQ, ratC]
  refine a_call _ _ f0 (by simp (maxSteps := 1000000) (disch := first | omega | (simp only [LL]; omega)) only [W, V, TY, CC, reduceIte, Nat.reduceEqDiff, Nat.reduceAdd, Nat.reduceLeDiff, Nat.reduceLT, Int.reduceLE, Int.reduceLT, Int.reduceAdd, Int.reduceSub, Int.reduceToNat, Nat.reduceMul, rC, sQ, ratC]) ?_
  simp (maxSteps := 1000000) (disch := first | omega | (simp only [LL]; omega)) only [W, V, TY, CC, reduceIte, Nat.reduceEqDiff, Nat.reduceAdd, Nat.reduceLeDiff, Nat.reduceLT, Int.reduceLE, Int.reduceLT, Int.reduceAdd, Int.reduceSub, Int.reduceToNat, Nat.reduceMul, rC, sQ, ratC]
  refine w_loop (fun n s => ∃ i : Nat, n + i = x.length ∧ s.t 1 = .one (.dt (intsD x)) ∧ s.t 2 = .one (.dt (intsD y)) ∧ s.t 3 = .ptr (3, 0) 0 ∧ s.v (3, 0) = some ((rC A ++ rC B).map .dt) ∧ s.t 6 = .ptr (6, 0) 0 ∧ s.v (6, 0) = some [.dt (.lit (.bool false)), .z, .z] ∧ s.f (6, 0) = false ∧ s.t 7 = .one (.dt (.lit (.int .i64 0))) ∧ s.t 9 = .ptr (9, 0) 0 ∧ s.v (9, 0) = some ((ratC (lossQ A.q B.q x y i)).map .dt) ∧ s.f (9, 0) = false ∧ s.t 10 = .one (.dt (.lit (.int .i64 i)))) x.length ⟨0, rfl, ?_, ?_, ?_, ?_, ?_, ?_, ?_, ?_, ?_, ?_, ?_, ?_⟩ ?_
  · simp (maxSteps := 1000000) (disch := first | omega | (simp only [LL]; omega)) only [W, V, TY, CC, reduceIte, Nat.reduceEqDiff, Nat.reduceAdd, Nat.reduceLeDiff, Nat.reduceLT, Int.reduceLE, Int.reduceLT, Int.reduceAdd, Int.reduceSub, Int.reduceToNat, Nat.reduceMul]
  · simp (maxSteps := 1000000) (disch := first | omega | (simp only [LL]; omega)) only [W, V, TY, CC, reduceIte, Nat.reduceEqDiff, Nat.reduceAdd, Nat.reduceLeDiff, Nat.reduceLT, Int.reduceLE, Int.reduceLT, Int.reduceAdd, Int.reduceSub, Int.reduceToNat, Nat.reduceMul]
  · simp (maxSteps := 1000000) (disch := first | omega | (simp only [LL]; omega)) only [W, V, TY, CC, reduceIte, Nat.reduceEqDiff, Nat.reduceAdd, Nat.reduceLeDiff, Nat.reduceLT, Int.reduceLE, Int.reduceLT, Int.reduceAdd, Int.reduceSub, Int.reduceToNat, Nat.reduceMul]
  · simp (maxSteps := 1000000) (disch := first | omega | (simp only [LL]; omega)) only [W, V, TY, CC, reduceIte, Nat.reduceEqDiff, Nat.reduceAdd, Nat.reduceLeDiff, Nat.reduceLT, Int.reduceLE, Int.reduceLT, Int.reduceAdd, Int.reduceSub, Int.reduceToNat, Nat.reduceMul, rC]
  · simp (maxSteps := 1000000) (disch := first | omega | (simp only [LL]; omega)) only [W, V, TY, CC, reduceIte, Nat.reduceEqDiff, Nat.reduceAdd, Nat.reduceLeDiff, Nat.reduceLT, Int.reduceLE, Int.reduceLT, Int.reduceAdd, Int.reduceSub, Int.reduceToNat, Nat.reduceMul]
  · simp (maxSteps := 1000000) (disch := first | omega | (simp only [LL]; omega)) only [W, V, TY, CC, reduceIte, Nat.reduceEqDiff, Nat.reduceAdd, Nat.reduceLeDiff, Nat.reduceLT, Int.reduceLE, Int.reduceLT, Int.reduceAdd, Int.reduceSub, Int.reduceToNat, Nat.reduceMul]
  · simp (maxSteps := 1000000) (disch := first | omega | (simp only [LL]; omega)) only [W, V, TY, CC, reduceIte, Nat.reduceEqDiff, Nat.reduceAdd, Nat.reduceLeDiff, Nat.reduceLT, Int.reduceLE, Int.reduceLT, Int.reduceAdd, Int.reduceSub, Int.reduceToNat, Nat.reduceMul]
  · simp (maxSteps := 1000000) (disch := first | omega | (simp only [LL]; omega)) only [W, V, TY, CC, reduceIte, Nat.reduceEqDiff, Nat.reduceAdd, Nat.reduceLeDiff, Nat.reduceLT, Int.reduceLE, Int.reduceLT, Int.reduceAdd, Int.reduceSub, Int.reduceToNat, Nat.reduceMul]
  · simp (maxSteps := 1000000) (disch := first | omega | (simp only [LL]; omega)) only [W, V, TY, CC, reduceIte, Nat.reduceEqDiff, Nat.reduceAdd, Nat.reduceLeDiff, Nat.reduceLT, Int.reduceLE, Int.reduceLT, Int.reduceAdd, Int.reduceSub, Int.reduceToNat, Nat.reduceMul]
  · simp (maxSteps := 1000000) (disch := first | omega | (simp only [LL]; omega)) only [W, V, TY, CC, reduceIte, Nat.reduceEqDiff, Nat.reduceAdd, Nat.reduceLeDiff, Nat.reduceLT, Int.reduceLE, Int.reduceLT, Int.reduceAdd, Int.reduceSub, Int.reduceToNat, Nat.reduceMul, ratC]
    rfl
  · simp (maxSteps := 1000000) (disch := first | omega | (simp only [LL]; omega)) only [W, V, TY, CC, reduceIte, Nat.reduceEqDiff, Nat.reduceAdd, Nat.reduceLeDiff, Nat.reduceLT, Int.reduceLE, Int.reduceLT, Int.reduceAdd, Int.reduceSub, Int.reduceToNat, Nat.reduceMul]
  · simp (maxSteps := 1000000) (disch := first | omega | (simp only [LL]; omega)) only [W, V, TY, CC, reduceIte, Nat.reduceEqDiff, Nat.reduceAdd, Nat.reduceLeDiff, Nat.reduceLT, Int.reduceLE, Int.reduceLT, Int.reduceAdd, Int.reduceSub, Int.reduceToNat, Nat.reduceMul]
  intro n s hwf ⟨i, e, t1, t2, t3, v3, t6, v6, f6, t7, t9, v9, f9, t10⟩
  simp only [rC, ratC, List.map_cons, List.map_nil, List.cons_append, List.nil_append] at v3 v9
  have f11 := (hwf 11 (s.g 11) (Nat.le_refl _)).2.2
  simp (maxSteps := 1000000) (disch := first | omega | (simp only [LL]; omega)) only [W, V, TY, CC, reduceIte, Nat.reduceEqDiff, Nat.reduceAdd, Nat.reduceLeDiff, Nat.reduceLT, Int.reduceLE, Int.reduceLT, Int.reduceAdd, Int.reduceSub, Int.reduceToNat, Nat.reduceMul, t1, t2, t3, v3, t6, v6, f6, t7, t9, v9, f9, t10]
  refine c_split (fun hi => ?_) (fun hi => ?_)
  · have hil : i < x.length := by omega
    have hiy : i < y.length := by omega
    have d1 := numB_at ho.nx hil
    have d2 := numB_at ho.ny hiy
    have q1 := qs_res qA qB d1.1 d1.2 d2.1 d2.2
    have q2 := qs_loss qA qB ho.nx ho.ny lyx i (by omega)
    have q3 : i * (4 * k + 48) ≤ 60 * (4 * k + 48) := Nat.mul_le_mul_right _ (by omega)
    have hL : lossQ A.q B.q x y (i + 1) = lossQ A.q B.q x y i + (A.q * (x.getD i 0 : Int) + B.q - (y.getD i 0 : Int)) * (A.q * (x.getD i 0 : Int) + B.q - (y.getD i 0 : Int)) := rfl
    have w1 := f_whole45 (x.getD i 0) (by omega) (by omega)
    have w2 := f_whole45 (y.getD i 0) (by omega) (by omega)
    have ap := f_Apply hA hB (rokI (x := x.getD i 0) (by omega) (by omega)) (by rw [nr_q]; omega)
    rw [nr_q, rC_nr] at ap
    have sb := rr_Sub2 (a := A.q * (x.getD i 0 : Int) + B.q) (b := ((y.getD i 0 : Int) : Rat)) (by omega) (by have := qs_int (x := y.getD i 0) (by omega) (by omega); omega)
    generalize A.q * ((x.getD i 0 : Int) : Rat) + B.q - ((y.getD i 0 : Int) : Rat) = d at *
    have ml := rr_Mul2 (a := d) (b := d) (by omega) (by omega)
    have ad := G_Add2 (p := lossQ A.q B.q x y i) (q := d * d) (by omega) (by omega)
    simp (maxSteps := 1000000) (disch := first | omega | (simp only [LL]; omega)) only [W, V, TY, CC, reduceIte, Nat.reduceEqDiff, Nat.reduceAdd, Nat.reduceLeDiff, Nat.reduceLT, Int.reduceLE, Int.reduceLT, Int.reduceAdd, Int.reduceSub, Int.reduceToNat, Nat.reduceMul, t1, t2, t3, v3, t6, v6, f6, t7, t9, v9, f9, t10, f11, rC]
    refine a_call _ _ w1 (by simp (maxSteps := 1000000) (disch := first | omega | (simp only [LL]; omega)) only [W, V, TY, CC, reduceIte, Nat.reduceEqDiff, Nat.reduceAdd, Nat.reduceLeDiff, Nat.reduceLT, Int.reduceLE, Int.reduceLT, Int.reduceAdd, Int.reduceSub, Int.reduceToNat, Nat.reduceMul, t1, t2, t3, v3, t6, v6, f6, t7, t9, v9, f9, t10, f11, rC, ratC]) ?_
    simp (maxSteps := 1000000) (disch := first | omega | (simp only [LL]; omega)) only [W, V, TY, CC, reduceIte, Nat.reduceEqDiff, Nat.reduceAdd, Nat.reduceLeDiff, Nat.reduceLT, Int.reduceLE, Int.reduceLT, Int.reduceAdd, Int.reduceSub, Int.reduceToNat, Nat.reduceMul, t1, t2, t3, v3, t6, v6, f6, t7, t9, v9, f9, t10, f11, rC, ratC]
    refine a_call _ _ ap (by simp (maxSteps := 1000000) (disch := first | omega | (simp only [LL]; omega)) only [W, V, TY, CC, reduceIte, Nat.reduceEqDiff, Nat.reduceAdd, Nat.reduceLeDiff, Nat.reduceLT, Int.reduceLE, Int.reduceLT, Int.reduceAdd, Int.reduceSub, Int.reduceToNat, Nat.reduceMul, t1, t2, t3, v3, t6, v6, f6, t7, t9, v9, f9, t10, f11, rC, ratC]) ?_
    simp (maxSteps := 1000000) (disch := first | omega | (simp only [LL]; omega)) only [W, V, TY, CC, reduceIte, Nat.reduceEqDiff, Nat.reduceAdd, Nat.reduceLeDiff, Nat.reduceLT, Int.reduceLE, Int.reduceLT, Int.reduceAdd, Int.reduceSub, Int.reduceToNat, Nat.reduceMul, t1, t2, t3, v3, t6, v6, f6, t7, t9, v9, f9, t10, f11, rC, ratC]
    refine a_call _ _ w2 (by simp (maxSteps := 1000000) (disch := first | omega | (simp only [LL]; omega)) only [W, V, TY, CC, reduceIte, Nat.reduceEqDiff, Nat.reduceAdd, Nat.reduceLeDiff, Nat.reduceLT, Int.reduceLE, Int.reduceLT, Int.reduceAdd, Int.reduceSub, Int.reduceToNat, Nat.reduceMul, t1, t2, t3, v3, t6, v6, f6, t7, t9, v9, f9, t10, f11, rC, ratC]) ?_
    simp (maxSteps := 1000000) (disch := first | omega | (simp only [LL]; omega)) only [W, V, TY, CC, reduceIte, Nat.reduceEqDiff, Nat.reduceAdd, Nat.reduceLeDiff, Nat.reduceLT, Int.reduceLE, Int.reduceLT, Int.reduceAdd, Int.reduceSub, Int.reduceToNat, Nat.reduceMul, t1, t2, t3, v3, t6, v6, f6, t7, t9, v9, f9, t10, f11, rC, ratC]
    refine a_call _ _ sb (by simp (maxSteps := 1000000) (disch := first | omega | (simp only [LL]; omega)) only [W, V, TY, CC, reduceIte, Nat.reduceEqDiff, Nat.reduceAdd, Nat.reduceLeDiff, Nat.reduceLT, Int.reduceLE, Int.reduceLT, Int.reduceAdd, Int.reduceSub, Int.reduceToNat, Nat.reduceMul, t1, t2, t3, v3, t6, v6, f6, t7, t9, v9, f9, t10, f11, rC, ratC]) ?_
    simp (maxSteps := 1000000) (disch := first | omega | (simp only [LL]; omega)) only [W, V, TY, CC, reduceIte, Nat.reduceEqDiff, Nat.reduceAdd, Nat.reduceLeDiff, Nat.reduceLT, Int.reduceLE, Int.reduceLT, Int.reduceAdd, Int.reduceSub, Int.reduceToNat, Nat.reduceMul, t1, t2, t3, v3, t6, v6, f6, t7, t9, v9, f9, t10, f11, rC, ratC]
    refine a_call _ _ ml (by simp (maxSteps := 1000000) (disch := first | omega | (simp only [LL]; omega)) only [W, V, TY, CC, reduceIte, Nat.reduceEqDiff, Nat.reduceAdd, Nat.reduceLeDiff, Nat.reduceLT, Int.reduceLE, Int.reduceLT, Int.reduceAdd, Int.reduceSub, Int.reduceToNat, Nat.reduceMul, t1, t2, t3, v3, t6, v6, f6, t7, t9, v9, f9, t10, f11, rC, ratC]) ?_
    simp (maxSteps := 1000000) (disch := first | omega | (simp only [LL]; omega)) only [W, V, TY, CC, reduceIte, Nat.reduceEqDiff, Nat.reduceAdd, Nat.reduceLeDiff, Nat.reduceLT, Int.reduceLE, Int.reduceLT, Int.reduceAdd, Int.reduceSub, Int.reduceToNat, Nat.reduceMul, t1, t2, t3, v3, t6, v6, f6, t7, t9, v9, f9, t10, f11, rC, ratC]
    refine a_call _ _ ad (by simp (maxSteps := 1000000) (disch := first | omega | (simp only [LL]; omega)) only [W, V, TY, CC, reduceIte, Nat.reduceEqDiff, Nat.reduceAdd, Nat.reduceLeDiff, Nat.reduceLT, Int.reduceLE, Int.reduceLT, Int.reduceAdd, Int.reduceSub, Int.reduceToNat, Nat.reduceMul, t1, t2, t3, v3, t6, v6, f6, t7, t9, v9, f9, t10, f11, rC, ratC]) ?_
    simp (maxSteps := 1000000) (disch := first | omega | (simp only [LL]; omega)) only [W, V, TY, CC, reduceIte, Nat.reduceEqDiff, Nat.reduceAdd, Nat.reduceLeDiff, Nat.reduceLT, Int.reduceLE, Int.reduceLT, Int.reduceAdd, Int.reduceSub, Int.reduceToNat, Nat.reduceMul, t1, t2, t3, v3, t6, v6, f6, t7, t9, v9, f9, t10, f11, rC, ratC]
    exact ⟨n - 1, by omega, i + 1, by omega, by rw [hL], rfl⟩
  · obtain rfl : i = x.length := by omega
    simp (maxSteps := 1000000) (disch := first | omega | (simp only [LL]; omega)) only [W, V, TY, CC, reduceIte, Nat.reduceEqDiff, Nat.reduceAdd, Nat.reduceLeDiff, Nat.reduceLT, Int.reduceLE, Int.reduceLT, Int.reduceAdd, Int.reduceSub, Int.reduceToNat, Nat.reduceMul, t1, t2, t3, v3, t6, v6, f6, t7, t9, v9, f9, t10]
    refine f_ret _ _ _ ?_
    simp (maxSteps := 1000000) (disch := first | omega | (simp only [LL]; omega)) only [W, V, TY, CC, reduceIte, Nat.reduceEqDiff, Nat.reduceAdd, Nat.reduceLeDiff, Nat.reduceLT, Int.reduceLE, Int.reduceLT, Int.reduceAdd, Int.reduceSub, Int.reduceToNat, Nat.reduceMul, t1, t2, t3, v3, t6, v6, f6, t7, t9, v9, f9, t10, ratC]
/-- examboard/examboardref45.links -/
def b79 : AF := ⟨19, 1, [.tmp 2],
  (.seq (.reg [
    ⟨some 2, .assign (.const (.int .i64 0)), none⟩])
  (.seq (.seq (.reg [
    ⟨some 4, .move (.tmp 0), none⟩,
    ⟨some 5, .call ⟨(.builtin .len), #[(.tmp 4)], #[52]⟩, none⟩,
    ⟨some 6, .binOp .gtr 3 (.tmp 5) (.const (.int .i64 60)) 3, none⟩])
  (.cond (.tmp 6)
    (.seq (.reg [
      ⟨some 2, .assign (.const (.int .i64 5)), none⟩])
    .ret)
    .skip))
  (.seq (.seq (.reg [
    ⟨some 3, .assign (.const (.int .i64 0)), none⟩])
  (.block 0 (.loop (.seq (.seq (.reg [
    ⟨some 7, .move (.tmp 3), none⟩,
    ⟨some 8, .move (.tmp 0), none⟩,
    ⟨some 9, .call ⟨(.builtin .len), #[(.tmp 8)], #[52]⟩, none⟩,
    ⟨some 10, .binOp .lss 3 (.tmp 7) (.tmp 9) 3, none⟩])
  (.cond (.tmp 10)
    .skip
    (.exit 0)))
  (.seq (.block 1 (.seq (.reg [
    ⟨some 13, .move (.tmp 0), none⟩,
    ⟨some 14, .move (.tmp 3), none⟩,
    ⟨some 15, .indexAddr 52 (.tmp 13) (.tmp 14), none⟩,
    ⟨some 16, .load 37 (.tmp 15), none⟩,
    ⟨some 17, .call ⟨(.value (.func 23)), #[(.tmp 16)], #[37]⟩, none⟩,
    ⟨some 18, .unOp .not 4 (.tmp 17), none⟩])
  (.cond (.tmp 18)
    (.seq (.reg [
      ⟨some 2, .assign (.const (.int .i64 1)), none⟩])
    .ret)
    .skip)))
  (.reg [
    ⟨some 11, .move (.tmp 3), none⟩,
    ⟨some 12, .binOp .add 3 (.tmp 11) (.const (.int .i64 1)) 3, none⟩,
    ⟨some 3, .assign (.tmp 12), none⟩]))))))
  (.seq (.reg [
    ⟨some 2, .assign (.const (.int .i64 0)), none⟩])
  .ret))))⟩
theorem c79 : fcomp Tryz.prog 79 = ⟨b79.n, b79.np, b79.res, b79.body.bare⟩ := by kernel_rfl
theorem k79 : fok Tryz.prog 79 = true := by kernel_rfl
theorem f_links {ls : List (RR × RR)} (hls : roks 68719476600 ls) (hn : ls.length ≤ 9223372036854775807) : AFun Tryz.prog 79 [.one (lkD ls)] [.one (.lit (.int .i64 (chainE ls)))] := by
  unfold chainE
  refine afun_intro mo_ _ _ c79 k79 _ _ rfl (by decide) ?_
  unfold b79
  simp (maxSteps := 1000000) (disch := first | omega | (simp only [LL]; omega)) only [W, V, TY, CC, reduceIte, Nat.reduceEqDiff, Nat.reduceAdd, Nat.reduceLeDiff, Nat.reduceLT, Int.reduceLE, Int.reduceLT, Int.reduceAdd, Int.reduceSub, Int.reduceToNat, Nat.reduceMul, LKR]
  refine c_split (fun h60 => ?_) (fun h60 => ?_)
  · rw [if_pos (by omega)]
    simp (maxSteps := 1000000) (disch := first | omega | (simp only [LL]; omega)) only [W, V, TY, CC, reduceIte, Nat.reduceEqDiff, Nat.reduceAdd, Nat.reduceLeDiff, Nat.reduceLT, Int.reduceLE, Int.reduceLT, Int.reduceAdd, Int.reduceSub, Int.reduceToNat, Nat.reduceMul]
    refine f_ret _ _ _ ?_
    simp (maxSteps := 1000000) (disch := first | omega | (simp only [LL]; omega)) only [W, V, TY, CC, reduceIte, Nat.reduceEqDiff, Nat.reduceAdd, Nat.reduceLeDiff, Nat.reduceLT, Int.reduceLE, Int.reduceLT, Int.reduceAdd, Int.reduceSub, Int.reduceToNat, Nat.reduceMul, LKR]
  rw [if_neg (by omega)]
  simp (maxSteps := 1000000) (disch := first | omega | (simp only [LL]; omega)) only [W, V, TY, CC, reduceIte, Nat.reduceEqDiff, Nat.reduceAdd, Nat.reduceLeDiff, Nat.reduceLT, Int.reduceLE, Int.reduceLT, Int.reduceAdd, Int.reduceSub, Int.reduceToNat, Nat.reduceMul, LKR]
  refine w_loop (fun n s => ∃ i : Nat, n + i = ls.length ∧ s.t 0 = .one (.dt (lkD ls)) ∧ s.t 3 = .one (.dt (.lit (.int .i64 i))) ∧ ∀ j : Nat, j < i → 0 < (ls.getD j lk0).1.q) ls.length ⟨0, rfl, ?_, ?_, fun j hj => by omega⟩ ?_
  · simp (maxSteps := 1000000) (disch := first | omega | (simp only [LL]; omega)) only [W, V, TY, CC, reduceIte, Nat.reduceEqDiff, Nat.reduceAdd, Nat.reduceLeDiff, Nat.reduceLT, Int.reduceLE, Int.reduceLT, Int.reduceAdd, Int.reduceSub, Int.reduceToNat, Nat.reduceMul]
  · simp (maxSteps := 1000000) (disch := first | omega | (simp only [LL]; omega)) only [W, V, TY, CC, reduceIte, Nat.reduceEqDiff, Nat.reduceAdd, Nat.reduceLeDiff, Nat.reduceLT, Int.reduceLE, Int.reduceLT, Int.reduceAdd, Int.reduceSub, Int.reduceToNat, Nat.reduceMul]
  intro n s hwf ⟨i, e, t0, t3, ho⟩
  simp (maxSteps := 1000000) (disch := first | omega | (simp only [LL]; omega)) only [W, V, TY, CC, reduceIte, Nat.reduceEqDiff, Nat.reduceAdd, Nat.reduceLeDiff, Nat.reduceLT, Int.reduceLE, Int.reduceLT, Int.reduceAdd, Int.reduceSub, Int.reduceToNat, Nat.reduceMul, t0, t3, LKR]
  refine c_split (fun hi => ?_) (fun hi => ?_)
  · have hil : i < ls.length := by omega
    obtain ⟨ra, rb⟩ := hls.at_ hil
    have cv := f_Valid (B := (ls.getD i lk0).2) ra
    by_cases hv : 0 < (ls.getD i lk0).1.q
    · rw [decide_eq_true hv] at cv
      simp (maxSteps := 1000000) (disch := first | omega | (simp only [LL]; omega)) only [W, V, TY, CC, reduceIte, Nat.reduceEqDiff, Nat.reduceAdd, Nat.reduceLeDiff, Nat.reduceLT, Int.reduceLE, Int.reduceLT, Int.reduceAdd, Int.reduceSub, Int.reduceToNat, Nat.reduceMul, t0, t3, LKR, lkC, rC]
      refine a_call _ _ cv (by simp (maxSteps := 1000000) (disch := first | omega | (simp only [LL]; omega)) only [W, V, TY, CC, reduceIte, Nat.reduceEqDiff, Nat.reduceAdd, Nat.reduceLeDiff, Nat.reduceLT, Int.reduceLE, Int.reduceLT, Int.reduceAdd, Int.reduceSub, Int.reduceToNat, Nat.reduceMul, t0, t3, LKR, lkC, rC]) ?_
      simp (maxSteps := 1000000) (disch := first | omega | (simp only [LL]; omega)) only [W, V, TY, CC, reduceIte, Nat.reduceEqDiff, Nat.reduceAdd, Nat.reduceLeDiff, Nat.reduceLT, Int.reduceLE, Int.reduceLT, Int.reduceAdd, Int.reduceSub, Int.reduceToNat, Nat.reduceMul, t0, t3, LKR, lkC, rC]
      refine ⟨n - 1, by omega, i + 1, by omega, rfl, fun j hj => ?_⟩
      by_cases hji : j = i
      · subst hji; exact hv
      · exact ho j (by omega)
    · rw [decide_eq_false hv] at cv
      rw [if_neg (by rw [validB_not hil hv]; decide)]
      simp (maxSteps := 1000000) (disch := first | omega | (simp only [LL]; omega)) only [W, V, TY, CC, reduceIte, Nat.reduceEqDiff, Nat.reduceAdd, Nat.reduceLeDiff, Nat.reduceLT, Int.reduceLE, Int.reduceLT, Int.reduceAdd, Int.reduceSub, Int.reduceToNat, Nat.reduceMul, t0, t3, LKR, lkC, rC]
      refine a_call _ _ cv (by simp (maxSteps := 1000000) (disch := first | omega | (simp only [LL]; omega)) only [W, V, TY, CC, reduceIte, Nat.reduceEqDiff, Nat.reduceAdd, Nat.reduceLeDiff, Nat.reduceLT, Int.reduceLE, Int.reduceLT, Int.reduceAdd, Int.reduceSub, Int.reduceToNat, Nat.reduceMul, t0, t3, LKR, lkC, rC]) ?_
      simp (maxSteps := 1000000) (disch := first | omega | (simp only [LL]; omega)) only [W, V, TY, CC, reduceIte, Nat.reduceEqDiff, Nat.reduceAdd, Nat.reduceLeDiff, Nat.reduceLT, Int.reduceLE, Int.reduceLT, Int.reduceAdd, Int.reduceSub, Int.reduceToNat, Nat.reduceMul, t0, t3, LKR, lkC, rC]
      refine f_ret _ _ _ ?_
      simp (maxSteps := 1000000) (disch := first | omega | (simp only [LL]; omega)) only [W, V, TY, CC, reduceIte, Nat.reduceEqDiff, Nat.reduceAdd, Nat.reduceLeDiff, Nat.reduceLT, Int.reduceLE, Int.reduceLT, Int.reduceAdd, Int.reduceSub, Int.reduceToNat, Nat.reduceMul, rC, sQ, ratC]
  · rw [if_pos (validB_of fun j hj => ho j (by omega))]
    simp (maxSteps := 1000000) (disch := first | omega | (simp only [LL]; omega)) only [W, V, TY, CC, reduceIte, Nat.reduceEqDiff, Nat.reduceAdd, Nat.reduceLeDiff, Nat.reduceLT, Int.reduceLE, Int.reduceLT, Int.reduceAdd, Int.reduceSub, Int.reduceToNat, Nat.reduceMul, t0, t3]
    refine f_ret _ _ _ ?_
    simp (maxSteps := 1000000) (disch := first | omega | (simp only [LL]; omega)) only [W, V, TY, CC, reduceIte, Nat.reduceEqDiff, Nat.reduceAdd, Nat.reduceLeDiff, Nat.reduceLT, Int.reduceLE, Int.reduceLT, Int.reduceAdd, Int.reduceSub, Int.reduceToNat, Nat.reduceMul, rC, sQ, ratC]
/-- examboard/examboardref45.Chain -/
def b39 : AF := ⟨29, 1, [.cell 2 37, .tmp 3],
  (.seq (.reg [
    ⟨some 2, .alloc 37, none⟩,
    ⟨some 3, .assign (.const (.int .i64 0)), none⟩])
  (.seq (.reg [
    ⟨some 7, .move (.tmp 0), none⟩,
    ⟨some 8, .call ⟨(.value (.func 79)), #[(.tmp 7)], #[52]⟩, none⟩,
    ⟨some 4, .assign (.tmp 8), none⟩])
  (.seq (.seq (.reg [
    ⟨some 9, .move (.tmp 4), none⟩,
    ⟨some 10, .binOp .neq 38 (.tmp 9) (.const (.int .i64 0)) 38, none⟩])
  (.cond (.tmp 10)
    (.seq (.reg [
      ⟨some 11, .build 37 #[], none⟩,
      ⟨some 12, .move (.tmp 4), none⟩,
      ⟨none, .store 37 (.tmp 2) (.tmp 11), none⟩,
      ⟨some 3, .assign (.tmp 12), none⟩])
    .ret)
    .skip))
  (.seq (.reg [
    ⟨some 13, .call ⟨(.value (.func 62)), #[(.const (.int .i64 1))], #[3]⟩, none⟩,
    ⟨some 14, .call ⟨(.value (.func 62)), #[(.const (.int .i64 0))], #[3]⟩, none⟩,
    ⟨some 15, .build 37 #[(0, (.tmp 13)), (1, (.tmp 14))], none⟩,
    ⟨some 5, .alloc 37, none⟩,
    ⟨none, .store 37 (.tmp 5) (.tmp 15), none⟩])
  (.seq (.seq (.reg [
    ⟨some 6, .assign (.const (.int .i64 0)), none⟩])
  (.block 0 (.loop (.seq (.seq (.reg [
    ⟨some 16, .move (.tmp 6), none⟩,
    ⟨some 17, .move (.tmp 0), none⟩,
    ⟨some 18, .call ⟨(.builtin .len), #[(.tmp 17)], #[52]⟩, none⟩,
    ⟨some 19, .binOp .lss 3 (.tmp 16) (.tmp 18) 3, none⟩])
  (.cond (.tmp 19)
    .skip
    (.exit 0)))
  (.seq (.block 1 (.dreg [
    ⟨some 22, .load 37 (.tmp 5), none⟩,
    ⟨some 23, .move (.tmp 0), none⟩,
    ⟨some 24, .move (.tmp 6), none⟩,
    ⟨some 25, .indexAddr 52 (.tmp 23) (.tmp 24), none⟩,
    ⟨some 26, .load 37 (.tmp 25), none⟩,
    ⟨some 27, .call ⟨(.value (.func 28)), #[(.tmp 22), (.tmp 26)], #[37, 37]⟩, none⟩,
    ⟨none, .store 37 (.tmp 5) (.tmp 27), none⟩]))
  (.reg [
    ⟨some 20, .move (.tmp 6), none⟩,
    ⟨some 21, .binOp .add 3 (.tmp 20) (.const (.int .i64 1)) 3, none⟩,
    ⟨some 6, .assign (.tmp 21), none⟩]))))))
  (.seq (.reg [
    ⟨some 28, .load 37 (.tmp 5), none⟩,
    ⟨none, .store 37 (.tmp 2) (.tmp 28), none⟩,
    ⟨some 3, .assign (.const (.int .i64 0)), none⟩])
  .ret))))))⟩
theorem c39 : fcomp Tryz.prog 39 = ⟨b39.n, b39.np, b39.res, b39.body.bare⟩ := by kernel_rfl
theorem k39 : fok Tryz.prog 39 = true := by kernel_rfl
theorem f_ChainE {ls : List (RR × RR)} (hls : roks 68719476600 ls) (hn : ls.length ≤ 9223372036854775807) (h : ¬ chainE ls = 0) : AFun Tryz.prog 39 [.one (lkD ls)] [.agg zS, .one (.lit (.int .i64 (chainE ls)))] := by
  have ca := f_links hls hn
  generalize chainE ls = e at *
  refine afun_intro mo_ _ _ c39 k39 _ _ rfl (by decide) ?_
  unfold b39
  simp (maxSteps := 1000000) (disch := first | omega | (simp only [LL]; omega)) only [W, V, TY, CC, reduceIte, Nat.reduceEqDiff, Nat.reduceAdd, Nat.reduceLeDiff, Nat.reduceLT, Int.reduceLE, Int.reduceLT, Int.reduceAdd, Int.reduceSub, Int.reduceToNat, Nat.reduceMul]
  refine a_call _ _ ca (by simp (maxSteps := 1000000) (disch := first | omega | (simp only [LL]; omega)) only [W, V, TY, CC, reduceIte, Nat.reduceEqDiff, Nat.reduceAdd, Nat.reduceLeDiff, Nat.reduceLT, Int.reduceLE, Int.reduceLT, Int.reduceAdd, Int.reduceSub, Int.reduceToNat, Nat.reduceMul, h, not_false_eq_true, decide_true]) ?_
  simp (maxSteps := 1000000) (disch := first | omega | (simp only [LL]; omega)) only [W, V, TY, CC, reduceIte, Nat.reduceEqDiff, Nat.reduceAdd, Nat.reduceLeDiff, Nat.reduceLT, Int.reduceLE, Int.reduceLT, Int.reduceAdd, Int.reduceSub, Int.reduceToNat, Nat.reduceMul, h, not_false_eq_true, decide_true]
  refine f_ret _ _ _ ?_
  simp (maxSteps := 1000000) (disch := first | omega | (simp only [LL]; omega)) only [W, V, TY, CC, reduceIte, Nat.reduceEqDiff, Nat.reduceAdd, Nat.reduceLeDiff, Nat.reduceLT, Int.reduceLE, Int.reduceLT, Int.reduceAdd, Int.reduceSub, Int.reduceToNat, Nat.reduceMul, zS]
  rfl
theorem f_Chain0 {ls : List (RR × RR)} (hls : roks 1048576 ls) (h : chainE ls = 0) : AFun Tryz.prog 39 [.one (lkD ls)] [.agg (sQ (cA ls ls.length) (cB ls ls.length)), .one (.lit (.int .i64 0))] := by
  obtain ⟨h60, hv⟩ := chain_ok h
  have hls' : roks 68719476600 ls := fun p hp => ⟨(hls p hp).1.mono (by decide), (hls p hp).2.mono (by decide)⟩
  have ca := f_links hls' (by omega)
  rw [h] at ca
  have f1 := f_whole45 1 (by decide) (by decide)
  have f0 := f_whole45 0 (by decide) (by decide)
  rw [show ((1 : Int) : Rat) = 1 from rfl] at f1
  rw [show ((0 : Int) : Rat) = 0 from rfl] at f0
  refine afun_intro mo_ _ _ c39 k39 _ _ rfl (by decide) ?_
  unfold b39
  simp (maxSteps := 1000000) (disch := first | omega | (simp only [LL]; omega)) only [W, V, TY, CC, reduceIte, Nat.reduceEqDiff, Nat.reduceAdd, Nat.reduceLeDiff, Nat.reduceLT, Int.reduceLE, Int.reduceLT, Int.reduceAdd, Int.reduceSub, Int.reduceToNat, Nat.reduceMul, sQ, ratC]
  refine a_call _ _ ca (by simp (maxSteps := 1000000) (disch := first | omega | (simp only [LL]; omega)) only [W, V, TY, CC, reduceIte, Nat.reduceEqDiff, Nat.reduceAdd, Nat.reduceLeDiff, Nat.reduceLT, Int.reduceLE, Int.reduceLT, Int.reduceAdd, Int.reduceSub, Int.reduceToNat, Nat.reduceMul, LKR, ratC]) ?_
  simp (maxSteps := 1000000) (disch := first | omega | (simp only [LL]; omega)) only [W, V, TY, CC, reduceIte, Nat.reduceEqDiff, Nat.reduceAdd, Nat.reduceLeDiff, Nat.reduceLT, Int.reduceLE, Int.reduceLT, Int.reduceAdd, Int.reduceSub, Int.reduceToNat, Nat.reduceMul, LKR, ratC]
  refine a_call _ _ f1 (by simp (maxSteps := 1000000) (disch := first | omega | (simp only [LL]; omega)) only [W, V, TY, CC, reduceIte, Nat.reduceEqDiff, Nat.reduceAdd, Nat.reduceLeDiff, Nat.reduceLT, Int.reduceLE, Int.reduceLT, Int.reduceAdd, Int.reduceSub, Int.reduceToNat, Nat.reduceMul, LKR, ratC]) ?_
  simp (maxSteps := 1000000) (disch := first | omega | (simp only [LL]; omega)) only [W, V, TY, CC, reduceIte, Nat.reduceEqDiff, Nat.reduceAdd, Nat.reduceLeDiff, Nat.reduceLT, Int.reduceLE, Int.reduceLT, Int.reduceAdd, Int.reduceSub, Int.reduceToNat, Nat.reduceMul, LKR, ratC]
  refine a_call _ _ f0 (by simp (maxSteps := 1000000) (disch := first | omega | (simp only [LL]; omega)) only [W, V, TY, CC, reduceIte, Nat.reduceEqDiff, Nat.reduceAdd, Nat.reduceLeDiff, Nat.reduceLT, Int.reduceLE, Int.reduceLT, Int.reduceAdd, Int.reduceSub, Int.reduceToNat, Nat.reduceMul, LKR, ratC]) ?_
  simp (maxSteps := 1000000) (disch := first | omega | (simp only [LL]; omega)) only [W, V, TY, CC, reduceIte, Nat.reduceEqDiff, Nat.reduceAdd, Nat.reduceLeDiff, Nat.reduceLT, Int.reduceLE, Int.reduceLT, Int.reduceAdd, Int.reduceSub, Int.reduceToNat, Nat.reduceMul, LKR, ratC]
  refine w_loop (fun n s => ∃ i : Nat, n + i = ls.length ∧ s.t 0 = .one (.dt (lkD ls)) ∧ s.t 2 = .ptr (2, 0) 0 ∧ s.v (2, 0) = some [.dt (.lit (.bool false)), .z, .z, .dt (.lit (.bool false)), .z, .z] ∧ s.f (2, 0) = false ∧ s.t 3 = .one (.dt (.lit (.int .i64 0))) ∧ s.t 5 = .ptr (5, 0) 0 ∧ s.v (5, 0) = some ((sQ (cA ls i) (cB ls i)).map .dt) ∧ s.f (5, 0) = false ∧ s.t 6 = .one (.dt (.lit (.int .i64 i)))) ls.length ⟨0, rfl, ?_, ?_, ?_, ?_, ?_, ?_, ?_, ?_, ?_⟩ ?_
  · simp (maxSteps := 1000000) (disch := first | omega | (simp only [LL]; omega)) only [W, V, TY, CC, reduceIte, Nat.reduceEqDiff, Nat.reduceAdd, Nat.reduceLeDiff, Nat.reduceLT, Int.reduceLE, Int.reduceLT, Int.reduceAdd, Int.reduceSub, Int.reduceToNat, Nat.reduceMul]
  · simp (maxSteps := 1000000) (disch := first | omega | (simp only [LL]; omega)) only [W, V, TY, CC, reduceIte, Nat.reduceEqDiff, Nat.reduceAdd, Nat.reduceLeDiff, Nat.reduceLT, Int.reduceLE, Int.reduceLT, Int.reduceAdd, Int.reduceSub, Int.reduceToNat, Nat.reduceMul]
  · simp (maxSteps := 1000000) (disch := first | omega | (simp only [LL]; omega)) only [W, V, TY, CC, reduceIte, Nat.reduceEqDiff, Nat.reduceAdd, Nat.reduceLeDiff, Nat.reduceLT, Int.reduceLE, Int.reduceLT, Int.reduceAdd, Int.reduceSub, Int.reduceToNat, Nat.reduceMul]
  · simp (maxSteps := 1000000) (disch := first | omega | (simp only [LL]; omega)) only [W, V, TY, CC, reduceIte, Nat.reduceEqDiff, Nat.reduceAdd, Nat.reduceLeDiff, Nat.reduceLT, Int.reduceLE, Int.reduceLT, Int.reduceAdd, Int.reduceSub, Int.reduceToNat, Nat.reduceMul]
  · simp (maxSteps := 1000000) (disch := first | omega | (simp only [LL]; omega)) only [W, V, TY, CC, reduceIte, Nat.reduceEqDiff, Nat.reduceAdd, Nat.reduceLeDiff, Nat.reduceLT, Int.reduceLE, Int.reduceLT, Int.reduceAdd, Int.reduceSub, Int.reduceToNat, Nat.reduceMul]
  · simp (maxSteps := 1000000) (disch := first | omega | (simp only [LL]; omega)) only [W, V, TY, CC, reduceIte, Nat.reduceEqDiff, Nat.reduceAdd, Nat.reduceLeDiff, Nat.reduceLT, Int.reduceLE, Int.reduceLT, Int.reduceAdd, Int.reduceSub, Int.reduceToNat, Nat.reduceMul]
  · simp (maxSteps := 1000000) (disch := first | omega | (simp only [LL]; omega)) only [W, V, TY, CC, reduceIte, Nat.reduceEqDiff, Nat.reduceAdd, Nat.reduceLeDiff, Nat.reduceLT, Int.reduceLE, Int.reduceLT, Int.reduceAdd, Int.reduceSub, Int.reduceToNat, Nat.reduceMul, sQ, ratC]
    rfl
  · simp (maxSteps := 1000000) (disch := first | omega | (simp only [LL]; omega)) only [W, V, TY, CC, reduceIte, Nat.reduceEqDiff, Nat.reduceAdd, Nat.reduceLeDiff, Nat.reduceLT, Int.reduceLE, Int.reduceLT, Int.reduceAdd, Int.reduceSub, Int.reduceToNat, Nat.reduceMul]
  · simp (maxSteps := 1000000) (disch := first | omega | (simp only [LL]; omega)) only [W, V, TY, CC, reduceIte, Nat.reduceEqDiff, Nat.reduceAdd, Nat.reduceLeDiff, Nat.reduceLT, Int.reduceLE, Int.reduceLT, Int.reduceAdd, Int.reduceSub, Int.reduceToNat, Nat.reduceMul]
  intro n s hwf ⟨i, e, t0, t2, v2, f2, t3, t5, v5, f5, t6⟩
  simp only [sQ, ratC, List.map_cons, List.map_nil, List.cons_append, List.nil_append] at v5
  simp (maxSteps := 1000000) (disch := first | omega | (simp only [LL]; omega)) only [W, V, TY, CC, reduceIte, Nat.reduceEqDiff, Nat.reduceAdd, Nat.reduceLeDiff, Nat.reduceLT, Int.reduceLE, Int.reduceLT, Int.reduceAdd, Int.reduceSub, Int.reduceToNat, Nat.reduceMul, t0, t2, v2, f2, t3, t5, v5, f5, t6, LKR]
  refine c_split (fun hi => ?_) (fun hi => ?_)
  · have hil : i < ls.length := by omega
    obtain ⟨ra, rb⟩ := hls'.at_ hil
    obtain ⟨ra', rb'⟩ := hls.at_ hil
    have e1 := qs_rr ra'
    obtain ⟨h1, h2⟩ := qs_chain hls i (by omega)
    have q3 : i * (2 * 1048576 + 4) ≤ 60 * (2 * 1048576 + 4) := Nat.mul_le_mul_right _ (by omega)
    have e4 := qs_mul (ls.getD i lk0).1.q (cB ls i)
    have cc := f_Compose (rok_nr (k := 68719476600) (q := cA ls i) (by omega)) (rok_nr (k := 68719476600) (q := cB ls i) (by omega)) ra rb (by rw [nr_q]; omega)
    simp only [nr_q, rC_nr] at cc
    have hA : cA ls (i + 1) = cA ls i * (ls.getD i lk0).1.q := rfl
    have hB : cB ls (i + 1) = (ls.getD i lk0).1.q * cB ls i + (ls.getD i lk0).2.q := rfl
    simp (maxSteps := 1000000) (disch := first | omega | (simp only [LL]; omega)) only [W, V, TY, CC, reduceIte, Nat.reduceEqDiff, Nat.reduceAdd, Nat.reduceLeDiff, Nat.reduceLT, Int.reduceLE, Int.reduceLT, Int.reduceAdd, Int.reduceSub, Int.reduceToNat, Nat.reduceMul, t0, t2, v2, f2, t3, t5, v5, f5, t6, LKR, lkC, rC]
    refine a_call _ _ cc (by simp (maxSteps := 1000000) (disch := first | omega | (simp only [LL]; omega)) only [W, V, TY, CC, reduceIte, Nat.reduceEqDiff, Nat.reduceAdd, Nat.reduceLeDiff, Nat.reduceLT, Int.reduceLE, Int.reduceLT, Int.reduceAdd, Int.reduceSub, Int.reduceToNat, Nat.reduceMul, t0, t2, v2, f2, t3, t5, v5, f5, t6, LKR, lkC, rC, sQ, ratC]) ?_
    simp (maxSteps := 1000000) (disch := first | omega | (simp only [LL]; omega)) only [W, V, TY, CC, reduceIte, Nat.reduceEqDiff, Nat.reduceAdd, Nat.reduceLeDiff, Nat.reduceLT, Int.reduceLE, Int.reduceLT, Int.reduceAdd, Int.reduceSub, Int.reduceToNat, Nat.reduceMul, t0, t2, v2, f2, t3, t5, v5, f5, t6, LKR, lkC, rC, sQ, ratC]
    exact ⟨n - 1, by omega, i + 1, by omega, by rw [hA, hB], rfl⟩
  · obtain rfl : i = ls.length := by omega
    simp (maxSteps := 1000000) (disch := first | omega | (simp only [LL]; omega)) only [W, V, TY, CC, reduceIte, Nat.reduceEqDiff, Nat.reduceAdd, Nat.reduceLeDiff, Nat.reduceLT, Int.reduceLE, Int.reduceLT, Int.reduceAdd, Int.reduceSub, Int.reduceToNat, Nat.reduceMul, t0, t2, v2, f2, t3, t5, v5, f5, t6, LKR]
    refine f_ret _ _ _ ?_
    simp (maxSteps := 1000000) (disch := first | omega | (simp only [LL]; omega)) only [W, V, TY, CC, reduceIte, Nat.reduceEqDiff, Nat.reduceAdd, Nat.reduceLeDiff, Nat.reduceLT, Int.reduceLE, Int.reduceLT, Int.reduceAdd, Int.reduceSub, Int.reduceToNat, Nat.reduceMul, t0, t2, v2, f2, t3, t5, v5, f5, t6, sQ, ratC]
/-- examboard/examboardref45.Choose -/
def b37 : AF := ⟨57, 3, [.tmp 6, .tmp 7],
  (.seq (.reg [
    ⟨some 6, .assign (.const (.int .i64 0)), none⟩,
    ⟨some 7, .assign (.const (.int .i64 0)), none⟩])
  (.seq (.seq (.reg [
    ⟨some 14, .move (.tmp 0), none⟩,
    ⟨some 15, .call ⟨(.builtin .len), #[(.tmp 14)], #[52]⟩, none⟩,
    ⟨some 16, .binOp .eql 3 (.tmp 15) (.const (.int .i64 0)) 3, none⟩])
  (.cond (.tmp 16)
    (.seq (.reg [
      ⟨some 6, .assign (.const (.int .i64 0)), none⟩,
      ⟨some 7, .assign (.const (.int .i64 20)), none⟩])
    .ret)
    .skip))
  (.seq (.reg [
    ⟨some 17, .move (.tmp 0), none⟩,
    ⟨some 18, .call ⟨(.value (.func 79)), #[(.tmp 17)], #[52]⟩, none⟩,
    ⟨some 8, .assign (.tmp 18), none⟩])
  (.seq (.seq (.reg [
    ⟨some 19, .move (.tmp 8), none⟩,
    ⟨some 20, .binOp .neq 38 (.tmp 19) (.const (.int .i64 0)) 38, none⟩])
  (.cond (.tmp 20)
    (.seq (.reg [
      ⟨some 21, .move (.tmp 8), none⟩,
      ⟨some 6, .assign (.const (.int .i64 0)), none⟩,
      ⟨some 7, .assign (.tmp 21), none⟩])
    .ret)
    .skip))
  (.seq (.reg [
    ⟨some 23, .move (.tmp 0), none⟩,
    ⟨some 24, .indexAddr 52 (.tmp 23) (.const (.int .i64 0)), none⟩,
    ⟨some 25, .load 37 (.tmp 24), none⟩,
    ⟨some 26, .move (.tmp 1), none⟩,
    ⟨some 27, .move (.tmp 2), none⟩,
    ⟨some 28, .call ⟨(.value (.func 35)), #[(.tmp 25), (.tmp 26), (.tmp 27)], #[37, 47, 47]⟩, none⟩,
    ⟨some 22, .move (.tmp 28), none⟩,
    ⟨some 29, .extract (.tmp 22) 0, none⟩,
    ⟨some 30, .extract (.tmp 22) 1, none⟩,
    ⟨some 9, .alloc 27, none⟩,
    ⟨none, .store 27 (.tmp 9) (.tmp 29), none⟩,
    ⟨some 8, .assign (.tmp 30), none⟩])
  (.seq (.seq (.reg [
    ⟨some 31, .move (.tmp 8), none⟩,
    ⟨some 32, .binOp .neq 38 (.tmp 31) (.const (.int .i64 0)) 38, none⟩])
  (.cond (.tmp 32)
    (.seq (.reg [
      ⟨some 33, .move (.tmp 8), none⟩,
      ⟨some 6, .assign (.const (.int .i64 0)), none⟩,
      ⟨some 7, .assign (.tmp 33), none⟩])
    .ret)
    .skip))
  (.seq (.reg [
    ⟨some 10, .assign (.const (.int .i64 0)), none⟩])
  (.seq (.seq (.reg [
    ⟨some 11, .assign (.const (.int .i64 1)), none⟩])
  (.block 0 (.loop (.seq (.seq (.reg [
    ⟨some 34, .move (.tmp 11), none⟩,
    ⟨some 35, .move (.tmp 0), none⟩,
    ⟨some 36, .call ⟨(.builtin .len), #[(.tmp 35)], #[52]⟩, none⟩,
    ⟨some 37, .binOp .lss 3 (.tmp 34) (.tmp 36) 3, none⟩])
  (.cond (.tmp 37)
    .skip
    (.exit 0)))
  (.seq (.block 1 (.seq (.reg [
    ⟨some 41, .move (.tmp 0), none⟩,
    ⟨some 42, .move (.tmp 11), none⟩,
    ⟨some 43, .indexAddr 52 (.tmp 41) (.tmp 42), none⟩,
    ⟨some 44, .load 37 (.tmp 43), none⟩,
    ⟨some 45, .move (.tmp 1), none⟩,
    ⟨some 46, .move (.tmp 2), none⟩,
    ⟨some 47, .call ⟨(.value (.func 35)), #[(.tmp 44), (.tmp 45), (.tmp 46)], #[37, 47, 47]⟩, none⟩,
    ⟨some 40, .move (.tmp 47), none⟩,
    ⟨some 48, .extract (.tmp 40) 0, none⟩,
    ⟨some 49, .extract (.tmp 40) 1, none⟩,
    ⟨some 12, .alloc 27, none⟩,
    ⟨none, .store 27 (.tmp 12) (.tmp 48), none⟩,
    ⟨some 13, .assign (.tmp 49), none⟩])
  (.seq (.reg [
    ⟨some 50, .load 27 (.tmp 12), none⟩,
    ⟨some 51, .load 27 (.tmp 9), none⟩,
    ⟨some 52, .call ⟨(.value (.func 80)), #[(.tmp 50), (.tmp 51)], #[27, 27]⟩, none⟩,
    ⟨some 53, .binOp .lss 3 (.tmp 52) (.const (.int .i64 0)) 3, none⟩])
  (.cond (.tmp 53)
    (.dreg [
      ⟨some 54, .move (.tmp 11), none⟩,
      ⟨some 55, .load 27 (.tmp 12), none⟩,
      ⟨some 10, .assign (.tmp 54), none⟩,
      ⟨none, .store 27 (.tmp 9) (.tmp 55), none⟩])
    .skip))))
  (.reg [
    ⟨some 38, .move (.tmp 11), none⟩,
    ⟨some 39, .binOp .add 3 (.tmp 38) (.const (.int .i64 1)) 3, none⟩,
    ⟨some 11, .assign (.tmp 39), none⟩]))))))
  (.seq (.reg [
    ⟨some 56, .move (.tmp 10), none⟩,
    ⟨some 6, .assign (.tmp 56), none⟩,
    ⟨some 7, .assign (.const (.int .i64 0)), none⟩])
  .ret)))))))))⟩
theorem c37 : fcomp Tryz.prog 37 = ⟨b37.n, b37.np, b37.res, b37.body.bare⟩ := by kernel_rfl
theorem k37 : fok Tryz.prog 37 = true := by kernel_rfl
theorem f_ChooseE {ls : List (RR × RR)} (hls : roks 1048576 ls) (hn : ls.length ≤ 9223372036854775807) {x y : List Int} (lx : x.length ≤ 9223372036854775807) (ly : y.length ≤ 9223372036854775807) (h : ¬ chooseE ls x y = 0) :
    AFun Tryz.prog 37 [.one (lkD ls), .one (intsD x), .one (intsD y)] [.one (.lit (.int .i64 0)), .one (.lit (.int .i64 (chooseE ls x y)))] := by
  have hls' : roks 68719476600 ls := fun p hp => ⟨(hls p hp).1.mono (by decide), (hls p hp).2.mono (by decide)⟩
  have ca := f_links hls' hn
  unfold chooseE at *
  by_cases h0 : ls.length = 0
  · rw [if_pos h0]
    have h0' : (ls.length : Int) = 0 := by omega
    refine afun_intro mo_ _ _ c37 k37 _ _ rfl (by decide) ?_
    unfold b37
    simp (maxSteps := 1000000) (disch := first | omega | (simp only [LL]; omega)) only [W, V, TY, CC, reduceIte, Nat.reduceEqDiff, Nat.reduceAdd, Nat.reduceLeDiff, Nat.reduceLT, Int.reduceLE, Int.reduceLT, Int.reduceAdd, Int.reduceSub, Int.reduceToNat, Nat.reduceMul, LKR, h0', decide_true]
    refine f_ret _ _ _ ?_
    simp (maxSteps := 1000000) (disch := first | omega | (simp only [LL]; omega)) only [W, V, TY, CC, reduceIte, Nat.reduceEqDiff, Nat.reduceAdd, Nat.reduceLeDiff, Nat.reduceLT, Int.reduceLE, Int.reduceLT, Int.reduceAdd, Int.reduceSub, Int.reduceToNat, Nat.reduceMul, rC, sQ, ratC]
  · have h0' : ¬ (ls.length : Int) = 0 := by omega
    rw [if_neg h0] at h ⊢
    by_cases h1 : chainE ls = 0
    · rw [if_neg (not_not_intro h1)] at h ⊢
      rw [h1] at ca
      have cb := f_LossE (A := (ls.getD 0 lk0).1) (B := (ls.getD 0 lk0).2) lx ly h
      generalize anchV x y = e at *
      refine afun_intro mo_ _ _ c37 k37 _ _ rfl (by decide) ?_
      unfold b37
      simp (maxSteps := 1000000) (disch := first | omega | (simp only [LL]; omega)) only [W, V, TY, CC, reduceIte, Nat.reduceEqDiff, Nat.reduceAdd, Nat.reduceLeDiff, Nat.reduceLT, Int.reduceLE, Int.reduceLT, Int.reduceAdd, Int.reduceSub, Int.reduceToNat, Nat.reduceMul, LKR, h0', decide_false]
      refine a_call _ _ ca (by simp (maxSteps := 1000000) (disch := first | omega | (simp only [LL]; omega)) only [W, V, TY, CC, reduceIte, Nat.reduceEqDiff, Nat.reduceAdd, Nat.reduceLeDiff, Nat.reduceLT, Int.reduceLE, Int.reduceLT, Int.reduceAdd, Int.reduceSub, Int.reduceToNat, Nat.reduceMul, h, LKR, lkC, rC, rZ, not_false_eq_true, decide_true]) ?_
      simp (maxSteps := 1000000) (disch := first | omega | (simp only [LL]; omega)) only [W, V, TY, CC, reduceIte, Nat.reduceEqDiff, Nat.reduceAdd, Nat.reduceLeDiff, Nat.reduceLT, Int.reduceLE, Int.reduceLT, Int.reduceAdd, Int.reduceSub, Int.reduceToNat, Nat.reduceMul, h, LKR, lkC, rC, rZ, not_false_eq_true, decide_true]
      refine a_call _ _ cb (by simp (maxSteps := 1000000) (disch := first | omega | (simp only [LL]; omega)) only [W, V, TY, CC, reduceIte, Nat.reduceEqDiff, Nat.reduceAdd, Nat.reduceLeDiff, Nat.reduceLT, Int.reduceLE, Int.reduceLT, Int.reduceAdd, Int.reduceSub, Int.reduceToNat, Nat.reduceMul, h, LKR, lkC, rC, rZ, not_false_eq_true, decide_true]) ?_
      simp (maxSteps := 1000000) (disch := first | omega | (simp only [LL]; omega)) only [W, V, TY, CC, reduceIte, Nat.reduceEqDiff, Nat.reduceAdd, Nat.reduceLeDiff, Nat.reduceLT, Int.reduceLE, Int.reduceLT, Int.reduceAdd, Int.reduceSub, Int.reduceToNat, Nat.reduceMul, h, LKR, lkC, rC, rZ, not_false_eq_true, decide_true]
      refine f_ret _ _ _ ?_
      simp (maxSteps := 1000000) (disch := first | omega | (simp only [LL]; omega)) only [W, V, TY, CC, reduceIte, Nat.reduceEqDiff, Nat.reduceAdd, Nat.reduceLeDiff, Nat.reduceLT, Int.reduceLE, Int.reduceLT, Int.reduceAdd, Int.reduceSub, Int.reduceToNat, Nat.reduceMul, rC, sQ, ratC]
    · rw [if_pos h1] at h ⊢
      generalize chainE ls = e at *
      refine afun_intro mo_ _ _ c37 k37 _ _ rfl (by decide) ?_
      unfold b37
      simp (maxSteps := 1000000) (disch := first | omega | (simp only [LL]; omega)) only [W, V, TY, CC, reduceIte, Nat.reduceEqDiff, Nat.reduceAdd, Nat.reduceLeDiff, Nat.reduceLT, Int.reduceLE, Int.reduceLT, Int.reduceAdd, Int.reduceSub, Int.reduceToNat, Nat.reduceMul, LKR, h0', decide_false]
      refine a_call _ _ ca (by simp (maxSteps := 1000000) (disch := first | omega | (simp only [LL]; omega)) only [W, V, TY, CC, reduceIte, Nat.reduceEqDiff, Nat.reduceAdd, Nat.reduceLeDiff, Nat.reduceLT, Int.reduceLE, Int.reduceLT, Int.reduceAdd, Int.reduceSub, Int.reduceToNat, Nat.reduceMul, h, not_false_eq_true, decide_true]) ?_
      simp (maxSteps := 1000000) (disch := first | omega | (simp only [LL]; omega)) only [W, V, TY, CC, reduceIte, Nat.reduceEqDiff, Nat.reduceAdd, Nat.reduceLeDiff, Nat.reduceLT, Int.reduceLE, Int.reduceLT, Int.reduceAdd, Int.reduceSub, Int.reduceToNat, Nat.reduceMul, h, not_false_eq_true, decide_true]
      refine f_ret _ _ _ ?_
      simp (maxSteps := 1000000) (disch := first | omega | (simp only [LL]; omega)) only [W, V, TY, CC, reduceIte, Nat.reduceEqDiff, Nat.reduceAdd, Nat.reduceLeDiff, Nat.reduceLT, Int.reduceLE, Int.reduceLT, Int.reduceAdd, Int.reduceSub, Int.reduceToNat, Nat.reduceMul, rC, sQ, ratC]
theorem f_Choose0 {ls : List (RR × RR)} (hls : roks 1048576 ls) {x y : List Int} (h : chooseE ls x y = 0) :
    AFun Tryz.prog 37 [.one (lkD ls), .one (intsD x), .one (intsD y)] [.one (.lit (.int .i64 (bst (lsQ ls x y) ls.length : Nat))), .one (.lit (.int .i64 0))] := by
  obtain ⟨p0, hc, ha⟩ := choose_ok h
  obtain ⟨h60, hv⟩ := chain_ok hc
  have ho := anch_ok ha
  have hls' : roks 68719476600 ls := fun p hp => ⟨(hls p hp).1.mono (by decide), (hls p hp).2.mono (by decide)⟩
  have ca := f_links hls' (by omega)
  rw [hc] at ca
  have h0' : ¬ (ls.length : Int) = 0 := by omega
  have lss : ∀ i, i < ls.length → AFun Tryz.prog 35 [.agg (lkC (ls.getD i lk0)), .one (intsD x), .one (intsD y)] [.agg (ratC (lsQ ls x y i)), .one (.lit (.int .i64 0))] := fun i hi => by
    obtain ⟨ra, rb⟩ := hls'.at_ hi
    obtain ⟨ra', rb'⟩ := hls.at_ hi
    exact f_Loss0 ra rb (k := 1048577) (qs_rr ra') (qs_rr rb') (by decide) ha
  have qls : ∀ i, i < ls.length → qs (lsQ ls x y i) ≤ 68719476600 := fun i hi => by
    obtain ⟨ra', rb'⟩ := hls.at_ hi
    have l60 := ho.lx
    have := qs_loss (k := 1048577) (qs_rr ra') (qs_rr rb') ho.nx ho.ny ho.ly x.length (Nat.le_refl _)
    have q3 : x.length * (4 * 1048577 + 48) ≤ 60 * (4 * 1048577 + 48) := Nat.mul_le_mul_right _ l60
    unfold lsQ
    omega
  have ls0 := lss 0 p0
  have hb1 : bst (lsQ ls x y) 1 = 0 := by
    show (if _ then 0 else 0) = 0
    split <;> rfl
  refine afun_intro mo_ _ _ c37 k37 _ _ rfl (by decide) ?_
  unfold b37
  simp (maxSteps := 1000000) (disch := first | omega | (simp only [LL]; omega)) only [W, V, TY, CC, reduceIte, Nat.reduceEqDiff, Nat.reduceAdd, Nat.reduceLeDiff, Nat.reduceLT, Int.reduceLE, Int.reduceLT, Int.reduceAdd, Int.reduceSub, Int.reduceToNat, Nat.reduceMul, LKR, h0', decide_false]
  refine a_call _ _ ca (by simp (maxSteps := 1000000) (disch := first | omega | (simp only [LL]; omega)) only [W, V, TY, CC, reduceIte, Nat.reduceEqDiff, Nat.reduceAdd, Nat.reduceLeDiff, Nat.reduceLT, Int.reduceLE, Int.reduceLT, Int.reduceAdd, Int.reduceSub, Int.reduceToNat, Nat.reduceMul, LKR, lkC, rC]) ?_
  simp (maxSteps := 1000000) (disch := first | omega | (simp only [LL]; omega)) only [W, V, TY, CC, reduceIte, Nat.reduceEqDiff, Nat.reduceAdd, Nat.reduceLeDiff, Nat.reduceLT, Int.reduceLE, Int.reduceLT, Int.reduceAdd, Int.reduceSub, Int.reduceToNat, Nat.reduceMul, LKR, lkC, rC]
  refine a_call _ _ ls0 (by simp (maxSteps := 1000000) (disch := first | omega | (simp only [LL]; omega)) only [W, V, TY, CC, reduceIte, Nat.reduceEqDiff, Nat.reduceAdd, Nat.reduceLeDiff, Nat.reduceLT, Int.reduceLE, Int.reduceLT, Int.reduceAdd, Int.reduceSub, Int.reduceToNat, Nat.reduceMul, LKR, lkC, rC, ratC]) ?_
  simp (maxSteps := 1000000) (disch := first | omega | (simp only [LL]; omega)) only [W, V, TY, CC, reduceIte, Nat.reduceEqDiff, Nat.reduceAdd, Nat.reduceLeDiff, Nat.reduceLT, Int.reduceLE, Int.reduceLT, Int.reduceAdd, Int.reduceSub, Int.reduceToNat, Nat.reduceMul, LKR, lkC, rC, ratC]
  refine w_loop (fun n s => ∃ i : Nat, n + i = ls.length ∧ 1 ≤ i ∧ s.t 0 = .one (.dt (lkD ls)) ∧ s.t 1 = .one (.dt (intsD x)) ∧ s.t 2 = .one (.dt (intsD y)) ∧ s.t 7 = .one (.dt (.lit (.int .i64 0))) ∧ s.t 9 = .ptr (9, 0) 0 ∧ s.v (9, 0) = some ((ratC (lsQ ls x y (bst (lsQ ls x y) i))).map .dt) ∧ s.f (9, 0) = false ∧ s.t 10 = .one (.dt (.lit (.int .i64 (bst (lsQ ls x y) i : Nat)))) ∧ s.t 11 = .one (.dt (.lit (.int .i64 i)))) (ls.length - 1) ⟨1, by omega, Nat.le_refl _, ?_, ?_, ?_, ?_, ?_, ?_, ?_, ?_, ?_⟩ ?_
  · simp (maxSteps := 1000000) (disch := first | omega | (simp only [LL]; omega)) only [W, V, TY, CC, reduceIte, Nat.reduceEqDiff, Nat.reduceAdd, Nat.reduceLeDiff, Nat.reduceLT, Int.reduceLE, Int.reduceLT, Int.reduceAdd, Int.reduceSub, Int.reduceToNat, Nat.reduceMul]
  · simp (maxSteps := 1000000) (disch := first | omega | (simp only [LL]; omega)) only [W, V, TY, CC, reduceIte, Nat.reduceEqDiff, Nat.reduceAdd, Nat.reduceLeDiff, Nat.reduceLT, Int.reduceLE, Int.reduceLT, Int.reduceAdd, Int.reduceSub, Int.reduceToNat, Nat.reduceMul]
  · simp (maxSteps := 1000000) (disch := first | omega | (simp only [LL]; omega)) only [W, V, TY, CC, reduceIte, Nat.reduceEqDiff, Nat.reduceAdd, Nat.reduceLeDiff, Nat.reduceLT, Int.reduceLE, Int.reduceLT, Int.reduceAdd, Int.reduceSub, Int.reduceToNat, Nat.reduceMul]
  · simp (maxSteps := 1000000) (disch := first | omega | (simp only [LL]; omega)) only [W, V, TY, CC, reduceIte, Nat.reduceEqDiff, Nat.reduceAdd, Nat.reduceLeDiff, Nat.reduceLT, Int.reduceLE, Int.reduceLT, Int.reduceAdd, Int.reduceSub, Int.reduceToNat, Nat.reduceMul]
  · simp (maxSteps := 1000000) (disch := first | omega | (simp only [LL]; omega)) only [W, V, TY, CC, reduceIte, Nat.reduceEqDiff, Nat.reduceAdd, Nat.reduceLeDiff, Nat.reduceLT, Int.reduceLE, Int.reduceLT, Int.reduceAdd, Int.reduceSub, Int.reduceToNat, Nat.reduceMul]
  · simp (maxSteps := 1000000) (disch := first | omega | (simp only [LL]; omega)) only [W, V, TY, CC, reduceIte, Nat.reduceEqDiff, Nat.reduceAdd, Nat.reduceLeDiff, Nat.reduceLT, Int.reduceLE, Int.reduceLT, Int.reduceAdd, Int.reduceSub, Int.reduceToNat, Nat.reduceMul, hb1, ratC]
  · simp (maxSteps := 1000000) (disch := first | omega | (simp only [LL]; omega)) only [W, V, TY, CC, reduceIte, Nat.reduceEqDiff, Nat.reduceAdd, Nat.reduceLeDiff, Nat.reduceLT, Int.reduceLE, Int.reduceLT, Int.reduceAdd, Int.reduceSub, Int.reduceToNat, Nat.reduceMul]
  · simp (maxSteps := 1000000) (disch := first | omega | (simp only [LL]; omega)) only [W, V, TY, CC, reduceIte, Nat.reduceEqDiff, Nat.reduceAdd, Nat.reduceLeDiff, Nat.reduceLT, Int.reduceLE, Int.reduceLT, Int.reduceAdd, Int.reduceSub, Int.reduceToNat, Nat.reduceMul, hb1]
  · simp (maxSteps := 1000000) (disch := first | omega | (simp only [LL]; omega)) only [W, V, TY, CC, reduceIte, Nat.reduceEqDiff, Nat.reduceAdd, Nat.reduceLeDiff, Nat.reduceLT, Int.reduceLE, Int.reduceLT, Int.reduceAdd, Int.reduceSub, Int.reduceToNat, Nat.reduceMul]
  intro n s hwf ⟨i, e, i1, t0, t1, t2, t7, t9, v9, f9, t10, t11⟩
  simp only [ratC, List.map_cons, List.map_nil] at v9
  have f12 := (hwf 12 (s.g 12) (Nat.le_refl _)).2.2
  simp (maxSteps := 1000000) (disch := first | omega | (simp only [LL]; omega)) only [W, V, TY, CC, reduceIte, Nat.reduceEqDiff, Nat.reduceAdd, Nat.reduceLeDiff, Nat.reduceLT, Int.reduceLE, Int.reduceLT, Int.reduceAdd, Int.reduceSub, Int.reduceToNat, Nat.reduceMul, t0, t1, t2, t7, t9, v9, f9, t10, t11, LKR]
  refine c_split (fun hi => ?_) (fun hi => ?_)
  · have hil : i < ls.length := by omega
    have li := lss i hil
    have hb := bst_lt (lsQ ls x y) i
    have cp := rr_Cmp2 (a := lsQ ls x y i) (b := lsQ ls x y (bst (lsQ ls x y) i)) (by have := qls i hil; omega) (by have := qls _ (show bst (lsQ ls x y) i < ls.length by omega); omega)
    have g := cmpQ_lt (lsQ ls x y i) (lsQ ls x y (bst (lsQ ls x y) i))
    have hB : bst (lsQ ls x y) (i + 1) = if lsQ ls x y i < lsQ ls x y (bst (lsQ ls x y) i) then i else bst (lsQ ls x y) i := rfl
    simp (maxSteps := 1000000) (disch := first | omega | (simp only [LL]; omega)) only [W, V, TY, CC, reduceIte, Nat.reduceEqDiff, Nat.reduceAdd, Nat.reduceLeDiff, Nat.reduceLT, Int.reduceLE, Int.reduceLT, Int.reduceAdd, Int.reduceSub, Int.reduceToNat, Nat.reduceMul, t0, t1, t2, t7, t9, v9, f9, t10, t11, f12, LKR, lkC, rC]
    refine a_call _ _ li (by simp (maxSteps := 1000000) (disch := first | omega | (simp only [LL]; omega)) only [W, V, TY, CC, reduceIte, Nat.reduceEqDiff, Nat.reduceAdd, Nat.reduceLeDiff, Nat.reduceLT, Int.reduceLE, Int.reduceLT, Int.reduceAdd, Int.reduceSub, Int.reduceToNat, Nat.reduceMul, t0, t1, t2, t7, t9, v9, f9, t10, t11, f12, LKR, lkC, rC, ratC]) ?_
    simp (maxSteps := 1000000) (disch := first | omega | (simp only [LL]; omega)) only [W, V, TY, CC, reduceIte, Nat.reduceEqDiff, Nat.reduceAdd, Nat.reduceLeDiff, Nat.reduceLT, Int.reduceLE, Int.reduceLT, Int.reduceAdd, Int.reduceSub, Int.reduceToNat, Nat.reduceMul, t0, t1, t2, t7, t9, v9, f9, t10, t11, f12, LKR, lkC, rC, ratC]
    refine a_call _ _ cp (by simp (maxSteps := 1000000) (disch := first | omega | (simp only [LL]; omega)) only [W, V, TY, CC, reduceIte, Nat.reduceEqDiff, Nat.reduceAdd, Nat.reduceLeDiff, Nat.reduceLT, Int.reduceLE, Int.reduceLT, Int.reduceAdd, Int.reduceSub, Int.reduceToNat, Nat.reduceMul, t0, t1, t2, t7, t9, v9, f9, t10, t11, f12, LKR, lkC, rC, ratC]) ?_
    simp (maxSteps := 1000000) (disch := first | omega | (simp only [LL]; omega)) only [W, V, TY, CC, reduceIte, Nat.reduceEqDiff, Nat.reduceAdd, Nat.reduceLeDiff, Nat.reduceLT, Int.reduceLE, Int.reduceLT, Int.reduceAdd, Int.reduceSub, Int.reduceToNat, Nat.reduceMul, t0, t1, t2, t7, t9, v9, f9, t10, t11, f12, LKR, lkC, rC, ratC]
    refine c_split (fun h => ?_) (fun h => ?_)
    · rw [if_pos (g.1 h)] at hB
      simp (maxSteps := 1000000) (disch := first | omega | (simp only [LL]; omega)) only [W, V, TY, CC, reduceIte, Nat.reduceEqDiff, Nat.reduceAdd, Nat.reduceLeDiff, Nat.reduceLT, Int.reduceLE, Int.reduceLT, Int.reduceAdd, Int.reduceSub, Int.reduceToNat, Nat.reduceMul, t0, t1, t2, t7, t9, v9, f9, t10, t11, f12, LKR, lkC, rC, ratC]
      exact ⟨n - 1, by omega, i + 1, by omega, by omega, by rw [hB], by rw [hB], rfl⟩
    · rw [if_neg (fun e => h (g.2 e))] at hB
      simp (maxSteps := 1000000) (disch := first | omega | (simp only [LL]; omega)) only [W, V, TY, CC, reduceIte, Nat.reduceEqDiff, Nat.reduceAdd, Nat.reduceLeDiff, Nat.reduceLT, Int.reduceLE, Int.reduceLT, Int.reduceAdd, Int.reduceSub, Int.reduceToNat, Nat.reduceMul, t0, t1, t2, t7, t9, v9, f9, t10, t11, f12, LKR, lkC, rC, ratC]
      exact ⟨n - 1, by omega, i + 1, by omega, by omega, by rw [hB], by rw [hB], rfl⟩
  · obtain rfl : i = ls.length := by omega
    simp (maxSteps := 1000000) (disch := first | omega | (simp only [LL]; omega)) only [W, V, TY, CC, reduceIte, Nat.reduceEqDiff, Nat.reduceAdd, Nat.reduceLeDiff, Nat.reduceLT, Int.reduceLE, Int.reduceLT, Int.reduceAdd, Int.reduceSub, Int.reduceToNat, Nat.reduceMul, t0, t1, t2, t7, t9, v9, f9, t10, t11, LKR]
    refine f_ret _ _ _ ?_
    simp (maxSteps := 1000000) (disch := first | omega | (simp only [LL]; omega)) only [W, V, TY, CC, reduceIte, Nat.reduceEqDiff, Nat.reduceAdd, Nat.reduceLeDiff, Nat.reduceLT, Int.reduceLE, Int.reduceLT, Int.reduceAdd, Int.reduceSub, Int.reduceToNat, Nat.reduceMul, t0, t1, t2, t7, t9, v9, f9, t10, t11]
end Go.Proofs.YtljmgdepldpmdaaGreatDoor.E

set_option linter.unusedSimpArgs false
set_option linter.unusedVariables false
set_option maxHeartbeats 2000000
namespace Go.Proofs.YtljmgdepldpmdaaGreatDoor.E
open Go.RowKit Limbs
/-- examboard/examboardlaw45.number -/
def b68 : AF := ⟨11, 1, [.cell 2 27],
  (.seq (.reg [
    ⟨some 2, .alloc 27, none⟩])
  (.seq (.reg [
    ⟨some 6, .move (.tmp 0), none⟩,
    ⟨some 7, .call ⟨(.value (.func 69)), #[(.tmp 6), (.const (.int .i64 1))], #[2, 2]⟩, none⟩,
    ⟨some 5, .move (.tmp 7), none⟩,
    ⟨some 8, .extract (.tmp 5) 0, none⟩,
    ⟨some 9, .extract (.tmp 5) 1, none⟩,
    ⟨some 3, .alloc 27, none⟩,
    ⟨none, .store 27 (.tmp 3) (.tmp 8), none⟩,
    ⟨some 4, .assign (.tmp 9), none⟩])
  (.seq (.reg [
    ⟨some 10, .load 27 (.tmp 3), none⟩,
    ⟨none, .store 27 (.tmp 2) (.tmp 10), none⟩])
  .ret)))⟩
theorem c68 : fcomp Tryz.prog 68 = ⟨b68.n, b68.np, b68.res, b68.body.bare⟩ := by kernel_rfl
theorem k68 : fok Tryz.prog 68 = true := by kernel_rfl
/-- examboard/examboardlaw45.is -/
def b70 : AF := ⟨19, 3, [.tmp 6],
  (.seq (.reg [
    ⟨some 3, .box 37 (.tmp 0), none⟩,
    ⟨some 6, .assign (.const (.bool false)), none⟩])
  (.seq (.reg [
    ⟨some 7, .fieldAddr 37 (.tmp 3) 0, none⟩,
    ⟨some 8, .load 27 (.tmp 7), none⟩,
    ⟨some 9, .call ⟨(.value (.func 56)), #[(.tmp 8)], #[27]⟩, none⟩,
    ⟨some 10, .move (.tmp 1), none⟩,
    ⟨some 11, .binOp .eql 9 (.tmp 9) (.tmp 10) 9, none⟩,
    ⟨some 12, .move (.tmp 11), none⟩,
    ⟨some 13, .fieldAddr 37 (.tmp 3) 1, some (12, true)⟩,
    ⟨some 14, .load 27 (.tmp 13), some (12, true)⟩,
    ⟨some 15, .call ⟨(.value (.func 56)), #[(.tmp 14)], #[27]⟩, some (12, true)⟩,
    ⟨some 16, .move (.tmp 2), some (12, true)⟩,
    ⟨some 17, .binOp .eql 9 (.tmp 15) (.tmp 16) 9, some (12, true)⟩,
    ⟨some 18, .pick (.tmp 12) (.tmp 17) (.const (.bool false)), none⟩,
    ⟨some 6, .assign (.tmp 18), none⟩])
  .ret))⟩
theorem c70 : fcomp Tryz.prog 70 = ⟨b70.n, b70.np, b70.res, b70.body.bare⟩ := by kernel_rfl
theorem k70 : fok Tryz.prog 70 = true := by kernel_rfl
theorem l45_number (n : Int) (a0 : -9223372036854775808 ≤ n) (a1 : n < 9223372036854775808) : AFun Tryz.prog 68 [.one (.lit (.int .i64 n))] [.agg (ratC (Rat.divInt n 1))] := by
  have co := rat_Of n 1 a0 a1 (by decide) (by decide)
  refine afun_intro mo_ _ _ c68 k68 _ _ rfl (by decide) ?_
  unfold b68
  simp (maxSteps := 1000000) (disch := first | omega | (simp only [LL]; omega)) only [W, V, TY, CC, reduceIte, Nat.reduceEqDiff, Nat.reduceAdd, Nat.reduceLeDiff, Nat.reduceLT, Int.reduceLE, Int.reduceLT, Int.reduceAdd, Int.reduceSub, Int.reduceToNat, Nat.reduceMul]
  refine a_call _ _ co (by simp (maxSteps := 1000000) (disch := first | omega | (simp only [LL]; omega)) only [W, V, TY, CC, reduceIte, Nat.reduceEqDiff, Nat.reduceAdd, Nat.reduceLeDiff, Nat.reduceLT, Int.reduceLE, Int.reduceLT, Int.reduceAdd, Int.reduceSub, Int.reduceToNat, Nat.reduceMul, ratC]) ?_
  simp (maxSteps := 1000000) (disch := first | omega | (simp only [LL]; omega)) only [W, V, TY, CC, reduceIte, Nat.reduceEqDiff, Nat.reduceAdd, Nat.reduceLeDiff, Nat.reduceLT, Int.reduceLE, Int.reduceLT, Int.reduceAdd, Int.reduceSub, Int.reduceToNat, Nat.reduceMul, ratC]
  refine f_ret _ _ _ ?_
  simp (maxSteps := 1000000) (disch := first | omega | (simp only [LL]; omega)) only [W, V, TY, CC, reduceIte, Nat.reduceEqDiff, Nat.reduceAdd, Nat.reduceLeDiff, Nat.reduceLT, Int.reduceLE, Int.reduceLT, Int.reduceAdd, Int.reduceSub, Int.reduceToNat, Nat.reduceMul, ratC]
def small (p : Rat) : Prop := -100 < p.num ∧ p.num < 100 ∧ p.den < 100
instance (p : Rat) : Decidable (small p) := by unfold small; infer_instance
theorem l45_is {p q : Rat} (hp : small p) (hq : small q) : AFun Tryz.prog 70 [.agg (sQ p q), .one (.lit (.string (digQ p))), .one (.lit (.string (digQ q)))] [.one (.lit (.bool true))] := by
  have c1 := rat_Print p hp.1 hp.2.1 hp.2.2
  have c2 := rat_Print q hq.1 hq.2.1 hq.2.2
  refine afun_intro mo_ _ _ c70 k70 _ _ rfl (by decide) ?_
  unfold b70
  simp (maxSteps := 1000000) (disch := first | omega | (simp only [LL]; omega)) only [W, V, TY, CC, reduceIte, Nat.reduceEqDiff, Nat.reduceAdd, Nat.reduceLeDiff, Nat.reduceLT, Int.reduceLE, Int.reduceLT, Int.reduceAdd, Int.reduceSub, Int.reduceToNat, Nat.reduceMul, sQ, ratC]
  refine a_call _ _ c1 (by simp (maxSteps := 1000000) (disch := first | omega | (simp only [LL]; omega)) only [W, V, TY, CC, reduceIte, Nat.reduceEqDiff, Nat.reduceAdd, Nat.reduceLeDiff, Nat.reduceLT, Int.reduceLE, Int.reduceLT, Int.reduceAdd, Int.reduceSub, Int.reduceToNat, Nat.reduceMul, ratC, beq_self_eq_true]) ?_
  simp (maxSteps := 1000000) (disch := first | omega | (simp only [LL]; omega)) only [W, V, TY, CC, reduceIte, Nat.reduceEqDiff, Nat.reduceAdd, Nat.reduceLeDiff, Nat.reduceLT, Int.reduceLE, Int.reduceLT, Int.reduceAdd, Int.reduceSub, Int.reduceToNat, Nat.reduceMul, ratC, beq_self_eq_true]
  refine a_call _ _ c2 (by simp (maxSteps := 1000000) (disch := first | omega | (simp only [LL]; omega)) only [W, V, TY, CC, reduceIte, Nat.reduceEqDiff, Nat.reduceAdd, Nat.reduceLeDiff, Nat.reduceLT, Int.reduceLE, Int.reduceLT, Int.reduceAdd, Int.reduceSub, Int.reduceToNat, Nat.reduceMul, ratC, beq_self_eq_true]) ?_
  simp (maxSteps := 1000000) (disch := first | omega | (simp only [LL]; omega)) only [W, V, TY, CC, reduceIte, Nat.reduceEqDiff, Nat.reduceAdd, Nat.reduceLeDiff, Nat.reduceLT, Int.reduceLE, Int.reduceLT, Int.reduceAdd, Int.reduceSub, Int.reduceToNat, Nat.reduceMul, ratC, beq_self_eq_true]
  refine f_ret _ _ _ ?_
  simp (maxSteps := 1000000) (disch := first | omega | (simp only [LL]; omega)) only [W, V, TY, CC, reduceIte, Nat.reduceEqDiff, Nat.reduceAdd, Nat.reduceLeDiff, Nat.reduceLT, Int.reduceLE, Int.reduceLT, Int.reduceAdd, Int.reduceSub, Int.reduceToNat, Nat.reduceMul, beq_self_eq_true]
theorem qD (a b : Int) (a0 : -9223372036854775808 ≤ a) (a1 : a < 9223372036854775808) (b0 : -9223372036854775808 ≤ b) (b1 : b < 9223372036854775808) : qs (Rat.divInt a b) ≤ 10 := by
  have := qs_div a b
  have := zl_i64 a0 a1
  have := zl_i64 b0 b1
  omega
theorem rokD (a b : Int) (a0 : -9223372036854775808 ≤ a) (a1 : a < 9223372036854775808) (b0 : -9223372036854775808 ≤ b) (b1 : b < 9223372036854775808) : rok 68719476600 (nr (Rat.divInt a b)) := rok_nr (by have := qD a b a0 a1 b0 b1; omega)
def b29_10 : AC :=
  (.seq (.reg [
    ⟨some 85, .load 37 (.tmp 6), none⟩,
    ⟨some 86, .buildSlice 47 2 #[(0, (.const (.int .i64 0))), (1, (.const (.int .i64 2)))], none⟩,
    ⟨some 87, .buildSlice 47 2 #[(0, (.const (.int .i64 1))), (1, (.const (.int .i64 4)))], none⟩,
    ⟨some 88, .call ⟨(.value (.func 34)), #[(.tmp 85), (.tmp 86), (.tmp 87)], #[37, 47, 47]⟩, none⟩,
    ⟨some 84, .move (.tmp 88), none⟩,
    ⟨some 89, .extract (.tmp 84) 0, none⟩,
    ⟨some 90, .extract (.tmp 84) 1, none⟩,
    ⟨some 9, .alloc 27, none⟩,
    ⟨none, .store 27 (.tmp 9) (.tmp 89), none⟩,
    ⟨some 3, .assign (.tmp 90), none⟩])
  (.seq (.reg [
    ⟨some 92, .load 37 (.tmp 1), none⟩,
    ⟨some 93, .load 37 (.tmp 6), none⟩,
    ⟨some 94, .buildSlice 52 2 #[(0, (.tmp 92)), (1, (.tmp 93))], none⟩,
    ⟨some 95, .buildSlice 47 2 #[(0, (.const (.int .i64 0))), (1, (.const (.int .i64 2)))], none⟩,
    ⟨some 96, .buildSlice 47 2 #[(0, (.const (.int .i64 1))), (1, (.const (.int .i64 4)))], none⟩,
    ⟨some 97, .call ⟨(.value (.func 36)), #[(.tmp 94), (.tmp 95), (.tmp 96)], #[52, 47, 47]⟩, none⟩,
    ⟨some 91, .move (.tmp 97), none⟩,
    ⟨some 98, .extract (.tmp 91) 0, none⟩,
    ⟨some 99, .extract (.tmp 91) 1, none⟩,
    ⟨some 10, .assign (.tmp 98), none⟩,
    ⟨some 8, .assign (.tmp 99), none⟩])
  (.seq (.reg [
    ⟨some 101, .load 37 (.tmp 1), none⟩,
    ⟨some 102, .load 37 (.tmp 6), none⟩,
    ⟨some 103, .buildSlice 52 2 #[(0, (.tmp 101)), (1, (.tmp 102))], none⟩,
    ⟨some 104, .call ⟨(.value (.func 38)), #[(.tmp 103)], #[52]⟩, none⟩,
    ⟨some 100, .move (.tmp 104), none⟩,
    ⟨some 105, .extract (.tmp 100) 0, none⟩,
    ⟨some 106, .extract (.tmp 100) 1, none⟩,
    ⟨some 11, .alloc 37, none⟩,
    ⟨none, .store 37 (.tmp 11) (.tmp 105), none⟩,
    ⟨some 12, .assign (.tmp 106), none⟩])
  (.seq (.seq (.reg [
    ⟨some 107, .move (.tmp 3), none⟩,
    ⟨some 108, .binOp .neq 38 (.tmp 107) (.const (.int .i64 0)) 38, none⟩,
    ⟨some 109, .move (.tmp 108), none⟩,
    ⟨some 110, .move (.tmp 8), some (109, false)⟩,
    ⟨some 111, .binOp .neq 38 (.tmp 110) (.const (.int .i64 0)) 38, some (109, false)⟩,
    ⟨some 112, .pick (.tmp 109) (.const (.bool true)) (.tmp 111), none⟩,
    ⟨some 113, .move (.tmp 112), none⟩,
    ⟨some 114, .move (.tmp 12), some (113, false)⟩,
    ⟨some 115, .binOp .neq 38 (.tmp 114) (.const (.int .i64 0)) 38, some (113, false)⟩,
    ⟨some 116, .pick (.tmp 113) (.const (.bool true)) (.tmp 115), none⟩,
    ⟨some 117, .move (.tmp 116), none⟩,
    ⟨some 118, .load 27 (.tmp 9), some (117, false)⟩,
    ⟨some 119, .call ⟨(.value (.func 56)), #[(.tmp 118)], #[27]⟩, some (117, false)⟩,
    ⟨some 120, .binOp .neq 9 (.tmp 119) (.const (.string ⟨#[49, 47, 50]⟩)) 9, some (117, false)⟩,
    ⟨some 121, .pick (.tmp 117) (.const (.bool true)) (.tmp 120), none⟩,
    ⟨some 122, .move (.tmp 121), none⟩,
    ⟨some 123, .move (.tmp 10), some (122, false)⟩,
    ⟨some 124, .binOp .neq 3 (.tmp 123) (.const (.int .i64 1)) 3, some (122, false)⟩,
    ⟨some 125, .pick (.tmp 122) (.const (.bool true)) (.tmp 124), none⟩,
    ⟨some 126, .move (.tmp 125), none⟩,
    ⟨some 127, .load 37 (.tmp 11), some (126, false)⟩,
    ⟨some 128, .call ⟨(.value (.func 70)), #[(.tmp 127), (.const (.string ⟨#[50]⟩)), (.const (.string ⟨#[57, 47, 50]⟩))], #[37, 9, 9]⟩, some (126, false)⟩,
    ⟨some 129, .unOp .not 4 (.tmp 128), some (126, false)⟩,
    ⟨some 130, .pick (.tmp 126) (.const (.bool true)) (.tmp 129), none⟩])
  (.cond (.tmp 130)
    (.seq (.reg [
      ⟨some 0, .assign (.const (.bool false)), none⟩])
    .ret)
    .skip))
  (.seq (.reg [
    ⟨some 132, .buildSlice 47 2 #[(0, (.const (.int .i64 1))), (1, (.const (.int .i64 1)))], none⟩,
    ⟨some 133, .buildSlice 47 2 #[(0, (.const (.int .i64 2))), (1, (.const (.int .i64 3)))], none⟩,
    ⟨some 134, .call ⟨(.value (.func 32)), #[(.tmp 132), (.tmp 133)], #[47, 47]⟩, none⟩,
    ⟨some 131, .move (.tmp 134), none⟩,
    ⟨some 135, .extract (.tmp 131) 0, none⟩,
    ⟨some 136, .extract (.tmp 131) 1, none⟩,
    ⟨some 3, .assign (.tmp 136), none⟩])
  (.seq (.reg [
    ⟨some 138, .buildSlice 47 1 #[(0, (.const (.int .i64 1)))], none⟩,
    ⟨some 139, .buildSlice 47 2 #[(0, (.const (.int .i64 1))), (1, (.const (.int .i64 2)))], none⟩,
    ⟨some 140, .call ⟨(.value (.func 30)), #[(.tmp 138), (.tmp 139)], #[47, 47]⟩, none⟩,
    ⟨some 137, .move (.tmp 140), none⟩,
    ⟨some 141, .extract (.tmp 137) 0, none⟩,
    ⟨some 142, .extract (.tmp 137) 1, none⟩,
    ⟨some 8, .assign (.tmp 142), none⟩])
  (.seq (.reg [
    ⟨some 144, .buildSlice 47 1 #[(0, (.const (.int .i64 1)))], none⟩,
    ⟨some 145, .buildSlice 47 1 #[(0, (.const (.int .i64 1)))], none⟩,
    ⟨some 146, .call ⟨(.value (.func 36)), #[(.const (.slice none 0 0)), (.tmp 144), (.tmp 145)], #[52, 47, 47]⟩, none⟩,
    ⟨some 143, .move (.tmp 146), none⟩,
    ⟨some 147, .extract (.tmp 143) 0, none⟩,
    ⟨some 148, .extract (.tmp 143) 1, none⟩,
    ⟨some 12, .assign (.tmp 148), none⟩])
  (.seq (.reg [
    ⟨some 149, .move (.tmp 3), none⟩,
    ⟨some 150, .binOp .eql 38 (.tmp 149) (.const (.int .i64 8)) 38, none⟩,
    ⟨some 151, .move (.tmp 150), none⟩,
    ⟨some 152, .move (.tmp 8), some (151, true)⟩,
    ⟨some 153, .binOp .eql 38 (.tmp 152) (.const (.int .i64 1)) 38, some (151, true)⟩,
    ⟨some 154, .pick (.tmp 151) (.tmp 153) (.const (.bool false)), none⟩,
    ⟨some 155, .move (.tmp 154), none⟩,
    ⟨some 156, .move (.tmp 12), some (155, true)⟩,
    ⟨some 157, .binOp .eql 38 (.tmp 156) (.const (.int .i64 20)) 38, some (155, true)⟩,
    ⟨some 158, .pick (.tmp 155) (.tmp 157) (.const (.bool false)), none⟩,
    ⟨some 0, .assign (.tmp 158), none⟩])
  .ret))))))))
/-- examboard/examboardlaw45.awake -/
def b29 : AF := ⟨159, 0, [.tmp 0],
  (.seq (.reg [
    ⟨some 0, .assign (.const (.bool false)), none⟩])
  (.seq (.reg [
    ⟨some 13, .call ⟨(.value (.func 68)), #[(.const (.int .i64 2))], #[3]⟩, none⟩,
    ⟨some 14, .call ⟨(.value (.func 68)), #[(.const (.int .i64 3))], #[3]⟩, none⟩,
    ⟨some 15, .build 37 #[(0, (.tmp 13)), (1, (.tmp 14))], none⟩,
    ⟨some 1, .alloc 37, none⟩,
    ⟨none, .store 37 (.tmp 1) (.tmp 15), none⟩])
  (.seq (.reg [
    ⟨some 17, .load 37 (.tmp 1), none⟩,
    ⟨some 18, .call ⟨(.value (.func 19)), #[(.tmp 17)], #[37]⟩, none⟩,
    ⟨some 16, .move (.tmp 18), none⟩,
    ⟨some 19, .extract (.tmp 16) 0, none⟩,
    ⟨some 20, .extract (.tmp 16) 1, none⟩,
    ⟨some 2, .alloc 37, none⟩,
    ⟨none, .store 37 (.tmp 2) (.tmp 19), none⟩,
    ⟨some 3, .assign (.tmp 20), none⟩])
  (.seq (.reg [
    ⟨some 22, .call ⟨(.value (.func 69)), #[(.const (.int .i64 5)), (.const (.int .i64 2))], #[2, 2]⟩, none⟩,
    ⟨some 21, .move (.tmp 22), none⟩,
    ⟨some 23, .extract (.tmp 21) 0, none⟩,
    ⟨some 24, .extract (.tmp 21) 1, none⟩,
    ⟨some 4, .alloc 27, none⟩,
    ⟨none, .store 27 (.tmp 4) (.tmp 23), none⟩,
    ⟨some 5, .assign (.tmp 24), none⟩])
  (.seq (.seq (.reg [
    ⟨some 25, .move (.tmp 3), none⟩,
    ⟨some 26, .binOp .neq 38 (.tmp 25) (.const (.int .i64 0)) 38, none⟩,
    ⟨some 27, .move (.tmp 26), none⟩,
    ⟨some 28, .load 37 (.tmp 2), some (27, false)⟩,
    ⟨some 29, .call ⟨(.value (.func 70)), #[(.tmp 28), (.const (.string ⟨#[49, 47, 50]⟩)), (.const (.string ⟨#[45, 51, 47, 50]⟩))], #[37, 9, 9]⟩, some (27, false)⟩,
    ⟨some 30, .unOp .not 4 (.tmp 29), some (27, false)⟩,
    ⟨some 31, .pick (.tmp 27) (.const (.bool true)) (.tmp 30), none⟩,
    ⟨some 32, .move (.tmp 31), none⟩,
    ⟨some 33, .load 37 (.tmp 1), some (32, false)⟩,
    ⟨some 34, .load 27 (.tmp 4), some (32, false)⟩,
    ⟨some 35, .call ⟨(.value (.func 25)), #[(.tmp 33), (.tmp 34)], #[37, 27]⟩, some (32, false)⟩,
    ⟨some 36, .call ⟨(.value (.func 56)), #[(.tmp 35)], #[27]⟩, some (32, false)⟩,
    ⟨some 37, .binOp .neq 9 (.tmp 36) (.const (.string ⟨#[56]⟩)) 9, some (32, false)⟩,
    ⟨some 38, .pick (.tmp 32) (.const (.bool true)) (.tmp 37), none⟩,
    ⟨some 39, .move (.tmp 38), none⟩,
    ⟨some 40, .load 37 (.tmp 1), some (39, false)⟩,
    ⟨some 41, .call ⟨(.value (.func 22)), #[(.tmp 40)], #[37]⟩, some (39, false)⟩,
    ⟨some 42, .unOp .not 4 (.tmp 41), some (39, false)⟩,
    ⟨some 43, .pick (.tmp 39) (.const (.bool true)) (.tmp 42), none⟩,
    ⟨some 44, .move (.tmp 43), none⟩,
    ⟨some 45, .call ⟨(.value (.func 68)), #[(.const (.int .i64 1))], #[3]⟩, some (44, false)⟩,
    ⟨some 46, .build 37 #[(1, (.tmp 45))], some (44, false)⟩,
    ⟨some 47, .call ⟨(.value (.func 22)), #[(.tmp 46)], #[37]⟩, some (44, false)⟩,
    ⟨some 48, .pick (.tmp 44) (.const (.bool true)) (.tmp 47), none⟩,
    ⟨some 49, .move (.tmp 48), none⟩,
    ⟨some 50, .load 37 (.tmp 1), some (49, false)⟩,
    ⟨some 51, .load 37 (.tmp 2), some (49, false)⟩,
    ⟨some 52, .call ⟨(.value (.func 27)), #[(.tmp 50), (.tmp 51)], #[37, 37]⟩, some (49, false)⟩,
    ⟨some 53, .call ⟨(.value (.func 70)), #[(.tmp 52), (.const (.string ⟨#[49]⟩)), (.const (.string ⟨#[48]⟩))], #[37, 9, 9]⟩, some (49, false)⟩,
    ⟨some 54, .unOp .not 4 (.tmp 53), some (49, false)⟩,
    ⟨some 55, .pick (.tmp 49) (.const (.bool true)) (.tmp 54), none⟩])
  (.cond (.tmp 55)
    (.seq (.reg [
      ⟨some 0, .assign (.const (.bool false)), none⟩])
    .ret)
    .skip))
  (.seq (.reg [
    ⟨some 57, .buildSlice 47 2 #[(0, (.const (.int .i64 0))), (1, (.const (.int .i64 2)))], none⟩,
    ⟨some 58, .buildSlice 47 2 #[(0, (.const (.int .i64 1))), (1, (.const (.int .i64 4)))], none⟩,
    ⟨some 59, .call ⟨(.value (.func 30)), #[(.tmp 57), (.tmp 58)], #[47, 47]⟩, none⟩,
    ⟨some 56, .move (.tmp 59), none⟩,
    ⟨some 60, .extract (.tmp 56) 0, none⟩,
    ⟨some 61, .extract (.tmp 56) 1, none⟩,
    ⟨some 6, .alloc 37, none⟩,
    ⟨none, .store 37 (.tmp 6) (.tmp 60), none⟩,
    ⟨some 3, .assign (.tmp 61), none⟩])
  (.seq (.reg [
    ⟨some 63, .buildSlice 47 2 #[(0, (.const (.int .i64 0))), (1, (.const (.int .i64 2)))], none⟩,
    ⟨some 64, .buildSlice 47 2 #[(0, (.const (.int .i64 1))), (1, (.const (.int .i64 7)))], none⟩,
    ⟨some 65, .call ⟨(.value (.func 32)), #[(.tmp 63), (.tmp 64)], #[47, 47]⟩, none⟩,
    ⟨some 62, .move (.tmp 65), none⟩,
    ⟨some 66, .extract (.tmp 62) 0, none⟩,
    ⟨some 67, .extract (.tmp 62) 1, none⟩,
    ⟨some 7, .alloc 37, none⟩,
    ⟨none, .store 37 (.tmp 7) (.tmp 66), none⟩,
    ⟨some 8, .assign (.tmp 67), none⟩])
  (.seq (.seq (.reg [
    ⟨some 68, .move (.tmp 3), none⟩,
    ⟨some 69, .binOp .neq 38 (.tmp 68) (.const (.int .i64 0)) 38, none⟩,
    ⟨some 70, .move (.tmp 69), none⟩,
    ⟨some 71, .move (.tmp 8), some (70, false)⟩,
    ⟨some 72, .binOp .neq 38 (.tmp 71) (.const (.int .i64 0)) 38, some (70, false)⟩,
    ⟨some 73, .pick (.tmp 70) (.const (.bool true)) (.tmp 72), none⟩,
    ⟨some 74, .move (.tmp 73), none⟩,
    ⟨some 75, .load 37 (.tmp 6), some (74, false)⟩,
    ⟨some 76, .call ⟨(.value (.func 70)), #[(.tmp 75), (.const (.string ⟨#[49]⟩)), (.const (.string ⟨#[51, 47, 50]⟩))], #[37, 9, 9]⟩, some (74, false)⟩,
    ⟨some 77, .unOp .not 4 (.tmp 76), some (74, false)⟩,
    ⟨some 78, .pick (.tmp 74) (.const (.bool true)) (.tmp 77), none⟩,
    ⟨some 79, .move (.tmp 78), none⟩,
    ⟨some 80, .load 37 (.tmp 7), some (79, false)⟩,
    ⟨some 81, .call ⟨(.value (.func 70)), #[(.tmp 80), (.const (.string ⟨#[51]⟩)), (.const (.string ⟨#[49]⟩))], #[37, 9, 9]⟩, some (79, false)⟩,
    ⟨some 82, .unOp .not 4 (.tmp 81), some (79, false)⟩,
    ⟨some 83, .pick (.tmp 79) (.const (.bool true)) (.tmp 82), none⟩])
  (.cond (.tmp 83)
    (.seq (.reg [
      ⟨some 0, .assign (.const (.bool false)), none⟩])
    .ret)
    .skip))
  b29_10))))))))⟩
theorem c29 : fcomp Tryz.prog 29 = ⟨b29.n, b29.np, b29.res, b29.body.bare⟩ := by kernel_rfl
theorem k29 : fok Tryz.prog 29 = true := by kernel_rfl
set_option maxHeartbeats 8000000 in
theorem l45_awake_rest (s : AS) (t1 : s.t 1 = .ptr (1, 0) 0) (v1 : s.v (1, 0) = some ((sQ (Rat.divInt 2 1) (Rat.divInt 3 1)).map .dt)) (t6 : s.t 6 = .ptr (6, 0) 0) (v6 : s.v (6, 0) = some ((sQ (Rat.divInt 1 1) (Rat.divInt 3 2)).map .dt)) (g9 : s.g 9 = 0) (g11 : s.g 11 = 0) (f9 : s.f (9, 0) = false) (f11 : s.f (11, 0) = false) :
    awp Tryz.prog b29_10 (fend Tryz.prog [.tmp 0] [.one (.lit (.bool true))]) s := by
  have q21 := rokD 2 1 (by decide) (by decide) (by decide) (by decide)
  have q31 := rokD 3 1 (by decide) (by decide) (by decide) (by decide)
  have q11 := rokD 1 1 (by decide) (by decide) (by decide) (by decide)
  have q12 := rokD 1 2 (by decide) (by decide) (by decide) (by decide)
  have q32 := rokD 3 2 (by decide) (by decide) (by decide) (by decide)
  have q52 := rokD 5 2 (by decide) (by decide) (by decide) (by decide)
  have qm32 := rokD (-3) 2 (by decide) (by decide) (by decide) (by decide)
  have big : ∀ q : Rat, qs q ≤ 10 → qs q ≤ 68719476600 := fun q h => Nat.le_trans h (by decide)
  have lo1 := k_Loss0 q11 q32 (k := 10) (by rw [nr_q]; exact qD 1 1 (by decide) (by decide) (by decide) (by decide)) (by rw [nr_q]; exact qD 3 2 (by decide) (by decide) (by decide) (by decide)) (by decide) (x := [0, 2]) (y := [1, 4]) (by decide)
  simp only [nr_q, rC_nr] at lo1
  rw [show lossQ (Rat.divInt 1 1) (Rat.divInt 3 2) [0, 2] [1, 4] [(0 : Int), 2].length = Rat.divInt 1 2 by decide +kernel] at lo1
  have hroks : roks 1048576 [(nr (Rat.divInt 2 1), nr (Rat.divInt 3 1)), (nr (Rat.divInt 1 1), nr (Rat.divInt 3 2))] := by
    intro p hp
    have d : ∀ a b : Int, -100 ≤ a → a ≤ 100 → -100 ≤ b → b ≤ 100 → rok 1048576 (nr (Rat.divInt a b)) := fun a b h1 h2 h3 h4 => rok_nr (Nat.le_trans (qD a b (by omega) (by omega) (by omega) (by omega)) (by decide))
    simp only [List.mem_cons, List.not_mem_nil, or_false] at hp
    rcases hp with rfl | rfl
    · exact ⟨d 2 1 (by decide) (by decide) (by decide) (by decide), d 3 1 (by decide) (by decide) (by decide) (by decide)⟩
    · exact ⟨d 1 1 (by decide) (by decide) (by decide) (by decide), d 3 2 (by decide) (by decide) (by decide) (by decide)⟩
  have hval : validB [(nr (Rat.divInt 2 1), nr (Rat.divInt 3 1)), (nr (Rat.divInt 1 1), nr (Rat.divInt 3 2))] = true := by
    unfold validB
    simp only [List.all_cons, List.all_nil, nr_q]
    decide +kernel
  have hche : chainE [(nr (Rat.divInt 2 1), nr (Rat.divInt 3 1)), (nr (Rat.divInt 1 1), nr (Rat.divInt 3 2))] = 0 := by
    unfold chainE
    rw [hval]
    rfl
  have hcho : chooseE [(nr (Rat.divInt 2 1), nr (Rat.divInt 3 1)), (nr (Rat.divInt 1 1), nr (Rat.divInt 3 2))] [0, 2] [1, 4] = 0 := by
    unfold chooseE
    rw [hche]
    rfl
  have ch1 := k_Choose0 hroks hcho
  have eb : bst (lsQ [(nr (Rat.divInt 2 1), nr (Rat.divInt 3 1)), (nr (Rat.divInt 1 1), nr (Rat.divInt 3 2))] [0, 2] [1, 4]) 2 = 1 := by
    have e0 : lsQ [(nr (Rat.divInt 2 1), nr (Rat.divInt 3 1)), (nr (Rat.divInt 1 1), nr (Rat.divInt 3 2))] [0, 2] [1, 4] 0 = Rat.divInt 13 1 := by
      show lossQ (nr (Rat.divInt 2 1)).q (nr (Rat.divInt 3 1)).q [0, 2] [1, 4] 2 = _
      rw [nr_q, nr_q]
      decide +kernel
    have e1 : lsQ [(nr (Rat.divInt 2 1), nr (Rat.divInt 3 1)), (nr (Rat.divInt 1 1), nr (Rat.divInt 3 2))] [0, 2] [1, 4] 1 = Rat.divInt 1 2 := by
      show lossQ (nr (Rat.divInt 1 1)).q (nr (Rat.divInt 3 2)).q [0, 2] [1, 4] 2 = _
      rw [nr_q, nr_q]
      decide +kernel
    have b1 : bst (lsQ [(nr (Rat.divInt 2 1), nr (Rat.divInt 3 1)), (nr (Rat.divInt 1 1), nr (Rat.divInt 3 2))] [0, 2] [1, 4]) 1 = 0 := by
      show (if _ then 0 else 0) = 0
      split <;> rfl
    show (if lsQ [(nr (Rat.divInt 2 1), nr (Rat.divInt 3 1)), (nr (Rat.divInt 1 1), nr (Rat.divInt 3 2))] [0, 2] [1, 4] 1 < lsQ [(nr (Rat.divInt 2 1), nr (Rat.divInt 3 1)), (nr (Rat.divInt 1 1), nr (Rat.divInt 3 2))] [0, 2] [1, 4] (bst (lsQ [(nr (Rat.divInt 2 1), nr (Rat.divInt 3 1)), (nr (Rat.divInt 1 1), nr (Rat.divInt 3 2))] [0, 2] [1, 4]) 1) then 1 else bst (lsQ [(nr (Rat.divInt 2 1), nr (Rat.divInt 3 1)), (nr (Rat.divInt 1 1), nr (Rat.divInt 3 2))] [0, 2] [1, 4]) 1) = 1
    rw [b1, e0, e1, if_pos (by decide +kernel)]
  rw [show ([(nr (Rat.divInt 2 1), nr (Rat.divInt 3 1)), (nr (Rat.divInt 1 1), nr (Rat.divInt 3 2))] : List (RR × RR)).length = 2 from rfl, eb] at ch1
  have cc1 := k_Chain0 hroks hche
  have ea : cA [(nr (Rat.divInt 2 1), nr (Rat.divInt 3 1)), (nr (Rat.divInt 1 1), nr (Rat.divInt 3 2))] 2 = Rat.divInt 2 1 := by
    show 1 * (nr (Rat.divInt 2 1)).q * (nr (Rat.divInt 1 1)).q = _
    rw [nr_q, nr_q]
    decide +kernel
  have eb2 : cB [(nr (Rat.divInt 2 1), nr (Rat.divInt 3 1)), (nr (Rat.divInt 1 1), nr (Rat.divInt 3 2))] 2 = Rat.divInt 9 2 := by
    show (nr (Rat.divInt 1 1)).q * ((nr (Rat.divInt 2 1)).q * 0 + (nr (Rat.divInt 3 1)).q) + (nr (Rat.divInt 3 2)).q = _
    rw [nr_q, nr_q, nr_q, nr_q]
    decide +kernel
  rw [show ([(nr (Rat.divInt 2 1), nr (Rat.divInt 3 1)), (nr (Rat.divInt 1 1), nr (Rat.divInt 3 2))] : List (RR × RR)).length = 2 from rfl, ea, eb2] at cc1
  have is5 := l45_is (p := Rat.divInt 2 1) (q := Rat.divInt 9 2) (by decide +kernel) (by decide +kernel)
  rw [show digQ (Rat.divInt 2 1) = ⟨#[50]⟩ by decide +kernel, show digQ (Rat.divInt 9 2) = ⟨#[57, 47, 50]⟩ by decide +kernel] at is5
  have pr12 := rat_Print (Rat.divInt 1 2) (by decide +kernel) (by decide +kernel) (by decide +kernel)
  rw [show digQ (Rat.divInt 1 2) = ⟨#[49, 47, 50]⟩ by decide +kernel] at pr12
  have sp2 := k_SpreadZ (x := [1, 1]) (y := [2, 3]) (by decide) (by decide) (by decide) (.inl (by decide))
  have me2 := k_MeanE (x := [1]) (y := [1, 2]) (by decide) (by decide) (by decide)
  rw [show anchV [1] [1, 2] = 1 by decide] at me2
  have ch2 := k_ChooseE (ls := []) (fun p hp => by simp at hp) (by decide) (x := [1]) (y := [1]) (by decide) (by decide) (by decide)
  rw [show chooseE [] [1] [1] = 20 by decide] at ch2
  have BB : (true == true) = true ∧ (false == false) = true ∧ (true == false) = false ∧ (false == true) = false ∧ (!true) = false ∧ (!false) = true := ⟨rfl, rfl, rfl, rfl, rfl, rfl⟩
  clear hroks hval hche hcho eb ea eb2
  simp only [sQ, ratC, List.map_cons, List.map_nil, List.cons_append, List.nil_append] at v1 v6
  unfold b29_10
  simp (maxSteps := 1000000) (disch := first | omega | (simp only [LL]; omega)) only [W, V, TY, CC, reduceIte, Nat.reduceEqDiff, Nat.reduceAdd, Nat.reduceLeDiff, Nat.reduceLT, Int.reduceLE, Int.reduceLT, Int.reduceAdd, Int.reduceSub, Int.reduceToNat, Nat.reduceMul, t1, v1, t6, v6, g9, g11, f9, f11, sQ, ratC, rC, BB, beq_self_eq_true, zS]
  refine a_call _ _ lo1 (by simp (maxSteps := 1000000) (disch := first | omega | (simp only [LL]; omega)) only [W, V, TY, CC, reduceIte, Nat.reduceEqDiff, Nat.reduceAdd, Nat.reduceLeDiff, Nat.reduceLT, Int.reduceLE, Int.reduceLT, Int.reduceAdd, Int.reduceSub, Int.reduceToNat, Nat.reduceMul, t1, v1, t6, v6, g9, g11, f9, f11, sQ, ratC, rC, BB, beq_self_eq_true, zS] <;> rfl) ?_
  simp (maxSteps := 1000000) (disch := first | omega | (simp only [LL]; omega)) only [W, V, TY, CC, reduceIte, Nat.reduceEqDiff, Nat.reduceAdd, Nat.reduceLeDiff, Nat.reduceLT, Int.reduceLE, Int.reduceLT, Int.reduceAdd, Int.reduceSub, Int.reduceToNat, Nat.reduceMul, t1, v1, t6, v6, g9, g11, f9, f11, sQ, ratC, rC, BB, beq_self_eq_true, zS]
  refine a_call _ _ ch1 (by simp (maxSteps := 1000000) (disch := first | omega | (simp only [LL]; omega)) only [W, V, TY, CC, reduceIte, Nat.reduceEqDiff, Nat.reduceAdd, Nat.reduceLeDiff, Nat.reduceLT, Int.reduceLE, Int.reduceLT, Int.reduceAdd, Int.reduceSub, Int.reduceToNat, Nat.reduceMul, t1, v1, t6, v6, g9, g11, f9, f11, sQ, ratC, rC, BB, beq_self_eq_true, zS] <;> rfl) ?_
  simp (maxSteps := 1000000) (disch := first | omega | (simp only [LL]; omega)) only [W, V, TY, CC, reduceIte, Nat.reduceEqDiff, Nat.reduceAdd, Nat.reduceLeDiff, Nat.reduceLT, Int.reduceLE, Int.reduceLT, Int.reduceAdd, Int.reduceSub, Int.reduceToNat, Nat.reduceMul, t1, v1, t6, v6, g9, g11, f9, f11, sQ, ratC, rC, BB, beq_self_eq_true, zS]
  refine a_call _ _ cc1 (by simp (maxSteps := 1000000) (disch := first | omega | (simp only [LL]; omega)) only [W, V, TY, CC, reduceIte, Nat.reduceEqDiff, Nat.reduceAdd, Nat.reduceLeDiff, Nat.reduceLT, Int.reduceLE, Int.reduceLT, Int.reduceAdd, Int.reduceSub, Int.reduceToNat, Nat.reduceMul, t1, v1, t6, v6, g9, g11, f9, f11, sQ, ratC, rC, BB, beq_self_eq_true, zS] <;> rfl) ?_
  simp (maxSteps := 1000000) (disch := first | omega | (simp only [LL]; omega)) only [W, V, TY, CC, reduceIte, Nat.reduceEqDiff, Nat.reduceAdd, Nat.reduceLeDiff, Nat.reduceLT, Int.reduceLE, Int.reduceLT, Int.reduceAdd, Int.reduceSub, Int.reduceToNat, Nat.reduceMul, t1, v1, t6, v6, g9, g11, f9, f11, sQ, ratC, rC, BB, beq_self_eq_true, zS]
  refine a_call _ _ pr12 (by simp (maxSteps := 1000000) (disch := first | omega | (simp only [LL]; omega)) only [W, V, TY, CC, reduceIte, Nat.reduceEqDiff, Nat.reduceAdd, Nat.reduceLeDiff, Nat.reduceLT, Int.reduceLE, Int.reduceLT, Int.reduceAdd, Int.reduceSub, Int.reduceToNat, Nat.reduceMul, t1, v1, t6, v6, g9, g11, f9, f11, sQ, ratC, rC, BB, beq_self_eq_true, zS] <;> rfl) ?_
  simp (maxSteps := 1000000) (disch := first | omega | (simp only [LL]; omega)) only [W, V, TY, CC, reduceIte, Nat.reduceEqDiff, Nat.reduceAdd, Nat.reduceLeDiff, Nat.reduceLT, Int.reduceLE, Int.reduceLT, Int.reduceAdd, Int.reduceSub, Int.reduceToNat, Nat.reduceMul, t1, v1, t6, v6, g9, g11, f9, f11, sQ, ratC, rC, BB, beq_self_eq_true, zS]
  refine a_call _ _ is5 (by simp (maxSteps := 1000000) (disch := first | omega | (simp only [LL]; omega)) only [W, V, TY, CC, reduceIte, Nat.reduceEqDiff, Nat.reduceAdd, Nat.reduceLeDiff, Nat.reduceLT, Int.reduceLE, Int.reduceLT, Int.reduceAdd, Int.reduceSub, Int.reduceToNat, Nat.reduceMul, t1, v1, t6, v6, g9, g11, f9, f11, sQ, ratC, rC, BB, beq_self_eq_true, zS] <;> rfl) ?_
  simp (maxSteps := 1000000) (disch := first | omega | (simp only [LL]; omega)) only [W, V, TY, CC, reduceIte, Nat.reduceEqDiff, Nat.reduceAdd, Nat.reduceLeDiff, Nat.reduceLT, Int.reduceLE, Int.reduceLT, Int.reduceAdd, Int.reduceSub, Int.reduceToNat, Nat.reduceMul, t1, v1, t6, v6, g9, g11, f9, f11, sQ, ratC, rC, BB, beq_self_eq_true, zS]
  refine a_call _ _ sp2 (by simp (maxSteps := 1000000) (disch := first | omega | (simp only [LL]; omega)) only [W, V, TY, CC, reduceIte, Nat.reduceEqDiff, Nat.reduceAdd, Nat.reduceLeDiff, Nat.reduceLT, Int.reduceLE, Int.reduceLT, Int.reduceAdd, Int.reduceSub, Int.reduceToNat, Nat.reduceMul, t1, v1, t6, v6, g9, g11, f9, f11, sQ, ratC, rC, BB, beq_self_eq_true, zS] <;> rfl) ?_
  simp (maxSteps := 1000000) (disch := first | omega | (simp only [LL]; omega)) only [W, V, TY, CC, reduceIte, Nat.reduceEqDiff, Nat.reduceAdd, Nat.reduceLeDiff, Nat.reduceLT, Int.reduceLE, Int.reduceLT, Int.reduceAdd, Int.reduceSub, Int.reduceToNat, Nat.reduceMul, t1, v1, t6, v6, g9, g11, f9, f11, sQ, ratC, rC, BB, beq_self_eq_true, zS]
  refine a_call _ _ me2 (by simp (maxSteps := 1000000) (disch := first | omega | (simp only [LL]; omega)) only [W, V, TY, CC, reduceIte, Nat.reduceEqDiff, Nat.reduceAdd, Nat.reduceLeDiff, Nat.reduceLT, Int.reduceLE, Int.reduceLT, Int.reduceAdd, Int.reduceSub, Int.reduceToNat, Nat.reduceMul, t1, v1, t6, v6, g9, g11, f9, f11, sQ, ratC, rC, BB, beq_self_eq_true, zS] <;> rfl) ?_
  simp (maxSteps := 1000000) (disch := first | omega | (simp only [LL]; omega)) only [W, V, TY, CC, reduceIte, Nat.reduceEqDiff, Nat.reduceAdd, Nat.reduceLeDiff, Nat.reduceLT, Int.reduceLE, Int.reduceLT, Int.reduceAdd, Int.reduceSub, Int.reduceToNat, Nat.reduceMul, t1, v1, t6, v6, g9, g11, f9, f11, sQ, ratC, rC, BB, beq_self_eq_true, zS]
  refine a_call _ _ ch2 (by simp (maxSteps := 1000000) (disch := first | omega | (simp only [LL]; omega)) only [W, V, TY, CC, reduceIte, Nat.reduceEqDiff, Nat.reduceAdd, Nat.reduceLeDiff, Nat.reduceLT, Int.reduceLE, Int.reduceLT, Int.reduceAdd, Int.reduceSub, Int.reduceToNat, Nat.reduceMul, t1, v1, t6, v6, g9, g11, f9, f11, sQ, ratC, rC, BB, beq_self_eq_true, zS] <;> rfl) ?_
  simp (maxSteps := 1000000) (disch := first | omega | (simp only [LL]; omega)) only [W, V, TY, CC, reduceIte, Nat.reduceEqDiff, Nat.reduceAdd, Nat.reduceLeDiff, Nat.reduceLT, Int.reduceLE, Int.reduceLT, Int.reduceAdd, Int.reduceSub, Int.reduceToNat, Nat.reduceMul, t1, v1, t6, v6, g9, g11, f9, f11, sQ, ratC, rC, BB, beq_self_eq_true, zS]
  refine f_ret _ _ _ ?_
  simp (maxSteps := 1000000) (disch := first | omega | (simp only [LL]; omega)) only [W, V, TY, CC, reduceIte, Nat.reduceEqDiff, Nat.reduceAdd, Nat.reduceLeDiff, Nat.reduceLT, Int.reduceLE, Int.reduceLT, Int.reduceAdd, Int.reduceSub, Int.reduceToNat, Nat.reduceMul, BB]
set_option maxHeartbeats 8000000 in
theorem l45_awake : AFun Tryz.prog 29 [] [.one (.lit (.bool true))] := by
  have q21 := rokD 2 1 (by decide) (by decide) (by decide) (by decide)
  have q31 := rokD 3 1 (by decide) (by decide) (by decide) (by decide)
  have q11 := rokD 1 1 (by decide) (by decide) (by decide) (by decide)
  have q12 := rokD 1 2 (by decide) (by decide) (by decide) (by decide)
  have q32 := rokD 3 2 (by decide) (by decide) (by decide) (by decide)
  have q52 := rokD 5 2 (by decide) (by decide) (by decide) (by decide)
  have qm32 := rokD (-3) 2 (by decide) (by decide) (by decide) (by decide)
  have big : ∀ q : Rat, qs q ≤ 10 → qs q ≤ 68719476600 := fun q h => Nat.le_trans h (by decide)
  have n2 := l45_number 2 (by decide) (by decide)
  have n3 := l45_number 3 (by decide) (by decide)
  have n1 := l45_number 1 (by decide) (by decide)
  have x5 := rat_Of 5 2 (by decide) (by decide) (by decide) (by decide)
  have iv1 := k_Invert q21 q31 (by rw [nr_q]; decide +kernel) (by rw [nr_q, show 1 / Rat.divInt 2 1 = Rat.divInt 1 2 by decide +kernel]; exact big _ (qD 1 2 (by decide) (by decide) (by decide) (by decide))) (by rw [nr_q, nr_q, show 1 / Rat.divInt 2 1 * Rat.divInt 3 1 = Rat.divInt 3 2 by decide +kernel]; exact big _ (qD 3 2 (by decide) (by decide) (by decide) (by decide)))
  simp only [nr_q, rC_nr] at iv1
  rw [show -(1 / Rat.divInt 2 1 * Rat.divInt 3 1) = Rat.divInt (-3) 2 by decide +kernel, show 1 / Rat.divInt 2 1 = Rat.divInt 1 2 by decide +kernel] at iv1
  have is1 := l45_is (p := Rat.divInt 1 2) (q := Rat.divInt (-3) 2) (by decide +kernel) (by decide +kernel)
  rw [show digQ (Rat.divInt 1 2) = ⟨#[49, 47, 50]⟩ by decide +kernel, show digQ (Rat.divInt (-3) 2) = ⟨#[45, 51, 47, 50]⟩ by decide +kernel] at is1
  have ap1 := k_Apply q21 q31 q52 (by rw [nr_q, nr_q, show Rat.divInt 2 1 * Rat.divInt 5 2 = Rat.divInt 5 1 by decide +kernel]; exact big _ (qD 5 1 (by decide) (by decide) (by decide) (by decide)))
  simp only [nr_q, rC_nr] at ap1
  rw [show Rat.divInt 2 1 * Rat.divInt 5 2 + Rat.divInt 3 1 = Rat.divInt 8 1 by decide +kernel] at ap1
  have pr8 := rat_Print (Rat.divInt 8 1) (by decide +kernel) (by decide +kernel) (by decide +kernel)
  rw [show digQ (Rat.divInt 8 1) = ⟨#[56]⟩ by decide +kernel] at pr8
  have va1 := k_Valid (B := nr (Rat.divInt 3 1)) q21
  simp only [nr_q, rC_nr] at va1
  rw [decide_eq_true (show 0 < Rat.divInt 2 1 by decide +kernel)] at va1
  have va2 := k_Valid (A := ⟨false, [], []⟩) (B := nr (Rat.divInt 1 1)) ⟨Lim.nil, Lim.nil, by decide, by decide⟩
  rw [decide_eq_false (show ¬ 0 < RR.q ⟨false, [], []⟩ by decide +kernel)] at va2
  simp only [rC_nr] at va2
  have co1 := k_Compose q21 q31 q12 qm32 (by rw [nr_q, nr_q, show Rat.divInt 1 2 * Rat.divInt 3 1 = Rat.divInt 3 2 by decide +kernel]; exact big _ (qD 3 2 (by decide) (by decide) (by decide) (by decide)))
  simp only [nr_q, rC_nr] at co1
  rw [show Rat.divInt 2 1 * Rat.divInt 1 2 = Rat.divInt 1 1 by decide +kernel, show Rat.divInt 1 2 * Rat.divInt 3 1 + Rat.divInt (-3) 2 = Rat.divInt 0 1 by decide +kernel] at co1
  have is2 := l45_is (p := Rat.divInt 1 1) (q := Rat.divInt 0 1) (by decide +kernel) (by decide +kernel)
  rw [show digQ (Rat.divInt 1 1) = ⟨#[49]⟩ by decide +kernel, show digQ (Rat.divInt 0 1) = ⟨#[48]⟩ by decide +kernel] at is2
  have me1 := k_Mean0 (x := [0, 2]) (y := [1, 4]) (by decide) (by decide) (by decide)
  rw [show meanQ [1, 4] - meanQ [0, 2] = Rat.divInt 3 2 by decide +kernel, show (1 : Rat) = Rat.divInt 1 1 by decide +kernel] at me1
  have sp1 := k_Spread0 (x := [0, 2]) (y := [1, 7]) (by decide) (by decide) (by decide) (by decide) (by decide)
  rw [show meanQ [1, 7] - spreadA [0, 2] [1, 7] * meanQ [0, 2] = Rat.divInt 1 1 by decide +kernel, show spreadA [0, 2] [1, 7] = Rat.divInt 3 1 by decide +kernel] at sp1
  have is3 := l45_is (p := Rat.divInt 1 1) (q := Rat.divInt 3 2) (by decide +kernel) (by decide +kernel)
  rw [show digQ (Rat.divInt 1 1) = ⟨#[49]⟩ by decide +kernel, show digQ (Rat.divInt 3 2) = ⟨#[51, 47, 50]⟩ by decide +kernel] at is3
  have is4 := l45_is (p := Rat.divInt 3 1) (q := Rat.divInt 1 1) (by decide +kernel) (by decide +kernel)
  rw [show digQ (Rat.divInt 3 1) = ⟨#[51]⟩ by decide +kernel, show digQ (Rat.divInt 1 1) = ⟨#[49]⟩ by decide +kernel] at is4
  have BB : (true == true) = true ∧ (false == false) = true ∧ (true == false) = false ∧ (false == true) = false ∧ (!true) = false ∧ (!false) = true := ⟨rfl, rfl, rfl, rfl, rfl, rfl⟩
  refine afun_intro mo_ _ _ c29 k29 _ _ rfl (by decide) ?_
  unfold b29
  simp (maxSteps := 1000000) (disch := first | omega | (simp only [LL]; omega)) only [W, V, TY, CC, reduceIte, Nat.reduceEqDiff, Nat.reduceAdd, Nat.reduceLeDiff, Nat.reduceLT, Int.reduceLE, Int.reduceLT, Int.reduceAdd, Int.reduceSub, Int.reduceToNat, Nat.reduceMul]
  refine a_call _ _ n2 (by simp (maxSteps := 1000000) (disch := first | omega | (simp only [LL]; omega)) only [W, V, TY, CC, reduceIte, Nat.reduceEqDiff, Nat.reduceAdd, Nat.reduceLeDiff, Nat.reduceLT, Int.reduceLE, Int.reduceLT, Int.reduceAdd, Int.reduceSub, Int.reduceToNat, Nat.reduceMul, sQ, ratC, rC, BB, beq_self_eq_true, zS] <;> rfl) ?_
  simp (maxSteps := 1000000) (disch := first | omega | (simp only [LL]; omega)) only [W, V, TY, CC, reduceIte, Nat.reduceEqDiff, Nat.reduceAdd, Nat.reduceLeDiff, Nat.reduceLT, Int.reduceLE, Int.reduceLT, Int.reduceAdd, Int.reduceSub, Int.reduceToNat, Nat.reduceMul, sQ, ratC, rC, BB, beq_self_eq_true, zS]
  refine a_call _ _ n3 (by simp (maxSteps := 1000000) (disch := first | omega | (simp only [LL]; omega)) only [W, V, TY, CC, reduceIte, Nat.reduceEqDiff, Nat.reduceAdd, Nat.reduceLeDiff, Nat.reduceLT, Int.reduceLE, Int.reduceLT, Int.reduceAdd, Int.reduceSub, Int.reduceToNat, Nat.reduceMul, sQ, ratC, rC, BB, beq_self_eq_true, zS] <;> rfl) ?_
  simp (maxSteps := 1000000) (disch := first | omega | (simp only [LL]; omega)) only [W, V, TY, CC, reduceIte, Nat.reduceEqDiff, Nat.reduceAdd, Nat.reduceLeDiff, Nat.reduceLT, Int.reduceLE, Int.reduceLT, Int.reduceAdd, Int.reduceSub, Int.reduceToNat, Nat.reduceMul, sQ, ratC, rC, BB, beq_self_eq_true, zS]
  refine a_call _ _ iv1 (by simp (maxSteps := 1000000) (disch := first | omega | (simp only [LL]; omega)) only [W, V, TY, CC, reduceIte, Nat.reduceEqDiff, Nat.reduceAdd, Nat.reduceLeDiff, Nat.reduceLT, Int.reduceLE, Int.reduceLT, Int.reduceAdd, Int.reduceSub, Int.reduceToNat, Nat.reduceMul, sQ, ratC, rC, BB, beq_self_eq_true, zS] <;> rfl) ?_
  simp (maxSteps := 1000000) (disch := first | omega | (simp only [LL]; omega)) only [W, V, TY, CC, reduceIte, Nat.reduceEqDiff, Nat.reduceAdd, Nat.reduceLeDiff, Nat.reduceLT, Int.reduceLE, Int.reduceLT, Int.reduceAdd, Int.reduceSub, Int.reduceToNat, Nat.reduceMul, sQ, ratC, rC, BB, beq_self_eq_true, zS]
  refine a_call _ _ x5 (by simp (maxSteps := 1000000) (disch := first | omega | (simp only [LL]; omega)) only [W, V, TY, CC, reduceIte, Nat.reduceEqDiff, Nat.reduceAdd, Nat.reduceLeDiff, Nat.reduceLT, Int.reduceLE, Int.reduceLT, Int.reduceAdd, Int.reduceSub, Int.reduceToNat, Nat.reduceMul, sQ, ratC, rC, BB, beq_self_eq_true, zS] <;> rfl) ?_
  simp (maxSteps := 1000000) (disch := first | omega | (simp only [LL]; omega)) only [W, V, TY, CC, reduceIte, Nat.reduceEqDiff, Nat.reduceAdd, Nat.reduceLeDiff, Nat.reduceLT, Int.reduceLE, Int.reduceLT, Int.reduceAdd, Int.reduceSub, Int.reduceToNat, Nat.reduceMul, sQ, ratC, rC, BB, beq_self_eq_true, zS]
  refine a_call _ _ is1 (by simp (maxSteps := 1000000) (disch := first | omega | (simp only [LL]; omega)) only [W, V, TY, CC, reduceIte, Nat.reduceEqDiff, Nat.reduceAdd, Nat.reduceLeDiff, Nat.reduceLT, Int.reduceLE, Int.reduceLT, Int.reduceAdd, Int.reduceSub, Int.reduceToNat, Nat.reduceMul, sQ, ratC, rC, BB, beq_self_eq_true, zS] <;> rfl) ?_
  simp (maxSteps := 1000000) (disch := first | omega | (simp only [LL]; omega)) only [W, V, TY, CC, reduceIte, Nat.reduceEqDiff, Nat.reduceAdd, Nat.reduceLeDiff, Nat.reduceLT, Int.reduceLE, Int.reduceLT, Int.reduceAdd, Int.reduceSub, Int.reduceToNat, Nat.reduceMul, sQ, ratC, rC, BB, beq_self_eq_true, zS]
  refine a_call _ _ ap1 (by simp (maxSteps := 1000000) (disch := first | omega | (simp only [LL]; omega)) only [W, V, TY, CC, reduceIte, Nat.reduceEqDiff, Nat.reduceAdd, Nat.reduceLeDiff, Nat.reduceLT, Int.reduceLE, Int.reduceLT, Int.reduceAdd, Int.reduceSub, Int.reduceToNat, Nat.reduceMul, sQ, ratC, rC, BB, beq_self_eq_true, zS] <;> rfl) ?_
  simp (maxSteps := 1000000) (disch := first | omega | (simp only [LL]; omega)) only [W, V, TY, CC, reduceIte, Nat.reduceEqDiff, Nat.reduceAdd, Nat.reduceLeDiff, Nat.reduceLT, Int.reduceLE, Int.reduceLT, Int.reduceAdd, Int.reduceSub, Int.reduceToNat, Nat.reduceMul, sQ, ratC, rC, BB, beq_self_eq_true, zS]
  refine a_call _ _ pr8 (by simp (maxSteps := 1000000) (disch := first | omega | (simp only [LL]; omega)) only [W, V, TY, CC, reduceIte, Nat.reduceEqDiff, Nat.reduceAdd, Nat.reduceLeDiff, Nat.reduceLT, Int.reduceLE, Int.reduceLT, Int.reduceAdd, Int.reduceSub, Int.reduceToNat, Nat.reduceMul, sQ, ratC, rC, BB, beq_self_eq_true, zS] <;> rfl) ?_
  simp (maxSteps := 1000000) (disch := first | omega | (simp only [LL]; omega)) only [W, V, TY, CC, reduceIte, Nat.reduceEqDiff, Nat.reduceAdd, Nat.reduceLeDiff, Nat.reduceLT, Int.reduceLE, Int.reduceLT, Int.reduceAdd, Int.reduceSub, Int.reduceToNat, Nat.reduceMul, sQ, ratC, rC, BB, beq_self_eq_true, zS]
  refine a_call _ _ va1 (by simp (maxSteps := 1000000) (disch := first | omega | (simp only [LL]; omega)) only [W, V, TY, CC, reduceIte, Nat.reduceEqDiff, Nat.reduceAdd, Nat.reduceLeDiff, Nat.reduceLT, Int.reduceLE, Int.reduceLT, Int.reduceAdd, Int.reduceSub, Int.reduceToNat, Nat.reduceMul, sQ, ratC, rC, BB, beq_self_eq_true, zS] <;> rfl) ?_
  simp (maxSteps := 1000000) (disch := first | omega | (simp only [LL]; omega)) only [W, V, TY, CC, reduceIte, Nat.reduceEqDiff, Nat.reduceAdd, Nat.reduceLeDiff, Nat.reduceLT, Int.reduceLE, Int.reduceLT, Int.reduceAdd, Int.reduceSub, Int.reduceToNat, Nat.reduceMul, sQ, ratC, rC, BB, beq_self_eq_true, zS]
  refine a_call _ _ n1 (by simp (maxSteps := 1000000) (disch := first | omega | (simp only [LL]; omega)) only [W, V, TY, CC, reduceIte, Nat.reduceEqDiff, Nat.reduceAdd, Nat.reduceLeDiff, Nat.reduceLT, Int.reduceLE, Int.reduceLT, Int.reduceAdd, Int.reduceSub, Int.reduceToNat, Nat.reduceMul, sQ, ratC, rC, BB, beq_self_eq_true, zS] <;> rfl) ?_
  simp (maxSteps := 1000000) (disch := first | omega | (simp only [LL]; omega)) only [W, V, TY, CC, reduceIte, Nat.reduceEqDiff, Nat.reduceAdd, Nat.reduceLeDiff, Nat.reduceLT, Int.reduceLE, Int.reduceLT, Int.reduceAdd, Int.reduceSub, Int.reduceToNat, Nat.reduceMul, sQ, ratC, rC, BB, beq_self_eq_true, zS]
  refine a_call _ _ va2 (by simp (maxSteps := 1000000) (disch := first | omega | (simp only [LL]; omega)) only [W, V, TY, CC, reduceIte, Nat.reduceEqDiff, Nat.reduceAdd, Nat.reduceLeDiff, Nat.reduceLT, Int.reduceLE, Int.reduceLT, Int.reduceAdd, Int.reduceSub, Int.reduceToNat, Nat.reduceMul, sQ, ratC, rC, BB, beq_self_eq_true, zS] <;> rfl) ?_
  simp (maxSteps := 1000000) (disch := first | omega | (simp only [LL]; omega)) only [W, V, TY, CC, reduceIte, Nat.reduceEqDiff, Nat.reduceAdd, Nat.reduceLeDiff, Nat.reduceLT, Int.reduceLE, Int.reduceLT, Int.reduceAdd, Int.reduceSub, Int.reduceToNat, Nat.reduceMul, sQ, ratC, rC, BB, beq_self_eq_true, zS]
  refine a_call _ _ co1 (by simp (maxSteps := 1000000) (disch := first | omega | (simp only [LL]; omega)) only [W, V, TY, CC, reduceIte, Nat.reduceEqDiff, Nat.reduceAdd, Nat.reduceLeDiff, Nat.reduceLT, Int.reduceLE, Int.reduceLT, Int.reduceAdd, Int.reduceSub, Int.reduceToNat, Nat.reduceMul, sQ, ratC, rC, BB, beq_self_eq_true, zS] <;> rfl) ?_
  simp (maxSteps := 1000000) (disch := first | omega | (simp only [LL]; omega)) only [W, V, TY, CC, reduceIte, Nat.reduceEqDiff, Nat.reduceAdd, Nat.reduceLeDiff, Nat.reduceLT, Int.reduceLE, Int.reduceLT, Int.reduceAdd, Int.reduceSub, Int.reduceToNat, Nat.reduceMul, sQ, ratC, rC, BB, beq_self_eq_true, zS]
  refine a_call _ _ is2 (by simp (maxSteps := 1000000) (disch := first | omega | (simp only [LL]; omega)) only [W, V, TY, CC, reduceIte, Nat.reduceEqDiff, Nat.reduceAdd, Nat.reduceLeDiff, Nat.reduceLT, Int.reduceLE, Int.reduceLT, Int.reduceAdd, Int.reduceSub, Int.reduceToNat, Nat.reduceMul, sQ, ratC, rC, BB, beq_self_eq_true, zS] <;> rfl) ?_
  simp (maxSteps := 1000000) (disch := first | omega | (simp only [LL]; omega)) only [W, V, TY, CC, reduceIte, Nat.reduceEqDiff, Nat.reduceAdd, Nat.reduceLeDiff, Nat.reduceLT, Int.reduceLE, Int.reduceLT, Int.reduceAdd, Int.reduceSub, Int.reduceToNat, Nat.reduceMul, sQ, ratC, rC, BB, beq_self_eq_true, zS]
  refine a_call _ _ me1 (by simp (maxSteps := 1000000) (disch := first | omega | (simp only [LL]; omega)) only [W, V, TY, CC, reduceIte, Nat.reduceEqDiff, Nat.reduceAdd, Nat.reduceLeDiff, Nat.reduceLT, Int.reduceLE, Int.reduceLT, Int.reduceAdd, Int.reduceSub, Int.reduceToNat, Nat.reduceMul, sQ, ratC, rC, BB, beq_self_eq_true, zS] <;> rfl) ?_
  simp (maxSteps := 1000000) (disch := first | omega | (simp only [LL]; omega)) only [W, V, TY, CC, reduceIte, Nat.reduceEqDiff, Nat.reduceAdd, Nat.reduceLeDiff, Nat.reduceLT, Int.reduceLE, Int.reduceLT, Int.reduceAdd, Int.reduceSub, Int.reduceToNat, Nat.reduceMul, sQ, ratC, rC, BB, beq_self_eq_true, zS]
  refine a_call _ _ sp1 (by simp (maxSteps := 1000000) (disch := first | omega | (simp only [LL]; omega)) only [W, V, TY, CC, reduceIte, Nat.reduceEqDiff, Nat.reduceAdd, Nat.reduceLeDiff, Nat.reduceLT, Int.reduceLE, Int.reduceLT, Int.reduceAdd, Int.reduceSub, Int.reduceToNat, Nat.reduceMul, sQ, ratC, rC, BB, beq_self_eq_true, zS] <;> rfl) ?_
  simp (maxSteps := 1000000) (disch := first | omega | (simp only [LL]; omega)) only [W, V, TY, CC, reduceIte, Nat.reduceEqDiff, Nat.reduceAdd, Nat.reduceLeDiff, Nat.reduceLT, Int.reduceLE, Int.reduceLT, Int.reduceAdd, Int.reduceSub, Int.reduceToNat, Nat.reduceMul, sQ, ratC, rC, BB, beq_self_eq_true, zS]
  refine a_call _ _ is3 (by simp (maxSteps := 1000000) (disch := first | omega | (simp only [LL]; omega)) only [W, V, TY, CC, reduceIte, Nat.reduceEqDiff, Nat.reduceAdd, Nat.reduceLeDiff, Nat.reduceLT, Int.reduceLE, Int.reduceLT, Int.reduceAdd, Int.reduceSub, Int.reduceToNat, Nat.reduceMul, sQ, ratC, rC, BB, beq_self_eq_true, zS] <;> rfl) ?_
  simp (maxSteps := 1000000) (disch := first | omega | (simp only [LL]; omega)) only [W, V, TY, CC, reduceIte, Nat.reduceEqDiff, Nat.reduceAdd, Nat.reduceLeDiff, Nat.reduceLT, Int.reduceLE, Int.reduceLT, Int.reduceAdd, Int.reduceSub, Int.reduceToNat, Nat.reduceMul, sQ, ratC, rC, BB, beq_self_eq_true, zS]
  refine a_call _ _ is4 (by simp (maxSteps := 1000000) (disch := first | omega | (simp only [LL]; omega)) only [W, V, TY, CC, reduceIte, Nat.reduceEqDiff, Nat.reduceAdd, Nat.reduceLeDiff, Nat.reduceLT, Int.reduceLE, Int.reduceLT, Int.reduceAdd, Int.reduceSub, Int.reduceToNat, Nat.reduceMul, sQ, ratC, rC, BB, beq_self_eq_true, zS] <;> rfl) ?_
  simp (maxSteps := 1000000) (disch := first | omega | (simp only [LL]; omega)) only [W, V, TY, CC, reduceIte, Nat.reduceEqDiff, Nat.reduceAdd, Nat.reduceLeDiff, Nat.reduceLT, Int.reduceLE, Int.reduceLT, Int.reduceAdd, Int.reduceSub, Int.reduceToNat, Nat.reduceMul, sQ, ratC, rC, BB, beq_self_eq_true, zS]
  refine l45_awake_rest _ ?_ ?_ ?_ ?_ ?_ ?_ ?_ ?_
  · simp (maxSteps := 1000000) (disch := first | omega | (simp only [LL]; omega)) only [W, V, TY, CC, reduceIte, Nat.reduceEqDiff, Nat.reduceAdd, Nat.reduceLeDiff, Nat.reduceLT, Int.reduceLE, Int.reduceLT, Int.reduceAdd, Int.reduceSub, Int.reduceToNat, Nat.reduceMul, sQ, ratC, rC, BB, beq_self_eq_true, zS]
  · simp (maxSteps := 1000000) (disch := first | omega | (simp only [LL]; omega)) only [W, V, TY, CC, reduceIte, Nat.reduceEqDiff, Nat.reduceAdd, Nat.reduceLeDiff, Nat.reduceLT, Int.reduceLE, Int.reduceLT, Int.reduceAdd, Int.reduceSub, Int.reduceToNat, Nat.reduceMul, sQ, ratC, rC, BB, beq_self_eq_true, zS]
  · simp (maxSteps := 1000000) (disch := first | omega | (simp only [LL]; omega)) only [W, V, TY, CC, reduceIte, Nat.reduceEqDiff, Nat.reduceAdd, Nat.reduceLeDiff, Nat.reduceLT, Int.reduceLE, Int.reduceLT, Int.reduceAdd, Int.reduceSub, Int.reduceToNat, Nat.reduceMul, sQ, ratC, rC, BB, beq_self_eq_true, zS]
  · simp (maxSteps := 1000000) (disch := first | omega | (simp only [LL]; omega)) only [W, V, TY, CC, reduceIte, Nat.reduceEqDiff, Nat.reduceAdd, Nat.reduceLeDiff, Nat.reduceLT, Int.reduceLE, Int.reduceLT, Int.reduceAdd, Int.reduceSub, Int.reduceToNat, Nat.reduceMul, sQ, ratC, rC, BB, beq_self_eq_true, zS]
  · simp (maxSteps := 1000000) (disch := first | omega | (simp only [LL]; omega)) only [W, V, TY, CC, reduceIte, Nat.reduceEqDiff, Nat.reduceAdd, Nat.reduceLeDiff, Nat.reduceLT, Int.reduceLE, Int.reduceLT, Int.reduceAdd, Int.reduceSub, Int.reduceToNat, Nat.reduceMul, sQ, ratC, rC, BB, beq_self_eq_true, zS]
  · simp (maxSteps := 1000000) (disch := first | omega | (simp only [LL]; omega)) only [W, V, TY, CC, reduceIte, Nat.reduceEqDiff, Nat.reduceAdd, Nat.reduceLeDiff, Nat.reduceLT, Int.reduceLE, Int.reduceLT, Int.reduceAdd, Int.reduceSub, Int.reduceToNat, Nat.reduceMul, sQ, ratC, rC, BB, beq_self_eq_true, zS]
  · simp (maxSteps := 1000000) (disch := first | omega | (simp only [LL]; omega)) only [W, V, TY, CC, reduceIte, Nat.reduceEqDiff, Nat.reduceAdd, Nat.reduceLeDiff, Nat.reduceLT, Int.reduceLE, Int.reduceLT, Int.reduceAdd, Int.reduceSub, Int.reduceToNat, Nat.reduceMul, sQ, ratC, rC, BB, beq_self_eq_true, zS]
  · simp (maxSteps := 1000000) (disch := first | omega | (simp only [LL]; omega)) only [W, V, TY, CC, reduceIte, Nat.reduceEqDiff, Nat.reduceAdd, Nat.reduceLeDiff, Nat.reduceLT, Int.reduceLE, Int.reduceLT, Int.reduceAdd, Int.reduceSub, Int.reduceToNat, Nat.reduceMul, sQ, ratC, rC, BB, beq_self_eq_true, zS]
end Go.Proofs.YtljmgdepldpmdaaGreatDoor.E

set_option linter.unusedSimpArgs false
set_option linter.unusedVariables false
set_option maxHeartbeats 2000000
namespace Go.Proofs.YtljmgdepldpmdaaGreatDoor.E
open Go.RowKit Limbs
/-- examboard/examboardlaw45.LinkingChoices -/
def b6 : AF := ⟨56, 3, [.tmp 6],
  (.seq (.reg [
    ⟨some 6, .assign (.const (.bool false)), none⟩])
  (.seq (.reg [
    ⟨some 14, .move (.tmp 0), none⟩,
    ⟨some 15, .move (.tmp 1), none⟩,
    ⟨some 16, .move (.tmp 2), none⟩,
    ⟨some 17, .call ⟨(.value (.func 36)), #[(.tmp 14), (.tmp 15), (.tmp 16)], #[52, 47, 47]⟩, none⟩,
    ⟨some 13, .move (.tmp 17), none⟩,
    ⟨some 18, .extract (.tmp 13) 0, none⟩,
    ⟨some 19, .extract (.tmp 13) 1, none⟩,
    ⟨some 7, .assign (.tmp 18), none⟩,
    ⟨some 8, .assign (.tmp 19), none⟩])
  (.seq (.reg [
    ⟨some 21, .move (.tmp 0), none⟩,
    ⟨some 22, .move (.tmp 1), none⟩,
    ⟨some 23, .move (.tmp 2), none⟩,
    ⟨some 24, .call ⟨(.value (.func 37)), #[(.tmp 21), (.tmp 22), (.tmp 23)], #[52, 47, 47]⟩, none⟩,
    ⟨some 20, .move (.tmp 24), none⟩,
    ⟨some 25, .extract (.tmp 20) 0, none⟩,
    ⟨some 26, .extract (.tmp 20) 1, none⟩,
    ⟨some 9, .assign (.tmp 25), none⟩,
    ⟨some 10, .assign (.tmp 26), none⟩])
  (.seq (.seq (.reg [
    ⟨some 27, .move (.tmp 8), none⟩,
    ⟨some 28, .move (.tmp 10), none⟩,
    ⟨some 29, .binOp .neq 38 (.tmp 27) (.tmp 28) 38, none⟩,
    ⟨some 30, .move (.tmp 29), none⟩,
    ⟨some 31, .move (.tmp 7), some (30, false)⟩,
    ⟨some 32, .move (.tmp 9), some (30, false)⟩,
    ⟨some 33, .binOp .neq 3 (.tmp 31) (.tmp 32) 3, some (30, false)⟩,
    ⟨some 34, .pick (.tmp 30) (.const (.bool true)) (.tmp 33), none⟩])
  (.cond (.tmp 34)
    (.seq (.reg [
      ⟨some 6, .assign (.const (.bool false)), none⟩])
    .ret)
    .skip))
  (.seq (.reg [
    ⟨some 36, .move (.tmp 0), none⟩,
    ⟨some 37, .call ⟨(.value (.func 38)), #[(.tmp 36)], #[52]⟩, none⟩,
    ⟨some 35, .move (.tmp 37), none⟩,
    ⟨some 38, .extract (.tmp 35) 0, none⟩,
    ⟨some 39, .extract (.tmp 35) 1, none⟩,
    ⟨some 11, .alloc 37, none⟩,
    ⟨none, .store 37 (.tmp 11) (.tmp 38), none⟩,
    ⟨some 8, .assign (.tmp 39), none⟩])
  (.seq (.reg [
    ⟨some 41, .move (.tmp 0), none⟩,
    ⟨some 42, .call ⟨(.value (.func 39)), #[(.tmp 41)], #[52]⟩, none⟩,
    ⟨some 40, .move (.tmp 42), none⟩,
    ⟨some 43, .extract (.tmp 40) 0, none⟩,
    ⟨some 44, .extract (.tmp 40) 1, none⟩,
    ⟨some 12, .alloc 37, none⟩,
    ⟨none, .store 37 (.tmp 12) (.tmp 43), none⟩,
    ⟨some 10, .assign (.tmp 44), none⟩])
  (.seq (.reg [
    ⟨some 45, .move (.tmp 8), none⟩,
    ⟨some 46, .move (.tmp 10), none⟩,
    ⟨some 47, .binOp .eql 38 (.tmp 45) (.tmp 46) 38, none⟩,
    ⟨some 48, .move (.tmp 47), none⟩,
    ⟨some 49, .load 37 (.tmp 11), some (48, true)⟩,
    ⟨some 50, .load 37 (.tmp 12), some (48, true)⟩,
    ⟨some 51, .call ⟨(.value (.func 21)), #[(.tmp 49), (.tmp 50)], #[37, 37]⟩, some (48, true)⟩,
    ⟨some 52, .pick (.tmp 48) (.tmp 51) (.const (.bool false)), none⟩,
    ⟨some 53, .move (.tmp 52), none⟩,
    ⟨some 54, .call ⟨(.value (.func 29)), #[], #[]⟩, some (53, true)⟩,
    ⟨some 55, .pick (.tmp 53) (.tmp 54) (.const (.bool false)), none⟩,
    ⟨some 6, .assign (.tmp 55), none⟩])
  .ret)))))))⟩
theorem c6 : fcomp Tryz.prog 6 = ⟨b6.n, b6.np, b6.res, b6.body.bare⟩ := by kernel_rfl
theorem k6 : fok Tryz.prog 6 = true := by kernel_rfl
theorem l45_LinkingChoices (ls : List (RR × RR)) (hls : roks 1048576 ls) (ll : ls.length ≤ 1048576) (x : List Int) (_hx : ∀ z ∈ x, -9223372036854775808 ≤ z ∧ z ≤ 9223372036854775807) (lx' : x.length ≤ 1048576) (y : List Int) (_hy : ∀ z ∈ y, -9223372036854775808 ≤ z ∧ z ≤ 9223372036854775807) (ly' : y.length ≤ 1048576) : AFun Tryz.prog 6 [.one (lkD ls), .one (intsD x), .one (intsD y)] [.one (.lit (.bool true))] := by
  have hls' : roks 68719476600 ls := fun p hp => ⟨(hls p hp).1.mono (by decide), (hls p hp).2.mono (by decide)⟩
  have lx : x.length ≤ 9223372036854775807 := by omega
  have ly : y.length ≤ 9223372036854775807 := by omega
  obtain ⟨n, e, c1, c2⟩ : ∃ (n e : Int), AFun Tryz.prog 36 [.one (lkD ls), .one (intsD x), .one (intsD y)] [.one (.lit (.int .i64 n)), .one (.lit (.int .i64 e))] ∧ AFun Tryz.prog 37 [.one (lkD ls), .one (intsD x), .one (intsD y)] [.one (.lit (.int .i64 n)), .one (.lit (.int .i64 e))] := by
    by_cases h : chooseE ls x y = 0
    · exact ⟨_, _, k_Choose0 hls h, f_Choose0 hls h⟩
    · exact ⟨_, _, k_ChooseE hls' (by omega) lx ly h, f_ChooseE hls (by omega) lx ly h⟩
  obtain ⟨a1, a2, a3, a4, a5, a6, e', d1, d2, sm⟩ : ∃ (a1 a2 a3 a4 a5 a6 : Dt) (e : Int), AFun Tryz.prog 38 [.one (lkD ls)] [.agg [a1, a2, a3, a4, a5, a6], .one (.lit (.int .i64 e))] ∧ AFun Tryz.prog 39 [.one (lkD ls)] [.agg [a1, a2, a3, a4, a5, a6], .one (.lit (.int .i64 e))] ∧ AFun Tryz.prog 21 [.agg [a1, a2, a3, a4, a5, a6], .agg [a1, a2, a3, a4, a5, a6]] [.one (.lit (.bool true))] := by
    by_cases h : chainE ls = 0
    · obtain ⟨h60, _⟩ := chain_ok h
      obtain ⟨h1, h2⟩ := qs_chain hls ls.length (Nat.le_refl _)
      have q3 : ls.length * (2 * 1048576 + 4) ≤ 60 * (2 * 1048576 + 4) := Nat.mul_le_mul_right _ (by omega)
      exact ⟨_, _, _, _, _, _, _, k_Chain0 hls h, f_Chain0 hls h, f_Same (by omega) (by omega)⟩
    · exact ⟨_, _, _, _, _, _, _, k_ChainE hls' (by omega) h, f_ChainE hls' (by omega) h, f_SameZ⟩
  refine afun_intro mo_ _ _ c6 k6 _ _ rfl (by decide) ?_
  unfold b6
  simp (maxSteps := 1000000) (disch := first | omega | (simp only [LL]; omega)) only [W, V, TY, CC, reduceIte, Nat.reduceEqDiff, Nat.reduceAdd, Nat.reduceLeDiff, Nat.reduceLT, Int.reduceLE, Int.reduceLT, Int.reduceAdd, Int.reduceSub, Int.reduceToNat, Nat.reduceMul, rC]
  refine a_call _ _ c1 (by simp (maxSteps := 1000000) (disch := first | omega | (simp only [LL]; omega)) only [W, V, TY, CC, reduceIte, Nat.reduceEqDiff, Nat.reduceAdd, Nat.reduceLeDiff, Nat.reduceLT, Int.reduceLE, Int.reduceLT, Int.reduceAdd, Int.reduceSub, Int.reduceToNat, Nat.reduceMul, rC, sQ, ratC, eq_self, not_true_eq_false, decide_false, decide_true, beq_self_eq_true, Bool.not_true]) ?_
  simp (maxSteps := 1000000) (disch := first | omega | (simp only [LL]; omega)) only [W, V, TY, CC, reduceIte, Nat.reduceEqDiff, Nat.reduceAdd, Nat.reduceLeDiff, Nat.reduceLT, Int.reduceLE, Int.reduceLT, Int.reduceAdd, Int.reduceSub, Int.reduceToNat, Nat.reduceMul, rC, sQ, ratC, eq_self, not_true_eq_false, decide_false, decide_true, beq_self_eq_true, Bool.not_true]
  refine a_call _ _ c2 (by simp (maxSteps := 1000000) (disch := first | omega | (simp only [LL]; omega)) only [W, V, TY, CC, reduceIte, Nat.reduceEqDiff, Nat.reduceAdd, Nat.reduceLeDiff, Nat.reduceLT, Int.reduceLE, Int.reduceLT, Int.reduceAdd, Int.reduceSub, Int.reduceToNat, Nat.reduceMul, rC, sQ, ratC, eq_self, not_true_eq_false, decide_false, decide_true, beq_self_eq_true, Bool.not_true]) ?_
  simp (maxSteps := 1000000) (disch := first | omega | (simp only [LL]; omega)) only [W, V, TY, CC, reduceIte, Nat.reduceEqDiff, Nat.reduceAdd, Nat.reduceLeDiff, Nat.reduceLT, Int.reduceLE, Int.reduceLT, Int.reduceAdd, Int.reduceSub, Int.reduceToNat, Nat.reduceMul, rC, sQ, ratC, eq_self, not_true_eq_false, decide_false, decide_true, beq_self_eq_true, Bool.not_true]
  refine a_call _ _ d1 (by simp (maxSteps := 1000000) (disch := first | omega | (simp only [LL]; omega)) only [W, V, TY, CC, reduceIte, Nat.reduceEqDiff, Nat.reduceAdd, Nat.reduceLeDiff, Nat.reduceLT, Int.reduceLE, Int.reduceLT, Int.reduceAdd, Int.reduceSub, Int.reduceToNat, Nat.reduceMul, rC, sQ, ratC, eq_self, not_true_eq_false, decide_false, decide_true, beq_self_eq_true, Bool.not_true]) ?_
  simp (maxSteps := 1000000) (disch := first | omega | (simp only [LL]; omega)) only [W, V, TY, CC, reduceIte, Nat.reduceEqDiff, Nat.reduceAdd, Nat.reduceLeDiff, Nat.reduceLT, Int.reduceLE, Int.reduceLT, Int.reduceAdd, Int.reduceSub, Int.reduceToNat, Nat.reduceMul, rC, sQ, ratC, eq_self, not_true_eq_false, decide_false, decide_true, beq_self_eq_true, Bool.not_true]
  refine a_call _ _ d2 (by simp (maxSteps := 1000000) (disch := first | omega | (simp only [LL]; omega)) only [W, V, TY, CC, reduceIte, Nat.reduceEqDiff, Nat.reduceAdd, Nat.reduceLeDiff, Nat.reduceLT, Int.reduceLE, Int.reduceLT, Int.reduceAdd, Int.reduceSub, Int.reduceToNat, Nat.reduceMul, rC, sQ, ratC, eq_self, not_true_eq_false, decide_false, decide_true, beq_self_eq_true, Bool.not_true]) ?_
  simp (maxSteps := 1000000) (disch := first | omega | (simp only [LL]; omega)) only [W, V, TY, CC, reduceIte, Nat.reduceEqDiff, Nat.reduceAdd, Nat.reduceLeDiff, Nat.reduceLT, Int.reduceLE, Int.reduceLT, Int.reduceAdd, Int.reduceSub, Int.reduceToNat, Nat.reduceMul, rC, sQ, ratC, eq_self, not_true_eq_false, decide_false, decide_true, beq_self_eq_true, Bool.not_true]
  refine a_call _ _ sm (by simp (maxSteps := 1000000) (disch := first | omega | (simp only [LL]; omega)) only [W, V, TY, CC, reduceIte, Nat.reduceEqDiff, Nat.reduceAdd, Nat.reduceLeDiff, Nat.reduceLT, Int.reduceLE, Int.reduceLT, Int.reduceAdd, Int.reduceSub, Int.reduceToNat, Nat.reduceMul, rC, sQ, ratC, eq_self, not_true_eq_false, decide_false, decide_true, beq_self_eq_true, Bool.not_true]) ?_
  simp (maxSteps := 1000000) (disch := first | omega | (simp only [LL]; omega)) only [W, V, TY, CC, reduceIte, Nat.reduceEqDiff, Nat.reduceAdd, Nat.reduceLeDiff, Nat.reduceLT, Int.reduceLE, Int.reduceLT, Int.reduceAdd, Int.reduceSub, Int.reduceToNat, Nat.reduceMul, rC, sQ, ratC, eq_self, not_true_eq_false, decide_false, decide_true, beq_self_eq_true, Bool.not_true]
  refine a_call _ _ l45_awake (by simp (maxSteps := 1000000) (disch := first | omega | (simp only [LL]; omega)) only [W, V, TY, CC, reduceIte, Nat.reduceEqDiff, Nat.reduceAdd, Nat.reduceLeDiff, Nat.reduceLT, Int.reduceLE, Int.reduceLT, Int.reduceAdd, Int.reduceSub, Int.reduceToNat, Nat.reduceMul, rC, sQ, ratC, eq_self, not_true_eq_false, decide_false, decide_true, beq_self_eq_true, Bool.not_true]) ?_
  simp (maxSteps := 1000000) (disch := first | omega | (simp only [LL]; omega)) only [W, V, TY, CC, reduceIte, Nat.reduceEqDiff, Nat.reduceAdd, Nat.reduceLeDiff, Nat.reduceLT, Int.reduceLE, Int.reduceLT, Int.reduceAdd, Int.reduceSub, Int.reduceToNat, Nat.reduceMul, rC, sQ, ratC, eq_self, not_true_eq_false, decide_false, decide_true, beq_self_eq_true, Bool.not_true]
  refine f_ret _ _ _ ?_
  simp (maxSteps := 1000000) (disch := first | omega | (simp only [LL]; omega)) only [W, V, TY, CC, reduceIte, Nat.reduceEqDiff, Nat.reduceAdd, Nat.reduceLeDiff, Nat.reduceLT, Int.reduceLE, Int.reduceLT, Int.reduceAdd, Int.reduceSub, Int.reduceToNat, Nat.reduceMul, rC, sQ, ratC, eq_self, not_true_eq_false, decide_false, decide_true, beq_self_eq_true, Bool.not_true]
end Go.Proofs.YtljmgdepldpmdaaGreatDoor.E

set_option linter.unusedSimpArgs false
set_option linter.unusedVariables false
set_option maxHeartbeats 2000000
namespace Go.Proofs.YtljmgdepldpmdaaGreatDoor.E
open Go.RowKit Go.ChangeShapes Go.WideShapes Go.Deep Limbs
section
variable {H : Type}
theorem bk_one (d : DataW H) : 1 ≤ Rows.uptoBulk d := by
  cases d with
  | lit l => cases l <;> simp [Rows.uptoBulk]
  | nil => simp [Rows.uptoBulk]
  | ptr d => simp [Rows.uptoBulk]
  | slice elems spare => simp [Rows.uptoBulk]
  | agg parts => simp [Rows.uptoBulk]
  | iface t d => simp [Rows.uptoBulk]
  | map entries => simp [Rows.uptoBulk]
  | held h => simp [Rows.uptoBulk]
theorem bk_part {d : DataW H} {l : List (DataW H)} (h : d ∈ l) : Rows.uptoBulk d ≤ Rows.uptoBulkAll l := by
  induction l with
  | nil => cases h
  | cons x r ih =>
    simp only [Rows.uptoBulkAll]
    cases List.mem_cons.1 h with
    | inl e => subst e; omega
    | inr e => have := ih e; omega
theorem bk_len (l : List (DataW H)) : l.length ≤ Rows.uptoBulkAll l := by
  induction l with
  | nil => simp [Rows.uptoBulkAll]
  | cons x r ih => have := bk_one x; simp only [Rows.uptoBulkAll, List.length_cons]; omega
variable {enc : TypeId × Value → H} {P : Program} {w : World} {base : Nat} {sp : Nat → Bool} {hd : Bool}
/-- a slice of one-cell elements -/
theorem rdB_slice {α : Type} [Inhabited α] (g : α → Dt) (Good : α → DataW H → Prop) {t e : TypeId} (ht : P.underlying t = some (.slice e)) (hc : P.cellsOf e = 1)
    (hel : ∀ n V D Pl, DataW.trod enc P w base sp hd n e [V] = some (D, Pl) → ∃ x, Good x D ∧ Rep w (fun k => k < w.heap.size) (g x) V) {fuel : Nat} {cs : List Value} {y : DataW H × List MemPlace}
    (h : DataW.trod enc P w base sp hd fuel t cs = some y) : ∃ l : List α, (∀ x ∈ l, ∃ D, Good x D ∧ Rows.uptoBulk D + 1 ≤ Rows.uptoBulk y.1) ∧ l.length + 1 ≤ Rows.uptoBulk y.1 ∧ ∃ v, cs = [v] ∧ Rep w (fun k => k < w.heap.size) (rowD (fun x => [g x]) l) v := by
  rcases open_slice1 ht hc h with ⟨rfl, rfl⟩ | ⟨a, len, cap, m, n, V, D, Pl, rfl, _, hl, _, hm, rfl, hx⟩
  · exact ⟨[], fun x hx => by simp at hx, by simp [Rows.uptoBulk], _, rfl, .sl none 0 0 [] [] rfl (Nat.le_refl _) (fun j u hj => by simp at hj) (fun j u d hj => by simp at hj)⟩
  · have hle : len ≤ m := by rw [hm]; split <;> omega
    obtain ⟨X, hX⟩ := choose_lt (n := len) (α := α) (p := fun i x => Good x (D i) ∧ Rep w (fun k => k < w.heap.size) (g x) (V i)) (fun i hi => hel n _ _ _ (hx i (by omega)).2)
    refine ⟨(List.range len).map X, fun x hxm => ?_, ?_, _, rfl, ?_⟩
    · obtain ⟨i, hi, rfl⟩ := List.mem_map.1 hxm
      refine ⟨D i, (hX i (by simpa using hi)).1, ?_⟩
      have := bk_part (d := D i) (l := (List.range len).map D) (List.mem_map.2 ⟨i, hi, rfl⟩)
      show Rows.uptoBulk (D i) + 1 ≤ Rows.uptoBulk (.slice _ _)
      simp only [Rows.uptoBulk]
      omega
    · have := bk_len ((List.range len).map D)
      show _ ≤ Rows.uptoBulk (.slice _ _)
      simp only [Rows.uptoBulk, List.length_map, List.length_range] at *
      omega
    · have hr : rowD (fun x => [g x]) ((List.range len).map X) = .sl len ((List.range len).map fun i => g (X i)) := by
        unfold rowD rowC
        congr 1
        · simp
        · rw [List.flatMap_map]
          induction List.range len with
          | nil => rfl
          | cons i l ih => simp only [List.flatMap_cons, List.map_cons, ih]; rfl
      rw [hr]
      refine .sl (some a) len cap _ ((List.range len).map V) (by simp) hl (fun j u hj => ?_) (fun j u d hj hd' => ?_)
      · rw [List.getElem?_map] at hj
        cases hq : (List.range len)[j]? with
        | none => rw [hq] at hj; simp at hj
        | some i =>
          rw [hq] at hj
          obtain ⟨hlt, hi⟩ := List.getElem?_eq_some_iff.1 hq
          simp only [List.length_range] at hlt
          simp only [List.getElem_range] at hi
          subst hi
          simp only [Option.map_some, Option.some.injEq] at hj
          subst hj
          have := (hx j (by omega)).1
          exact ⟨a, rfl, cell_block this, this⟩
      · rw [List.getElem?_map] at hj hd'
        cases hq : (List.range len)[j]? with
        | none => rw [hq] at hj; simp at hj
        | some i =>
          rw [hq] at hj hd'
          obtain ⟨hlt, hi⟩ := List.getElem?_eq_some_iff.1 hq
          simp only [List.length_range] at hlt
          simp only [Option.map_some, Option.some.injEq] at hj hd'
          subst hj; subst hd'
          have : i < len := by simp at hi; omega
          exact (hX i this).2
theorem rdB_nat {t e : TypeId} (ht : P.underlying t = some (.slice e)) (he : P.underlying e = some (.int .u32)) (hc : P.cellsOf e = 1) {fuel : Nat} {cs : List Value} {y : DataW H × List MemPlace}
    (h : DataW.trod enc P w base sp hd fuel t cs = some y) : ∃ l : List Int, Lim l ∧ l.length + 1 ≤ Rows.uptoBulk y.1 ∧ ∃ v, cs = [v] ∧ Rep w (fun k => k < w.heap.size) (natD l) v := by
  obtain ⟨l, h1, h2, h3⟩ := rdB_slice (fun n => .lit (.int .u32 n)) (fun x _ => 0 ≤ x ∧ x < 4294967296) ht hc (fun n V D Pl hV => by
    obtain ⟨x, hx, _, hw⟩ := DataW.trod_int he hV
    cases hx
    have := bounds_u32 hw
    exact ⟨x, ⟨this.1, by omega⟩, .lit _ rfl⟩) h
  exact ⟨l, fun x hx => by obtain ⟨_, h, _⟩ := h1 x hx; exact h, h2, h3⟩
theorem rdB_ints {t e : TypeId} (ht : P.underlying t = some (.slice e)) (he : P.underlying e = some (.int .i64)) (hc : P.cellsOf e = 1) {fuel : Nat} {cs : List Value} {y : DataW H × List MemPlace}
    (h : DataW.trod enc P w base sp hd fuel t cs = some y) : ∃ l : List Int, (∀ x ∈ l, -9223372036854775808 ≤ x ∧ x ≤ 9223372036854775807) ∧ l.length + 1 ≤ Rows.uptoBulk y.1 ∧ ∃ v, cs = [v] ∧ Rep w (fun k => k < w.heap.size) (intsD l) v := by
  obtain ⟨l, h1, h2, h3⟩ := rdB_slice (fun n => .lit (.int .i64 n)) (fun x _ => -9223372036854775808 ≤ x ∧ x ≤ 9223372036854775807) ht hc (fun n V D Pl hV => by
    obtain ⟨x, hx, _, hw⟩ := DataW.trod_int he hV
    cases hx
    exact ⟨x, bounds_i64 hw, .lit _ rfl⟩) h
  exact ⟨l, fun x hx => by obtain ⟨_, h, _⟩ := h1 x hx; exact h, h2, h3⟩
/-- the types of a rational number -/
structure RatTy (P : Program) (t : TypeId) : Prop where
  ex : ∃ (tI tN tB e : TypeId) (f0 f1 g0 g1 : Field), P.underlying t = some (.struct #[f0, f1]) ∧ (f0.type = tI ∧ f0.offset = 0) ∧ (f1.type = tN ∧ f1.offset = 2) ∧ P.cellsOf t = 3 ∧ P.cellsOf tI = 2 ∧
    P.underlying tI = some (.struct #[g0, g1]) ∧ (g0.type = tB ∧ g0.offset = 0) ∧ (g1.type = tN ∧ g1.offset = 1) ∧ P.underlying tB = some .bool ∧ P.cellsOf tB = 1 ∧ P.cellsOf tN = 1 ∧
    P.underlying tN = some (.slice e) ∧ P.underlying e = some (.int .u32) ∧ P.cellsOf e = 1
/-- a rational number, as it was handed over -/
theorem rdB_ratio {t : TypeId} (hty : RatTy P t) {fuel : Nat} {cs : List Value} {y : DataW H × List MemPlace}
    (h : DataW.trod enc P w base sp hd fuel t cs = some y) : ∃ x : RR, rok (Rows.uptoBulk y.1) x ∧ Fits (Rep w (fun k => k < w.heap.size)) (rC x) cs := by
  obtain ⟨tI, tN, tB, e, f0, f1, g0, g1, ht, h0, h1, hct, hcI, hI, i0, i1, hB, hcB, hcN, hs, he, hc⟩ := hty.ex
  obtain ⟨y0, y1, k, hy, hl, k0, k1⟩ := trod_struct2 ht h
  rw [h0.1, h0.2, hcI] at k0
  rw [h1.1, h1.2, hcN] at k1
  obtain ⟨z0, z1, k', hz, hl', l0, l1⟩ := trod_struct2 hI k0
  rw [i0.1, i0.2, hcB] at l0
  rw [i1.1, i1.2, hcN] at l1
  obtain ⟨n, e0, hz0⟩ := DataW.trod_bool hB l0
  obtain ⟨m, hm, bm, v1, e1, r1⟩ := rdB_nat hs he hc l1
  obtain ⟨q, hq, bq, v2, e2, r2⟩ := rdB_nat hs he hc k1
  have hb : Rows.uptoBulk y.1 = Rows.uptoBulk z0.1 + Rows.uptoBulk z1.1 + 1 + Rows.uptoBulk y1.1 + 1 := by
    rw [hy, hz]
    simp only [Rows.uptoBulk, Rows.uptoBulkAll]
    omega
  refine ⟨⟨n, m, q⟩, ⟨hm, hq, by show m.length ≤ _; omega, by show q.length ≤ _; omega⟩, ?_⟩
  rw [hct] at hl
  match cs, hl with
  | [u0, u1, u2], _ =>
    simp at e0 e1 e2
    subst e0; subst e1; subst e2
    exact Fits.cons (.lit _ rfl) (Fits.cons r1 (Fits.cons r2 (Fits.nil _)))
/-- two rational numbers side by side -/
theorem rdB_pair {t tR : TypeId} {f0 f1 : Field} (ht : P.underlying t = some (.struct #[f0, f1])) (h0 : f0.type = tR ∧ f0.offset = 0) (h1 : f1.type = tR ∧ f1.offset = 3) (hct : P.cellsOf t = 6) (hcR : P.cellsOf tR = 3) (hty : RatTy P tR) {fuel : Nat} {cs : List Value} {y : DataW H × List MemPlace}
    (h : DataW.trod enc P w base sp hd fuel t cs = some y) : ∃ x z : RR, rok (Rows.uptoBulk y.1) x ∧ rok (Rows.uptoBulk y.1) z ∧ Fits (Rep w (fun k => k < w.heap.size)) (rC x ++ rC z) cs := by
  obtain ⟨y0, y1, k, hy, hl, k0, k1⟩ := trod_struct2 ht h
  rw [h0.1, h0.2, hcR] at k0
  rw [h1.1, h1.2, hcR] at k1
  obtain ⟨x, hx, rx⟩ := rdB_ratio hty k0
  obtain ⟨z, hz, rz⟩ := rdB_ratio hty k1
  have hb : Rows.uptoBulk y.1 = Rows.uptoBulk y0.1 + Rows.uptoBulk y1.1 + 1 := by
    rw [hy]
    simp only [Rows.uptoBulk, Rows.uptoBulkAll]
    omega
  refine ⟨x, z, hx.mono (by omega), hz.mono (by omega), ?_⟩
  have := rx.append rz
  rw [hct] at hl
  match cs, hl with
  | [u0, u1, u2, u3, u4, u5], _ => exact this
theorem rdV_ints {t e : TypeId} (ht : P.underlying t = some (.slice e)) (he : P.underlying e = some (.int .i64)) (hc : P.cellsOf e = 1) {r : Reach} {b0 : Nat} {v : Value} {d : DataW H} {ps : List MemPlace} (hval : Value.okWide P w r b0 t v) (h : DataW.Trod enc P w base sp hd t v d ps) :
    ∃ l : List Int, (∀ x ∈ l, -9223372036854775808 ≤ x ∧ x ≤ 9223372036854775807) ∧ l.length + 1 ≤ Rows.uptoBulk d ∧ MR w (fun k => k < w.heap.size) (.one (intsD l)) v := by
  obtain ⟨fuel, hf⟩ := h
  obtain ⟨a, len, cap, rfl⟩ := okWide_slice ht hval
  obtain ⟨l, h1, h2, v, hv, hr⟩ := rdB_ints ht he hc hf
  have hv' : [Value.slice a len cap] = [v] := hv
  cases hv'
  exact ⟨l, h1, h2, hr⟩
end
end Go.Proofs.YtljmgdepldpmdaaGreatDoor.E

set_option linter.unusedSimpArgs false
set_option linter.unusedVariables false
set_option maxHeartbeats 2000000
namespace Go.Proofs.YtljmgdepldpmdaaGreatDoor.E
open Go.RowKit Go.ChangeShapes Go.WideShapes Go.Deep Limbs
theorem flat_len {α : Type} (F : Nat → List α) (sz : Nat) : ∀ len, (∀ i, i < len → (F i).length = sz) → ((List.range len).flatMap F).length = len * sz
  | 0, _ => by simp
  | len + 1, h => by
    rw [List.range_succ, List.flatMap_append, List.length_append, flat_len F sz len fun i hi => h i (by omega)]
    simp only [List.flatMap_cons, List.flatMap_nil, List.append_nil]
    rw [h len (by omega), Nat.add_mul]
    omega
theorem flat_get {α : Type} (F : Nat → List α) {sz : Nat} (hs : 0 < sz) : ∀ len, (∀ i, i < len → (F i).length = sz) → ∀ (j : Nat) (u : α), ((List.range len).flatMap F)[j]? = some u → j / sz < len ∧ (F (j / sz))[j % sz]? = some u
  | 0, _, j, u, hj => by simp at hj
  | len + 1, h, j, u, hj => by
    have hl := flat_len F sz len fun i hi => h i (by omega)
    rw [List.range_succ, List.flatMap_append] at hj
    simp only [List.flatMap_cons, List.flatMap_nil, List.append_nil] at hj
    rcases Nat.lt_or_ge j (len * sz) with h1 | h1
    · rw [List.getElem?_append_left (by omega)] at hj
      obtain ⟨h2, h3⟩ := flat_get F hs len (fun i hi => h i (by omega)) j u hj
      exact ⟨by omega, h3⟩
    · rw [List.getElem?_append_right (by omega), hl] at hj
      have h2 : j - len * sz < sz := by
        have := (List.getElem?_eq_some_iff.1 hj).1
        rw [h len (by omega)] at this
        exact this
      have h3 : j / sz = len := Nat.div_eq_of_lt_le h1 (by rw [Nat.add_mul]; omega)
      have h5 : j % sz = j - len * sz := by
        have := Nat.div_add_mod j sz
        rw [h3, Nat.mul_comm] at this
        omega
      rw [h3, h5]
      exact ⟨by omega, hj⟩
section
variable {H : Type} {enc : TypeId × Value → H} {P : Program} {w : World} {base : Nat} {sp : Nat → Bool} {hd : Bool}
theorem rdB_links {t e tR : TypeId} {f0 f1 : Field} (ht : P.underlying t = some (.slice e)) (hse : P.underlying e = some (.struct #[f0, f1])) (h0 : f0.type = tR ∧ f0.offset = 0) (h1 : f1.type = tR ∧ f1.offset = 3) (hce : P.cellsOf e = 6) (hcR : P.cellsOf tR = 3) (hty : RatTy P tR) {fuel : Nat} {cs : List Value} {y : DataW H × List MemPlace}
    (h : DataW.trod enc P w base sp hd fuel t cs = some y) : ∃ l : List (RR × RR), (∀ p ∈ l, rok (Rows.uptoBulk y.1) p.1 ∧ rok (Rows.uptoBulk y.1) p.2) ∧ l.length + 1 ≤ Rows.uptoBulk y.1 ∧ ∃ v, cs = [v] ∧ Rep w (fun k => k < w.heap.size) (lkD l) v := by
  rcases open_slice ht h with ⟨rfl, rfl⟩ | ⟨a, len, cap, m, n, D, Pl, rfl, _, hl, _, hm, rfl, hx⟩
  · exact ⟨[], fun x hx => by simp at hx, by simp [Rows.uptoBulk], _, rfl, .sl none 0 0 [] [] rfl (Nat.le_refl _) (fun j u hj => by simp at hj) (fun j u d hj => by simp at hj)⟩
  · have hle : len ≤ m := by rw [hm]; split <;> omega
    rw [hce] at hx
    obtain ⟨X, hX⟩ := choose_lt (n := len) (α := List Value × (RR × RR)) (p := fun i c => w.cells? base (a.add (i * 6)) 6 = some c.1 ∧ (rok (Rows.uptoBulk (D i)) c.2.1 ∧ rok (Rows.uptoBulk (D i)) c.2.2) ∧ Fits (Rep w (fun k => k < w.heap.size)) (lkC c.2) c.1) (fun i hi => by
      obtain ⟨cs', e1, e2⟩ := hx i (by omega)
      obtain ⟨p, q, rp, rq, fp⟩ := rdB_pair hse h0 h1 hce hcR hty e2
      exact ⟨(cs', (p, q)), e1, ⟨rp, rq⟩, fp⟩)
    have hcs : ∀ i, i < len → (X i).1.length = 6 := fun i hi => (World.cells?_some (hX i hi).1).2.1
    refine ⟨(List.range len).map fun i => (X i).2, fun p hp => ?_, ?_, _, rfl, ?_⟩
    · obtain ⟨i, hi, rfl⟩ := List.mem_map.1 hp
      have hi' : i < len := by simpa using hi
      have hb := bk_part (d := D i) (l := (List.range len).map D) (List.mem_map.2 ⟨i, hi, rfl⟩)
      have hb' : Rows.uptoBulk (D i) ≤ Rows.uptoBulk (.slice ((List.range len).map D) ((List.range (m - len)).map fun j => D (len + j))) := by
        simp only [Rows.uptoBulk]
        omega
      exact ⟨(hX i hi').2.1.1.mono hb', (hX i hi').2.1.2.mono hb'⟩
    · have := bk_len ((List.range len).map D)
      show _ ≤ Rows.uptoBulk (.slice _ _)
      simp only [Rows.uptoBulk, List.length_map, List.length_range] at *
      omega
    · have hr : lkD ((List.range len).map fun i => (X i).2) = .sl len ((List.range len).flatMap fun i => lkC (X i).2) := by
        unfold lkD rowD rowC
        rw [List.flatMap_map]
        congr 1
        simp
      rw [hr]
      have l1 := flat_len (fun i => (X i).1) 6 len hcs
      have l2 := flat_len (fun i => lkC (X i).2) 6 len (fun _ _ => rfl)
      refine .sl (some a) len cap _ ((List.range len).flatMap fun i => (X i).1) (by omega) hl (fun j u hj => ?_) (fun j u d hj hd' => ?_)
      · obtain ⟨h2, h3⟩ := flat_get (fun i => (X i).1) (sz := 6) (by decide) len hcs j u hj
        have hc := (World.cells?_some (hX _ h2).1).2.2 (j % 6) (Nat.mod_lt _ (by decide))
        rw [add_of_add, show j / 6 * 6 + j % 6 = j by omega, h3] at hc
        exact ⟨a, rfl, cell_block hc, hc⟩
      · obtain ⟨h2, h3⟩ := flat_get (fun i => (X i).1) (sz := 6) (by decide) len hcs j u hj
        obtain ⟨_, h4⟩ := flat_get (fun i => lkC (X i).2) (sz := 6) (by decide) len (fun _ _ => rfl) j d hd'
        exact (hX _ h2).2.2.2 _ u d h3 h4
theorem rdV_links {t e tR : TypeId} {f0 f1 : Field} (ht : P.underlying t = some (.slice e)) (hse : P.underlying e = some (.struct #[f0, f1])) (h0 : f0.type = tR ∧ f0.offset = 0) (h1 : f1.type = tR ∧ f1.offset = 3) (hce : P.cellsOf e = 6) (hcR : P.cellsOf tR = 3) (hty : RatTy P tR) {r : Reach} {b0 : Nat} {v : Value} {d : DataW H} {ps : List MemPlace} (hval : Value.okWide P w r b0 t v) (h : DataW.Trod enc P w base sp hd t v d ps) :
    ∃ l : List (RR × RR), (∀ p ∈ l, rok (Rows.uptoBulk d) p.1 ∧ rok (Rows.uptoBulk d) p.2) ∧ l.length + 1 ≤ Rows.uptoBulk d ∧ MR w (fun k => k < w.heap.size) (.one (lkD l)) v := by
  obtain ⟨fuel, hf⟩ := h
  obtain ⟨a, len, cap, rfl⟩ := okWide_slice ht hval
  obtain ⟨l, h2, h3, v, hv, hr⟩ := rdB_links ht hse h0 h1 hce hcR hty hf
  have hv' : [Value.slice a len cap] = [v] := hv
  cases hv'
  exact ⟨l, h2, h3, hr⟩
end
end Go.Proofs.YtljmgdepldpmdaaGreatDoor.E
