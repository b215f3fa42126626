/- An abstract interpreter over data, and contracts of the program's functions, part 6; no condition. -/
import Derived.Test.YtljmgdepldpmdaaGreatDoorRows
import Derived.Test.YtljmgdepldpmdaaGreatDoorBase
set_option linter.unusedSimpArgs false
set_option linter.unusedVariables false
set_option maxHeartbeats 2000000
namespace Go.Proofs.YtljmgdepldpmdaaGreatDoor.E
open Go.RowKit Limbs
/-- examboard/examboardlaw45.number -/
def b68 : AF := ⟨11, 1, [.cell 2 27],
  (.seq (.reg [
    ⟨some 2, .alloc 27, none⟩])
  (.seq (.reg [
    ⟨some 6, .move (.tmp 0), none⟩,
    ⟨some 7, .call ⟨(.value (.func 69)), #[(.tmp 6), (.const (.int .i64 1))], #[2, 2]⟩, none⟩,
    ⟨some 5, .move (.tmp 7), none⟩,
    ⟨some 8, .extract (.tmp 5) 0, none⟩,
    ⟨some 9, .extract (.tmp 5) 1, none⟩,
    ⟨some 3, .alloc 27, none⟩,
    ⟨none, .store 27 (.tmp 3) (.tmp 8), none⟩,
    ⟨some 4, .assign (.tmp 9), none⟩])
  (.seq (.reg [
    ⟨some 10, .load 27 (.tmp 3), none⟩,
    ⟨none, .store 27 (.tmp 2) (.tmp 10), none⟩])
  .ret)))⟩
theorem c68 : fcomp Tryz.prog 68 = ⟨b68.n, b68.np, b68.res, b68.body.bare⟩ := by kernel_rfl
theorem k68 : fok Tryz.prog 68 = true := by kernel_rfl
/-- examboard/examboardlaw45.is -/
def b70 : AF := ⟨19, 3, [.tmp 6],
  (.seq (.reg [
    ⟨some 3, .box 37 (.tmp 0), none⟩,
    ⟨some 6, .assign (.const (.bool false)), none⟩])
  (.seq (.reg [
    ⟨some 7, .fieldAddr 37 (.tmp 3) 0, none⟩,
    ⟨some 8, .load 27 (.tmp 7), none⟩,
    ⟨some 9, .call ⟨(.value (.func 56)), #[(.tmp 8)], #[27]⟩, none⟩,
    ⟨some 10, .move (.tmp 1), none⟩,
    ⟨some 11, .binOp .eql 9 (.tmp 9) (.tmp 10) 9, none⟩,
    ⟨some 12, .move (.tmp 11), none⟩,
    ⟨some 13, .fieldAddr 37 (.tmp 3) 1, some (12, true)⟩,
    ⟨some 14, .load 27 (.tmp 13), some (12, true)⟩,
    ⟨some 15, .call ⟨(.value (.func 56)), #[(.tmp 14)], #[27]⟩, some (12, true)⟩,
    ⟨some 16, .move (.tmp 2), some (12, true)⟩,
    ⟨some 17, .binOp .eql 9 (.tmp 15) (.tmp 16) 9, some (12, true)⟩,
    ⟨some 18, .pick (.tmp 12) (.tmp 17) (.const (.bool false)), none⟩,
    ⟨some 6, .assign (.tmp 18), none⟩])
  .ret))⟩
theorem c70 : fcomp Tryz.prog 70 = ⟨b70.n, b70.np, b70.res, b70.body.bare⟩ := by kernel_rfl
theorem k70 : fok Tryz.prog 70 = true := by kernel_rfl
theorem l45_number (n : Int) (a0 : -9223372036854775808 ≤ n) (a1 : n < 9223372036854775808) : AFun Tryz.prog 68 [.one (.lit (.int .i64 n))] [.agg (ratC (Rat.divInt n 1))] := by
  have co := rat_Of n 1 a0 a1 (by decide) (by decide)
  refine afun_intro mo_ _ _ c68 k68 _ _ rfl (by decide) ?_
  unfold b68
  simp (maxSteps := 1000000) (disch := first | omega | (simp only [LL]; omega)) only [W, V, TY, CC, reduceIte, Nat.reduceEqDiff, Nat.reduceAdd, Nat.reduceLeDiff, Nat.reduceLT, Int.reduceLE, Int.reduceLT, Int.reduceAdd, Int.reduceSub, Int.reduceToNat, Nat.reduceMul]
  refine a_call _ _ co (by simp (maxSteps := 1000000) (disch := first | omega | (simp only [LL]; omega)) only [W, V, TY, CC, reduceIte, Nat.reduceEqDiff, Nat.reduceAdd, Nat.reduceLeDiff, Nat.reduceLT, Int.reduceLE, Int.reduceLT, Int.reduceAdd, Int.reduceSub, Int.reduceToNat, Nat.reduceMul, ratC]) ?_
  simp (maxSteps := 1000000) (disch := first | omega | (simp only [LL]; omega)) only [W, V, TY, CC, reduceIte, Nat.reduceEqDiff, Nat.reduceAdd, Nat.reduceLeDiff, Nat.reduceLT, Int.reduceLE, Int.reduceLT, Int.reduceAdd, Int.reduceSub, Int.reduceToNat, Nat.reduceMul, ratC]
  refine f_ret _ _ _ ?_
  simp (maxSteps := 1000000) (disch := first | omega | (simp only [LL]; omega)) only [W, V, TY, CC, reduceIte, Nat.reduceEqDiff, Nat.reduceAdd, Nat.reduceLeDiff, Nat.reduceLT, Int.reduceLE, Int.reduceLT, Int.reduceAdd, Int.reduceSub, Int.reduceToNat, Nat.reduceMul, ratC]
def small (p : Rat) : Prop := -100 < p.num ∧ p.num < 100 ∧ p.den < 100
instance (p : Rat) : Decidable (small p) := by unfold small; infer_instance
theorem l45_is {p q : Rat} (hp : small p) (hq : small q) : AFun Tryz.prog 70 [.agg (sQ p q), .one (.lit (.string (digQ p))), .one (.lit (.string (digQ q)))] [.one (.lit (.bool true))] := by
  have c1 := rat_Print p hp.1 hp.2.1 hp.2.2
  have c2 := rat_Print q hq.1 hq.2.1 hq.2.2
  refine afun_intro mo_ _ _ c70 k70 _ _ rfl (by decide) ?_
  unfold b70
  simp (maxSteps := 1000000) (disch := first | omega | (simp only [LL]; omega)) only [W, V, TY, CC, reduceIte, Nat.reduceEqDiff, Nat.reduceAdd, Nat.reduceLeDiff, Nat.reduceLT, Int.reduceLE, Int.reduceLT, Int.reduceAdd, Int.reduceSub, Int.reduceToNat, Nat.reduceMul, sQ, ratC]
  refine a_call _ _ c1 (by simp (maxSteps := 1000000) (disch := first | omega | (simp only [LL]; omega)) only [W, V, TY, CC, reduceIte, Nat.reduceEqDiff, Nat.reduceAdd, Nat.reduceLeDiff, Nat.reduceLT, Int.reduceLE, Int.reduceLT, Int.reduceAdd, Int.reduceSub, Int.reduceToNat, Nat.reduceMul, ratC, beq_self_eq_true]) ?_
  simp (maxSteps := 1000000) (disch := first | omega | (simp only [LL]; omega)) only [W, V, TY, CC, reduceIte, Nat.reduceEqDiff, Nat.reduceAdd, Nat.reduceLeDiff, Nat.reduceLT, Int.reduceLE, Int.reduceLT, Int.reduceAdd, Int.reduceSub, Int.reduceToNat, Nat.reduceMul, ratC, beq_self_eq_true]
  refine a_call _ _ c2 (by simp (maxSteps := 1000000) (disch := first | omega | (simp only [LL]; omega)) only [W, V, TY, CC, reduceIte, Nat.reduceEqDiff, Nat.reduceAdd, Nat.reduceLeDiff, Nat.reduceLT, Int.reduceLE, Int.reduceLT, Int.reduceAdd, Int.reduceSub, Int.reduceToNat, Nat.reduceMul, ratC, beq_self_eq_true]) ?_
  simp (maxSteps := 1000000) (disch := first | omega | (simp only [LL]; omega)) only [W, V, TY, CC, reduceIte, Nat.reduceEqDiff, Nat.reduceAdd, Nat.reduceLeDiff, Nat.reduceLT, Int.reduceLE, Int.reduceLT, Int.reduceAdd, Int.reduceSub, Int.reduceToNat, Nat.reduceMul, ratC, beq_self_eq_true]
  refine f_ret _ _ _ ?_
  simp (maxSteps := 1000000) (disch := first | omega | (simp only [LL]; omega)) only [W, V, TY, CC, reduceIte, Nat.reduceEqDiff, Nat.reduceAdd, Nat.reduceLeDiff, Nat.reduceLT, Int.reduceLE, Int.reduceLT, Int.reduceAdd, Int.reduceSub, Int.reduceToNat, Nat.reduceMul, beq_self_eq_true]
theorem qD (a b : Int) (a0 : -9223372036854775808 ≤ a) (a1 : a < 9223372036854775808) (b0 : -9223372036854775808 ≤ b) (b1 : b < 9223372036854775808) : qs (Rat.divInt a b) ≤ 10 := by
  have := qs_div a b
  have := zl_i64 a0 a1
  have := zl_i64 b0 b1
  omega
theorem rokD (a b : Int) (a0 : -9223372036854775808 ≤ a) (a1 : a < 9223372036854775808) (b0 : -9223372036854775808 ≤ b) (b1 : b < 9223372036854775808) : rok 68719476600 (nr (Rat.divInt a b)) := rok_nr (by have := qD a b a0 a1 b0 b1; omega)
def b29_10 : AC :=
  (.seq (.reg [
    ⟨some 85, .load 37 (.tmp 6), none⟩,
    ⟨some 86, .buildSlice 47 2 #[(0, (.const (.int .i64 0))), (1, (.const (.int .i64 2)))], none⟩,
    ⟨some 87, .buildSlice 47 2 #[(0, (.const (.int .i64 1))), (1, (.const (.int .i64 4)))], none⟩,
    ⟨some 88, .call ⟨(.value (.func 34)), #[(.tmp 85), (.tmp 86), (.tmp 87)], #[37, 47, 47]⟩, none⟩,
    ⟨some 84, .move (.tmp 88), none⟩,
    ⟨some 89, .extract (.tmp 84) 0, none⟩,
    ⟨some 90, .extract (.tmp 84) 1, none⟩,
    ⟨some 9, .alloc 27, none⟩,
    ⟨none, .store 27 (.tmp 9) (.tmp 89), none⟩,
    ⟨some 3, .assign (.tmp 90), none⟩])
  (.seq (.reg [
    ⟨some 92, .load 37 (.tmp 1), none⟩,
    ⟨some 93, .load 37 (.tmp 6), none⟩,
    ⟨some 94, .buildSlice 52 2 #[(0, (.tmp 92)), (1, (.tmp 93))], none⟩,
    ⟨some 95, .buildSlice 47 2 #[(0, (.const (.int .i64 0))), (1, (.const (.int .i64 2)))], none⟩,
    ⟨some 96, .buildSlice 47 2 #[(0, (.const (.int .i64 1))), (1, (.const (.int .i64 4)))], none⟩,
    ⟨some 97, .call ⟨(.value (.func 36)), #[(.tmp 94), (.tmp 95), (.tmp 96)], #[52, 47, 47]⟩, none⟩,
    ⟨some 91, .move (.tmp 97), none⟩,
    ⟨some 98, .extract (.tmp 91) 0, none⟩,
    ⟨some 99, .extract (.tmp 91) 1, none⟩,
    ⟨some 10, .assign (.tmp 98), none⟩,
    ⟨some 8, .assign (.tmp 99), none⟩])
  (.seq (.reg [
    ⟨some 101, .load 37 (.tmp 1), none⟩,
    ⟨some 102, .load 37 (.tmp 6), none⟩,
    ⟨some 103, .buildSlice 52 2 #[(0, (.tmp 101)), (1, (.tmp 102))], none⟩,
    ⟨some 104, .call ⟨(.value (.func 38)), #[(.tmp 103)], #[52]⟩, none⟩,
    ⟨some 100, .move (.tmp 104), none⟩,
    ⟨some 105, .extract (.tmp 100) 0, none⟩,
    ⟨some 106, .extract (.tmp 100) 1, none⟩,
    ⟨some 11, .alloc 37, none⟩,
    ⟨none, .store 37 (.tmp 11) (.tmp 105), none⟩,
    ⟨some 12, .assign (.tmp 106), none⟩])
  (.seq (.seq (.reg [
    ⟨some 107, .move (.tmp 3), none⟩,
    ⟨some 108, .binOp .neq 38 (.tmp 107) (.const (.int .i64 0)) 38, none⟩,
    ⟨some 109, .move (.tmp 108), none⟩,
    ⟨some 110, .move (.tmp 8), some (109, false)⟩,
    ⟨some 111, .binOp .neq 38 (.tmp 110) (.const (.int .i64 0)) 38, some (109, false)⟩,
    ⟨some 112, .pick (.tmp 109) (.const (.bool true)) (.tmp 111), none⟩,
    ⟨some 113, .move (.tmp 112), none⟩,
    ⟨some 114, .move (.tmp 12), some (113, false)⟩,
    ⟨some 115, .binOp .neq 38 (.tmp 114) (.const (.int .i64 0)) 38, some (113, false)⟩,
    ⟨some 116, .pick (.tmp 113) (.const (.bool true)) (.tmp 115), none⟩,
    ⟨some 117, .move (.tmp 116), none⟩,
    ⟨some 118, .load 27 (.tmp 9), some (117, false)⟩,
    ⟨some 119, .call ⟨(.value (.func 56)), #[(.tmp 118)], #[27]⟩, some (117, false)⟩,
    ⟨some 120, .binOp .neq 9 (.tmp 119) (.const (.string ⟨#[49, 47, 50]⟩)) 9, some (117, false)⟩,
    ⟨some 121, .pick (.tmp 117) (.const (.bool true)) (.tmp 120), none⟩,
    ⟨some 122, .move (.tmp 121), none⟩,
    ⟨some 123, .move (.tmp 10), some (122, false)⟩,
    ⟨some 124, .binOp .neq 3 (.tmp 123) (.const (.int .i64 1)) 3, some (122, false)⟩,
    ⟨some 125, .pick (.tmp 122) (.const (.bool true)) (.tmp 124), none⟩,
    ⟨some 126, .move (.tmp 125), none⟩,
    ⟨some 127, .load 37 (.tmp 11), some (126, false)⟩,
    ⟨some 128, .call ⟨(.value (.func 70)), #[(.tmp 127), (.const (.string ⟨#[50]⟩)), (.const (.string ⟨#[57, 47, 50]⟩))], #[37, 9, 9]⟩, some (126, false)⟩,
    ⟨some 129, .unOp .not 4 (.tmp 128), some (126, false)⟩,
    ⟨some 130, .pick (.tmp 126) (.const (.bool true)) (.tmp 129), none⟩])
  (.cond (.tmp 130)
    (.seq (.reg [
      ⟨some 0, .assign (.const (.bool false)), none⟩])
    .ret)
    .skip))
  (.seq (.reg [
    ⟨some 132, .buildSlice 47 2 #[(0, (.const (.int .i64 1))), (1, (.const (.int .i64 1)))], none⟩,
    ⟨some 133, .buildSlice 47 2 #[(0, (.const (.int .i64 2))), (1, (.const (.int .i64 3)))], none⟩,
    ⟨some 134, .call ⟨(.value (.func 32)), #[(.tmp 132), (.tmp 133)], #[47, 47]⟩, none⟩,
    ⟨some 131, .move (.tmp 134), none⟩,
    ⟨some 135, .extract (.tmp 131) 0, none⟩,
    ⟨some 136, .extract (.tmp 131) 1, none⟩,
    ⟨some 3, .assign (.tmp 136), none⟩])
  (.seq (.reg [
    ⟨some 138, .buildSlice 47 1 #[(0, (.const (.int .i64 1)))], none⟩,
    ⟨some 139, .buildSlice 47 2 #[(0, (.const (.int .i64 1))), (1, (.const (.int .i64 2)))], none⟩,
    ⟨some 140, .call ⟨(.value (.func 30)), #[(.tmp 138), (.tmp 139)], #[47, 47]⟩, none⟩,
    ⟨some 137, .move (.tmp 140), none⟩,
    ⟨some 141, .extract (.tmp 137) 0, none⟩,
    ⟨some 142, .extract (.tmp 137) 1, none⟩,
    ⟨some 8, .assign (.tmp 142), none⟩])
  (.seq (.reg [
    ⟨some 144, .buildSlice 47 1 #[(0, (.const (.int .i64 1)))], none⟩,
    ⟨some 145, .buildSlice 47 1 #[(0, (.const (.int .i64 1)))], none⟩,
    ⟨some 146, .call ⟨(.value (.func 36)), #[(.const (.slice none 0 0)), (.tmp 144), (.tmp 145)], #[52, 47, 47]⟩, none⟩,
    ⟨some 143, .move (.tmp 146), none⟩,
    ⟨some 147, .extract (.tmp 143) 0, none⟩,
    ⟨some 148, .extract (.tmp 143) 1, none⟩,
    ⟨some 12, .assign (.tmp 148), none⟩])
  (.seq (.reg [
    ⟨some 149, .move (.tmp 3), none⟩,
    ⟨some 150, .binOp .eql 38 (.tmp 149) (.const (.int .i64 8)) 38, none⟩,
    ⟨some 151, .move (.tmp 150), none⟩,
    ⟨some 152, .move (.tmp 8), some (151, true)⟩,
    ⟨some 153, .binOp .eql 38 (.tmp 152) (.const (.int .i64 1)) 38, some (151, true)⟩,
    ⟨some 154, .pick (.tmp 151) (.tmp 153) (.const (.bool false)), none⟩,
    ⟨some 155, .move (.tmp 154), none⟩,
    ⟨some 156, .move (.tmp 12), some (155, true)⟩,
    ⟨some 157, .binOp .eql 38 (.tmp 156) (.const (.int .i64 20)) 38, some (155, true)⟩,
    ⟨some 158, .pick (.tmp 155) (.tmp 157) (.const (.bool false)), none⟩,
    ⟨some 0, .assign (.tmp 158), none⟩])
  .ret))))))))
/-- examboard/examboardlaw45.awake -/
def b29 : AF := ⟨159, 0, [.tmp 0],
  (.seq (.reg [
    ⟨some 0, .assign (.const (.bool false)), none⟩])
  (.seq (.reg [
    ⟨some 13, .call ⟨(.value (.func 68)), #[(.const (.int .i64 2))], #[3]⟩, none⟩,
    ⟨some 14, .call ⟨(.value (.func 68)), #[(.const (.int .i64 3))], #[3]⟩, none⟩,
    ⟨some 15, .build 37 #[(0, (.tmp 13)), (1, (.tmp 14))], none⟩,
    ⟨some 1, .alloc 37, none⟩,
    ⟨none, .store 37 (.tmp 1) (.tmp 15), none⟩])
  (.seq (.reg [
    ⟨some 17, .load 37 (.tmp 1), none⟩,
    ⟨some 18, .call ⟨(.value (.func 19)), #[(.tmp 17)], #[37]⟩, none⟩,
    ⟨some 16, .move (.tmp 18), none⟩,
    ⟨some 19, .extract (.tmp 16) 0, none⟩,
    ⟨some 20, .extract (.tmp 16) 1, none⟩,
    ⟨some 2, .alloc 37, none⟩,
    ⟨none, .store 37 (.tmp 2) (.tmp 19), none⟩,
    ⟨some 3, .assign (.tmp 20), none⟩])
  (.seq (.reg [
    ⟨some 22, .call ⟨(.value (.func 69)), #[(.const (.int .i64 5)), (.const (.int .i64 2))], #[2, 2]⟩, none⟩,
    ⟨some 21, .move (.tmp 22), none⟩,
    ⟨some 23, .extract (.tmp 21) 0, none⟩,
    ⟨some 24, .extract (.tmp 21) 1, none⟩,
    ⟨some 4, .alloc 27, none⟩,
    ⟨none, .store 27 (.tmp 4) (.tmp 23), none⟩,
    ⟨some 5, .assign (.tmp 24), none⟩])
  (.seq (.seq (.reg [
    ⟨some 25, .move (.tmp 3), none⟩,
    ⟨some 26, .binOp .neq 38 (.tmp 25) (.const (.int .i64 0)) 38, none⟩,
    ⟨some 27, .move (.tmp 26), none⟩,
    ⟨some 28, .load 37 (.tmp 2), some (27, false)⟩,
    ⟨some 29, .call ⟨(.value (.func 70)), #[(.tmp 28), (.const (.string ⟨#[49, 47, 50]⟩)), (.const (.string ⟨#[45, 51, 47, 50]⟩))], #[37, 9, 9]⟩, some (27, false)⟩,
    ⟨some 30, .unOp .not 4 (.tmp 29), some (27, false)⟩,
    ⟨some 31, .pick (.tmp 27) (.const (.bool true)) (.tmp 30), none⟩,
    ⟨some 32, .move (.tmp 31), none⟩,
    ⟨some 33, .load 37 (.tmp 1), some (32, false)⟩,
    ⟨some 34, .load 27 (.tmp 4), some (32, false)⟩,
    ⟨some 35, .call ⟨(.value (.func 25)), #[(.tmp 33), (.tmp 34)], #[37, 27]⟩, some (32, false)⟩,
    ⟨some 36, .call ⟨(.value (.func 56)), #[(.tmp 35)], #[27]⟩, some (32, false)⟩,
    ⟨some 37, .binOp .neq 9 (.tmp 36) (.const (.string ⟨#[56]⟩)) 9, some (32, false)⟩,
    ⟨some 38, .pick (.tmp 32) (.const (.bool true)) (.tmp 37), none⟩,
    ⟨some 39, .move (.tmp 38), none⟩,
    ⟨some 40, .load 37 (.tmp 1), some (39, false)⟩,
    ⟨some 41, .call ⟨(.value (.func 22)), #[(.tmp 40)], #[37]⟩, some (39, false)⟩,
    ⟨some 42, .unOp .not 4 (.tmp 41), some (39, false)⟩,
    ⟨some 43, .pick (.tmp 39) (.const (.bool true)) (.tmp 42), none⟩,
    ⟨some 44, .move (.tmp 43), none⟩,
    ⟨some 45, .call ⟨(.value (.func 68)), #[(.const (.int .i64 1))], #[3]⟩, some (44, false)⟩,
    ⟨some 46, .build 37 #[(1, (.tmp 45))], some (44, false)⟩,
    ⟨some 47, .call ⟨(.value (.func 22)), #[(.tmp 46)], #[37]⟩, some (44, false)⟩,
    ⟨some 48, .pick (.tmp 44) (.const (.bool true)) (.tmp 47), none⟩,
    ⟨some 49, .move (.tmp 48), none⟩,
    ⟨some 50, .load 37 (.tmp 1), some (49, false)⟩,
    ⟨some 51, .load 37 (.tmp 2), some (49, false)⟩,
    ⟨some 52, .call ⟨(.value (.func 27)), #[(.tmp 50), (.tmp 51)], #[37, 37]⟩, some (49, false)⟩,
    ⟨some 53, .call ⟨(.value (.func 70)), #[(.tmp 52), (.const (.string ⟨#[49]⟩)), (.const (.string ⟨#[48]⟩))], #[37, 9, 9]⟩, some (49, false)⟩,
    ⟨some 54, .unOp .not 4 (.tmp 53), some (49, false)⟩,
    ⟨some 55, .pick (.tmp 49) (.const (.bool true)) (.tmp 54), none⟩])
  (.cond (.tmp 55)
    (.seq (.reg [
      ⟨some 0, .assign (.const (.bool false)), none⟩])
    .ret)
    .skip))
  (.seq (.reg [
    ⟨some 57, .buildSlice 47 2 #[(0, (.const (.int .i64 0))), (1, (.const (.int .i64 2)))], none⟩,
    ⟨some 58, .buildSlice 47 2 #[(0, (.const (.int .i64 1))), (1, (.const (.int .i64 4)))], none⟩,
    ⟨some 59, .call ⟨(.value (.func 30)), #[(.tmp 57), (.tmp 58)], #[47, 47]⟩, none⟩,
    ⟨some 56, .move (.tmp 59), none⟩,
    ⟨some 60, .extract (.tmp 56) 0, none⟩,
    ⟨some 61, .extract (.tmp 56) 1, none⟩,
    ⟨some 6, .alloc 37, none⟩,
    ⟨none, .store 37 (.tmp 6) (.tmp 60), none⟩,
    ⟨some 3, .assign (.tmp 61), none⟩])
  (.seq (.reg [
    ⟨some 63, .buildSlice 47 2 #[(0, (.const (.int .i64 0))), (1, (.const (.int .i64 2)))], none⟩,
    ⟨some 64, .buildSlice 47 2 #[(0, (.const (.int .i64 1))), (1, (.const (.int .i64 7)))], none⟩,
    ⟨some 65, .call ⟨(.value (.func 32)), #[(.tmp 63), (.tmp 64)], #[47, 47]⟩, none⟩,
    ⟨some 62, .move (.tmp 65), none⟩,
    ⟨some 66, .extract (.tmp 62) 0, none⟩,
    ⟨some 67, .extract (.tmp 62) 1, none⟩,
    ⟨some 7, .alloc 37, none⟩,
    ⟨none, .store 37 (.tmp 7) (.tmp 66), none⟩,
    ⟨some 8, .assign (.tmp 67), none⟩])
  (.seq (.seq (.reg [
    ⟨some 68, .move (.tmp 3), none⟩,
    ⟨some 69, .binOp .neq 38 (.tmp 68) (.const (.int .i64 0)) 38, none⟩,
    ⟨some 70, .move (.tmp 69), none⟩,
    ⟨some 71, .move (.tmp 8), some (70, false)⟩,
    ⟨some 72, .binOp .neq 38 (.tmp 71) (.const (.int .i64 0)) 38, some (70, false)⟩,
    ⟨some 73, .pick (.tmp 70) (.const (.bool true)) (.tmp 72), none⟩,
    ⟨some 74, .move (.tmp 73), none⟩,
    ⟨some 75, .load 37 (.tmp 6), some (74, false)⟩,
    ⟨some 76, .call ⟨(.value (.func 70)), #[(.tmp 75), (.const (.string ⟨#[49]⟩)), (.const (.string ⟨#[51, 47, 50]⟩))], #[37, 9, 9]⟩, some (74, false)⟩,
    ⟨some 77, .unOp .not 4 (.tmp 76), some (74, false)⟩,
    ⟨some 78, .pick (.tmp 74) (.const (.bool true)) (.tmp 77), none⟩,
    ⟨some 79, .move (.tmp 78), none⟩,
    ⟨some 80, .load 37 (.tmp 7), some (79, false)⟩,
    ⟨some 81, .call ⟨(.value (.func 70)), #[(.tmp 80), (.const (.string ⟨#[51]⟩)), (.const (.string ⟨#[49]⟩))], #[37, 9, 9]⟩, some (79, false)⟩,
    ⟨some 82, .unOp .not 4 (.tmp 81), some (79, false)⟩,
    ⟨some 83, .pick (.tmp 79) (.const (.bool true)) (.tmp 82), none⟩])
  (.cond (.tmp 83)
    (.seq (.reg [
      ⟨some 0, .assign (.const (.bool false)), none⟩])
    .ret)
    .skip))
  b29_10))))))))⟩
theorem c29 : fcomp Tryz.prog 29 = ⟨b29.n, b29.np, b29.res, b29.body.bare⟩ := by kernel_rfl
theorem k29 : fok Tryz.prog 29 = true := by kernel_rfl
set_option maxHeartbeats 8000000 in
theorem l45_awake_rest (s : AS) (t1 : s.t 1 = .ptr (1, 0) 0) (v1 : s.v (1, 0) = some ((sQ (Rat.divInt 2 1) (Rat.divInt 3 1)).map .dt)) (t6 : s.t 6 = .ptr (6, 0) 0) (v6 : s.v (6, 0) = some ((sQ (Rat.divInt 1 1) (Rat.divInt 3 2)).map .dt)) (g9 : s.g 9 = 0) (g11 : s.g 11 = 0) (f9 : s.f (9, 0) = false) (f11 : s.f (11, 0) = false) :
    awp Tryz.prog b29_10 (fend Tryz.prog [.tmp 0] [.one (.lit (.bool true))]) s := by
  have q21 := rokD 2 1 (by decide) (by decide) (by decide) (by decide)
  have q31 := rokD 3 1 (by decide) (by decide) (by decide) (by decide)
  have q11 := rokD 1 1 (by decide) (by decide) (by decide) (by decide)
  have q12 := rokD 1 2 (by decide) (by decide) (by decide) (by decide)
  have q32 := rokD 3 2 (by decide) (by decide) (by decide) (by decide)
  have q52 := rokD 5 2 (by decide) (by decide) (by decide) (by decide)
  have qm32 := rokD (-3) 2 (by decide) (by decide) (by decide) (by decide)
  have big : ∀ q : Rat, qs q ≤ 10 → qs q ≤ 68719476600 := fun q h => Nat.le_trans h (by decide)
  have lo1 := k_Loss0 q11 q32 (k := 10) (by rw [nr_q]; exact qD 1 1 (by decide) (by decide) (by decide) (by decide)) (by rw [nr_q]; exact qD 3 2 (by decide) (by decide) (by decide) (by decide)) (by decide) (x := [0, 2]) (y := [1, 4]) (by decide)
  simp only [nr_q, rC_nr] at lo1
  rw [show lossQ (Rat.divInt 1 1) (Rat.divInt 3 2) [0, 2] [1, 4] [(0 : Int), 2].length = Rat.divInt 1 2 by decide +kernel] at lo1
  have hroks : roks 1048576 [(nr (Rat.divInt 2 1), nr (Rat.divInt 3 1)), (nr (Rat.divInt 1 1), nr (Rat.divInt 3 2))] := by
    intro p hp
    have d : ∀ a b : Int, -100 ≤ a → a ≤ 100 → -100 ≤ b → b ≤ 100 → rok 1048576 (nr (Rat.divInt a b)) := fun a b h1 h2 h3 h4 => rok_nr (Nat.le_trans (qD a b (by omega) (by omega) (by omega) (by omega)) (by decide))
    simp only [List.mem_cons, List.not_mem_nil, or_false] at hp
    rcases hp with rfl | rfl
    · exact ⟨d 2 1 (by decide) (by decide) (by decide) (by decide), d 3 1 (by decide) (by decide) (by decide) (by decide)⟩
    · exact ⟨d 1 1 (by decide) (by decide) (by decide) (by decide), d 3 2 (by decide) (by decide) (by decide) (by decide)⟩
  have hval : validB [(nr (Rat.divInt 2 1), nr (Rat.divInt 3 1)), (nr (Rat.divInt 1 1), nr (Rat.divInt 3 2))] = true := by
    unfold validB
    simp only [List.all_cons, List.all_nil, nr_q]
    decide +kernel
  have hche : chainE [(nr (Rat.divInt 2 1), nr (Rat.divInt 3 1)), (nr (Rat.divInt 1 1), nr (Rat.divInt 3 2))] = 0 := by
    unfold chainE
    rw [hval]
    rfl
  have hcho : chooseE [(nr (Rat.divInt 2 1), nr (Rat.divInt 3 1)), (nr (Rat.divInt 1 1), nr (Rat.divInt 3 2))] [0, 2] [1, 4] = 0 := by
    unfold chooseE
    rw [hche]
    rfl
  have ch1 := k_Choose0 hroks hcho
  have eb : bst (lsQ [(nr (Rat.divInt 2 1), nr (Rat.divInt 3 1)), (nr (Rat.divInt 1 1), nr (Rat.divInt 3 2))] [0, 2] [1, 4]) 2 = 1 := by
    have e0 : lsQ [(nr (Rat.divInt 2 1), nr (Rat.divInt 3 1)), (nr (Rat.divInt 1 1), nr (Rat.divInt 3 2))] [0, 2] [1, 4] 0 = Rat.divInt 13 1 := by
      show lossQ (nr (Rat.divInt 2 1)).q (nr (Rat.divInt 3 1)).q [0, 2] [1, 4] 2 = _
      rw [nr_q, nr_q]
      decide +kernel
    have e1 : lsQ [(nr (Rat.divInt 2 1), nr (Rat.divInt 3 1)), (nr (Rat.divInt 1 1), nr (Rat.divInt 3 2))] [0, 2] [1, 4] 1 = Rat.divInt 1 2 := by
      show lossQ (nr (Rat.divInt 1 1)).q (nr (Rat.divInt 3 2)).q [0, 2] [1, 4] 2 = _
      rw [nr_q, nr_q]
      decide +kernel
    have b1 : bst (lsQ [(nr (Rat.divInt 2 1), nr (Rat.divInt 3 1)), (nr (Rat.divInt 1 1), nr (Rat.divInt 3 2))] [0, 2] [1, 4]) 1 = 0 := by
      show (if _ then 0 else 0) = 0
      split <;> rfl
    show (if lsQ [(nr (Rat.divInt 2 1), nr (Rat.divInt 3 1)), (nr (Rat.divInt 1 1), nr (Rat.divInt 3 2))] [0, 2] [1, 4] 1 < lsQ [(nr (Rat.divInt 2 1), nr (Rat.divInt 3 1)), (nr (Rat.divInt 1 1), nr (Rat.divInt 3 2))] [0, 2] [1, 4] (bst (lsQ [(nr (Rat.divInt 2 1), nr (Rat.divInt 3 1)), (nr (Rat.divInt 1 1), nr (Rat.divInt 3 2))] [0, 2] [1, 4]) 1) then 1 else bst (lsQ [(nr (Rat.divInt 2 1), nr (Rat.divInt 3 1)), (nr (Rat.divInt 1 1), nr (Rat.divInt 3 2))] [0, 2] [1, 4]) 1) = 1
    rw [b1, e0, e1, if_pos (by decide +kernel)]
  rw [show ([(nr (Rat.divInt 2 1), nr (Rat.divInt 3 1)), (nr (Rat.divInt 1 1), nr (Rat.divInt 3 2))] : List (RR × RR)).length = 2 from rfl, eb] at ch1
  have cc1 := k_Chain0 hroks hche
  have ea : cA [(nr (Rat.divInt 2 1), nr (Rat.divInt 3 1)), (nr (Rat.divInt 1 1), nr (Rat.divInt 3 2))] 2 = Rat.divInt 2 1 := by
    show 1 * (nr (Rat.divInt 2 1)).q * (nr (Rat.divInt 1 1)).q = _
    rw [nr_q, nr_q]
    decide +kernel
  have eb2 : cB [(nr (Rat.divInt 2 1), nr (Rat.divInt 3 1)), (nr (Rat.divInt 1 1), nr (Rat.divInt 3 2))] 2 = Rat.divInt 9 2 := by
    show (nr (Rat.divInt 1 1)).q * ((nr (Rat.divInt 2 1)).q * 0 + (nr (Rat.divInt 3 1)).q) + (nr (Rat.divInt 3 2)).q = _
    rw [nr_q, nr_q, nr_q, nr_q]
    decide +kernel
  rw [show ([(nr (Rat.divInt 2 1), nr (Rat.divInt 3 1)), (nr (Rat.divInt 1 1), nr (Rat.divInt 3 2))] : List (RR × RR)).length = 2 from rfl, ea, eb2] at cc1
  have is5 := l45_is (p := Rat.divInt 2 1) (q := Rat.divInt 9 2) (by decide +kernel) (by decide +kernel)
  rw [show digQ (Rat.divInt 2 1) = ⟨#[50]⟩ by decide +kernel, show digQ (Rat.divInt 9 2) = ⟨#[57, 47, 50]⟩ by decide +kernel] at is5
  have pr12 := rat_Print (Rat.divInt 1 2) (by decide +kernel) (by decide +kernel) (by decide +kernel)
  rw [show digQ (Rat.divInt 1 2) = ⟨#[49, 47, 50]⟩ by decide +kernel] at pr12
  have sp2 := k_SpreadZ (x := [1, 1]) (y := [2, 3]) (by decide) (by decide) (by decide) (.inl (by decide))
  have me2 := k_MeanE (x := [1]) (y := [1, 2]) (by decide) (by decide) (by decide)
  rw [show anchV [1] [1, 2] = 1 by decide] at me2
  have ch2 := k_ChooseE (ls := []) (fun p hp => by simp at hp) (by decide) (x := [1]) (y := [1]) (by decide) (by decide) (by decide)
  rw [show chooseE [] [1] [1] = 20 by decide] at ch2
  have BB : (true == true) = true ∧ (false == false) = true ∧ (true == false) = false ∧ (false == true) = false ∧ (!true) = false ∧ (!false) = true := ⟨rfl, rfl, rfl, rfl, rfl, rfl⟩
  clear hroks hval hche hcho eb ea eb2
  simp only [sQ, ratC, List.map_cons, List.map_nil, List.cons_append, List.nil_append] at v1 v6
  unfold b29_10
  simp (maxSteps := 1000000) (disch := first | omega | (simp only [LL]; omega)) only [W, V, TY, CC, reduceIte, Nat.reduceEqDiff, Nat.reduceAdd, Nat.reduceLeDiff, Nat.reduceLT, Int.reduceLE, Int.reduceLT, Int.reduceAdd, Int.reduceSub, Int.reduceToNat, Nat.reduceMul, t1, v1, t6, v6, g9, g11, f9, f11, sQ, ratC, rC, BB, beq_self_eq_true, zS]
  refine a_call _ _ lo1 (by simp (maxSteps := 1000000) (disch := first | omega | (simp only [LL]; omega)) only [W, V, TY, CC, reduceIte, Nat.reduceEqDiff, Nat.reduceAdd, Nat.reduceLeDiff, Nat.reduceLT, Int.reduceLE, Int.reduceLT, Int.reduceAdd, Int.reduceSub, Int.reduceToNat, Nat.reduceMul, t1, v1, t6, v6, g9, g11, f9, f11, sQ, ratC, rC, BB, beq_self_eq_true, zS] <;> rfl) ?_
  simp (maxSteps := 1000000) (disch := first | omega | (simp only [LL]; omega)) only [W, V, TY, CC, reduceIte, Nat.reduceEqDiff, Nat.reduceAdd, Nat.reduceLeDiff, Nat.reduceLT, Int.reduceLE, Int.reduceLT, Int.reduceAdd, Int.reduceSub, Int.reduceToNat, Nat.reduceMul, t1, v1, t6, v6, g9, g11, f9, f11, sQ, ratC, rC, BB, beq_self_eq_true, zS]
  refine a_call _ _ ch1 (by simp (maxSteps := 1000000) (disch := first | omega | (simp only [LL]; omega)) only [W, V, TY, CC, reduceIte, Nat.reduceEqDiff, Nat.reduceAdd, Nat.reduceLeDiff, Nat.reduceLT, Int.reduceLE, Int.reduceLT, Int.reduceAdd, Int.reduceSub, Int.reduceToNat, Nat.reduceMul, t1, v1, t6, v6, g9, g11, f9, f11, sQ, ratC, rC, BB, beq_self_eq_true, zS] <;> rfl) ?_
  simp (maxSteps := 1000000) (disch := first | omega | (simp only [LL]; omega)) only [W, V, TY, CC, reduceIte, Nat.reduceEqDiff, Nat.reduceAdd, Nat.reduceLeDiff, Nat.reduceLT, Int.reduceLE, Int.reduceLT, Int.reduceAdd, Int.reduceSub, Int.reduceToNat, Nat.reduceMul, t1, v1, t6, v6, g9, g11, f9, f11, sQ, ratC, rC, BB, beq_self_eq_true, zS]
  refine a_call _ _ cc1 (by simp (maxSteps := 1000000) (disch := first | omega | (simp only [LL]; omega)) only [W, V, TY, CC, reduceIte, Nat.reduceEqDiff, Nat.reduceAdd, Nat.reduceLeDiff, Nat.reduceLT, Int.reduceLE, Int.reduceLT, Int.reduceAdd, Int.reduceSub, Int.reduceToNat, Nat.reduceMul, t1, v1, t6, v6, g9, g11, f9, f11, sQ, ratC, rC, BB, beq_self_eq_true, zS] <;> rfl) ?_
  simp (maxSteps := 1000000) (disch := first | omega | (simp only [LL]; omega)) only [W, V, TY, CC, reduceIte, Nat.reduceEqDiff, Nat.reduceAdd, Nat.reduceLeDiff, Nat.reduceLT, Int.reduceLE, Int.reduceLT, Int.reduceAdd, Int.reduceSub, Int.reduceToNat, Nat.reduceMul, t1, v1, t6, v6, g9, g11, f9, f11, sQ, ratC, rC, BB, beq_self_eq_true, zS]
  refine a_call _ _ pr12 (by simp (maxSteps := 1000000) (disch := first | omega | (simp only [LL]; omega)) only [W, V, TY, CC, reduceIte, Nat.reduceEqDiff, Nat.reduceAdd, Nat.reduceLeDiff, Nat.reduceLT, Int.reduceLE, Int.reduceLT, Int.reduceAdd, Int.reduceSub, Int.reduceToNat, Nat.reduceMul, t1, v1, t6, v6, g9, g11, f9, f11, sQ, ratC, rC, BB, beq_self_eq_true, zS] <;> rfl) ?_
  simp (maxSteps := 1000000) (disch := first | omega | (simp only [LL]; omega)) only [W, V, TY, CC, reduceIte, Nat.reduceEqDiff, Nat.reduceAdd, Nat.reduceLeDiff, Nat.reduceLT, Int.reduceLE, Int.reduceLT, Int.reduceAdd, Int.reduceSub, Int.reduceToNat, Nat.reduceMul, t1, v1, t6, v6, g9, g11, f9, f11, sQ, ratC, rC, BB, beq_self_eq_true, zS]
  refine a_call _ _ is5 (by simp (maxSteps := 1000000) (disch := first | omega | (simp only [LL]; omega)) only [W, V, TY, CC, reduceIte, Nat.reduceEqDiff, Nat.reduceAdd, Nat.reduceLeDiff, Nat.reduceLT, Int.reduceLE, Int.reduceLT, Int.reduceAdd, Int.reduceSub, Int.reduceToNat, Nat.reduceMul, t1, v1, t6, v6, g9, g11, f9, f11, sQ, ratC, rC, BB, beq_self_eq_true, zS] <;> rfl) ?_
  simp (maxSteps := 1000000) (disch := first | omega | (simp only [LL]; omega)) only [W, V, TY, CC, reduceIte, Nat.reduceEqDiff, Nat.reduceAdd, Nat.reduceLeDiff, Nat.reduceLT, Int.reduceLE, Int.reduceLT, Int.reduceAdd, Int.reduceSub, Int.reduceToNat, Nat.reduceMul, t1, v1, t6, v6, g9, g11, f9, f11, sQ, ratC, rC, BB, beq_self_eq_true, zS]
  refine a_call _ _ sp2 (by simp (maxSteps := 1000000) (disch := first | omega | (simp only [LL]; omega)) only [W, V, TY, CC, reduceIte, Nat.reduceEqDiff, Nat.reduceAdd, Nat.reduceLeDiff, Nat.reduceLT, Int.reduceLE, Int.reduceLT, Int.reduceAdd, Int.reduceSub, Int.reduceToNat, Nat.reduceMul, t1, v1, t6, v6, g9, g11, f9, f11, sQ, ratC, rC, BB, beq_self_eq_true, zS] <;> rfl) ?_
  simp (maxSteps := 1000000) (disch := first | omega | (simp only [LL]; omega)) only [W, V, TY, CC, reduceIte, Nat.reduceEqDiff, Nat.reduceAdd, Nat.reduceLeDiff, Nat.reduceLT, Int.reduceLE, Int.reduceLT, Int.reduceAdd, Int.reduceSub, Int.reduceToNat, Nat.reduceMul, t1, v1, t6, v6, g9, g11, f9, f11, sQ, ratC, rC, BB, beq_self_eq_true, zS]
  refine a_call _ _ me2 (by simp (maxSteps := 1000000) (disch := first | omega | (simp only [LL]; omega)) only [W, V, TY, CC, reduceIte, Nat.reduceEqDiff, Nat.reduceAdd, Nat.reduceLeDiff, Nat.reduceLT, Int.reduceLE, Int.reduceLT, Int.reduceAdd, Int.reduceSub, Int.reduceToNat, Nat.reduceMul, t1, v1, t6, v6, g9, g11, f9, f11, sQ, ratC, rC, BB, beq_self_eq_true, zS] <;> rfl) ?_
  simp (maxSteps := 1000000) (disch := first | omega | (simp only [LL]; omega)) only [W, V, TY, CC, reduceIte, Nat.reduceEqDiff, Nat.reduceAdd, Nat.reduceLeDiff, Nat.reduceLT, Int.reduceLE, Int.reduceLT, Int.reduceAdd, Int.reduceSub, Int.reduceToNat, Nat.reduceMul, t1, v1, t6, v6, g9, g11, f9, f11, sQ, ratC, rC, BB, beq_self_eq_true, zS]
  refine a_call _ _ ch2 (by simp (maxSteps := 1000000) (disch := first | omega | (simp only [LL]; omega)) only [W, V, TY, CC, reduceIte, Nat.reduceEqDiff, Nat.reduceAdd, Nat.reduceLeDiff, Nat.reduceLT, Int.reduceLE, Int.reduceLT, Int.reduceAdd, Int.reduceSub, Int.reduceToNat, Nat.reduceMul, t1, v1, t6, v6, g9, g11, f9, f11, sQ, ratC, rC, BB, beq_self_eq_true, zS] <;> rfl) ?_
  simp (maxSteps := 1000000) (disch := first | omega | (simp only [LL]; omega)) only [W, V, TY, CC, reduceIte, Nat.reduceEqDiff, Nat.reduceAdd, Nat.reduceLeDiff, Nat.reduceLT, Int.reduceLE, Int.reduceLT, Int.reduceAdd, Int.reduceSub, Int.reduceToNat, Nat.reduceMul, t1, v1, t6, v6, g9, g11, f9, f11, sQ, ratC, rC, BB, beq_self_eq_true, zS]
  refine f_ret _ _ _ ?_
  simp (maxSteps := 1000000) (disch := first | omega | (simp only [LL]; omega)) only [W, V, TY, CC, reduceIte, Nat.reduceEqDiff, Nat.reduceAdd, Nat.reduceLeDiff, Nat.reduceLT, Int.reduceLE, Int.reduceLT, Int.reduceAdd, Int.reduceSub, Int.reduceToNat, Nat.reduceMul, BB]
set_option maxHeartbeats 8000000 in
theorem l45_awake : AFun Tryz.prog 29 [] [.one (.lit (.bool true))] := by
  have q21 := rokD 2 1 (by decide) (by decide) (by decide) (by decide)
  have q31 := rokD 3 1 (by decide) (by decide) (by decide) (by decide)
  have q11 := rokD 1 1 (by decide) (by decide) (by decide) (by decide)
  have q12 := rokD 1 2 (by decide) (by decide) (by decide) (by decide)
  have q32 := rokD 3 2 (by decide) (by decide) (by decide) (by decide)
  have q52 := rokD 5 2 (by decide) (by decide) (by decide) (by decide)
  have qm32 := rokD (-3) 2 (by decide) (by decide) (by decide) (by decide)
  have big : ∀ q : Rat, qs q ≤ 10 → qs q ≤ 68719476600 := fun q h => Nat.le_trans h (by decide)
  have n2 := l45_number 2 (by decide) (by decide)
  have n3 := l45_number 3 (by decide) (by decide)
  have n1 := l45_number 1 (by decide) (by decide)
  have x5 := rat_Of 5 2 (by decide) (by decide) (by decide) (by decide)
  have iv1 := k_Invert q21 q31 (by rw [nr_q]; decide +kernel) (by rw [nr_q, show 1 / Rat.divInt 2 1 = Rat.divInt 1 2 by decide +kernel]; exact big _ (qD 1 2 (by decide) (by decide) (by decide) (by decide))) (by rw [nr_q, nr_q, show 1 / Rat.divInt 2 1 * Rat.divInt 3 1 = Rat.divInt 3 2 by decide +kernel]; exact big _ (qD 3 2 (by decide) (by decide) (by decide) (by decide)))
  simp only [nr_q, rC_nr] at iv1
  rw [show -(1 / Rat.divInt 2 1 * Rat.divInt 3 1) = Rat.divInt (-3) 2 by decide +kernel, show 1 / Rat.divInt 2 1 = Rat.divInt 1 2 by decide +kernel] at iv1
  have is1 := l45_is (p := Rat.divInt 1 2) (q := Rat.divInt (-3) 2) (by decide +kernel) (by decide +kernel)
  rw [show digQ (Rat.divInt 1 2) = ⟨#[49, 47, 50]⟩ by decide +kernel, show digQ (Rat.divInt (-3) 2) = ⟨#[45, 51, 47, 50]⟩ by decide +kernel] at is1
  have ap1 := k_Apply q21 q31 q52 (by rw [nr_q, nr_q, show Rat.divInt 2 1 * Rat.divInt 5 2 = Rat.divInt 5 1 by decide +kernel]; exact big _ (qD 5 1 (by decide) (by decide) (by decide) (by decide)))
  simp only [nr_q, rC_nr] at ap1
  rw [show Rat.divInt 2 1 * Rat.divInt 5 2 + Rat.divInt 3 1 = Rat.divInt 8 1 by decide +kernel] at ap1
  have pr8 := rat_Print (Rat.divInt 8 1) (by decide +kernel) (by decide +kernel) (by decide +kernel)
  rw [show digQ (Rat.divInt 8 1) = ⟨#[56]⟩ by decide +kernel] at pr8
  have va1 := k_Valid (B := nr (Rat.divInt 3 1)) q21
  simp only [nr_q, rC_nr] at va1
  rw [decide_eq_true (show 0 < Rat.divInt 2 1 by decide +kernel)] at va1
  have va2 := k_Valid (A := ⟨false, [], []⟩) (B := nr (Rat.divInt 1 1)) ⟨Lim.nil, Lim.nil, by decide, by decide⟩
  rw [decide_eq_false (show ¬ 0 < RR.q ⟨false, [], []⟩ by decide +kernel)] at va2
  simp only [rC_nr] at va2
  have co1 := k_Compose q21 q31 q12 qm32 (by rw [nr_q, nr_q, show Rat.divInt 1 2 * Rat.divInt 3 1 = Rat.divInt 3 2 by decide +kernel]; exact big _ (qD 3 2 (by decide) (by decide) (by decide) (by decide)))
  simp only [nr_q, rC_nr] at co1
  rw [show Rat.divInt 2 1 * Rat.divInt 1 2 = Rat.divInt 1 1 by decide +kernel, show Rat.divInt 1 2 * Rat.divInt 3 1 + Rat.divInt (-3) 2 = Rat.divInt 0 1 by decide +kernel] at co1
  have is2 := l45_is (p := Rat.divInt 1 1) (q := Rat.divInt 0 1) (by decide +kernel) (by decide +kernel)
  rw [show digQ (Rat.divInt 1 1) = ⟨#[49]⟩ by decide +kernel, show digQ (Rat.divInt 0 1) = ⟨#[48]⟩ by decide +kernel] at is2
  have me1 := k_Mean0 (x := [0, 2]) (y := [1, 4]) (by decide) (by decide) (by decide)
  rw [show meanQ [1, 4] - meanQ [0, 2] = Rat.divInt 3 2 by decide +kernel, show (1 : Rat) = Rat.divInt 1 1 by decide +kernel] at me1
  have sp1 := k_Spread0 (x := [0, 2]) (y := [1, 7]) (by decide) (by decide) (by decide) (by decide) (by decide)
  rw [show meanQ [1, 7] - spreadA [0, 2] [1, 7] * meanQ [0, 2] = Rat.divInt 1 1 by decide +kernel, show spreadA [0, 2] [1, 7] = Rat.divInt 3 1 by decide +kernel] at sp1
  have is3 := l45_is (p := Rat.divInt 1 1) (q := Rat.divInt 3 2) (by decide +kernel) (by decide +kernel)
  rw [show digQ (Rat.divInt 1 1) = ⟨#[49]⟩ by decide +kernel, show digQ (Rat.divInt 3 2) = ⟨#[51, 47, 50]⟩ by decide +kernel] at is3
  have is4 := l45_is (p := Rat.divInt 3 1) (q := Rat.divInt 1 1) (by decide +kernel) (by decide +kernel)
  rw [show digQ (Rat.divInt 3 1) = ⟨#[51]⟩ by decide +kernel, show digQ (Rat.divInt 1 1) = ⟨#[49]⟩ by decide +kernel] at is4
  have BB : (true == true) = true ∧ (false == false) = true ∧ (true == false) = false ∧ (false == true) = false ∧ (!true) = false ∧ (!false) = true := ⟨rfl, rfl, rfl, rfl, rfl, rfl⟩
  refine afun_intro mo_ _ _ c29 k29 _ _ rfl (by decide) ?_
  unfold b29
  simp (maxSteps := 1000000) (disch := first | omega | (simp only [LL]; omega)) only [W, V, TY, CC, reduceIte, Nat.reduceEqDiff, Nat.reduceAdd, Nat.reduceLeDiff, Nat.reduceLT, Int.reduceLE, Int.reduceLT, Int.reduceAdd, Int.reduceSub, Int.reduceToNat, Nat.reduceMul]
  refine a_call _ _ n2 (by simp (maxSteps := 1000000) (disch := first | omega | (simp only [LL]; omega)) only [W, V, TY, CC, reduceIte, Nat.reduceEqDiff, Nat.reduceAdd, Nat.reduceLeDiff, Nat.reduceLT, Int.reduceLE, Int.reduceLT, Int.reduceAdd, Int.reduceSub, Int.reduceToNat, Nat.reduceMul, sQ, ratC, rC, BB, beq_self_eq_true, zS] <;> rfl) ?_
  simp (maxSteps := 1000000) (disch := first | omega | (simp only [LL]; omega)) only [W, V, TY, CC, reduceIte, Nat.reduceEqDiff, Nat.reduceAdd, Nat.reduceLeDiff, Nat.reduceLT, Int.reduceLE, Int.reduceLT, Int.reduceAdd, Int.reduceSub, Int.reduceToNat, Nat.reduceMul, sQ, ratC, rC, BB, beq_self_eq_true, zS]
  refine a_call _ _ n3 (by simp (maxSteps := 1000000) (disch := first | omega | (simp only [LL]; omega)) only [W, V, TY, CC, reduceIte, Nat.reduceEqDiff, Nat.reduceAdd, Nat.reduceLeDiff, Nat.reduceLT, Int.reduceLE, Int.reduceLT, Int.reduceAdd, Int.reduceSub, Int.reduceToNat, Nat.reduceMul, sQ, ratC, rC, BB, beq_self_eq_true, zS] <;> rfl) ?_
  simp (maxSteps := 1000000) (disch := first | omega | (simp only [LL]; omega)) only [W, V, TY, CC, reduceIte, Nat.reduceEqDiff, Nat.reduceAdd, Nat.reduceLeDiff, Nat.reduceLT, Int.reduceLE, Int.reduceLT, Int.reduceAdd, Int.reduceSub, Int.reduceToNat, Nat.reduceMul, sQ, ratC, rC, BB, beq_self_eq_true, zS]
  refine a_call _ _ iv1 (by simp (maxSteps := 1000000) (disch := first | omega | (simp only [LL]; omega)) only [W, V, TY, CC, reduceIte, Nat.reduceEqDiff, Nat.reduceAdd, Nat.reduceLeDiff, Nat.reduceLT, Int.reduceLE, Int.reduceLT, Int.reduceAdd, Int.reduceSub, Int.reduceToNat, Nat.reduceMul, sQ, ratC, rC, BB, beq_self_eq_true, zS] <;> rfl) ?_
  simp (maxSteps := 1000000) (disch := first | omega | (simp only [LL]; omega)) only [W, V, TY, CC, reduceIte, Nat.reduceEqDiff, Nat.reduceAdd, Nat.reduceLeDiff, Nat.reduceLT, Int.reduceLE, Int.reduceLT, Int.reduceAdd, Int.reduceSub, Int.reduceToNat, Nat.reduceMul, sQ, ratC, rC, BB, beq_self_eq_true, zS]
  refine a_call _ _ x5 (by simp (maxSteps := 1000000) (disch := first | omega | (simp only [LL]; omega)) only [W, V, TY, CC, reduceIte, Nat.reduceEqDiff, Nat.reduceAdd, Nat.reduceLeDiff, Nat.reduceLT, Int.reduceLE, Int.reduceLT, Int.reduceAdd, Int.reduceSub, Int.reduceToNat, Nat.reduceMul, sQ, ratC, rC, BB, beq_self_eq_true, zS] <;> rfl) ?_
  simp (maxSteps := 1000000) (disch := first | omega | (simp only [LL]; omega)) only [W, V, TY, CC, reduceIte, Nat.reduceEqDiff, Nat.reduceAdd, Nat.reduceLeDiff, Nat.reduceLT, Int.reduceLE, Int.reduceLT, Int.reduceAdd, Int.reduceSub, Int.reduceToNat, Nat.reduceMul, sQ, ratC, rC, BB, beq_self_eq_true, zS]
  refine a_call _ _ is1 (by simp (maxSteps := 1000000) (disch := first | omega | (simp only [LL]; omega)) only [W, V, TY, CC, reduceIte, Nat.reduceEqDiff, Nat.reduceAdd, Nat.reduceLeDiff, Nat.reduceLT, Int.reduceLE, Int.reduceLT, Int.reduceAdd, Int.reduceSub, Int.reduceToNat, Nat.reduceMul, sQ, ratC, rC, BB, beq_self_eq_true, zS] <;> rfl) ?_
  simp (maxSteps := 1000000) (disch := first | omega | (simp only [LL]; omega)) only [W, V, TY, CC, reduceIte, Nat.reduceEqDiff, Nat.reduceAdd, Nat.reduceLeDiff, Nat.reduceLT, Int.reduceLE, Int.reduceLT, Int.reduceAdd, Int.reduceSub, Int.reduceToNat, Nat.reduceMul, sQ, ratC, rC, BB, beq_self_eq_true, zS]
  refine a_call _ _ ap1 (by simp (maxSteps := 1000000) (disch := first | omega | (simp only [LL]; omega)) only [W, V, TY, CC, reduceIte, Nat.reduceEqDiff, Nat.reduceAdd, Nat.reduceLeDiff, Nat.reduceLT, Int.reduceLE, Int.reduceLT, Int.reduceAdd, Int.reduceSub, Int.reduceToNat, Nat.reduceMul, sQ, ratC, rC, BB, beq_self_eq_true, zS] <;> rfl) ?_
  simp (maxSteps := 1000000) (disch := first | omega | (simp only [LL]; omega)) only [W, V, TY, CC, reduceIte, Nat.reduceEqDiff, Nat.reduceAdd, Nat.reduceLeDiff, Nat.reduceLT, Int.reduceLE, Int.reduceLT, Int.reduceAdd, Int.reduceSub, Int.reduceToNat, Nat.reduceMul, sQ, ratC, rC, BB, beq_self_eq_true, zS]
  refine a_call _ _ pr8 (by simp (maxSteps := 1000000) (disch := first | omega | (simp only [LL]; omega)) only [W, V, TY, CC, reduceIte, Nat.reduceEqDiff, Nat.reduceAdd, Nat.reduceLeDiff, Nat.reduceLT, Int.reduceLE, Int.reduceLT, Int.reduceAdd, Int.reduceSub, Int.reduceToNat, Nat.reduceMul, sQ, ratC, rC, BB, beq_self_eq_true, zS] <;> rfl) ?_
  simp (maxSteps := 1000000) (disch := first | omega | (simp only [LL]; omega)) only [W, V, TY, CC, reduceIte, Nat.reduceEqDiff, Nat.reduceAdd, Nat.reduceLeDiff, Nat.reduceLT, Int.reduceLE, Int.reduceLT, Int.reduceAdd, Int.reduceSub, Int.reduceToNat, Nat.reduceMul, sQ, ratC, rC, BB, beq_self_eq_true, zS]
  refine a_call _ _ va1 (by simp (maxSteps := 1000000) (disch := first | omega | (simp only [LL]; omega)) only [W, V, TY, CC, reduceIte, Nat.reduceEqDiff, Nat.reduceAdd, Nat.reduceLeDiff, Nat.reduceLT, Int.reduceLE, Int.reduceLT, Int.reduceAdd, Int.reduceSub, Int.reduceToNat, Nat.reduceMul, sQ, ratC, rC, BB, beq_self_eq_true, zS] <;> rfl) ?_
  simp (maxSteps := 1000000) (disch := first | omega | (simp only [LL]; omega)) only [W, V, TY, CC, reduceIte, Nat.reduceEqDiff, Nat.reduceAdd, Nat.reduceLeDiff, Nat.reduceLT, Int.reduceLE, Int.reduceLT, Int.reduceAdd, Int.reduceSub, Int.reduceToNat, Nat.reduceMul, sQ, ratC, rC, BB, beq_self_eq_true, zS]
  refine a_call _ _ n1 (by simp (maxSteps := 1000000) (disch := first | omega | (simp only [LL]; omega)) only [W, V, TY, CC, reduceIte, Nat.reduceEqDiff, Nat.reduceAdd, Nat.reduceLeDiff, Nat.reduceLT, Int.reduceLE, Int.reduceLT, Int.reduceAdd, Int.reduceSub, Int.reduceToNat, Nat.reduceMul, sQ, ratC, rC, BB, beq_self_eq_true, zS] <;> rfl) ?_
  simp (maxSteps := 1000000) (disch := first | omega | (simp only [LL]; omega)) only [W, V, TY, CC, reduceIte, Nat.reduceEqDiff, Nat.reduceAdd, Nat.reduceLeDiff, Nat.reduceLT, Int.reduceLE, Int.reduceLT, Int.reduceAdd, Int.reduceSub, Int.reduceToNat, Nat.reduceMul, sQ, ratC, rC, BB, beq_self_eq_true, zS]
  refine a_call _ _ va2 (by simp (maxSteps := 1000000) (disch := first | omega | (simp only [LL]; omega)) only [W, V, TY, CC, reduceIte, Nat.reduceEqDiff, Nat.reduceAdd, Nat.reduceLeDiff, Nat.reduceLT, Int.reduceLE, Int.reduceLT, Int.reduceAdd, Int.reduceSub, Int.reduceToNat, Nat.reduceMul, sQ, ratC, rC, BB, beq_self_eq_true, zS] <;> rfl) ?_
  simp (maxSteps := 1000000) (disch := first | omega | (simp only [LL]; omega)) only [W, V, TY, CC, reduceIte, Nat.reduceEqDiff, Nat.reduceAdd, Nat.reduceLeDiff, Nat.reduceLT, Int.reduceLE, Int.reduceLT, Int.reduceAdd, Int.reduceSub, Int.reduceToNat, Nat.reduceMul, sQ, ratC, rC, BB, beq_self_eq_true, zS]
  refine a_call _ _ co1 (by simp (maxSteps := 1000000) (disch := first | omega | (simp only [LL]; omega)) only [W, V, TY, CC, reduceIte, Nat.reduceEqDiff, Nat.reduceAdd, Nat.reduceLeDiff, Nat.reduceLT, Int.reduceLE, Int.reduceLT, Int.reduceAdd, Int.reduceSub, Int.reduceToNat, Nat.reduceMul, sQ, ratC, rC, BB, beq_self_eq_true, zS] <;> rfl) ?_
  simp (maxSteps := 1000000) (disch := first | omega | (simp only [LL]; omega)) only [W, V, TY, CC, reduceIte, Nat.reduceEqDiff, Nat.reduceAdd, Nat.reduceLeDiff, Nat.reduceLT, Int.reduceLE, Int.reduceLT, Int.reduceAdd, Int.reduceSub, Int.reduceToNat, Nat.reduceMul, sQ, ratC, rC, BB, beq_self_eq_true, zS]
  refine a_call _ _ is2 (by simp (maxSteps := 1000000) (disch := first | omega | (simp only [LL]; omega)) only [W, V, TY, CC, reduceIte, Nat.reduceEqDiff, Nat.reduceAdd, Nat.reduceLeDiff, Nat.reduceLT, Int.reduceLE, Int.reduceLT, Int.reduceAdd, Int.reduceSub, Int.reduceToNat, Nat.reduceMul, sQ, ratC, rC, BB, beq_self_eq_true, zS] <;> rfl) ?_
  simp (maxSteps := 1000000) (disch := first | omega | (simp only [LL]; omega)) only [W, V, TY, CC, reduceIte, Nat.reduceEqDiff, Nat.reduceAdd, Nat.reduceLeDiff, Nat.reduceLT, Int.reduceLE, Int.reduceLT, Int.reduceAdd, Int.reduceSub, Int.reduceToNat, Nat.reduceMul, sQ, ratC, rC, BB, beq_self_eq_true, zS]
  refine a_call _ _ me1 (by simp (maxSteps := 1000000) (disch := first | omega | (simp only [LL]; omega)) only [W, V, TY, CC, reduceIte, Nat.reduceEqDiff, Nat.reduceAdd, Nat.reduceLeDiff, Nat.reduceLT, Int.reduceLE, Int.reduceLT, Int.reduceAdd, Int.reduceSub, Int.reduceToNat, Nat.reduceMul, sQ, ratC, rC, BB, beq_self_eq_true, zS] <;> rfl) ?_
  simp (maxSteps := 1000000) (disch := first | omega | (simp only [LL]; omega)) only [W, V, TY, CC, reduceIte, Nat.reduceEqDiff, Nat.reduceAdd, Nat.reduceLeDiff, Nat.reduceLT, Int.reduceLE, Int.reduceLT, Int.reduceAdd, Int.reduceSub, Int.reduceToNat, Nat.reduceMul, sQ, ratC, rC, BB, beq_self_eq_true, zS]
  refine a_call _ _ sp1 (by simp (maxSteps := 1000000) (disch := first | omega | (simp only [LL]; omega)) only [W, V, TY, CC, reduceIte, Nat.reduceEqDiff, Nat.reduceAdd, Nat.reduceLeDiff, Nat.reduceLT, Int.reduceLE, Int.reduceLT, Int.reduceAdd, Int.reduceSub, Int.reduceToNat, Nat.reduceMul, sQ, ratC, rC, BB, beq_self_eq_true, zS] <;> rfl) ?_
  simp (maxSteps := 1000000) (disch := first | omega | (simp only [LL]; omega)) only [W, V, TY, CC, reduceIte, Nat.reduceEqDiff, Nat.reduceAdd, Nat.reduceLeDiff, Nat.reduceLT, Int.reduceLE, Int.reduceLT, Int.reduceAdd, Int.reduceSub, Int.reduceToNat, Nat.reduceMul, sQ, ratC, rC, BB, beq_self_eq_true, zS]
  refine a_call _ _ is3 (by simp (maxSteps := 1000000) (disch := first | omega | (simp only [LL]; omega)) only [W, V, TY, CC, reduceIte, Nat.reduceEqDiff, Nat.reduceAdd, Nat.reduceLeDiff, Nat.reduceLT, Int.reduceLE, Int.reduceLT, Int.reduceAdd, Int.reduceSub, Int.reduceToNat, Nat.reduceMul, sQ, ratC, rC, BB, beq_self_eq_true, zS] <;> rfl) ?_
  simp (maxSteps := 1000000) (disch := first | omega | (simp only [LL]; omega)) only [W, V, TY, CC, reduceIte, Nat.reduceEqDiff, Nat.reduceAdd, Nat.reduceLeDiff, Nat.reduceLT, Int.reduceLE, Int.reduceLT, Int.reduceAdd, Int.reduceSub, Int.reduceToNat, Nat.reduceMul, sQ, ratC, rC, BB, beq_self_eq_true, zS]
  refine a_call _ _ is4 (by simp (maxSteps := 1000000) (disch := first | omega | (simp only [LL]; omega)) only [W, V, TY, CC, reduceIte, Nat.reduceEqDiff, Nat.reduceAdd, Nat.reduceLeDiff, Nat.reduceLT, Int.reduceLE, Int.reduceLT, Int.reduceAdd, Int.reduceSub, Int.reduceToNat, Nat.reduceMul, sQ, ratC, rC, BB, beq_self_eq_true, zS] <;> rfl) ?_
  simp (maxSteps := 1000000) (disch := first | omega | (simp only [LL]; omega)) only [W, V, TY, CC, reduceIte, Nat.reduceEqDiff, Nat.reduceAdd, Nat.reduceLeDiff, Nat.reduceLT, Int.reduceLE, Int.reduceLT, Int.reduceAdd, Int.reduceSub, Int.reduceToNat, Nat.reduceMul, sQ, ratC, rC, BB, beq_self_eq_true, zS]
  refine l45_awake_rest _ ?_ ?_ ?_ ?_ ?_ ?_ ?_ ?_
  · simp (maxSteps := 1000000) (disch := first | omega | (simp only [LL]; omega)) only [W, V, TY, CC, reduceIte, Nat.reduceEqDiff, Nat.reduceAdd, Nat.reduceLeDiff, Nat.reduceLT, Int.reduceLE, Int.reduceLT, Int.reduceAdd, Int.reduceSub, Int.reduceToNat, Nat.reduceMul, sQ, ratC, rC, BB, beq_self_eq_true, zS]
  · simp (maxSteps := 1000000) (disch := first | omega | (simp only [LL]; omega)) only [W, V, TY, CC, reduceIte, Nat.reduceEqDiff, Nat.reduceAdd, Nat.reduceLeDiff, Nat.reduceLT, Int.reduceLE, Int.reduceLT, Int.reduceAdd, Int.reduceSub, Int.reduceToNat, Nat.reduceMul, sQ, ratC, rC, BB, beq_self_eq_true, zS]
  · simp (maxSteps := 1000000) (disch := first | omega | (simp only [LL]; omega)) only [W, V, TY, CC, reduceIte, Nat.reduceEqDiff, Nat.reduceAdd, Nat.reduceLeDiff, Nat.reduceLT, Int.reduceLE, Int.reduceLT, Int.reduceAdd, Int.reduceSub, Int.reduceToNat, Nat.reduceMul, sQ, ratC, rC, BB, beq_self_eq_true, zS]
  · simp (maxSteps := 1000000) (disch := first | omega | (simp only [LL]; omega)) only [W, V, TY, CC, reduceIte, Nat.reduceEqDiff, Nat.reduceAdd, Nat.reduceLeDiff, Nat.reduceLT, Int.reduceLE, Int.reduceLT, Int.reduceAdd, Int.reduceSub, Int.reduceToNat, Nat.reduceMul, sQ, ratC, rC, BB, beq_self_eq_true, zS]
  · simp (maxSteps := 1000000) (disch := first | omega | (simp only [LL]; omega)) only [W, V, TY, CC, reduceIte, Nat.reduceEqDiff, Nat.reduceAdd, Nat.reduceLeDiff, Nat.reduceLT, Int.reduceLE, Int.reduceLT, Int.reduceAdd, Int.reduceSub, Int.reduceToNat, Nat.reduceMul, sQ, ratC, rC, BB, beq_self_eq_true, zS]
  · simp (maxSteps := 1000000) (disch := first | omega | (simp only [LL]; omega)) only [W, V, TY, CC, reduceIte, Nat.reduceEqDiff, Nat.reduceAdd, Nat.reduceLeDiff, Nat.reduceLT, Int.reduceLE, Int.reduceLT, Int.reduceAdd, Int.reduceSub, Int.reduceToNat, Nat.reduceMul, sQ, ratC, rC, BB, beq_self_eq_true, zS]
  · simp (maxSteps := 1000000) (disch := first | omega | (simp only [LL]; omega)) only [W, V, TY, CC, reduceIte, Nat.reduceEqDiff, Nat.reduceAdd, Nat.reduceLeDiff, Nat.reduceLT, Int.reduceLE, Int.reduceLT, Int.reduceAdd, Int.reduceSub, Int.reduceToNat, Nat.reduceMul, sQ, ratC, rC, BB, beq_self_eq_true, zS]
  · simp (maxSteps := 1000000) (disch := first | omega | (simp only [LL]; omega)) only [W, V, TY, CC, reduceIte, Nat.reduceEqDiff, Nat.reduceAdd, Nat.reduceLeDiff, Nat.reduceLT, Int.reduceLE, Int.reduceLT, Int.reduceAdd, Int.reduceSub, Int.reduceToNat, Nat.reduceMul, sQ, ratC, rC, BB, beq_self_eq_true, zS]
end Go.Proofs.YtljmgdepldpmdaaGreatDoor.E

set_option linter.unusedSimpArgs false
set_option linter.unusedVariables false
set_option maxHeartbeats 2000000
namespace Go.Proofs.YtljmgdepldpmdaaGreatDoor.E
open Go.RowKit Limbs
theorem qs_inv (q : Rat) : qs (1 / q) ≤ qs q + 1 := by
  rw [Rat.div_def, Rat.one_mul, Rat.inv_def]
  have h1 := qs_div (q.den : Int) q.num
  have h2 := zl_nat q.den
  have h3 := qs_den q
  have h4 : zl q.num ≤ qs q := qs_num q
  omega
/-- examboard/examboardlaw45.LinkingBasics -/
def b4 : AF := ⟨56, 3, [.tmp 6],
  (.seq (.reg [
    ⟨some 3, .box 37 (.tmp 0), none⟩,
    ⟨some 4, .box 37 (.tmp 1), none⟩,
    ⟨some 5, .box 27 (.tmp 2), none⟩,
    ⟨some 6, .assign (.const (.bool false)), none⟩])
  (.seq (.reg [
    ⟨some 12, .load 37 (.tmp 3), none⟩,
    ⟨some 13, .call ⟨(.value (.func 19)), #[(.tmp 12)], #[37]⟩, none⟩,
    ⟨some 11, .move (.tmp 13), none⟩,
    ⟨some 14, .extract (.tmp 11) 0, none⟩,
    ⟨some 15, .extract (.tmp 11) 1, none⟩,
    ⟨some 7, .alloc 37, none⟩,
    ⟨none, .store 37 (.tmp 7) (.tmp 14), none⟩,
    ⟨some 8, .assign (.tmp 15), none⟩])
  (.seq (.reg [
    ⟨some 17, .load 37 (.tmp 3), none⟩,
    ⟨some 18, .call ⟨(.value (.func 20)), #[(.tmp 17)], #[37]⟩, none⟩,
    ⟨some 16, .move (.tmp 18), none⟩,
    ⟨some 19, .extract (.tmp 16) 0, none⟩,
    ⟨some 20, .extract (.tmp 16) 1, none⟩,
    ⟨some 9, .alloc 37, none⟩,
    ⟨none, .store 37 (.tmp 9) (.tmp 19), none⟩,
    ⟨some 10, .assign (.tmp 20), none⟩])
  (.seq (.seq (.dreg [
    ⟨some 21, .move (.tmp 8), none⟩,
    ⟨some 22, .move (.tmp 10), none⟩,
    ⟨some 23, .binOp .neq 38 (.tmp 21) (.tmp 22) 38, none⟩,
    ⟨some 24, .move (.tmp 23), none⟩,
    ⟨some 25, .load 37 (.tmp 7), some (24, false)⟩,
    ⟨some 26, .load 37 (.tmp 9), some (24, false)⟩,
    ⟨some 27, .call ⟨(.value (.func 21)), #[(.tmp 25), (.tmp 26)], #[37, 37]⟩, some (24, false)⟩,
    ⟨some 28, .unOp .not 4 (.tmp 27), some (24, false)⟩,
    ⟨some 29, .pick (.tmp 24) (.const (.bool true)) (.tmp 28), none⟩,
    ⟨some 30, .move (.tmp 29), none⟩,
    ⟨some 31, .load 37 (.tmp 3), some (30, false)⟩,
    ⟨some 32, .call ⟨(.value (.func 22)), #[(.tmp 31)], #[37]⟩, some (30, false)⟩,
    ⟨some 33, .load 37 (.tmp 3), some (30, false)⟩,
    ⟨some 34, .call ⟨(.value (.func 23)), #[(.tmp 33)], #[37]⟩, some (30, false)⟩,
    ⟨some 35, .binOp .neq 4 (.tmp 32) (.tmp 34) 4, some (30, false)⟩,
    ⟨some 36, .pick (.tmp 30) (.const (.bool true)) (.tmp 35), none⟩])
  (.cond (.tmp 36)
    (.seq (.reg [
      ⟨some 6, .assign (.const (.bool false)), none⟩])
    .ret)
    .skip))
  (.seq (.dreg [
    ⟨some 37, .load 37 (.tmp 3), none⟩,
    ⟨some 38, .load 27 (.tmp 5), none⟩,
    ⟨some 39, .call ⟨(.value (.func 25)), #[(.tmp 37), (.tmp 38)], #[37, 27]⟩, none⟩,
    ⟨some 40, .load 37 (.tmp 3), none⟩,
    ⟨some 41, .load 27 (.tmp 5), none⟩,
    ⟨some 42, .call ⟨(.value (.func 26)), #[(.tmp 40), (.tmp 41)], #[37, 27]⟩, none⟩,
    ⟨some 43, .call ⟨(.value (.func 24)), #[(.tmp 39), (.tmp 42)], #[27, 27]⟩, none⟩,
    ⟨some 44, .move (.tmp 43), none⟩,
    ⟨some 45, .load 37 (.tmp 3), some (44, true)⟩,
    ⟨some 46, .load 37 (.tmp 4), some (44, true)⟩,
    ⟨some 47, .call ⟨(.value (.func 27)), #[(.tmp 45), (.tmp 46)], #[37, 37]⟩, some (44, true)⟩,
    ⟨some 48, .load 37 (.tmp 3), some (44, true)⟩,
    ⟨some 49, .load 37 (.tmp 4), some (44, true)⟩,
    ⟨some 50, .call ⟨(.value (.func 28)), #[(.tmp 48), (.tmp 49)], #[37, 37]⟩, some (44, true)⟩,
    ⟨some 51, .call ⟨(.value (.func 21)), #[(.tmp 47), (.tmp 50)], #[37, 37]⟩, some (44, true)⟩,
    ⟨some 52, .pick (.tmp 44) (.tmp 51) (.const (.bool false)), none⟩,
    ⟨some 53, .move (.tmp 52), none⟩,
    ⟨some 54, .call ⟨(.value (.func 29)), #[], #[]⟩, some (53, true)⟩,
    ⟨some 55, .pick (.tmp 53) (.tmp 54) (.const (.bool false)), none⟩,
    ⟨some 6, .assign (.tmp 55), none⟩])
  .ret)))))⟩
theorem c4 : fcomp Tryz.prog 4 = ⟨b4.n, b4.np, b4.res, b4.body.bare⟩ := by kernel_rfl
theorem k4 : fok Tryz.prog 4 = true := by kernel_rfl
theorem l45_LinkingBasics {A B C D X : RR} (hA' : rok 1048576 A) (hB' : rok 1048576 B) (hC' : rok 1048576 C) (hD' : rok 1048576 D) (hX' : rok 1048576 X) : AFun Tryz.prog 4 [.agg (rC A ++ rC B), .agg (rC C ++ rC D), .agg (rC X)] [.one (.lit (.bool true))] := by
  have hA := hA'.mono (b := 68719476600) (by decide)
  have hB := hB'.mono (b := 68719476600) (by decide)
  have hC := hC'.mono (b := 68719476600) (by decide)
  have hD := hD'.mono (b := 68719476600) (by decide)
  have hX := hX'.mono (b := 68719476600) (by decide)
  have qA := qs_rr hA'
  have qB := qs_rr hB'
  have qC := qs_rr hC'
  have qD' := qs_rr hD'
  have qX := qs_rr hX'
  have qi := qs_inv A.q
  have q1 := qs_mul (1 / A.q) B.q
  have q2 := qs_mul A.q X.q
  have q3 := qs_mul C.q B.q
  have q4 := qs_mul A.q C.q
  have q5 := qs_add (A.q * X.q) B.q
  have q6 := qs_add (C.q * B.q) D.q
  have q7 := qs_neg (1 / A.q * B.q)
  have ka := k_Apply hA hB hX (by omega)
  have fa := f_Apply hA hB hX (by omega)
  have sr := f4_SameRatio (q := A.q * X.q + B.q) (by omega)
  have kc := k_Compose hA hB hC hD (by omega)
  have fc := f_Compose hA hB hC hD (by omega)
  have sc := f_Same (p := A.q * C.q) (q := C.q * B.q + D.q) (by omega) (by omega)
  have kv := k_Valid (B := B) hA
  have fv := f_Valid (B := B) hA
  by_cases hp : 0 < A.q
  · rw [decide_eq_true hp] at kv fv
    have ki := k_Invert hA hB hp (by omega) (by omega)
    have fi := f_Invert hA hB hp (by omega) (by rw [Rat.mul_comm]; omega)
    rw [Rat.mul_comm B.q (1 / A.q)] at fi
    have si := f_Same (p := 1 / A.q) (q := -(1 / A.q * B.q)) (by omega) (by omega)
    refine afun_intro mo_ _ _ c4 k4 _ _ rfl (by decide) ?_
    unfold b4
    simp (maxSteps := 1000000) (disch := first | omega | (simp only [LL]; omega)) only [W, V, TY, CC, reduceIte, Nat.reduceEqDiff, Nat.reduceAdd, Nat.reduceLeDiff, Nat.reduceLT, Int.reduceLE, Int.reduceLT, Int.reduceAdd, Int.reduceSub, Int.reduceToNat, Nat.reduceMul, rC]
    refine a_call _ _ ki (by simp (maxSteps := 1000000) (disch := first | omega | (simp only [LL]; omega)) only [W, V, TY, CC, reduceIte, Nat.reduceEqDiff, Nat.reduceAdd, Nat.reduceLeDiff, Nat.reduceLT, Int.reduceLE, Int.reduceLT, Int.reduceAdd, Int.reduceSub, Int.reduceToNat, Nat.reduceMul, rC, sQ, ratC, eq_self, not_true_eq_false, decide_false, decide_true, beq_self_eq_true, Bool.not_true]) ?_
    simp (maxSteps := 1000000) (disch := first | omega | (simp only [LL]; omega)) only [W, V, TY, CC, reduceIte, Nat.reduceEqDiff, Nat.reduceAdd, Nat.reduceLeDiff, Nat.reduceLT, Int.reduceLE, Int.reduceLT, Int.reduceAdd, Int.reduceSub, Int.reduceToNat, Nat.reduceMul, rC, sQ, ratC, eq_self, not_true_eq_false, decide_false, decide_true, beq_self_eq_true, Bool.not_true]
    refine a_call _ _ fi (by simp (maxSteps := 1000000) (disch := first | omega | (simp only [LL]; omega)) only [W, V, TY, CC, reduceIte, Nat.reduceEqDiff, Nat.reduceAdd, Nat.reduceLeDiff, Nat.reduceLT, Int.reduceLE, Int.reduceLT, Int.reduceAdd, Int.reduceSub, Int.reduceToNat, Nat.reduceMul, rC, sQ, ratC, eq_self, not_true_eq_false, decide_false, decide_true, beq_self_eq_true, Bool.not_true]) ?_
    simp (maxSteps := 1000000) (disch := first | omega | (simp only [LL]; omega)) only [W, V, TY, CC, reduceIte, Nat.reduceEqDiff, Nat.reduceAdd, Nat.reduceLeDiff, Nat.reduceLT, Int.reduceLE, Int.reduceLT, Int.reduceAdd, Int.reduceSub, Int.reduceToNat, Nat.reduceMul, rC, sQ, ratC, eq_self, not_true_eq_false, decide_false, decide_true, beq_self_eq_true, Bool.not_true]
    refine a_call _ _ si (by simp (maxSteps := 1000000) (disch := first | omega | (simp only [LL]; omega)) only [W, V, TY, CC, reduceIte, Nat.reduceEqDiff, Nat.reduceAdd, Nat.reduceLeDiff, Nat.reduceLT, Int.reduceLE, Int.reduceLT, Int.reduceAdd, Int.reduceSub, Int.reduceToNat, Nat.reduceMul, rC, sQ, ratC, eq_self, not_true_eq_false, decide_false, decide_true, beq_self_eq_true, Bool.not_true]) ?_
    simp (maxSteps := 1000000) (disch := first | omega | (simp only [LL]; omega)) only [W, V, TY, CC, reduceIte, Nat.reduceEqDiff, Nat.reduceAdd, Nat.reduceLeDiff, Nat.reduceLT, Int.reduceLE, Int.reduceLT, Int.reduceAdd, Int.reduceSub, Int.reduceToNat, Nat.reduceMul, rC, sQ, ratC, eq_self, not_true_eq_false, decide_false, decide_true, beq_self_eq_true, Bool.not_true]
    refine a_call _ _ kv (by simp (maxSteps := 1000000) (disch := first | omega | (simp only [LL]; omega)) only [W, V, TY, CC, reduceIte, Nat.reduceEqDiff, Nat.reduceAdd, Nat.reduceLeDiff, Nat.reduceLT, Int.reduceLE, Int.reduceLT, Int.reduceAdd, Int.reduceSub, Int.reduceToNat, Nat.reduceMul, rC, sQ, ratC, eq_self, not_true_eq_false, decide_false, decide_true, beq_self_eq_true, Bool.not_true]) ?_
    simp (maxSteps := 1000000) (disch := first | omega | (simp only [LL]; omega)) only [W, V, TY, CC, reduceIte, Nat.reduceEqDiff, Nat.reduceAdd, Nat.reduceLeDiff, Nat.reduceLT, Int.reduceLE, Int.reduceLT, Int.reduceAdd, Int.reduceSub, Int.reduceToNat, Nat.reduceMul, rC, sQ, ratC, eq_self, not_true_eq_false, decide_false, decide_true, beq_self_eq_true, Bool.not_true]
    refine a_call _ _ fv (by simp (maxSteps := 1000000) (disch := first | omega | (simp only [LL]; omega)) only [W, V, TY, CC, reduceIte, Nat.reduceEqDiff, Nat.reduceAdd, Nat.reduceLeDiff, Nat.reduceLT, Int.reduceLE, Int.reduceLT, Int.reduceAdd, Int.reduceSub, Int.reduceToNat, Nat.reduceMul, rC, sQ, ratC, eq_self, not_true_eq_false, decide_false, decide_true, beq_self_eq_true, Bool.not_true]) ?_
    simp (maxSteps := 1000000) (disch := first | omega | (simp only [LL]; omega)) only [W, V, TY, CC, reduceIte, Nat.reduceEqDiff, Nat.reduceAdd, Nat.reduceLeDiff, Nat.reduceLT, Int.reduceLE, Int.reduceLT, Int.reduceAdd, Int.reduceSub, Int.reduceToNat, Nat.reduceMul, rC, sQ, ratC, eq_self, not_true_eq_false, decide_false, decide_true, beq_self_eq_true, Bool.not_true]
    refine a_call _ _ ka (by simp (maxSteps := 1000000) (disch := first | omega | (simp only [LL]; omega)) only [W, V, TY, CC, reduceIte, Nat.reduceEqDiff, Nat.reduceAdd, Nat.reduceLeDiff, Nat.reduceLT, Int.reduceLE, Int.reduceLT, Int.reduceAdd, Int.reduceSub, Int.reduceToNat, Nat.reduceMul, rC, sQ, ratC, eq_self, not_true_eq_false, decide_false, decide_true, beq_self_eq_true, Bool.not_true]) ?_
    simp (maxSteps := 1000000) (disch := first | omega | (simp only [LL]; omega)) only [W, V, TY, CC, reduceIte, Nat.reduceEqDiff, Nat.reduceAdd, Nat.reduceLeDiff, Nat.reduceLT, Int.reduceLE, Int.reduceLT, Int.reduceAdd, Int.reduceSub, Int.reduceToNat, Nat.reduceMul, rC, sQ, ratC, eq_self, not_true_eq_false, decide_false, decide_true, beq_self_eq_true, Bool.not_true]
    refine a_call _ _ fa (by simp (maxSteps := 1000000) (disch := first | omega | (simp only [LL]; omega)) only [W, V, TY, CC, reduceIte, Nat.reduceEqDiff, Nat.reduceAdd, Nat.reduceLeDiff, Nat.reduceLT, Int.reduceLE, Int.reduceLT, Int.reduceAdd, Int.reduceSub, Int.reduceToNat, Nat.reduceMul, rC, sQ, ratC, eq_self, not_true_eq_false, decide_false, decide_true, beq_self_eq_true, Bool.not_true]) ?_
    simp (maxSteps := 1000000) (disch := first | omega | (simp only [LL]; omega)) only [W, V, TY, CC, reduceIte, Nat.reduceEqDiff, Nat.reduceAdd, Nat.reduceLeDiff, Nat.reduceLT, Int.reduceLE, Int.reduceLT, Int.reduceAdd, Int.reduceSub, Int.reduceToNat, Nat.reduceMul, rC, sQ, ratC, eq_self, not_true_eq_false, decide_false, decide_true, beq_self_eq_true, Bool.not_true]
    refine a_call _ _ sr (by simp (maxSteps := 1000000) (disch := first | omega | (simp only [LL]; omega)) only [W, V, TY, CC, reduceIte, Nat.reduceEqDiff, Nat.reduceAdd, Nat.reduceLeDiff, Nat.reduceLT, Int.reduceLE, Int.reduceLT, Int.reduceAdd, Int.reduceSub, Int.reduceToNat, Nat.reduceMul, rC, sQ, ratC, eq_self, not_true_eq_false, decide_false, decide_true, beq_self_eq_true, Bool.not_true]) ?_
    simp (maxSteps := 1000000) (disch := first | omega | (simp only [LL]; omega)) only [W, V, TY, CC, reduceIte, Nat.reduceEqDiff, Nat.reduceAdd, Nat.reduceLeDiff, Nat.reduceLT, Int.reduceLE, Int.reduceLT, Int.reduceAdd, Int.reduceSub, Int.reduceToNat, Nat.reduceMul, rC, sQ, ratC, eq_self, not_true_eq_false, decide_false, decide_true, beq_self_eq_true, Bool.not_true]
    refine a_call _ _ kc (by simp (maxSteps := 1000000) (disch := first | omega | (simp only [LL]; omega)) only [W, V, TY, CC, reduceIte, Nat.reduceEqDiff, Nat.reduceAdd, Nat.reduceLeDiff, Nat.reduceLT, Int.reduceLE, Int.reduceLT, Int.reduceAdd, Int.reduceSub, Int.reduceToNat, Nat.reduceMul, rC, sQ, ratC, eq_self, not_true_eq_false, decide_false, decide_true, beq_self_eq_true, Bool.not_true]) ?_
    simp (maxSteps := 1000000) (disch := first | omega | (simp only [LL]; omega)) only [W, V, TY, CC, reduceIte, Nat.reduceEqDiff, Nat.reduceAdd, Nat.reduceLeDiff, Nat.reduceLT, Int.reduceLE, Int.reduceLT, Int.reduceAdd, Int.reduceSub, Int.reduceToNat, Nat.reduceMul, rC, sQ, ratC, eq_self, not_true_eq_false, decide_false, decide_true, beq_self_eq_true, Bool.not_true]
    refine a_call _ _ fc (by simp (maxSteps := 1000000) (disch := first | omega | (simp only [LL]; omega)) only [W, V, TY, CC, reduceIte, Nat.reduceEqDiff, Nat.reduceAdd, Nat.reduceLeDiff, Nat.reduceLT, Int.reduceLE, Int.reduceLT, Int.reduceAdd, Int.reduceSub, Int.reduceToNat, Nat.reduceMul, rC, sQ, ratC, eq_self, not_true_eq_false, decide_false, decide_true, beq_self_eq_true, Bool.not_true]) ?_
    simp (maxSteps := 1000000) (disch := first | omega | (simp only [LL]; omega)) only [W, V, TY, CC, reduceIte, Nat.reduceEqDiff, Nat.reduceAdd, Nat.reduceLeDiff, Nat.reduceLT, Int.reduceLE, Int.reduceLT, Int.reduceAdd, Int.reduceSub, Int.reduceToNat, Nat.reduceMul, rC, sQ, ratC, eq_self, not_true_eq_false, decide_false, decide_true, beq_self_eq_true, Bool.not_true]
    refine a_call _ _ sc (by simp (maxSteps := 1000000) (disch := first | omega | (simp only [LL]; omega)) only [W, V, TY, CC, reduceIte, Nat.reduceEqDiff, Nat.reduceAdd, Nat.reduceLeDiff, Nat.reduceLT, Int.reduceLE, Int.reduceLT, Int.reduceAdd, Int.reduceSub, Int.reduceToNat, Nat.reduceMul, rC, sQ, ratC, eq_self, not_true_eq_false, decide_false, decide_true, beq_self_eq_true, Bool.not_true]) ?_
    simp (maxSteps := 1000000) (disch := first | omega | (simp only [LL]; omega)) only [W, V, TY, CC, reduceIte, Nat.reduceEqDiff, Nat.reduceAdd, Nat.reduceLeDiff, Nat.reduceLT, Int.reduceLE, Int.reduceLT, Int.reduceAdd, Int.reduceSub, Int.reduceToNat, Nat.reduceMul, rC, sQ, ratC, eq_self, not_true_eq_false, decide_false, decide_true, beq_self_eq_true, Bool.not_true]
    refine a_call _ _ l45_awake (by simp (maxSteps := 1000000) (disch := first | omega | (simp only [LL]; omega)) only [W, V, TY, CC, reduceIte, Nat.reduceEqDiff, Nat.reduceAdd, Nat.reduceLeDiff, Nat.reduceLT, Int.reduceLE, Int.reduceLT, Int.reduceAdd, Int.reduceSub, Int.reduceToNat, Nat.reduceMul, rC, sQ, ratC, eq_self, not_true_eq_false, decide_false, decide_true, beq_self_eq_true, Bool.not_true]) ?_
    simp (maxSteps := 1000000) (disch := first | omega | (simp only [LL]; omega)) only [W, V, TY, CC, reduceIte, Nat.reduceEqDiff, Nat.reduceAdd, Nat.reduceLeDiff, Nat.reduceLT, Int.reduceLE, Int.reduceLT, Int.reduceAdd, Int.reduceSub, Int.reduceToNat, Nat.reduceMul, rC, sQ, ratC, eq_self, not_true_eq_false, decide_false, decide_true, beq_self_eq_true, Bool.not_true]
    refine f_ret _ _ _ ?_
    simp (maxSteps := 1000000) (disch := first | omega | (simp only [LL]; omega)) only [W, V, TY, CC, reduceIte, Nat.reduceEqDiff, Nat.reduceAdd, Nat.reduceLeDiff, Nat.reduceLT, Int.reduceLE, Int.reduceLT, Int.reduceAdd, Int.reduceSub, Int.reduceToNat, Nat.reduceMul, rC, sQ, ratC, eq_self, not_true_eq_false, decide_false, decide_true, beq_self_eq_true, Bool.not_true]
  · rw [decide_eq_false hp] at kv fv
    have ki := k_InvertBad (B := B) hA hp
    have fi := f_InvertBad (B := B) hA hp
    have si := f_SameZ
    refine afun_intro mo_ _ _ c4 k4 _ _ rfl (by decide) ?_
    unfold b4
    simp (maxSteps := 1000000) (disch := first | omega | (simp only [LL]; omega)) only [W, V, TY, CC, reduceIte, Nat.reduceEqDiff, Nat.reduceAdd, Nat.reduceLeDiff, Nat.reduceLT, Int.reduceLE, Int.reduceLT, Int.reduceAdd, Int.reduceSub, Int.reduceToNat, Nat.reduceMul, rC]
    refine a_call _ _ ki (by simp (maxSteps := 1000000) (disch := first | omega | (simp only [LL]; omega)) only [W, V, TY, CC, reduceIte, Nat.reduceEqDiff, Nat.reduceAdd, Nat.reduceLeDiff, Nat.reduceLT, Int.reduceLE, Int.reduceLT, Int.reduceAdd, Int.reduceSub, Int.reduceToNat, Nat.reduceMul, rC, sQ, ratC, eq_self, not_true_eq_false, decide_false, decide_true, beq_self_eq_true, Bool.not_true, zS]) ?_
    simp (maxSteps := 1000000) (disch := first | omega | (simp only [LL]; omega)) only [W, V, TY, CC, reduceIte, Nat.reduceEqDiff, Nat.reduceAdd, Nat.reduceLeDiff, Nat.reduceLT, Int.reduceLE, Int.reduceLT, Int.reduceAdd, Int.reduceSub, Int.reduceToNat, Nat.reduceMul, rC, sQ, ratC, eq_self, not_true_eq_false, decide_false, decide_true, beq_self_eq_true, Bool.not_true, zS]
    refine a_call _ _ fi (by simp (maxSteps := 1000000) (disch := first | omega | (simp only [LL]; omega)) only [W, V, TY, CC, reduceIte, Nat.reduceEqDiff, Nat.reduceAdd, Nat.reduceLeDiff, Nat.reduceLT, Int.reduceLE, Int.reduceLT, Int.reduceAdd, Int.reduceSub, Int.reduceToNat, Nat.reduceMul, rC, sQ, ratC, eq_self, not_true_eq_false, decide_false, decide_true, beq_self_eq_true, Bool.not_true, zS]) ?_
    simp (maxSteps := 1000000) (disch := first | omega | (simp only [LL]; omega)) only [W, V, TY, CC, reduceIte, Nat.reduceEqDiff, Nat.reduceAdd, Nat.reduceLeDiff, Nat.reduceLT, Int.reduceLE, Int.reduceLT, Int.reduceAdd, Int.reduceSub, Int.reduceToNat, Nat.reduceMul, rC, sQ, ratC, eq_self, not_true_eq_false, decide_false, decide_true, beq_self_eq_true, Bool.not_true, zS]
    refine a_call _ _ si (by simp (maxSteps := 1000000) (disch := first | omega | (simp only [LL]; omega)) only [W, V, TY, CC, reduceIte, Nat.reduceEqDiff, Nat.reduceAdd, Nat.reduceLeDiff, Nat.reduceLT, Int.reduceLE, Int.reduceLT, Int.reduceAdd, Int.reduceSub, Int.reduceToNat, Nat.reduceMul, rC, sQ, ratC, eq_self, not_true_eq_false, decide_false, decide_true, beq_self_eq_true, Bool.not_true, zS]) ?_
    simp (maxSteps := 1000000) (disch := first | omega | (simp only [LL]; omega)) only [W, V, TY, CC, reduceIte, Nat.reduceEqDiff, Nat.reduceAdd, Nat.reduceLeDiff, Nat.reduceLT, Int.reduceLE, Int.reduceLT, Int.reduceAdd, Int.reduceSub, Int.reduceToNat, Nat.reduceMul, rC, sQ, ratC, eq_self, not_true_eq_false, decide_false, decide_true, beq_self_eq_true, Bool.not_true, zS]
    refine a_call _ _ kv (by simp (maxSteps := 1000000) (disch := first | omega | (simp only [LL]; omega)) only [W, V, TY, CC, reduceIte, Nat.reduceEqDiff, Nat.reduceAdd, Nat.reduceLeDiff, Nat.reduceLT, Int.reduceLE, Int.reduceLT, Int.reduceAdd, Int.reduceSub, Int.reduceToNat, Nat.reduceMul, rC, sQ, ratC, eq_self, not_true_eq_false, decide_false, decide_true, beq_self_eq_true, Bool.not_true, zS]) ?_
    simp (maxSteps := 1000000) (disch := first | omega | (simp only [LL]; omega)) only [W, V, TY, CC, reduceIte, Nat.reduceEqDiff, Nat.reduceAdd, Nat.reduceLeDiff, Nat.reduceLT, Int.reduceLE, Int.reduceLT, Int.reduceAdd, Int.reduceSub, Int.reduceToNat, Nat.reduceMul, rC, sQ, ratC, eq_self, not_true_eq_false, decide_false, decide_true, beq_self_eq_true, Bool.not_true, zS]
    refine a_call _ _ fv (by simp (maxSteps := 1000000) (disch := first | omega | (simp only [LL]; omega)) only [W, V, TY, CC, reduceIte, Nat.reduceEqDiff, Nat.reduceAdd, Nat.reduceLeDiff, Nat.reduceLT, Int.reduceLE, Int.reduceLT, Int.reduceAdd, Int.reduceSub, Int.reduceToNat, Nat.reduceMul, rC, sQ, ratC, eq_self, not_true_eq_false, decide_false, decide_true, beq_self_eq_true, Bool.not_true, zS]) ?_
    simp (maxSteps := 1000000) (disch := first | omega | (simp only [LL]; omega)) only [W, V, TY, CC, reduceIte, Nat.reduceEqDiff, Nat.reduceAdd, Nat.reduceLeDiff, Nat.reduceLT, Int.reduceLE, Int.reduceLT, Int.reduceAdd, Int.reduceSub, Int.reduceToNat, Nat.reduceMul, rC, sQ, ratC, eq_self, not_true_eq_false, decide_false, decide_true, beq_self_eq_true, Bool.not_true, zS]
    refine a_call _ _ ka (by simp (maxSteps := 1000000) (disch := first | omega | (simp only [LL]; omega)) only [W, V, TY, CC, reduceIte, Nat.reduceEqDiff, Nat.reduceAdd, Nat.reduceLeDiff, Nat.reduceLT, Int.reduceLE, Int.reduceLT, Int.reduceAdd, Int.reduceSub, Int.reduceToNat, Nat.reduceMul, rC, sQ, ratC, eq_self, not_true_eq_false, decide_false, decide_true, beq_self_eq_true, Bool.not_true, zS]) ?_
    simp (maxSteps := 1000000) (disch := first | omega | (simp only [LL]; omega)) only [W, V, TY, CC, reduceIte, Nat.reduceEqDiff, Nat.reduceAdd, Nat.reduceLeDiff, Nat.reduceLT, Int.reduceLE, Int.reduceLT, Int.reduceAdd, Int.reduceSub, Int.reduceToNat, Nat.reduceMul, rC, sQ, ratC, eq_self, not_true_eq_false, decide_false, decide_true, beq_self_eq_true, Bool.not_true, zS]
    refine a_call _ _ fa (by simp (maxSteps := 1000000) (disch := first | omega | (simp only [LL]; omega)) only [W, V, TY, CC, reduceIte, Nat.reduceEqDiff, Nat.reduceAdd, Nat.reduceLeDiff, Nat.reduceLT, Int.reduceLE, Int.reduceLT, Int.reduceAdd, Int.reduceSub, Int.reduceToNat, Nat.reduceMul, rC, sQ, ratC, eq_self, not_true_eq_false, decide_false, decide_true, beq_self_eq_true, Bool.not_true, zS]) ?_
    simp (maxSteps := 1000000) (disch := first | omega | (simp only [LL]; omega)) only [W, V, TY, CC, reduceIte, Nat.reduceEqDiff, Nat.reduceAdd, Nat.reduceLeDiff, Nat.reduceLT, Int.reduceLE, Int.reduceLT, Int.reduceAdd, Int.reduceSub, Int.reduceToNat, Nat.reduceMul, rC, sQ, ratC, eq_self, not_true_eq_false, decide_false, decide_true, beq_self_eq_true, Bool.not_true, zS]
    refine a_call _ _ sr (by simp (maxSteps := 1000000) (disch := first | omega | (simp only [LL]; omega)) only [W, V, TY, CC, reduceIte, Nat.reduceEqDiff, Nat.reduceAdd, Nat.reduceLeDiff, Nat.reduceLT, Int.reduceLE, Int.reduceLT, Int.reduceAdd, Int.reduceSub, Int.reduceToNat, Nat.reduceMul, rC, sQ, ratC, eq_self, not_true_eq_false, decide_false, decide_true, beq_self_eq_true, Bool.not_true, zS]) ?_
    simp (maxSteps := 1000000) (disch := first | omega | (simp only [LL]; omega)) only [W, V, TY, CC, reduceIte, Nat.reduceEqDiff, Nat.reduceAdd, Nat.reduceLeDiff, Nat.reduceLT, Int.reduceLE, Int.reduceLT, Int.reduceAdd, Int.reduceSub, Int.reduceToNat, Nat.reduceMul, rC, sQ, ratC, eq_self, not_true_eq_false, decide_false, decide_true, beq_self_eq_true, Bool.not_true, zS]
    refine a_call _ _ kc (by simp (maxSteps := 1000000) (disch := first | omega | (simp only [LL]; omega)) only [W, V, TY, CC, reduceIte, Nat.reduceEqDiff, Nat.reduceAdd, Nat.reduceLeDiff, Nat.reduceLT, Int.reduceLE, Int.reduceLT, Int.reduceAdd, Int.reduceSub, Int.reduceToNat, Nat.reduceMul, rC, sQ, ratC, eq_self, not_true_eq_false, decide_false, decide_true, beq_self_eq_true, Bool.not_true, zS]) ?_
    simp (maxSteps := 1000000) (disch := first | omega | (simp only [LL]; omega)) only [W, V, TY, CC, reduceIte, Nat.reduceEqDiff, Nat.reduceAdd, Nat.reduceLeDiff, Nat.reduceLT, Int.reduceLE, Int.reduceLT, Int.reduceAdd, Int.reduceSub, Int.reduceToNat, Nat.reduceMul, rC, sQ, ratC, eq_self, not_true_eq_false, decide_false, decide_true, beq_self_eq_true, Bool.not_true, zS]
    refine a_call _ _ fc (by simp (maxSteps := 1000000) (disch := first | omega | (simp only [LL]; omega)) only [W, V, TY, CC, reduceIte, Nat.reduceEqDiff, Nat.reduceAdd, Nat.reduceLeDiff, Nat.reduceLT, Int.reduceLE, Int.reduceLT, Int.reduceAdd, Int.reduceSub, Int.reduceToNat, Nat.reduceMul, rC, sQ, ratC, eq_self, not_true_eq_false, decide_false, decide_true, beq_self_eq_true, Bool.not_true, zS]) ?_
    simp (maxSteps := 1000000) (disch := first | omega | (simp only [LL]; omega)) only [W, V, TY, CC, reduceIte, Nat.reduceEqDiff, Nat.reduceAdd, Nat.reduceLeDiff, Nat.reduceLT, Int.reduceLE, Int.reduceLT, Int.reduceAdd, Int.reduceSub, Int.reduceToNat, Nat.reduceMul, rC, sQ, ratC, eq_self, not_true_eq_false, decide_false, decide_true, beq_self_eq_true, Bool.not_true, zS]
    refine a_call _ _ sc (by simp (maxSteps := 1000000) (disch := first | omega | (simp only [LL]; omega)) only [W, V, TY, CC, reduceIte, Nat.reduceEqDiff, Nat.reduceAdd, Nat.reduceLeDiff, Nat.reduceLT, Int.reduceLE, Int.reduceLT, Int.reduceAdd, Int.reduceSub, Int.reduceToNat, Nat.reduceMul, rC, sQ, ratC, eq_self, not_true_eq_false, decide_false, decide_true, beq_self_eq_true, Bool.not_true, zS]) ?_
    simp (maxSteps := 1000000) (disch := first | omega | (simp only [LL]; omega)) only [W, V, TY, CC, reduceIte, Nat.reduceEqDiff, Nat.reduceAdd, Nat.reduceLeDiff, Nat.reduceLT, Int.reduceLE, Int.reduceLT, Int.reduceAdd, Int.reduceSub, Int.reduceToNat, Nat.reduceMul, rC, sQ, ratC, eq_self, not_true_eq_false, decide_false, decide_true, beq_self_eq_true, Bool.not_true, zS]
    refine a_call _ _ l45_awake (by simp (maxSteps := 1000000) (disch := first | omega | (simp only [LL]; omega)) only [W, V, TY, CC, reduceIte, Nat.reduceEqDiff, Nat.reduceAdd, Nat.reduceLeDiff, Nat.reduceLT, Int.reduceLE, Int.reduceLT, Int.reduceAdd, Int.reduceSub, Int.reduceToNat, Nat.reduceMul, rC, sQ, ratC, eq_self, not_true_eq_false, decide_false, decide_true, beq_self_eq_true, Bool.not_true, zS]) ?_
    simp (maxSteps := 1000000) (disch := first | omega | (simp only [LL]; omega)) only [W, V, TY, CC, reduceIte, Nat.reduceEqDiff, Nat.reduceAdd, Nat.reduceLeDiff, Nat.reduceLT, Int.reduceLE, Int.reduceLT, Int.reduceAdd, Int.reduceSub, Int.reduceToNat, Nat.reduceMul, rC, sQ, ratC, eq_self, not_true_eq_false, decide_false, decide_true, beq_self_eq_true, Bool.not_true, zS]
    refine f_ret _ _ _ ?_
    simp (maxSteps := 1000000) (disch := first | omega | (simp only [LL]; omega)) only [W, V, TY, CC, reduceIte, Nat.reduceEqDiff, Nat.reduceAdd, Nat.reduceLeDiff, Nat.reduceLT, Int.reduceLE, Int.reduceLT, Int.reduceAdd, Int.reduceSub, Int.reduceToNat, Nat.reduceMul, rC, sQ, ratC, eq_self, not_true_eq_false, decide_false, decide_true, beq_self_eq_true, Bool.not_true]
end Go.Proofs.YtljmgdepldpmdaaGreatDoor.E

set_option linter.unusedSimpArgs false
set_option linter.unusedVariables false
set_option maxHeartbeats 2000000
namespace Go.Proofs.YtljmgdepldpmdaaGreatDoor.E
open Go.RowKit Go.ChangeShapes Go.WideShapes Go.Deep Limbs
section
variable {H : Type}
theorem bk_one (d : DataW H) : 1 ≤ Rows.uptoBulk d := by
  cases d with
  | lit l => cases l <;> simp [Rows.uptoBulk]
  | nil => simp [Rows.uptoBulk]
  | ptr d => simp [Rows.uptoBulk]
  | slice elems spare => simp [Rows.uptoBulk]
  | agg parts => simp [Rows.uptoBulk]
  | iface t d => simp [Rows.uptoBulk]
  | map entries => simp [Rows.uptoBulk]
  | held h => simp [Rows.uptoBulk]
theorem bk_part {d : DataW H} {l : List (DataW H)} (h : d ∈ l) : Rows.uptoBulk d ≤ Rows.uptoBulkAll l := by
  induction l with
  | nil => cases h
  | cons x r ih =>
    simp only [Rows.uptoBulkAll]
    cases List.mem_cons.1 h with
    | inl e => subst e; omega
    | inr e => have := ih e; omega
theorem bk_len (l : List (DataW H)) : l.length ≤ Rows.uptoBulkAll l := by
  induction l with
  | nil => simp [Rows.uptoBulkAll]
  | cons x r ih => have := bk_one x; simp only [Rows.uptoBulkAll, List.length_cons]; omega
variable {enc : TypeId × Value → H} {P : Program} {w : World} {base : Nat} {sp : Nat → Bool} {hd : Bool}
/-- a slice of one-cell elements -/
theorem rdB_slice {α : Type} [Inhabited α] (g : α → Dt) (Good : α → DataW H → Prop) {t e : TypeId} (ht : P.underlying t = some (.slice e)) (hc : P.cellsOf e = 1)
    (hel : ∀ n V D Pl, DataW.trod enc P w base sp hd n e [V] = some (D, Pl) → ∃ x, Good x D ∧ Rep w (fun k => k < w.heap.size) (g x) V) {fuel : Nat} {cs : List Value} {y : DataW H × List MemPlace}
    (h : DataW.trod enc P w base sp hd fuel t cs = some y) : ∃ l : List α, (∀ x ∈ l, ∃ D, Good x D ∧ Rows.uptoBulk D + 1 ≤ Rows.uptoBulk y.1) ∧ l.length + 1 ≤ Rows.uptoBulk y.1 ∧ ∃ v, cs = [v] ∧ Rep w (fun k => k < w.heap.size) (rowD (fun x => [g x]) l) v := by
  rcases open_slice1 ht hc h with ⟨rfl, rfl⟩ | ⟨a, len, cap, m, n, V, D, Pl, rfl, _, hl, _, hm, rfl, hx⟩
  · exact ⟨[], fun x hx => by simp at hx, by simp [Rows.uptoBulk], _, rfl, .sl none 0 0 [] [] rfl (Nat.le_refl _) (fun j u hj => by simp at hj) (fun j u d hj => by simp at hj)⟩
  · have hle : len ≤ m := by rw [hm]; split <;> omega
    obtain ⟨X, hX⟩ := choose_lt (n := len) (α := α) (p := fun i x => Good x (D i) ∧ Rep w (fun k => k < w.heap.size) (g x) (V i)) (fun i hi => hel n _ _ _ (hx i (by omega)).2)
    refine ⟨(List.range len).map X, fun x hxm => ?_, ?_, _, rfl, ?_⟩
    · obtain ⟨i, hi, rfl⟩ := List.mem_map.1 hxm
      refine ⟨D i, (hX i (by simpa using hi)).1, ?_⟩
      have := bk_part (d := D i) (l := (List.range len).map D) (List.mem_map.2 ⟨i, hi, rfl⟩)
      show Rows.uptoBulk (D i) + 1 ≤ Rows.uptoBulk (.slice _ _)
      simp only [Rows.uptoBulk]
      omega
    · have := bk_len ((List.range len).map D)
      show _ ≤ Rows.uptoBulk (.slice _ _)
      simp only [Rows.uptoBulk, List.length_map, List.length_range] at *
      omega
    · have hr : rowD (fun x => [g x]) ((List.range len).map X) = .sl len ((List.range len).map fun i => g (X i)) := by
        unfold rowD rowC
        congr 1
        · simp
        · rw [List.flatMap_map]
          induction List.range len with
          | nil => rfl
          | cons i l ih => simp only [List.flatMap_cons, List.map_cons, ih]; rfl
      rw [hr]
      refine .sl (some a) len cap _ ((List.range len).map V) (by simp) hl (fun j u hj => ?_) (fun j u d hj hd' => ?_)
      · rw [List.getElem?_map] at hj
        cases hq : (List.range len)[j]? with
        | none => rw [hq] at hj; simp at hj
        | some i =>
          rw [hq] at hj
          obtain ⟨hlt, hi⟩ := List.getElem?_eq_some_iff.1 hq
          simp only [List.length_range] at hlt
          simp only [List.getElem_range] at hi
          subst hi
          simp only [Option.map_some, Option.some.injEq] at hj
          subst hj
          have := (hx j (by omega)).1
          exact ⟨a, rfl, cell_block this, this⟩
      · rw [List.getElem?_map] at hj hd'
        cases hq : (List.range len)[j]? with
        | none => rw [hq] at hj; simp at hj
        | some i =>
          rw [hq] at hj hd'
          obtain ⟨hlt, hi⟩ := List.getElem?_eq_some_iff.1 hq
          simp only [List.length_range] at hlt
          simp only [Option.map_some, Option.some.injEq] at hj hd'
          subst hj; subst hd'
          have : i < len := by simp at hi; omega
          exact (hX i this).2
theorem rdB_nat {t e : TypeId} (ht : P.underlying t = some (.slice e)) (he : P.underlying e = some (.int .u32)) (hc : P.cellsOf e = 1) {fuel : Nat} {cs : List Value} {y : DataW H × List MemPlace}
    (h : DataW.trod enc P w base sp hd fuel t cs = some y) : ∃ l : List Int, Lim l ∧ l.length + 1 ≤ Rows.uptoBulk y.1 ∧ ∃ v, cs = [v] ∧ Rep w (fun k => k < w.heap.size) (natD l) v := by
  obtain ⟨l, h1, h2, h3⟩ := rdB_slice (fun n => .lit (.int .u32 n)) (fun x _ => 0 ≤ x ∧ x < 4294967296) ht hc (fun n V D Pl hV => by
    obtain ⟨x, hx, _, hw⟩ := DataW.trod_int he hV
    cases hx
    have := bounds_u32 hw
    exact ⟨x, ⟨this.1, by omega⟩, .lit _ rfl⟩) h
  exact ⟨l, fun x hx => by obtain ⟨_, h, _⟩ := h1 x hx; exact h, h2, h3⟩
/-- the types of a rational number -/
structure RatTy (P : Program) (t : TypeId) : Prop where
  ex : ∃ (tI tN tB e : TypeId) (f0 f1 g0 g1 : Field), P.underlying t = some (.struct #[f0, f1]) ∧ (f0.type = tI ∧ f0.offset = 0) ∧ (f1.type = tN ∧ f1.offset = 2) ∧ P.cellsOf t = 3 ∧ P.cellsOf tI = 2 ∧
    P.underlying tI = some (.struct #[g0, g1]) ∧ (g0.type = tB ∧ g0.offset = 0) ∧ (g1.type = tN ∧ g1.offset = 1) ∧ P.underlying tB = some .bool ∧ P.cellsOf tB = 1 ∧ P.cellsOf tN = 1 ∧
    P.underlying tN = some (.slice e) ∧ P.underlying e = some (.int .u32) ∧ P.cellsOf e = 1
/-- a rational number, as it was handed over -/
theorem rdB_ratio {t : TypeId} (hty : RatTy P t) {fuel : Nat} {cs : List Value} {y : DataW H × List MemPlace}
    (h : DataW.trod enc P w base sp hd fuel t cs = some y) : ∃ x : RR, rok (Rows.uptoBulk y.1) x ∧ Fits (Rep w (fun k => k < w.heap.size)) (rC x) cs := by
  obtain ⟨tI, tN, tB, e, f0, f1, g0, g1, ht, h0, h1, hct, hcI, hI, i0, i1, hB, hcB, hcN, hs, he, hc⟩ := hty.ex
  obtain ⟨y0, y1, k, hy, hl, k0, k1⟩ := trod_struct2 ht h
  rw [h0.1, h0.2, hcI] at k0
  rw [h1.1, h1.2, hcN] at k1
  obtain ⟨z0, z1, k', hz, hl', l0, l1⟩ := trod_struct2 hI k0
  rw [i0.1, i0.2, hcB] at l0
  rw [i1.1, i1.2, hcN] at l1
  obtain ⟨n, e0, hz0⟩ := DataW.trod_bool hB l0
  obtain ⟨m, hm, bm, v1, e1, r1⟩ := rdB_nat hs he hc l1
  obtain ⟨q, hq, bq, v2, e2, r2⟩ := rdB_nat hs he hc k1
  have hb : Rows.uptoBulk y.1 = Rows.uptoBulk z0.1 + Rows.uptoBulk z1.1 + 1 + Rows.uptoBulk y1.1 + 1 := by
    rw [hy, hz]
    simp only [Rows.uptoBulk, Rows.uptoBulkAll]
    omega
  refine ⟨⟨n, m, q⟩, ⟨hm, hq, by show m.length ≤ _; omega, by show q.length ≤ _; omega⟩, ?_⟩
  rw [hct] at hl
  match cs, hl with
  | [u0, u1, u2], _ =>
    simp at e0 e1 e2
    subst e0; subst e1; subst e2
    exact Fits.cons (.lit _ rfl) (Fits.cons r1 (Fits.cons r2 (Fits.nil _)))
/-- two rational numbers side by side -/
theorem rdB_pair {t tR : TypeId} {f0 f1 : Field} (ht : P.underlying t = some (.struct #[f0, f1])) (h0 : f0.type = tR ∧ f0.offset = 0) (h1 : f1.type = tR ∧ f1.offset = 3) (hct : P.cellsOf t = 6) (hcR : P.cellsOf tR = 3) (hty : RatTy P tR) {fuel : Nat} {cs : List Value} {y : DataW H × List MemPlace}
    (h : DataW.trod enc P w base sp hd fuel t cs = some y) : ∃ x z : RR, rok (Rows.uptoBulk y.1) x ∧ rok (Rows.uptoBulk y.1) z ∧ Fits (Rep w (fun k => k < w.heap.size)) (rC x ++ rC z) cs := by
  obtain ⟨y0, y1, k, hy, hl, k0, k1⟩ := trod_struct2 ht h
  rw [h0.1, h0.2, hcR] at k0
  rw [h1.1, h1.2, hcR] at k1
  obtain ⟨x, hx, rx⟩ := rdB_ratio hty k0
  obtain ⟨z, hz, rz⟩ := rdB_ratio hty k1
  have hb : Rows.uptoBulk y.1 = Rows.uptoBulk y0.1 + Rows.uptoBulk y1.1 + 1 := by
    rw [hy]
    simp only [Rows.uptoBulk, Rows.uptoBulkAll]
    omega
  refine ⟨x, z, hx.mono (by omega), hz.mono (by omega), ?_⟩
  have := rx.append rz
  rw [hct] at hl
  match cs, hl with
  | [u0, u1, u2, u3, u4, u5], _ => exact this
theorem rdV_ratio {t : TypeId} (hty : RatTy P t) {r : Reach} {b0 : Nat} {v : Value} {d : DataW H} {ps : List MemPlace} (hval : Value.okWide P w r b0 t v) (h : DataW.Trod enc P w base sp hd t v d ps) :
    ∃ x : RR, rok (Rows.uptoBulk d) x ∧ MR w (fun k => k < w.heap.size) (.agg (rC x)) v := by
  obtain ⟨tI, tN, tB, e, f0, f1, g0, g1, ht, _⟩ := hty.ex
  obtain ⟨cs, rfl, hsz⟩ := okWide_struct ht hval
  obtain ⟨fuel, hf⟩ := h
  obtain ⟨x, hx, hr⟩ := rdB_ratio hty hf
  exact ⟨x, hx, cs.toList, by simp, hr⟩
theorem rdV_pair {t tR : TypeId} {f0 f1 : Field} (ht : P.underlying t = some (.struct #[f0, f1])) (h0 : f0.type = tR ∧ f0.offset = 0) (h1 : f1.type = tR ∧ f1.offset = 3) (hct : P.cellsOf t = 6) (hcR : P.cellsOf tR = 3) (hty : RatTy P tR) {r : Reach} {b0 : Nat} {v : Value} {d : DataW H} {ps : List MemPlace} (hval : Value.okWide P w r b0 t v) (h : DataW.Trod enc P w base sp hd t v d ps) :
    ∃ x z : RR, rok (Rows.uptoBulk d) x ∧ rok (Rows.uptoBulk d) z ∧ MR w (fun k => k < w.heap.size) (.agg (rC x ++ rC z)) v := by
  obtain ⟨cs, rfl, hsz⟩ := okWide_struct ht hval
  obtain ⟨fuel, hf⟩ := h
  obtain ⟨x, z, hx, hz, hr⟩ := rdB_pair ht h0 h1 hct hcR hty hf
  exact ⟨x, z, hx, hz, cs.toList, by simp, hr⟩
end
end Go.Proofs.YtljmgdepldpmdaaGreatDoor.E
