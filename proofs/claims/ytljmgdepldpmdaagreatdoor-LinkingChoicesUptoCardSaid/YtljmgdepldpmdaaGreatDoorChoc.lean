/- An abstract interpreter over data, and contracts of the program's functions, part 3; no condition. -/
import Derived.Test.YtljmgdepldpmdaaGreatDoorChob
set_option linter.unusedSimpArgs false
set_option linter.unusedVariables false
set_option maxHeartbeats 2000000
namespace Go.Proofs.YtljmgdepldpmdaaGreatDoor.E
open Go.RowKit Limbs
def b87_4 : AC :=
  (.seq (.reg [
    ⟨some 25, .move (.tmp 5), none⟩,
    ⟨some 26, .call ⟨(.builtin .len), #[(.tmp 25)], #[23]⟩, none⟩,
    ⟨some 27, .move (.tmp 6), none⟩,
    ⟨some 28, .call ⟨(.builtin .len), #[(.tmp 27)], #[23]⟩, none⟩,
    ⟨some 29, .binOp .add 3 (.tmp 26) (.tmp 28) 3, none⟩,
    ⟨some 30, .makeSlice 23 (.tmp 29) (.tmp 29), none⟩,
    ⟨some 7, .assign (.tmp 30), none⟩])
  (.seq (.seq (.reg [
    ⟨some 31, .move (.tmp 5), none⟩,
    ⟨some 32, .call ⟨(.builtin .len), #[(.tmp 31)], #[23]⟩, none⟩,
    ⟨some 33, .move (.const (.int .i64 0)), none⟩])
  (.block 0 (.loop (.seq (.reg [
    ⟨some 34, .binOp .lss 3 (.tmp 33) (.tmp 32) 3, none⟩])
  (.seq (.cond (.tmp 34)
    .skip
    (.exit 0))
  (.seq (.block 1 (.seq (.reg [
    ⟨some 35, .move (.tmp 33), none⟩,
    ⟨some 36, .indexAddr 23 (.tmp 31) (.tmp 33), none⟩,
    ⟨some 37, .load 103 (.tmp 36), none⟩,
    ⟨some 8, .assign (.tmp 35), none⟩,
    ⟨some 9, .assign (.tmp 37), none⟩])
  (.seq (.reg [
    ⟨some 10, .assign (.const (.int .u64 0)), none⟩])
  (.seq (.seq (.reg [
    ⟨some 38, .move (.tmp 6), none⟩,
    ⟨some 39, .call ⟨(.builtin .len), #[(.tmp 38)], #[23]⟩, none⟩,
    ⟨some 40, .move (.const (.int .i64 0)), none⟩])
  (.block 2 (.loop (.seq (.reg [
    ⟨some 41, .binOp .lss 3 (.tmp 40) (.tmp 39) 3, none⟩])
  (.seq (.cond (.tmp 41)
    .skip
    (.exit 2))
  (.seq (.block 3 (.seq (.reg [
    ⟨some 42, .move (.tmp 40), none⟩,
    ⟨some 43, .indexAddr 23 (.tmp 38) (.tmp 40), none⟩,
    ⟨some 44, .load 103 (.tmp 43), none⟩,
    ⟨some 11, .assign (.tmp 42), none⟩,
    ⟨some 12, .assign (.tmp 44), none⟩])
  (.seq (.reg [
    ⟨some 45, .move (.tmp 10), none⟩,
    ⟨some 46, .move (.tmp 9), none⟩,
    ⟨some 47, .convert 103 97 (.tmp 46), none⟩,
    ⟨some 48, .move (.tmp 12), none⟩,
    ⟨some 49, .convert 103 97 (.tmp 48), none⟩,
    ⟨some 50, .binOp .mul 97 (.tmp 47) (.tmp 49) 97, none⟩,
    ⟨some 51, .move (.tmp 7), none⟩,
    ⟨some 52, .move (.tmp 8), none⟩,
    ⟨some 53, .move (.tmp 11), none⟩,
    ⟨some 54, .binOp .add 3 (.tmp 52) (.tmp 53) 3, none⟩,
    ⟨some 55, .indexAddr 23 (.tmp 51) (.tmp 54), none⟩,
    ⟨some 56, .load 103 (.tmp 55), none⟩,
    ⟨some 57, .convert 103 97 (.tmp 56), none⟩,
    ⟨some 58, .binOp .add 97 (.tmp 50) (.tmp 57) 97, none⟩,
    ⟨some 59, .binOp .add 97 (.tmp 45) (.tmp 58) 97, none⟩,
    ⟨some 10, .assign (.tmp 59), none⟩])
  (.seq (.reg [
    ⟨some 60, .move (.tmp 7), none⟩,
    ⟨some 61, .move (.tmp 8), none⟩,
    ⟨some 62, .move (.tmp 11), none⟩,
    ⟨some 63, .binOp .add 3 (.tmp 61) (.tmp 62) 3, none⟩,
    ⟨some 64, .move (.tmp 10), none⟩,
    ⟨some 65, .binOp .and 97 (.tmp 64) (.const (.int .u64 4294967295)) 97, none⟩,
    ⟨some 66, .convert 97 103 (.tmp 65), none⟩,
    ⟨some 67, .indexAddr 23 (.tmp 60) (.tmp 63), none⟩,
    ⟨none, .store 103 (.tmp 67) (.tmp 66), none⟩])
  (.reg [
    ⟨some 68, .move (.tmp 10), none⟩,
    ⟨some 69, .binOp .shr 97 (.tmp 68) (.const (.int .u64 32)) 113, none⟩,
    ⟨some 10, .assign (.tmp 69), none⟩])))))
  (.reg [
    ⟨some 70, .binOp .add 3 (.tmp 40) (.const (.int .i64 1)) 3, none⟩,
    ⟨some 40, .move (.tmp 70), none⟩])))))))
  (.reg [
    ⟨some 71, .move (.tmp 7), none⟩,
    ⟨some 72, .move (.tmp 8), none⟩,
    ⟨some 73, .move (.tmp 6), none⟩,
    ⟨some 74, .call ⟨(.builtin .len), #[(.tmp 73)], #[23]⟩, none⟩,
    ⟨some 75, .binOp .add 3 (.tmp 72) (.tmp 74) 3, none⟩,
    ⟨some 76, .move (.tmp 10), none⟩,
    ⟨some 77, .convert 97 103 (.tmp 76), none⟩,
    ⟨some 78, .indexAddr 23 (.tmp 71) (.tmp 75), none⟩,
    ⟨none, .store 103 (.tmp 78) (.tmp 77), none⟩])))))
  (.reg [
    ⟨some 79, .binOp .add 3 (.tmp 33) (.const (.int .i64 1)) 3, none⟩,
    ⟨some 33, .move (.tmp 79), none⟩])))))))
  (.seq (.seq (.gh [.frz 7])
  (.reg [
    ⟨some 80, .move (.tmp 7), none⟩,
    ⟨some 81, .call ⟨(.value (.func 121)), #[(.tmp 80)], #[23]⟩, none⟩,
    ⟨some 4, .assign (.tmp 81), none⟩]))
  .ret)))
/-- examboard/nat.Mul -/
def b87 : AF := ⟨82, 2, [.tmp 4],
  (.seq (.reg [
    ⟨some 4, .assign (.const (.slice none 0 0)), none⟩])
  (.seq (.reg [
    ⟨some 13, .move (.tmp 0), none⟩,
    ⟨some 14, .call ⟨(.value (.func 121)), #[(.tmp 13)], #[23]⟩, none⟩,
    ⟨some 15, .move (.tmp 1), none⟩,
    ⟨some 16, .call ⟨(.value (.func 121)), #[(.tmp 15)], #[23]⟩, none⟩,
    ⟨some 5, .assign (.tmp 14), none⟩,
    ⟨some 6, .assign (.tmp 16), none⟩])
  (.seq (.seq (.reg [
    ⟨some 17, .move (.tmp 5), none⟩,
    ⟨some 18, .call ⟨(.builtin .len), #[(.tmp 17)], #[23]⟩, none⟩,
    ⟨some 19, .binOp .eql 3 (.tmp 18) (.const (.int .i64 0)) 3, none⟩,
    ⟨some 20, .move (.tmp 19), none⟩,
    ⟨some 21, .move (.tmp 6), some (20, false)⟩,
    ⟨some 22, .call ⟨(.builtin .len), #[(.tmp 21)], #[23]⟩, some (20, false)⟩,
    ⟨some 23, .binOp .eql 3 (.tmp 22) (.const (.int .i64 0)) 3, some (20, false)⟩,
    ⟨some 24, .pick (.tmp 20) (.const (.bool true)) (.tmp 23), none⟩])
  (.cond (.tmp 24)
    (.seq (.reg [
      ⟨some 4, .assign (.const (.slice none 0 0)), none⟩])
    .ret)
    .skip))
  b87_4)))⟩
theorem c87 : fcomp Tryz.prog 87 = ⟨b87.n, b87.np, b87.res, b87.body.bare⟩ := by kernel_rfl
theorem k87 : fok Tryz.prog 87 = true := by kernel_rfl
theorem nat_Mul_rest (x y : List Int) (l1 : Lim x) (l2 : Lim y) (hx : x.length < 4398046511104) (hy : y.length < 4398046511104) (s : AS) (t5 : s.t 5 = .one (.dt (natD x))) (t6 : s.t 6 = .one (.dt (natD y))) (g30 : s.g 30 = 0) :
    awp Tryz.prog b87_4 (fend Tryz.prog [.tmp 4] [.one (natD (nl (nv x * nv y)))]) s := by
  unfold b87_4
  simp (maxSteps := 1000000) (disch := first | omega | (simp only [LL]; omega)) only [W, V, TY, CC, reduceIte, Nat.reduceEqDiff, Nat.reduceAdd, Nat.reduceLeDiff, Nat.reduceLT, Int.reduceLE, Int.reduceLT, Int.reduceAdd, Int.reduceSub, Int.reduceToNat, Nat.reduceMul, t5, t6, g30]
  refine w_loop (fun n s => ∃ (i : Nat) (D : List Int), n + i = x.length ∧ s.t 6 = .one (.dt (natD y)) ∧ s.t 31 = .one (.dt (natD x)) ∧ s.t 32 = .one (.dt (.lit (.int .i64 x.length))) ∧ s.t 33 = .one (.dt (.lit (.int .i64 i))) ∧ s.t 7 = .one (.row (30, 0) 0) ∧ s.r (30, 0) = some ⟨103, 1, x.length + y.length, natC D, 0, true⟩ ∧ D.length = x.length + y.length ∧ Lim D ∧ (∀ j, i + y.length ≤ j → D.getD j 0 = 0) ∧ val D = val (x.take i) * val y) x.length ⟨0, List.replicate (x.length + y.length) 0, rfl, ?_, ?_, ?_, ?_, ?_, ?_, by simp, Lim.replicate _, fun j _ => ?_, by rw [val_replicate, List.take_zero, val_nil, Int.zero_mul]⟩ ?_
  · simp (maxSteps := 1000000) (disch := first | omega | (simp only [LL]; omega)) only [W, V, TY, CC, reduceIte, Nat.reduceEqDiff, Nat.reduceAdd, Nat.reduceLeDiff, Nat.reduceLT, Int.reduceLE, Int.reduceLT, Int.reduceAdd, Int.reduceSub, Int.reduceToNat, Nat.reduceMul, t5, t6, g30]
  · simp (maxSteps := 1000000) (disch := first | omega | (simp only [LL]; omega)) only [W, V, TY, CC, reduceIte, Nat.reduceEqDiff, Nat.reduceAdd, Nat.reduceLeDiff, Nat.reduceLT, Int.reduceLE, Int.reduceLT, Int.reduceAdd, Int.reduceSub, Int.reduceToNat, Nat.reduceMul, t5, t6, g30]
  · simp (maxSteps := 1000000) (disch := first | omega | (simp only [LL]; omega)) only [W, V, TY, CC, reduceIte, Nat.reduceEqDiff, Nat.reduceAdd, Nat.reduceLeDiff, Nat.reduceLT, Int.reduceLE, Int.reduceLT, Int.reduceAdd, Int.reduceSub, Int.reduceToNat, Nat.reduceMul, t5, t6, g30]
  · simp (maxSteps := 1000000) (disch := first | omega | (simp only [LL]; omega)) only [W, V, TY, CC, reduceIte, Nat.reduceEqDiff, Nat.reduceAdd, Nat.reduceLeDiff, Nat.reduceLT, Int.reduceLE, Int.reduceLT, Int.reduceAdd, Int.reduceSub, Int.reduceToNat, Nat.reduceMul, t5, t6, g30]
  · simp (maxSteps := 1000000) (disch := first | omega | (simp only [LL]; omega)) only [W, V, TY, CC, reduceIte, Nat.reduceEqDiff, Nat.reduceAdd, Nat.reduceLeDiff, Nat.reduceLT, Int.reduceLE, Int.reduceLT, Int.reduceAdd, Int.reduceSub, Int.reduceToNat, Nat.reduceMul, t5, t6, g30]
  · simp (maxSteps := 1000000) (disch := first | omega | (simp only [LL]; omega)) only [W, V, TY, CC, reduceIte, Nat.reduceEqDiff, Nat.reduceAdd, Nat.reduceLeDiff, Nat.reduceLT, Int.reduceLE, Int.reduceLT, Int.reduceAdd, Int.reduceSub, Int.reduceToNat, Nat.reduceMul, t5, t6, g30]
  · rw [List.getD_eq_getElem?_getD, List.getElem?_replicate]; split <;> rfl
  clear t5 t6 g30
  intro n s _ ⟨i, D0, e, t6, t31, t32, t33, t7, r7, hD, lD, hz, hv⟩
  simp (maxSteps := 1000000) (disch := first | omega | (simp only [LL]; omega)) only [W, V, TY, CC, reduceIte, Nat.reduceEqDiff, Nat.reduceAdd, Nat.reduceLeDiff, Nat.reduceLT, Int.reduceLE, Int.reduceLT, Int.reduceAdd, Int.reduceSub, Int.reduceToNat, Nat.reduceMul, t6, t31, t32, t33, t7]
  refine c_split (fun hi => ?_) (fun hi => ?_)
  · have hp := l1.getD i
    simp (maxSteps := 1000000) (disch := first | omega | (simp only [LL]; omega)) only [W, V, TY, CC, reduceIte, Nat.reduceEqDiff, Nat.reduceAdd, Nat.reduceLeDiff, Nat.reduceLT, Int.reduceLE, Int.reduceLT, Int.reduceAdd, Int.reduceSub, Int.reduceToNat, Nat.reduceMul, t6, t31, t32, t33, t7]
    refine w_loop (fun m s => ∃ (k : Nat) (D : List Int) (c : Int), m + k = y.length ∧ s.t 6 = .one (.dt (natD y)) ∧ s.t 31 = .one (.dt (natD x)) ∧ s.t 32 = .one (.dt (.lit (.int .i64 x.length))) ∧ s.t 33 = .one (.dt (.lit (.int .i64 i))) ∧ s.t 7 = .one (.row (30, 0) 0) ∧ s.r (30, 0) = some ⟨103, 1, x.length + y.length, natC D, 0, true⟩ ∧ s.t 8 = .one (.dt (.lit (.int .i64 i))) ∧ s.t 9 = .one (.dt (.lit (.int .u32 (x.getD i 0)))) ∧ s.t 38 = .one (.dt (natD y)) ∧ s.t 39 = .one (.dt (.lit (.int .i64 y.length))) ∧ s.t 40 = .one (.dt (.lit (.int .i64 k))) ∧ s.t 10 = .one (.dt (.lit (.int .u64 c))) ∧ D.length = x.length + y.length ∧ Lim D ∧ (∀ j, i + y.length ≤ j → D.getD j 0 = 0) ∧ 0 ≤ c ∧ c < 4294967296 ∧ val D + bp (i + k) * c = val D0 + bp i * (x.getD i 0 * val (y.take k))) y.length ⟨0, D0, 0, rfl, ?_, ?_, ?_, ?_, ?_, ?_, ?_, ?_, ?_, ?_, ?_, ?_, hD, lD, hz, by omega, by omega, by simp [val]⟩ ?_
    · simp (maxSteps := 1000000) (disch := first | omega | (simp only [LL]; omega)) only [W, V, TY, CC, reduceIte, Nat.reduceEqDiff, Nat.reduceAdd, Nat.reduceLeDiff, Nat.reduceLT, Int.reduceLE, Int.reduceLT, Int.reduceAdd, Int.reduceSub, Int.reduceToNat, Nat.reduceMul, t6, t31, t32, t33, t7, r7]
    · simp (maxSteps := 1000000) (disch := first | omega | (simp only [LL]; omega)) only [W, V, TY, CC, reduceIte, Nat.reduceEqDiff, Nat.reduceAdd, Nat.reduceLeDiff, Nat.reduceLT, Int.reduceLE, Int.reduceLT, Int.reduceAdd, Int.reduceSub, Int.reduceToNat, Nat.reduceMul, t6, t31, t32, t33, t7, r7]
    · simp (maxSteps := 1000000) (disch := first | omega | (simp only [LL]; omega)) only [W, V, TY, CC, reduceIte, Nat.reduceEqDiff, Nat.reduceAdd, Nat.reduceLeDiff, Nat.reduceLT, Int.reduceLE, Int.reduceLT, Int.reduceAdd, Int.reduceSub, Int.reduceToNat, Nat.reduceMul, t6, t31, t32, t33, t7, r7]
    · simp (maxSteps := 1000000) (disch := first | omega | (simp only [LL]; omega)) only [W, V, TY, CC, reduceIte, Nat.reduceEqDiff, Nat.reduceAdd, Nat.reduceLeDiff, Nat.reduceLT, Int.reduceLE, Int.reduceLT, Int.reduceAdd, Int.reduceSub, Int.reduceToNat, Nat.reduceMul, t6, t31, t32, t33, t7, r7]
    · simp (maxSteps := 1000000) (disch := first | omega | (simp only [LL]; omega)) only [W, V, TY, CC, reduceIte, Nat.reduceEqDiff, Nat.reduceAdd, Nat.reduceLeDiff, Nat.reduceLT, Int.reduceLE, Int.reduceLT, Int.reduceAdd, Int.reduceSub, Int.reduceToNat, Nat.reduceMul, t6, t31, t32, t33, t7, r7]
    · simp (maxSteps := 1000000) (disch := first | omega | (simp only [LL]; omega)) only [W, V, TY, CC, reduceIte, Nat.reduceEqDiff, Nat.reduceAdd, Nat.reduceLeDiff, Nat.reduceLT, Int.reduceLE, Int.reduceLT, Int.reduceAdd, Int.reduceSub, Int.reduceToNat, Nat.reduceMul, t6, t31, t32, t33, t7, r7]
    · simp (maxSteps := 1000000) (disch := first | omega | (simp only [LL]; omega)) only [W, V, TY, CC, reduceIte, Nat.reduceEqDiff, Nat.reduceAdd, Nat.reduceLeDiff, Nat.reduceLT, Int.reduceLE, Int.reduceLT, Int.reduceAdd, Int.reduceSub, Int.reduceToNat, Nat.reduceMul, t6, t31, t32, t33, t7, r7]
    · simp (maxSteps := 1000000) (disch := first | omega | (simp only [LL]; omega)) only [W, V, TY, CC, reduceIte, Nat.reduceEqDiff, Nat.reduceAdd, Nat.reduceLeDiff, Nat.reduceLT, Int.reduceLE, Int.reduceLT, Int.reduceAdd, Int.reduceSub, Int.reduceToNat, Nat.reduceMul, t6, t31, t32, t33, t7, r7]
    · simp (maxSteps := 1000000) (disch := first | omega | (simp only [LL]; omega)) only [W, V, TY, CC, reduceIte, Nat.reduceEqDiff, Nat.reduceAdd, Nat.reduceLeDiff, Nat.reduceLT, Int.reduceLE, Int.reduceLT, Int.reduceAdd, Int.reduceSub, Int.reduceToNat, Nat.reduceMul, t6, t31, t32, t33, t7, r7]
    · simp (maxSteps := 1000000) (disch := first | omega | (simp only [LL]; omega)) only [W, V, TY, CC, reduceIte, Nat.reduceEqDiff, Nat.reduceAdd, Nat.reduceLeDiff, Nat.reduceLT, Int.reduceLE, Int.reduceLT, Int.reduceAdd, Int.reduceSub, Int.reduceToNat, Nat.reduceMul, t6, t31, t32, t33, t7, r7]
    · simp (maxSteps := 1000000) (disch := first | omega | (simp only [LL]; omega)) only [W, V, TY, CC, reduceIte, Nat.reduceEqDiff, Nat.reduceAdd, Nat.reduceLeDiff, Nat.reduceLT, Int.reduceLE, Int.reduceLT, Int.reduceAdd, Int.reduceSub, Int.reduceToNat, Nat.reduceMul, t6, t31, t32, t33, t7, r7]
    · simp (maxSteps := 1000000) (disch := first | omega | (simp only [LL]; omega)) only [W, V, TY, CC, reduceIte, Nat.reduceEqDiff, Nat.reduceAdd, Nat.reduceLeDiff, Nat.reduceLT, Int.reduceLE, Int.reduceLT, Int.reduceAdd, Int.reduceSub, Int.reduceToNat, Nat.reduceMul, t6, t31, t32, t33, t7, r7]
    clear t6 t31 t32 t33 t7 r7 hD lD hz
    intro m s _ ⟨k, D, c, em, t6, t31, t32, t33, t7, r7, t8, t9, t38, t39, t40, t10, hD, lD, hz, c0, c1, hw⟩
    simp (maxSteps := 1000000) (disch := first | omega | (simp only [LL]; omega)) only [W, V, TY, CC, reduceIte, Nat.reduceEqDiff, Nat.reduceAdd, Nat.reduceLeDiff, Nat.reduceLT, Int.reduceLE, Int.reduceLT, Int.reduceAdd, Int.reduceSub, Int.reduceToNat, Nat.reduceMul, t6, t31, t32, t33, t7, t8, t9, t38, t39, t40, t10]
    refine c_split (fun hk => ?_) (fun hk => ?_)
    · have hq := l2.getD k
      have hd := lD.getD (i + k)
      obtain ⟨b0, b1⟩ := mul_bound hp.1 hp.2 hq.1 hq.2
      simp (maxSteps := 1000000) (disch := first | omega | (simp only [LL]; omega)) only [W, V, TY, CC, reduceIte, Nat.reduceEqDiff, Nat.reduceAdd, Nat.reduceLeDiff, Nat.reduceLT, Int.reduceLE, Int.reduceLT, Int.reduceAdd, Int.reduceSub, Int.reduceToNat, Nat.reduceMul, t6, t31, t32, t33, t7, r7, t8, t9, t38, t39, t40, t10]
      refine ⟨⟨by omega, by omega⟩, ⟨by omega, by omega⟩, by omega, m - 1, by omega, k + 1, D.set (i + k) ((c + (x.getD i 0 * y.getD k 0 + D.getD (i + k) 0)) % 4294967296), (c + (x.getD i 0 * y.getD k 0 + D.getD (i + k) 0)) / 4294967296, by omega, rfl, rfl, rfl, by simp [hD], lD.set _ (by omega) (by omega), fun j hj => by rw [Limbs.getD_set_ne (by omega)]; exact hz j hj, by omega, by omega, ?_⟩
      rw [val_set_getD (by omega), val_take_getD (show k < y.length by omega), show i + (k + 1) = i + k + 1 from rfl, bp_succ]
      have hb := bp_add i k
      have ht := Int.emod_add_mul_ediv (c + (x.getD i 0 * y.getD k 0 + D.getD (i + k) 0)) 4294967296
      generalize (c + (x.getD i 0 * y.getD k 0 + D.getD (i + k) 0)) % 4294967296 = r at *
      generalize (c + (x.getD i 0 * y.getD k 0 + D.getD (i + k) 0)) / 4294967296 = q at *
      generalize x.getD i 0 = xi at *
      generalize y.getD k 0 = yk at *
      generalize D.getD (i + k) 0 = dk at *
      clear t6 t31 t32 t33 t7 r7 t8 t9 t38 t39 t40 t10 hz lD l1 l2 hv
      grind
    · simp (maxSteps := 1000000) (disch := first | omega | (simp only [LL]; omega)) only [W, V, TY, CC, reduceIte, Nat.reduceEqDiff, Nat.reduceAdd, Nat.reduceLeDiff, Nat.reduceLT, Int.reduceLE, Int.reduceLT, Int.reduceAdd, Int.reduceSub, Int.reduceToNat, Nat.reduceMul, t6, t31, t32, t33, t7, r7, t8, t9, t38, t39, t40, t10]
      have hk' : k = y.length := by omega
      rw [hk', List.take_of_length_le (Nat.le_refl _)] at hw
      refine ⟨⟨by omega, by omega⟩, by omega, n - 1, by omega, i + 1, D.set (i + y.length) c, by omega, rfl, rfl, by simp [hD], lD.set _ c0 c1, fun j hj => by rw [Limbs.getD_set_ne (by omega)]; exact hz j (by omega), ?_⟩
      rw [val_set_getD (by omega), hz _ (Nat.le_refl _), val_take_getD (show i < x.length by omega)]
      generalize x.getD i 0 = xi at *
      clear t6 t31 t32 t33 t7 r7 t8 t9 t38 t39 t40 t10 hz lD l1 l2
      grind
  · simp (maxSteps := 1000000) (disch := first | omega | (simp only [LL]; omega)) only [W, V, TY, CC, reduceIte, Nat.reduceEqDiff, Nat.reduceAdd, Nat.reduceLeDiff, Nat.reduceLT, Int.reduceLE, Int.reduceLT, Int.reduceAdd, Int.reduceSub, Int.reduceToNat, Nat.reduceMul, t6, t31, t32, t33, t7, r7]
    refine a_call _ _ (nat_trim D0 lD (by omega)) (by simp (maxSteps := 1000000) (disch := first | omega | (simp only [LL]; omega)) only [W, V, TY, CC, reduceIte, Nat.reduceEqDiff, Nat.reduceAdd, Nat.reduceLeDiff, Nat.reduceLT, Int.reduceLE, Int.reduceLT, Int.reduceAdd, Int.reduceSub, Int.reduceToNat, Nat.reduceMul, t6, t31, t32, t33, t7, r7]) ?_
    simp (maxSteps := 1000000) (disch := first | omega | (simp only [LL]; omega)) only [W, V, TY, CC, reduceIte, Nat.reduceEqDiff, Nat.reduceAdd, Nat.reduceLeDiff, Nat.reduceLT, Int.reduceLE, Int.reduceLT, Int.reduceAdd, Int.reduceSub, Int.reduceToNat, Nat.reduceMul]
    refine f_ret _ _ _ ?_
    rw [List.take_of_length_le (by omega)] at hv
    have hres : tr D0 = nl (nv x * nv y) := by unfold tr; congr 1; have h1 := nv_eq lD; have h2 := nv_eq l1; have h3 := nv_eq l2; rw [hv, ← h2, ← h3, ← Int.natCast_mul] at h1; omega
    simp (maxSteps := 1000000) (disch := first | omega | (simp only [LL]; omega)) only [W, V, TY, CC, reduceIte, Nat.reduceEqDiff, Nat.reduceAdd, Nat.reduceLeDiff, Nat.reduceLT, Int.reduceLE, Int.reduceLT, Int.reduceAdd, Int.reduceSub, Int.reduceToNat, Nat.reduceMul, hres]
theorem nat_Mul (a b : List Int) (ha : Lim a) (hb : Lim b) (la : a.length < 4398046511104) (lb : b.length < 4398046511104) : AFun Tryz.prog 87 [.one (natD a), .one (natD b)] [.one (natD (nl (nv a * nv b)))] := by
  refine afun_intro mo_ _ _ c87 k87 _ _ rfl (by decide) ?_
  unfold b87
  have h1 := tr_len ha
  have h2 := tr_len hb
  have l1 := tr_lim a
  have l2 := tr_lim b
  have v1 : nv (tr a) = nv a := by unfold nv; rw [val_tr ha]
  have v2 : nv (tr b) = nv b := by unfold nv; rw [val_tr hb]
  rw [← v1, ← v2]
  simp (maxSteps := 1000000) (disch := first | omega | (simp only [LL]; omega)) only [W, V, TY, CC, reduceIte, Nat.reduceEqDiff, Nat.reduceAdd, Nat.reduceLeDiff, Nat.reduceLT, Int.reduceLE, Int.reduceLT, Int.reduceAdd, Int.reduceSub, Int.reduceToNat, Nat.reduceMul]
  refine a_call _ _ (nat_trim a ha (by omega)) rfl ?_
  simp (maxSteps := 1000000) (disch := first | omega | (simp only [LL]; omega)) only [W, V, TY, CC, reduceIte, Nat.reduceEqDiff, Nat.reduceAdd, Nat.reduceLeDiff, Nat.reduceLT, Int.reduceLE, Int.reduceLT, Int.reduceAdd, Int.reduceSub, Int.reduceToNat, Nat.reduceMul]
  refine a_call _ _ (nat_trim b hb (by omega)) rfl ?_
  simp (maxSteps := 1000000) (disch := first | omega | (simp only [LL]; omega)) only [W, V, TY, CC, reduceIte, Nat.reduceEqDiff, Nat.reduceAdd, Nat.reduceLeDiff, Nat.reduceLT, Int.reduceLE, Int.reduceLT, Int.reduceAdd, Int.reduceSub, Int.reduceToNat, Nat.reduceMul]
  generalize tr a = x at *
  generalize tr b = y at *
  by_cases hx : (x.length : Int) = 0
  · simp (maxSteps := 1000000) (disch := first | omega | (simp only [LL]; omega)) only [W, V, TY, CC, reduceIte, Nat.reduceEqDiff, Nat.reduceAdd, Nat.reduceLeDiff, Nat.reduceLT, Int.reduceLE, Int.reduceLT, Int.reduceAdd, Int.reduceSub, Int.reduceToNat, Nat.reduceMul, hx]
    refine f_ret _ _ _ ?_
    have hx0 : x = [] := List.eq_nil_of_length_eq_zero (by omega)
    have hres : nl (nv x * nv y) = [] := by rw [hx0, show nv [] = 0 from rfl, Nat.zero_mul, nl_zero]
    simp (maxSteps := 1000000) (disch := first | omega | (simp only [LL]; omega)) only [W, V, TY, CC, reduceIte, Nat.reduceEqDiff, Nat.reduceAdd, Nat.reduceLeDiff, Nat.reduceLT, Int.reduceLE, Int.reduceLT, Int.reduceAdd, Int.reduceSub, Int.reduceToNat, Nat.reduceMul, hres]
    rfl
  · by_cases hy : (y.length : Int) = 0
    · simp (maxSteps := 1000000) (disch := first | omega | (simp only [LL]; omega)) only [W, V, TY, CC, reduceIte, Nat.reduceEqDiff, Nat.reduceAdd, Nat.reduceLeDiff, Nat.reduceLT, Int.reduceLE, Int.reduceLT, Int.reduceAdd, Int.reduceSub, Int.reduceToNat, Nat.reduceMul, hx, hy]
      refine f_ret _ _ _ ?_
      have hy0 : y = [] := List.eq_nil_of_length_eq_zero (by omega)
      have hres : nl (nv x * nv y) = [] := by rw [hy0, show nv [] = 0 from rfl, Nat.mul_zero, nl_zero]
      simp (maxSteps := 1000000) (disch := first | omega | (simp only [LL]; omega)) only [W, V, TY, CC, reduceIte, Nat.reduceEqDiff, Nat.reduceAdd, Nat.reduceLeDiff, Nat.reduceLT, Int.reduceLE, Int.reduceLT, Int.reduceAdd, Int.reduceSub, Int.reduceToNat, Nat.reduceMul, hres]
      rfl
    · simp (maxSteps := 1000000) (disch := first | omega | (simp only [LL]; omega)) only [W, V, TY, CC, reduceIte, Nat.reduceEqDiff, Nat.reduceAdd, Nat.reduceLeDiff, Nat.reduceLT, Int.reduceLE, Int.reduceLT, Int.reduceAdd, Int.reduceSub, Int.reduceToNat, Nat.reduceMul, hx, hy]
      refine nat_Mul_rest x y l1 l2 (by omega) (by omega) _ ?_ ?_ ?_
      · simp (maxSteps := 1000000) (disch := first | omega | (simp only [LL]; omega)) only [W, V, TY, CC, reduceIte, Nat.reduceEqDiff, Nat.reduceAdd, Nat.reduceLeDiff, Nat.reduceLT, Int.reduceLE, Int.reduceLT, Int.reduceAdd, Int.reduceSub, Int.reduceToNat, Nat.reduceMul]
      · simp (maxSteps := 1000000) (disch := first | omega | (simp only [LL]; omega)) only [W, V, TY, CC, reduceIte, Nat.reduceEqDiff, Nat.reduceAdd, Nat.reduceLeDiff, Nat.reduceLT, Int.reduceLE, Int.reduceLT, Int.reduceAdd, Int.reduceSub, Int.reduceToNat, Nat.reduceMul]
      · simp (maxSteps := 1000000) (disch := first | omega | (simp only [LL]; omega)) only [W, V, TY, CC, reduceIte, Nat.reduceEqDiff, Nat.reduceAdd, Nat.reduceLeDiff, Nat.reduceLT, Int.reduceLE, Int.reduceLT, Int.reduceAdd, Int.reduceSub, Int.reduceToNat, Nat.reduceMul]
end Go.Proofs.YtljmgdepldpmdaaGreatDoor.E

set_option linter.unusedSimpArgs false
set_option linter.unusedVariables false
set_option maxHeartbeats 2000000
namespace Go.Proofs.YtljmgdepldpmdaaGreatDoor.E
open Go.RowKit Limbs
/-- examboard/examboardref01.limb -/
def b146 : AF := ⟨14, 2, [.tmp 4],
  (.seq (.reg [
    ⟨some 4, .assign (.const (.int .u64 0)), none⟩])
  (.seq (.seq (.reg [
    ⟨some 5, .move (.tmp 1), none⟩,
    ⟨some 6, .move (.tmp 0), none⟩,
    ⟨some 7, .call ⟨(.builtin .len), #[(.tmp 6)], #[23]⟩, none⟩,
    ⟨some 8, .binOp .lss 3 (.tmp 5) (.tmp 7) 3, none⟩])
  (.cond (.tmp 8)
    (.seq (.reg [
      ⟨some 9, .move (.tmp 0), none⟩,
      ⟨some 10, .move (.tmp 1), none⟩,
      ⟨some 11, .indexAddr 23 (.tmp 9) (.tmp 10), none⟩,
      ⟨some 12, .load 103 (.tmp 11), none⟩,
      ⟨some 13, .convert 103 97 (.tmp 12), none⟩,
      ⟨some 4, .assign (.tmp 13), none⟩])
    .ret)
    .skip))
  (.seq (.reg [
    ⟨some 4, .assign (.const (.int .u64 0)), none⟩])
  .ret)))⟩
theorem c146 : fcomp Tryz.prog 146 = ⟨b146.n, b146.np, b146.res, b146.body.bare⟩ := by kernel_rfl
theorem k146 : fok Tryz.prog 146 = true := by kernel_rfl
theorem ref_limb (a : List Int) (i : Nat) (ha : Lim a) : AFun Tryz.prog 146 [.one (natD a), .one (.lit (.int .i64 i))] [.one (.lit (.int .u64 (a.getD i 0)))] := by
  refine afun_intro mo_ _ _ c146 k146 _ _ rfl (by decide) ?_
  unfold b146
  have h := ha.getD i
  simp (maxSteps := 1000000) (disch := first | omega | (simp only [LL]; omega)) only [W, V, TY, CC, reduceIte, Nat.reduceEqDiff, Nat.reduceAdd, Nat.reduceLeDiff, Nat.reduceLT, Int.reduceLE, Int.reduceLT, Int.reduceAdd, Int.reduceSub, Int.reduceToNat, Nat.reduceMul]
  refine c_split (fun hl => ?_) (fun hl => ?_)
  · simp (maxSteps := 1000000) (disch := first | omega | (simp only [LL]; omega)) only [W, V, TY, CC, reduceIte, Nat.reduceEqDiff, Nat.reduceAdd, Nat.reduceLeDiff, Nat.reduceLT, Int.reduceLE, Int.reduceLT, Int.reduceAdd, Int.reduceSub, Int.reduceToNat, Nat.reduceMul]
    refine f_ret _ _ _ ?_
    simp (maxSteps := 1000000) (disch := first | omega | (simp only [LL]; omega)) only [W, V, TY, CC, reduceIte, Nat.reduceEqDiff, Nat.reduceAdd, Nat.reduceLeDiff, Nat.reduceLT, Int.reduceLE, Int.reduceLT, Int.reduceAdd, Int.reduceSub, Int.reduceToNat, Nat.reduceMul]
  · simp (maxSteps := 1000000) (disch := first | omega | (simp only [LL]; omega)) only [W, V, TY, CC, reduceIte, Nat.reduceEqDiff, Nat.reduceAdd, Nat.reduceLeDiff, Nat.reduceLT, Int.reduceLE, Int.reduceLT, Int.reduceAdd, Int.reduceSub, Int.reduceToNat, Nat.reduceMul]
    refine f_ret _ _ _ ?_
    rw [getD_over (by omega)]
    simp (maxSteps := 1000000) (disch := first | omega | (simp only [LL]; omega)) only [W, V, TY, CC, reduceIte, Nat.reduceEqDiff, Nat.reduceAdd, Nat.reduceLeDiff, Nat.reduceLT, Int.reduceLE, Int.reduceLT, Int.reduceAdd, Int.reduceSub, Int.reduceToNat, Nat.reduceMul]
/-- examboard/examboardref01.Cmp -/
def b135 : AF := ⟨30, 2, [.tmp 4],
  (.seq (.reg [
    ⟨some 4, .assign (.const (.int .i64 0)), none⟩])
  (.seq (.seq (.reg [
    ⟨some 8, .move (.tmp 0), none⟩,
    ⟨some 9, .call ⟨(.builtin .len), #[(.tmp 8)], #[23]⟩, none⟩,
    ⟨some 10, .move (.tmp 1), none⟩,
    ⟨some 11, .call ⟨(.builtin .len), #[(.tmp 10)], #[23]⟩, none⟩,
    ⟨some 12, .call ⟨(.builtin .max), #[(.tmp 9), (.tmp 11)], #[3, 3]⟩, none⟩,
    ⟨some 13, .binOp .sub 3 (.tmp 12) (.const (.int .i64 1)) 3, none⟩,
    ⟨some 5, .assign (.tmp 13), none⟩])
  (.block 0 (.loop (.seq (.seq (.reg [
    ⟨some 14, .move (.tmp 5), none⟩,
    ⟨some 15, .binOp .geq 3 (.tmp 14) (.const (.int .i64 0)) 3, none⟩])
  (.cond (.tmp 15)
    .skip
    (.exit 0)))
  (.seq (.block 1 (.seq (.reg [
    ⟨some 18, .move (.tmp 0), none⟩,
    ⟨some 19, .move (.tmp 5), none⟩,
    ⟨some 20, .call ⟨(.value (.func 146)), #[(.tmp 18), (.tmp 19)], #[23, 3]⟩, none⟩,
    ⟨some 21, .move (.tmp 1), none⟩,
    ⟨some 22, .move (.tmp 5), none⟩,
    ⟨some 23, .call ⟨(.value (.func 146)), #[(.tmp 21), (.tmp 22)], #[23, 3]⟩, none⟩,
    ⟨some 6, .assign (.tmp 20), none⟩,
    ⟨some 7, .assign (.tmp 23), none⟩])
  (.seq (.seq (.reg [
    ⟨some 24, .move (.tmp 6), none⟩,
    ⟨some 25, .move (.tmp 7), none⟩,
    ⟨some 26, .binOp .lss 97 (.tmp 24) (.tmp 25) 97, none⟩])
  (.cond (.tmp 26)
    (.seq (.reg [
      ⟨some 4, .assign (.const (.int .i64 (-1))), none⟩])
    .ret)
    .skip))
  (.seq (.reg [
    ⟨some 27, .move (.tmp 6), none⟩,
    ⟨some 28, .move (.tmp 7), none⟩,
    ⟨some 29, .binOp .gtr 97 (.tmp 27) (.tmp 28) 97, none⟩])
  (.cond (.tmp 29)
    (.seq (.reg [
      ⟨some 4, .assign (.const (.int .i64 1)), none⟩])
    .ret)
    .skip)))))
  (.reg [
    ⟨some 16, .move (.tmp 5), none⟩,
    ⟨some 17, .binOp .sub 3 (.tmp 16) (.const (.int .i64 1)) 3, none⟩,
    ⟨some 5, .assign (.tmp 17), none⟩]))))))
  (.seq (.reg [
    ⟨some 4, .assign (.const (.int .i64 0)), none⟩])
  .ret)))⟩
theorem c135 : fcomp Tryz.prog 135 = ⟨b135.n, b135.np, b135.res, b135.body.bare⟩ := by kernel_rfl
theorem k135 : fok Tryz.prog 135 = true := by kernel_rfl
theorem ref_Cmp (a b : List Int) (ha : Lim a) (hb : Lim b) (la : a.length < 4611686018427387904) (lb : b.length < 4611686018427387904) : AFun Tryz.prog 135 [.one (natD a), .one (natD b)] [.one (.lit (.int .i64 (cmpZ (val a) (val b))))] := by
  refine afun_intro mo_ _ _ c135 k135 _ _ rfl (by decide) ?_
  unfold b135
  obtain ⟨M, hM, hMa, hMb, hM2⟩ : ∃ M : Nat, (if (b.length : Int) > a.length then (b.length : Int) else a.length) = M ∧ a.length ≤ M ∧ b.length ≤ M ∧ M < 4611686018427387904 := by
    by_cases h : (b.length : Int) > a.length
    · rw [if_pos h]; exact ⟨_, rfl, by omega, by omega, by omega⟩
    · rw [if_neg h]; exact ⟨_, rfl, by omega, by omega, by omega⟩
  simp (maxSteps := 1000000) (disch := first | omega | (simp only [LL]; omega)) only [W, V, TY, CC, reduceIte, Nat.reduceEqDiff, Nat.reduceAdd, Nat.reduceLeDiff, Nat.reduceLT, Int.reduceLE, Int.reduceLT, Int.reduceAdd, Int.reduceSub, Int.reduceToNat, Nat.reduceMul, hM]
  refine w_loop (fun n s => ∃ i : Nat, n = i ∧ s.t 0 = .one (.dt (natD a)) ∧ s.t 1 = .one (.dt (natD b)) ∧ s.t 5 = .one (.dt (.lit (.int .i64 (i - 1)))) ∧ i ≤ M ∧ val (a.drop i) = val (b.drop i)) M ⟨M, rfl, ?_, ?_, ?_, Nat.le_refl _, by rw [List.drop_of_length_le hMa, List.drop_of_length_le hMb]⟩ ?_
  · simp (maxSteps := 1000000) (disch := first | omega | (simp only [LL]; omega)) only [W, V, TY, CC, reduceIte, Nat.reduceEqDiff, Nat.reduceAdd, Nat.reduceLeDiff, Nat.reduceLT, Int.reduceLE, Int.reduceLT, Int.reduceAdd, Int.reduceSub, Int.reduceToNat, Nat.reduceMul, hM]
  · simp (maxSteps := 1000000) (disch := first | omega | (simp only [LL]; omega)) only [W, V, TY, CC, reduceIte, Nat.reduceEqDiff, Nat.reduceAdd, Nat.reduceLeDiff, Nat.reduceLT, Int.reduceLE, Int.reduceLT, Int.reduceAdd, Int.reduceSub, Int.reduceToNat, Nat.reduceMul, hM]
  · simp (maxSteps := 1000000) (disch := first | omega | (simp only [LL]; omega)) only [W, V, TY, CC, reduceIte, Nat.reduceEqDiff, Nat.reduceAdd, Nat.reduceLeDiff, Nat.reduceLT, Int.reduceLE, Int.reduceLT, Int.reduceAdd, Int.reduceSub, Int.reduceToNat, Nat.reduceMul, hM]
  intro n s _ ⟨i, e, t0, t1, t5, hi, hd⟩
  simp (maxSteps := 1000000) (disch := first | omega | (simp only [LL]; omega)) only [W, V, TY, CC, reduceIte, Nat.reduceEqDiff, Nat.reduceAdd, Nat.reduceLeDiff, Nat.reduceLT, Int.reduceLE, Int.reduceLT, Int.reduceAdd, Int.reduceSub, Int.reduceToNat, Nat.reduceMul, t0, t1, t5]
  refine c_split (fun hc => ?_) (fun hc => ?_)
  · obtain ⟨j, rfl⟩ : ∃ j, i = j + 1 := ⟨i - 1, by omega⟩
    simp (maxSteps := 1000000) (disch := first | omega | (simp only [LL]; omega)) only [W, V, TY, CC, reduceIte, Nat.reduceEqDiff, Nat.reduceAdd, Nat.reduceLeDiff, Nat.reduceLT, Int.reduceLE, Int.reduceLT, Int.reduceAdd, Int.reduceSub, Int.reduceToNat, Nat.reduceMul, t0, t1, t5]
    refine a_call _ _ (ref_limb a j ha) (by simp (maxSteps := 1000000) (disch := first | omega | (simp only [LL]; omega)) only [W, V, TY, CC, reduceIte, Nat.reduceEqDiff, Nat.reduceAdd, Nat.reduceLeDiff, Nat.reduceLT, Int.reduceLE, Int.reduceLT, Int.reduceAdd, Int.reduceSub, Int.reduceToNat, Nat.reduceMul, t0, t1, t5]) ?_
    simp (maxSteps := 1000000) (disch := first | omega | (simp only [LL]; omega)) only [W, V, TY, CC, reduceIte, Nat.reduceEqDiff, Nat.reduceAdd, Nat.reduceLeDiff, Nat.reduceLT, Int.reduceLE, Int.reduceLT, Int.reduceAdd, Int.reduceSub, Int.reduceToNat, Nat.reduceMul, t0, t1, t5]
    refine a_call _ _ (ref_limb b j hb) (by simp (maxSteps := 1000000) (disch := first | omega | (simp only [LL]; omega)) only [W, V, TY, CC, reduceIte, Nat.reduceEqDiff, Nat.reduceAdd, Nat.reduceLeDiff, Nat.reduceLT, Int.reduceLE, Int.reduceLT, Int.reduceAdd, Int.reduceSub, Int.reduceToNat, Nat.reduceMul, t0, t1, t5]) ?_
    simp (maxSteps := 1000000) (disch := first | omega | (simp only [LL]; omega)) only [W, V, TY, CC, reduceIte, Nat.reduceEqDiff, Nat.reduceAdd, Nat.reduceLeDiff, Nat.reduceLT, Int.reduceLE, Int.reduceLT, Int.reduceAdd, Int.reduceSub, Int.reduceToNat, Nat.reduceMul, t0, t1, t5]
    refine c_split (fun h3 => ?_) (fun h3 => ?_)
    · simp (maxSteps := 1000000) (disch := first | omega | (simp only [LL]; omega)) only [W, V, TY, CC, reduceIte, Nat.reduceEqDiff, Nat.reduceAdd, Nat.reduceLeDiff, Nat.reduceLT, Int.reduceLE, Int.reduceLT, Int.reduceAdd, Int.reduceSub, Int.reduceToNat, Nat.reduceMul, t0, t1, t5]
      refine f_ret _ _ _ ?_
      have := lt_of_at' ha hb j hd h3
      simp (maxSteps := 1000000) (disch := first | omega | (simp only [LL]; omega)) only [W, V, TY, CC, reduceIte, Nat.reduceEqDiff, Nat.reduceAdd, Nat.reduceLeDiff, Nat.reduceLT, Int.reduceLE, Int.reduceLT, Int.reduceAdd, Int.reduceSub, Int.reduceToNat, Nat.reduceMul, cmpZ, this]
    · simp (maxSteps := 1000000) (disch := first | omega | (simp only [LL]; omega)) only [W, V, TY, CC, reduceIte, Nat.reduceEqDiff, Nat.reduceAdd, Nat.reduceLeDiff, Nat.reduceLT, Int.reduceLE, Int.reduceLT, Int.reduceAdd, Int.reduceSub, Int.reduceToNat, Nat.reduceMul, t0, t1, t5]
      refine c_split (fun h4 => ?_) (fun h4 => ?_)
      · simp (maxSteps := 1000000) (disch := first | omega | (simp only [LL]; omega)) only [W, V, TY, CC, reduceIte, Nat.reduceEqDiff, Nat.reduceAdd, Nat.reduceLeDiff, Nat.reduceLT, Int.reduceLE, Int.reduceLT, Int.reduceAdd, Int.reduceSub, Int.reduceToNat, Nat.reduceMul, t0, t1, t5]
        refine f_ret _ _ _ ?_
        have := lt_of_at' hb ha j hd.symm h4
        have h' : ¬ val a < val b := by omega
        simp (maxSteps := 1000000) (disch := first | omega | (simp only [LL]; omega)) only [W, V, TY, CC, reduceIte, Nat.reduceEqDiff, Nat.reduceAdd, Nat.reduceLeDiff, Nat.reduceLT, Int.reduceLE, Int.reduceLT, Int.reduceAdd, Int.reduceSub, Int.reduceToNat, Nat.reduceMul, cmpZ, this, h']
      · simp (maxSteps := 1000000) (disch := first | omega | (simp only [LL]; omega)) only [W, V, TY, CC, reduceIte, Nat.reduceEqDiff, Nat.reduceAdd, Nat.reduceLeDiff, Nat.reduceLT, Int.reduceLE, Int.reduceLT, Int.reduceAdd, Int.reduceSub, Int.reduceToNat, Nat.reduceMul, t0, t1, t5]
        refine ⟨j, by omega, j, rfl, rfl, by omega, ?_⟩
        rw [val_drop' a j, val_drop' b j, hd]
        omega
  · simp (maxSteps := 1000000) (disch := first | omega | (simp only [LL]; omega)) only [W, V, TY, CC, reduceIte, Nat.reduceEqDiff, Nat.reduceAdd, Nat.reduceLeDiff, Nat.reduceLT, Int.reduceLE, Int.reduceLT, Int.reduceAdd, Int.reduceSub, Int.reduceToNat, Nat.reduceMul, t0, t1, t5]
    refine f_ret _ _ _ ?_
    have h0 : i = 0 := by omega
    rw [h0, List.drop_zero, List.drop_zero] at hd
    have h' : ¬ val a < val b := by omega
    have h'' : ¬ val b < val a := by omega
    simp (maxSteps := 1000000) (disch := first | omega | (simp only [LL]; omega)) only [W, V, TY, CC, reduceIte, Nat.reduceEqDiff, Nat.reduceAdd, Nat.reduceLeDiff, Nat.reduceLT, Int.reduceLE, Int.reduceLT, Int.reduceAdd, Int.reduceSub, Int.reduceToNat, Nat.reduceMul, cmpZ, h', h'']
end Go.Proofs.YtljmgdepldpmdaaGreatDoor.E

set_option linter.unusedSimpArgs false
set_option linter.unusedVariables false
set_option maxHeartbeats 2000000
namespace Go.Proofs.YtljmgdepldpmdaaGreatDoor.E
open Go.RowKit Limbs
/-- examboard/examboardref01.Add -/
def b129 : AF := ⟨40, 2, [.tmp 4],
  (.seq (.reg [
    ⟨some 4, .assign (.const (.slice none 0 0)), none⟩])
  (.seq (.reg [
    ⟨some 9, .move (.tmp 0), none⟩,
    ⟨some 10, .call ⟨(.builtin .len), #[(.tmp 9)], #[23]⟩, none⟩,
    ⟨some 11, .move (.tmp 1), none⟩,
    ⟨some 12, .call ⟨(.builtin .len), #[(.tmp 11)], #[23]⟩, none⟩,
    ⟨some 13, .call ⟨(.builtin .max), #[(.tmp 10), (.tmp 12)], #[3, 3]⟩, none⟩,
    ⟨some 14, .binOp .add 3 (.tmp 13) (.const (.int .i64 1)) 3, none⟩,
    ⟨some 15, .makeSlice 23 (.tmp 14) (.tmp 14), none⟩,
    ⟨some 5, .assign (.tmp 15), none⟩])
  (.seq (.reg [
    ⟨some 6, .assign (.const (.int .u64 0)), none⟩])
  (.seq (.seq (.reg [
    ⟨some 7, .assign (.const (.int .i64 0)), none⟩])
  (.block 0 (.loop (.seq (.seq (.reg [
    ⟨some 16, .move (.tmp 7), none⟩,
    ⟨some 17, .move (.tmp 5), none⟩,
    ⟨some 18, .call ⟨(.builtin .len), #[(.tmp 17)], #[23]⟩, none⟩,
    ⟨some 19, .binOp .lss 3 (.tmp 16) (.tmp 18) 3, none⟩])
  (.cond (.tmp 19)
    .skip
    (.exit 0)))
  (.seq (.block 1 (.seq (.reg [
    ⟨some 22, .move (.tmp 0), none⟩,
    ⟨some 23, .move (.tmp 7), none⟩,
    ⟨some 24, .call ⟨(.value (.func 146)), #[(.tmp 22), (.tmp 23)], #[23, 3]⟩, none⟩,
    ⟨some 25, .move (.tmp 1), none⟩,
    ⟨some 26, .move (.tmp 7), none⟩,
    ⟨some 27, .call ⟨(.value (.func 146)), #[(.tmp 25), (.tmp 26)], #[23, 3]⟩, none⟩,
    ⟨some 28, .binOp .add 97 (.tmp 24) (.tmp 27) 97, none⟩,
    ⟨some 29, .move (.tmp 6), none⟩,
    ⟨some 30, .binOp .add 97 (.tmp 28) (.tmp 29) 97, none⟩,
    ⟨some 8, .assign (.tmp 30), none⟩])
  (.seq (.reg [
    ⟨some 31, .move (.tmp 5), none⟩,
    ⟨some 32, .move (.tmp 7), none⟩,
    ⟨some 33, .move (.tmp 8), none⟩,
    ⟨some 34, .convert 97 103 (.tmp 33), none⟩,
    ⟨some 35, .indexAddr 23 (.tmp 31) (.tmp 32), none⟩,
    ⟨none, .store 103 (.tmp 35) (.tmp 34), none⟩])
  (.reg [
    ⟨some 36, .move (.tmp 8), none⟩,
    ⟨some 37, .binOp .shr 97 (.tmp 36) (.const (.int .u64 32)) 113, none⟩,
    ⟨some 6, .assign (.tmp 37), none⟩]))))
  (.reg [
    ⟨some 20, .move (.tmp 7), none⟩,
    ⟨some 21, .binOp .add 3 (.tmp 20) (.const (.int .i64 1)) 3, none⟩,
    ⟨some 7, .assign (.tmp 21), none⟩]))))))
  (.seq (.seq (.gh [.frz 5])
  (.reg [
    ⟨some 38, .move (.tmp 5), none⟩,
    ⟨some 39, .call ⟨(.value (.func 126)), #[(.tmp 38)], #[23]⟩, none⟩,
    ⟨some 4, .assign (.tmp 39), none⟩]))
  .ret)))))⟩
theorem c129 : fcomp Tryz.prog 129 = ⟨b129.n, b129.np, b129.res, b129.body.bare⟩ := by kernel_rfl
theorem k129 : fok Tryz.prog 129 = true := by kernel_rfl
theorem ref_Add (a b : List Int) (ha : Lim a) (hb : Lim b) (la : a.length < 8796093022208) (lb : b.length < 8796093022208) : AFun Tryz.prog 129 [.one (natD a), .one (natD b)] [.one (natD (nl (nv a + nv b)))] := by
  refine afun_intro mo_ _ _ c129 k129 _ _ rfl (by decide) ?_
  unfold b129
  obtain ⟨M, hM, hMa, hMb, hM2⟩ : ∃ M : Nat, (if (b.length : Int) > a.length then (b.length : Int) else a.length) = M ∧ a.length ≤ M ∧ b.length ≤ M ∧ M < 8796093022208 := by
    by_cases h : (b.length : Int) > a.length
    · rw [if_pos h]; exact ⟨_, rfl, by omega, by omega, by omega⟩
    · rw [if_neg h]; exact ⟨_, rfl, by omega, by omega, by omega⟩
  simp (maxSteps := 1000000) (disch := first | omega | (simp only [LL]; omega)) only [W, V, TY, CC, reduceIte, Nat.reduceEqDiff, Nat.reduceAdd, Nat.reduceLeDiff, Nat.reduceLT, Int.reduceLE, Int.reduceLT, Int.reduceAdd, Int.reduceSub, Int.reduceToNat, Nat.reduceMul, hM]
  refine w_loop (fun n s => ∃ (i : Nat) (D : List Int) (c : Int), n + i = M + 1 ∧ s.t 0 = .one (.dt (natD a)) ∧ s.t 1 = .one (.dt (natD b)) ∧ s.t 5 = .one (.row (15, 0) 0) ∧ s.r (15, 0) = some ⟨103, 1, M + 1, natC D, 0, true⟩ ∧ s.t 6 = .one (.dt (.lit (.int .u64 c))) ∧ s.t 7 = .one (.dt (.lit (.int .i64 i))) ∧ D.length = M + 1 ∧ Lim D ∧ 0 ≤ c ∧ c ≤ 1 ∧ val (D.take i) + bp i * c = val (a.take i) + val (b.take i)) (M + 1) ⟨0, List.replicate (M + 1) 0, 0, rfl, ?_, ?_, ?_, ?_, ?_, ?_, by simp, Lim.replicate _, by omega, by omega, by simp [val]⟩ ?_
  · simp (maxSteps := 1000000) (disch := first | omega | (simp only [LL]; omega)) only [W, V, TY, CC, reduceIte, Nat.reduceEqDiff, Nat.reduceAdd, Nat.reduceLeDiff, Nat.reduceLT, Int.reduceLE, Int.reduceLT, Int.reduceAdd, Int.reduceSub, Int.reduceToNat, Nat.reduceMul, hM]
  · simp (maxSteps := 1000000) (disch := first | omega | (simp only [LL]; omega)) only [W, V, TY, CC, reduceIte, Nat.reduceEqDiff, Nat.reduceAdd, Nat.reduceLeDiff, Nat.reduceLT, Int.reduceLE, Int.reduceLT, Int.reduceAdd, Int.reduceSub, Int.reduceToNat, Nat.reduceMul, hM]
  · simp (maxSteps := 1000000) (disch := first | omega | (simp only [LL]; omega)) only [W, V, TY, CC, reduceIte, Nat.reduceEqDiff, Nat.reduceAdd, Nat.reduceLeDiff, Nat.reduceLT, Int.reduceLE, Int.reduceLT, Int.reduceAdd, Int.reduceSub, Int.reduceToNat, Nat.reduceMul, hM]
  · simp (maxSteps := 1000000) (disch := first | omega | (simp only [LL]; omega)) only [W, V, TY, CC, reduceIte, Nat.reduceEqDiff, Nat.reduceAdd, Nat.reduceLeDiff, Nat.reduceLT, Int.reduceLE, Int.reduceLT, Int.reduceAdd, Int.reduceSub, Int.reduceToNat, Nat.reduceMul, hM]
  · simp (maxSteps := 1000000) (disch := first | omega | (simp only [LL]; omega)) only [W, V, TY, CC, reduceIte, Nat.reduceEqDiff, Nat.reduceAdd, Nat.reduceLeDiff, Nat.reduceLT, Int.reduceLE, Int.reduceLT, Int.reduceAdd, Int.reduceSub, Int.reduceToNat, Nat.reduceMul, hM]
  · simp (maxSteps := 1000000) (disch := first | omega | (simp only [LL]; omega)) only [W, V, TY, CC, reduceIte, Nat.reduceEqDiff, Nat.reduceAdd, Nat.reduceLeDiff, Nat.reduceLT, Int.reduceLE, Int.reduceLT, Int.reduceAdd, Int.reduceSub, Int.reduceToNat, Nat.reduceMul, hM]
  intro n s _ ⟨i, D, c, e, t0, t1, t5, r5, t6, t7, hD, lD, c0, c1, hv⟩
  simp (maxSteps := 1000000) (disch := first | omega | (simp only [LL]; omega)) only [W, V, TY, CC, reduceIte, Nat.reduceEqDiff, Nat.reduceAdd, Nat.reduceLeDiff, Nat.reduceLT, Int.reduceLE, Int.reduceLT, Int.reduceAdd, Int.reduceSub, Int.reduceToNat, Nat.reduceMul, t0, t1, t5, r5, t6, t7]
  refine c_split (fun hc => ?_) (fun hc => ?_)
  · have hx := ha.getD i
    have hy := hb.getD i
    simp (maxSteps := 1000000) (disch := first | omega | (simp only [LL]; omega)) only [W, V, TY, CC, reduceIte, Nat.reduceEqDiff, Nat.reduceAdd, Nat.reduceLeDiff, Nat.reduceLT, Int.reduceLE, Int.reduceLT, Int.reduceAdd, Int.reduceSub, Int.reduceToNat, Nat.reduceMul, t0, t1, t5, r5, t6, t7]
    refine a_call _ _ (ref_limb a i ha) (by simp (maxSteps := 1000000) (disch := first | omega | (simp only [LL]; omega)) only [W, V, TY, CC, reduceIte, Nat.reduceEqDiff, Nat.reduceAdd, Nat.reduceLeDiff, Nat.reduceLT, Int.reduceLE, Int.reduceLT, Int.reduceAdd, Int.reduceSub, Int.reduceToNat, Nat.reduceMul, t0, t1, t5, r5, t6, t7]) ?_
    simp (maxSteps := 1000000) (disch := first | omega | (simp only [LL]; omega)) only [W, V, TY, CC, reduceIte, Nat.reduceEqDiff, Nat.reduceAdd, Nat.reduceLeDiff, Nat.reduceLT, Int.reduceLE, Int.reduceLT, Int.reduceAdd, Int.reduceSub, Int.reduceToNat, Nat.reduceMul, t0, t1, t5, r5, t6, t7]
    refine a_call _ _ (ref_limb b i hb) (by simp (maxSteps := 1000000) (disch := first | omega | (simp only [LL]; omega)) only [W, V, TY, CC, reduceIte, Nat.reduceEqDiff, Nat.reduceAdd, Nat.reduceLeDiff, Nat.reduceLT, Int.reduceLE, Int.reduceLT, Int.reduceAdd, Int.reduceSub, Int.reduceToNat, Nat.reduceMul, t0, t1, t5, r5, t6, t7]) ?_
    simp (maxSteps := 1000000) (disch := first | omega | (simp only [LL]; omega)) only [W, V, TY, CC, reduceIte, Nat.reduceEqDiff, Nat.reduceAdd, Nat.reduceLeDiff, Nat.reduceLT, Int.reduceLE, Int.reduceLT, Int.reduceAdd, Int.reduceSub, Int.reduceToNat, Nat.reduceMul, t0, t1, t5, r5, t6, t7, IntKind.wrap_u32]
    refine ⟨⟨by omega, by omega⟩, by omega, n - 1, by omega, i + 1, D.set i ((a.getD i 0 + b.getD i 0 + c) % 4294967296), (a.getD i 0 + b.getD i 0 + c) / 4294967296, by omega, rfl, rfl, rfl, by simp [hD], lD.set _ (by omega) (by omega), by omega, by omega, ?_⟩
    rw [take_set_succ (by omega), val_snoc, List.length_take, Nat.min_eq_left (by omega), bp_succ, val_take' a i, val_take' b i]
    generalize a.getD i 0 = x at *
    generalize b.getD i 0 = y at *
    have := Int.emod_add_mul_ediv (x + y + c) 4294967296
    clear t0 t1 t5 r5 t6 t7
    grind
  · simp (maxSteps := 1000000) (disch := first | omega | (simp only [LL]; omega)) only [W, V, TY, CC, reduceIte, Nat.reduceEqDiff, Nat.reduceAdd, Nat.reduceLeDiff, Nat.reduceLT, Int.reduceLE, Int.reduceLT, Int.reduceAdd, Int.reduceSub, Int.reduceToNat, Nat.reduceMul, t0, t1, t5, r5, t6, t7]
    have hi : i = M + 1 := by omega
    rw [List.take_of_length_le (by omega), List.take_of_length_le (by omega), List.take_of_length_le (by omega), hi, bp_succ] at hv
    have h1 := val_take_lt ha M
    have h2 := val_take_lt hb M
    rw [List.take_of_length_le (by omega)] at h1 h2
    have h3 := val_nonneg lD
    have h4 := bp_pos M
    have hc0 : c = 0 := by
      by_cases h : c = 0
      · exact h
      · have : c = 1 := by omega
        subst this; omega
    subst hc0
    refine a_call _ _ (ref_Norm D lD (by omega)) (by simp (maxSteps := 1000000) (disch := first | omega | (simp only [LL]; omega)) only [W, V, TY, CC, reduceIte, Nat.reduceEqDiff, Nat.reduceAdd, Nat.reduceLeDiff, Nat.reduceLT, Int.reduceLE, Int.reduceLT, Int.reduceAdd, Int.reduceSub, Int.reduceToNat, Nat.reduceMul, t0, t1, t5, r5, t6, t7]) ?_
    simp (maxSteps := 1000000) (disch := first | omega | (simp only [LL]; omega)) only [W, V, TY, CC, reduceIte, Nat.reduceEqDiff, Nat.reduceAdd, Nat.reduceLeDiff, Nat.reduceLT, Int.reduceLE, Int.reduceLT, Int.reduceAdd, Int.reduceSub, Int.reduceToNat, Nat.reduceMul]
    refine f_ret _ _ _ ?_
    have hres : tr D = nl (nv a + nv b) := by unfold tr; congr 1; have := nv_eq lD; have := nv_eq ha; have := nv_eq hb; omega
    simp (maxSteps := 1000000) (disch := first | omega | (simp only [LL]; omega)) only [W, V, TY, CC, reduceIte, Nat.reduceEqDiff, Nat.reduceAdd, Nat.reduceLeDiff, Nat.reduceLT, Int.reduceLE, Int.reduceLT, Int.reduceAdd, Int.reduceSub, Int.reduceToNat, Nat.reduceMul, hres]
end Go.Proofs.YtljmgdepldpmdaaGreatDoor.E

set_option linter.unusedSimpArgs false
set_option linter.unusedVariables false
set_option maxHeartbeats 2000000
namespace Go.Proofs.YtljmgdepldpmdaaGreatDoor.E
open Go.RowKit Limbs
/-- examboard/examboardref01.Sub -/
def b130 : AF := ⟨46, 2, [.tmp 4, .tmp 5],
  (.seq (.reg [
    ⟨some 4, .assign (.const (.slice none 0 0)), none⟩,
    ⟨some 5, .assign (.const (.bool false)), none⟩])
  (.seq (.seq (.reg [
    ⟨some 11, .move (.tmp 0), none⟩,
    ⟨some 12, .move (.tmp 1), none⟩,
    ⟨some 13, .call ⟨(.value (.func 135)), #[(.tmp 11), (.tmp 12)], #[23, 23]⟩, none⟩,
    ⟨some 14, .binOp .lss 3 (.tmp 13) (.const (.int .i64 0)) 3, none⟩])
  (.cond (.tmp 14)
    (.seq (.reg [
      ⟨some 4, .assign (.const (.slice none 0 0)), none⟩,
      ⟨some 5, .assign (.const (.bool false)), none⟩])
    .ret)
    .skip))
  (.seq (.reg [
    ⟨some 15, .move (.tmp 0), none⟩,
    ⟨some 16, .call ⟨(.builtin .len), #[(.tmp 15)], #[23]⟩, none⟩,
    ⟨some 17, .makeSlice 23 (.tmp 16) (.tmp 16), none⟩,
    ⟨some 6, .assign (.tmp 17), none⟩])
  (.seq (.reg [
    ⟨some 7, .assign (.const (.int .u64 0)), none⟩])
  (.seq (.seq (.reg [
    ⟨some 8, .assign (.const (.int .i64 0)), none⟩])
  (.block 0 (.loop (.seq (.seq (.reg [
    ⟨some 18, .move (.tmp 8), none⟩,
    ⟨some 19, .move (.tmp 0), none⟩,
    ⟨some 20, .call ⟨(.builtin .len), #[(.tmp 19)], #[23]⟩, none⟩,
    ⟨some 21, .binOp .lss 3 (.tmp 18) (.tmp 20) 3, none⟩])
  (.cond (.tmp 21)
    .skip
    (.exit 0)))
  (.seq (.block 1 (.seq (.reg [
    ⟨some 24, .move (.tmp 0), none⟩,
    ⟨some 25, .move (.tmp 8), none⟩,
    ⟨some 26, .call ⟨(.value (.func 146)), #[(.tmp 24), (.tmp 25)], #[23, 3]⟩, none⟩,
    ⟨some 27, .move (.tmp 1), none⟩,
    ⟨some 28, .move (.tmp 8), none⟩,
    ⟨some 29, .call ⟨(.value (.func 146)), #[(.tmp 27), (.tmp 28)], #[23, 3]⟩, none⟩,
    ⟨some 30, .move (.tmp 7), none⟩,
    ⟨some 31, .binOp .add 97 (.tmp 29) (.tmp 30) 97, none⟩,
    ⟨some 9, .assign (.tmp 26), none⟩,
    ⟨some 10, .assign (.tmp 31), none⟩])
  (.seq (.reg [
    ⟨some 7, .assign (.const (.int .u64 0)), none⟩])
  (.seq (.seq (.reg [
    ⟨some 32, .move (.tmp 9), none⟩,
    ⟨some 33, .move (.tmp 10), none⟩,
    ⟨some 34, .binOp .lss 97 (.tmp 32) (.tmp 33) 97, none⟩])
  (.cond (.tmp 34)
    (.seq (.reg [
      ⟨some 35, .move (.tmp 9), none⟩,
      ⟨some 36, .binOp .add 97 (.tmp 35) (.const (.int .u64 4294967296)) 97, none⟩,
      ⟨some 9, .assign (.tmp 36), none⟩])
    (.reg [
      ⟨some 7, .assign (.const (.int .u64 1)), none⟩]))
    .skip))
  (.reg [
    ⟨some 37, .move (.tmp 6), none⟩,
    ⟨some 38, .move (.tmp 8), none⟩,
    ⟨some 39, .move (.tmp 9), none⟩,
    ⟨some 40, .move (.tmp 10), none⟩,
    ⟨some 41, .binOp .sub 97 (.tmp 39) (.tmp 40) 97, none⟩,
    ⟨some 42, .convert 97 103 (.tmp 41), none⟩,
    ⟨some 43, .indexAddr 23 (.tmp 37) (.tmp 38), none⟩,
    ⟨none, .store 103 (.tmp 43) (.tmp 42), none⟩])))))
  (.reg [
    ⟨some 22, .move (.tmp 8), none⟩,
    ⟨some 23, .binOp .add 3 (.tmp 22) (.const (.int .i64 1)) 3, none⟩,
    ⟨some 8, .assign (.tmp 23), none⟩]))))))
  (.seq (.seq (.gh [.frz 6])
  (.reg [
    ⟨some 44, .move (.tmp 6), none⟩,
    ⟨some 45, .call ⟨(.value (.func 126)), #[(.tmp 44)], #[23]⟩, none⟩,
    ⟨some 4, .assign (.tmp 45), none⟩,
    ⟨some 5, .assign (.const (.bool true)), none⟩]))
  .ret))))))⟩
theorem c130 : fcomp Tryz.prog 130 = ⟨b130.n, b130.np, b130.res, b130.body.bare⟩ := by kernel_rfl
theorem k130 : fok Tryz.prog 130 = true := by kernel_rfl
theorem ref_Sub (a b : List Int) (ha : Lim a) (hb : Lim b) (la : a.length < 8796093022208) (lb : b.length < 8796093022208) : AFun Tryz.prog 130 [.one (natD a), .one (natD b)] (subR (nv a) (nv b)) := by
  refine afun_intro mo_ _ _ c130 k130 _ _ rfl (by decide) ?_
  unfold b130
  have e1 := nv_eq ha
  have e2 := nv_eq hb
  simp (maxSteps := 1000000) (disch := first | omega | (simp only [LL]; omega)) only [W, V, TY, CC, reduceIte, Nat.reduceEqDiff, Nat.reduceAdd, Nat.reduceLeDiff, Nat.reduceLT, Int.reduceLE, Int.reduceLT, Int.reduceAdd, Int.reduceSub, Int.reduceToNat, Nat.reduceMul]
  refine a_call _ _ (ref_Cmp a b ha hb (by omega) (by omega)) rfl ?_
  simp (maxSteps := 1000000) (disch := first | omega | (simp only [LL]; omega)) only [W, V, TY, CC, reduceIte, Nat.reduceEqDiff, Nat.reduceAdd, Nat.reduceLeDiff, Nat.reduceLT, Int.reduceLE, Int.reduceLT, Int.reduceAdd, Int.reduceSub, Int.reduceToNat, Nat.reduceMul]
  refine c_split (fun hl => ?_) (fun hl => ?_)
  · have hlt : val a < val b := by
      unfold cmpZ at hl
      split at hl
      · assumption
      · split at hl <;> omega
    simp (maxSteps := 1000000) (disch := first | omega | (simp only [LL]; omega)) only [W, V, TY, CC, reduceIte, Nat.reduceEqDiff, Nat.reduceAdd, Nat.reduceLeDiff, Nat.reduceLT, Int.reduceLE, Int.reduceLT, Int.reduceAdd, Int.reduceSub, Int.reduceToNat, Nat.reduceMul]
    refine f_ret _ _ _ ?_
    unfold subR
    rw [if_neg (by omega)]
    simp (maxSteps := 1000000) (disch := first | omega | (simp only [LL]; omega)) only [W, V, TY, CC, reduceIte, Nat.reduceEqDiff, Nat.reduceAdd, Nat.reduceLeDiff, Nat.reduceLT, Int.reduceLE, Int.reduceLT, Int.reduceAdd, Int.reduceSub, Int.reduceToNat, Nat.reduceMul]
    rfl
  · have hge : val b ≤ val a := by
      unfold cmpZ at hl
      split at hl <;> omega
    simp (maxSteps := 1000000) (disch := first | omega | (simp only [LL]; omega)) only [W, V, TY, CC, reduceIte, Nat.reduceEqDiff, Nat.reduceAdd, Nat.reduceLeDiff, Nat.reduceLT, Int.reduceLE, Int.reduceLT, Int.reduceAdd, Int.reduceSub, Int.reduceToNat, Nat.reduceMul]
    refine w_loop (fun n s => ∃ (i : Nat) (D : List Int) (c : Int), n + i = a.length ∧ s.t 0 = .one (.dt (natD a)) ∧ s.t 1 = .one (.dt (natD b)) ∧ s.t 8 = .one (.dt (.lit (.int .i64 i))) ∧ s.t 6 = .one (.row (17, 0) 0) ∧ s.r (17, 0) = some ⟨103, 1, a.length, natC D, 0, true⟩ ∧ s.t 7 = .one (.dt (.lit (.int .u64 c))) ∧ D.length = a.length ∧ Lim D ∧ 0 ≤ c ∧ c ≤ 1 ∧ val (D.take i) + val (b.take i) = val (a.take i) + bp i * c) a.length ⟨0, List.replicate a.length 0, 0, rfl, ?_, ?_, ?_, ?_, ?_, ?_, by simp, Lim.replicate _, by omega, by omega, by simp [val]⟩ ?_
    · simp (maxSteps := 1000000) (disch := first | omega | (simp only [LL]; omega)) only [W, V, TY, CC, reduceIte, Nat.reduceEqDiff, Nat.reduceAdd, Nat.reduceLeDiff, Nat.reduceLT, Int.reduceLE, Int.reduceLT, Int.reduceAdd, Int.reduceSub, Int.reduceToNat, Nat.reduceMul]
    · simp (maxSteps := 1000000) (disch := first | omega | (simp only [LL]; omega)) only [W, V, TY, CC, reduceIte, Nat.reduceEqDiff, Nat.reduceAdd, Nat.reduceLeDiff, Nat.reduceLT, Int.reduceLE, Int.reduceLT, Int.reduceAdd, Int.reduceSub, Int.reduceToNat, Nat.reduceMul]
    · simp (maxSteps := 1000000) (disch := first | omega | (simp only [LL]; omega)) only [W, V, TY, CC, reduceIte, Nat.reduceEqDiff, Nat.reduceAdd, Nat.reduceLeDiff, Nat.reduceLT, Int.reduceLE, Int.reduceLT, Int.reduceAdd, Int.reduceSub, Int.reduceToNat, Nat.reduceMul]
    · simp (maxSteps := 1000000) (disch := first | omega | (simp only [LL]; omega)) only [W, V, TY, CC, reduceIte, Nat.reduceEqDiff, Nat.reduceAdd, Nat.reduceLeDiff, Nat.reduceLT, Int.reduceLE, Int.reduceLT, Int.reduceAdd, Int.reduceSub, Int.reduceToNat, Nat.reduceMul]
    · simp (maxSteps := 1000000) (disch := first | omega | (simp only [LL]; omega)) only [W, V, TY, CC, reduceIte, Nat.reduceEqDiff, Nat.reduceAdd, Nat.reduceLeDiff, Nat.reduceLT, Int.reduceLE, Int.reduceLT, Int.reduceAdd, Int.reduceSub, Int.reduceToNat, Nat.reduceMul]
    · simp (maxSteps := 1000000) (disch := first | omega | (simp only [LL]; omega)) only [W, V, TY, CC, reduceIte, Nat.reduceEqDiff, Nat.reduceAdd, Nat.reduceLeDiff, Nat.reduceLT, Int.reduceLE, Int.reduceLT, Int.reduceAdd, Int.reduceSub, Int.reduceToNat, Nat.reduceMul]
    intro n s _ ⟨i, D, c, e, t0, t1, t8, t6, r6, t7, hD, lD, c0, c1, hv⟩
    simp (maxSteps := 1000000) (disch := first | omega | (simp only [LL]; omega)) only [W, V, TY, CC, reduceIte, Nat.reduceEqDiff, Nat.reduceAdd, Nat.reduceLeDiff, Nat.reduceLT, Int.reduceLE, Int.reduceLT, Int.reduceAdd, Int.reduceSub, Int.reduceToNat, Nat.reduceMul, t0, t1, t8, t6, t7]
    refine c_split (fun hi => ?_) (fun hi => ?_)
    · have hx := ha.getD i
      have hy := hb.getD i
      have hbp := bp_succ i
      simp (maxSteps := 1000000) (disch := first | omega | (simp only [LL]; omega)) only [W, V, TY, CC, reduceIte, Nat.reduceEqDiff, Nat.reduceAdd, Nat.reduceLeDiff, Nat.reduceLT, Int.reduceLE, Int.reduceLT, Int.reduceAdd, Int.reduceSub, Int.reduceToNat, Nat.reduceMul, t0, t1, t8, t6, t7]
      refine a_call _ _ (ref_limb a i ha) (by simp (maxSteps := 1000000) (disch := first | omega | (simp only [LL]; omega)) only [W, V, TY, CC, reduceIte, Nat.reduceEqDiff, Nat.reduceAdd, Nat.reduceLeDiff, Nat.reduceLT, Int.reduceLE, Int.reduceLT, Int.reduceAdd, Int.reduceSub, Int.reduceToNat, Nat.reduceMul, t0, t1, t8, t6, t7]) ?_
      simp (maxSteps := 1000000) (disch := first | omega | (simp only [LL]; omega)) only [W, V, TY, CC, reduceIte, Nat.reduceEqDiff, Nat.reduceAdd, Nat.reduceLeDiff, Nat.reduceLT, Int.reduceLE, Int.reduceLT, Int.reduceAdd, Int.reduceSub, Int.reduceToNat, Nat.reduceMul, t0, t1, t8, t6, t7]
      refine a_call _ _ (ref_limb b i hb) (by simp (maxSteps := 1000000) (disch := first | omega | (simp only [LL]; omega)) only [W, V, TY, CC, reduceIte, Nat.reduceEqDiff, Nat.reduceAdd, Nat.reduceLeDiff, Nat.reduceLT, Int.reduceLE, Int.reduceLT, Int.reduceAdd, Int.reduceSub, Int.reduceToNat, Nat.reduceMul, t0, t1, t8, t6, t7]) ?_
      simp (maxSteps := 1000000) (disch := first | omega | (simp only [LL]; omega)) only [W, V, TY, CC, reduceIte, Nat.reduceEqDiff, Nat.reduceAdd, Nat.reduceLeDiff, Nat.reduceLT, Int.reduceLE, Int.reduceLT, Int.reduceAdd, Int.reduceSub, Int.reduceToNat, Nat.reduceMul, t0, t1, t8, t6, t7]
      refine c_split (fun hq => ?_) (fun hq => ?_)
      · simp (maxSteps := 1000000) (disch := first | omega | (simp only [LL]; omega)) only [W, V, TY, CC, reduceIte, Nat.reduceEqDiff, Nat.reduceAdd, Nat.reduceLeDiff, Nat.reduceLT, Int.reduceLE, Int.reduceLT, Int.reduceAdd, Int.reduceSub, Int.reduceToNat, Nat.reduceMul, t0, t1, t8, t6, t7, r6]
        refine ⟨⟨by omega, by omega⟩, by omega, n - 1, by omega, i + 1, D.set i (a.getD i 0 + 4294967296 - (b.getD i 0 + c)), 1, by omega, rfl, rfl, rfl, by simp [hD], lD.set i (by omega) (by omega), by omega, by omega, ?_⟩
        rw [take_set_succ (by omega), val_snoc, List.length_take, Nat.min_eq_left (by omega), hbp, val_take' a i, val_take' b i]
        grind
      · simp (maxSteps := 1000000) (disch := first | omega | (simp only [LL]; omega)) only [W, V, TY, CC, reduceIte, Nat.reduceEqDiff, Nat.reduceAdd, Nat.reduceLeDiff, Nat.reduceLT, Int.reduceLE, Int.reduceLT, Int.reduceAdd, Int.reduceSub, Int.reduceToNat, Nat.reduceMul, t0, t1, t8, t6, t7, r6]
        refine ⟨⟨by omega, by omega⟩, by omega, n - 1, by omega, i + 1, D.set i (a.getD i 0 - (b.getD i 0 + c)), 0, by omega, rfl, rfl, rfl, by simp [hD], lD.set i (by omega) (by omega), by omega, by omega, ?_⟩
        rw [take_set_succ (by omega), val_snoc, List.length_take, Nat.min_eq_left (by omega), hbp, val_take' a i, val_take' b i]
        grind
    · simp (maxSteps := 1000000) (disch := first | omega | (simp only [LL]; omega)) only [W, V, TY, CC, reduceIte, Nat.reduceEqDiff, Nat.reduceAdd, Nat.reduceLeDiff, Nat.reduceLT, Int.reduceLE, Int.reduceLT, Int.reduceAdd, Int.reduceSub, Int.reduceToNat, Nat.reduceMul, t0, t1, t8, t6, t7, r6]
      have hin : i = a.length := by omega
      rw [List.take_of_length_le (by omega), List.take_of_length_le (show a.length ≤ i by omega)] at hv
      have hvd := val_lt lD
      have hva := val_lt ha
      rw [hD, ← hin] at hvd
      rw [← hin] at hva
      have hsp := val_split' b i
      have hdn := val_nonneg (hb.drop i)
      have htn := val_nonneg (hb.take i)
      have hdz : val (b.drop i) = 0 := by
        by_cases h : val (b.drop i) = 0
        · exact h
        · have := Int.mul_le_mul_of_nonneg_left (show 1 ≤ val (b.drop i) by omega) (show 0 ≤ bp i by have := bp_pos i; omega)
          omega
      rw [hdz, Int.mul_zero, Int.add_zero] at hsp
      have hc0 : c = 0 := by
        by_cases h : c = 0
        · exact h
        · have : c = 1 := by omega
          subst this
          omega
      subst hc0
      refine a_call _ _ (ref_Norm D lD (by omega)) (by simp (maxSteps := 1000000) (disch := first | omega | (simp only [LL]; omega)) only [W, V, TY, CC, reduceIte, Nat.reduceEqDiff, Nat.reduceAdd, Nat.reduceLeDiff, Nat.reduceLT, Int.reduceLE, Int.reduceLT, Int.reduceAdd, Int.reduceSub, Int.reduceToNat, Nat.reduceMul, t0, t1, t8, t6, t7, r6]) ?_
      simp (maxSteps := 1000000) (disch := first | omega | (simp only [LL]; omega)) only [W, V, TY, CC, reduceIte, Nat.reduceEqDiff, Nat.reduceAdd, Nat.reduceLeDiff, Nat.reduceLT, Int.reduceLE, Int.reduceLT, Int.reduceAdd, Int.reduceSub, Int.reduceToNat, Nat.reduceMul]
      refine f_ret _ _ _ ?_
      unfold subR
      rw [if_pos (by omega)]
      have hres : tr D = nl (nv a - nv b) := by unfold tr; congr 1; have := nv_eq lD; omega
      simp (maxSteps := 1000000) (disch := first | omega | (simp only [LL]; omega)) only [W, V, TY, CC, reduceIte, Nat.reduceEqDiff, Nat.reduceAdd, Nat.reduceLeDiff, Nat.reduceLT, Int.reduceLE, Int.reduceLT, Int.reduceAdd, Int.reduceSub, Int.reduceToNat, Nat.reduceMul, hres]
end Go.Proofs.YtljmgdepldpmdaaGreatDoor.E

set_option linter.unusedSimpArgs false
set_option linter.unusedVariables false
set_option maxHeartbeats 2000000
namespace Go.Proofs.YtljmgdepldpmdaaGreatDoor.E
open Go.RowKit Limbs
/-- examboard/examboardref01.Mul -/
def b94 : AF := ⟨68, 2, [.tmp 4],
  (.seq (.reg [
    ⟨some 4, .assign (.const (.slice none 0 0)), none⟩])
  (.seq (.reg [
    ⟨some 10, .move (.tmp 0), none⟩,
    ⟨some 11, .call ⟨(.builtin .len), #[(.tmp 10)], #[23]⟩, none⟩,
    ⟨some 12, .move (.tmp 1), none⟩,
    ⟨some 13, .call ⟨(.builtin .len), #[(.tmp 12)], #[23]⟩, none⟩,
    ⟨some 14, .binOp .add 3 (.tmp 11) (.tmp 13) 3, none⟩,
    ⟨some 15, .makeSlice 23 (.tmp 14) (.tmp 14), none⟩,
    ⟨some 5, .assign (.tmp 15), none⟩])
  (.seq (.seq (.reg [
    ⟨some 6, .assign (.const (.int .i64 0)), none⟩])
  (.block 0 (.loop (.seq (.seq (.reg [
    ⟨some 16, .move (.tmp 6), none⟩,
    ⟨some 17, .move (.tmp 0), none⟩,
    ⟨some 18, .call ⟨(.builtin .len), #[(.tmp 17)], #[23]⟩, none⟩,
    ⟨some 19, .binOp .lss 3 (.tmp 16) (.tmp 18) 3, none⟩])
  (.cond (.tmp 19)
    .skip
    (.exit 0)))
  (.seq (.block 1 (.seq (.reg [
    ⟨some 7, .assign (.const (.int .u64 0)), none⟩])
  (.seq (.seq (.reg [
    ⟨some 8, .assign (.const (.int .i64 0)), none⟩])
  (.block 2 (.loop (.seq (.seq (.reg [
    ⟨some 22, .move (.tmp 8), none⟩,
    ⟨some 23, .move (.tmp 1), none⟩,
    ⟨some 24, .call ⟨(.builtin .len), #[(.tmp 23)], #[23]⟩, none⟩,
    ⟨some 25, .binOp .lss 3 (.tmp 22) (.tmp 24) 3, none⟩])
  (.cond (.tmp 25)
    .skip
    (.exit 2)))
  (.seq (.block 3 (.seq (.dreg [
    ⟨some 28, .move (.tmp 5), none⟩,
    ⟨some 29, .move (.tmp 6), none⟩,
    ⟨some 30, .move (.tmp 8), none⟩,
    ⟨some 31, .binOp .add 3 (.tmp 29) (.tmp 30) 3, none⟩,
    ⟨some 32, .indexAddr 23 (.tmp 28) (.tmp 31), none⟩,
    ⟨some 33, .load 103 (.tmp 32), none⟩,
    ⟨some 34, .convert 103 97 (.tmp 33), none⟩,
    ⟨some 35, .move (.tmp 0), none⟩,
    ⟨some 36, .move (.tmp 6), none⟩,
    ⟨some 37, .indexAddr 23 (.tmp 35) (.tmp 36), none⟩,
    ⟨some 38, .load 103 (.tmp 37), none⟩,
    ⟨some 39, .convert 103 97 (.tmp 38), none⟩,
    ⟨some 40, .move (.tmp 1), none⟩,
    ⟨some 41, .move (.tmp 8), none⟩,
    ⟨some 42, .indexAddr 23 (.tmp 40) (.tmp 41), none⟩,
    ⟨some 43, .load 103 (.tmp 42), none⟩,
    ⟨some 44, .convert 103 97 (.tmp 43), none⟩,
    ⟨some 45, .binOp .mul 97 (.tmp 39) (.tmp 44) 97, none⟩,
    ⟨some 46, .binOp .add 97 (.tmp 34) (.tmp 45) 97, none⟩,
    ⟨some 47, .move (.tmp 7), none⟩,
    ⟨some 48, .binOp .add 97 (.tmp 46) (.tmp 47) 97, none⟩,
    ⟨some 9, .assign (.tmp 48), none⟩])
  (.seq (.reg [
    ⟨some 49, .move (.tmp 5), none⟩,
    ⟨some 50, .move (.tmp 6), none⟩,
    ⟨some 51, .move (.tmp 8), none⟩,
    ⟨some 52, .binOp .add 3 (.tmp 50) (.tmp 51) 3, none⟩,
    ⟨some 53, .move (.tmp 9), none⟩,
    ⟨some 54, .convert 97 103 (.tmp 53), none⟩,
    ⟨some 55, .indexAddr 23 (.tmp 49) (.tmp 52), none⟩,
    ⟨none, .store 103 (.tmp 55) (.tmp 54), none⟩])
  (.reg [
    ⟨some 56, .move (.tmp 9), none⟩,
    ⟨some 57, .binOp .shr 97 (.tmp 56) (.const (.int .u64 32)) 113, none⟩,
    ⟨some 7, .assign (.tmp 57), none⟩]))))
  (.reg [
    ⟨some 26, .move (.tmp 8), none⟩,
    ⟨some 27, .binOp .add 3 (.tmp 26) (.const (.int .i64 1)) 3, none⟩,
    ⟨some 8, .assign (.tmp 27), none⟩]))))))
  (.reg [
    ⟨some 58, .move (.tmp 5), none⟩,
    ⟨some 59, .move (.tmp 6), none⟩,
    ⟨some 60, .move (.tmp 1), none⟩,
    ⟨some 61, .call ⟨(.builtin .len), #[(.tmp 60)], #[23]⟩, none⟩,
    ⟨some 62, .binOp .add 3 (.tmp 59) (.tmp 61) 3, none⟩,
    ⟨some 63, .move (.tmp 7), none⟩,
    ⟨some 64, .convert 97 103 (.tmp 63), none⟩,
    ⟨some 65, .indexAddr 23 (.tmp 58) (.tmp 62), none⟩,
    ⟨none, .store 103 (.tmp 65) (.tmp 64), none⟩]))))
  (.reg [
    ⟨some 20, .move (.tmp 6), none⟩,
    ⟨some 21, .binOp .add 3 (.tmp 20) (.const (.int .i64 1)) 3, none⟩,
    ⟨some 6, .assign (.tmp 21), none⟩]))))))
  (.seq (.seq (.gh [.frz 5])
  (.reg [
    ⟨some 66, .move (.tmp 5), none⟩,
    ⟨some 67, .call ⟨(.value (.func 126)), #[(.tmp 66)], #[23]⟩, none⟩,
    ⟨some 4, .assign (.tmp 67), none⟩]))
  .ret))))⟩
theorem c94 : fcomp Tryz.prog 94 = ⟨b94.n, b94.np, b94.res, b94.body.bare⟩ := by kernel_rfl
theorem k94 : fok Tryz.prog 94 = true := by kernel_rfl
theorem ref_Mul (x y : List Int) (l1 : Lim x) (l2 : Lim y) (hx : x.length < 4398046511104) (hy : y.length < 4398046511104) : AFun Tryz.prog 94 [.one (natD x), .one (natD y)] [.one (natD (nl (nv x * nv y)))] := by
  refine afun_intro mo_ _ _ c94 k94 _ _ rfl (by decide) ?_
  unfold b94
  simp (maxSteps := 1000000) (disch := first | omega | (simp only [LL]; omega)) only [W, V, TY, CC, reduceIte, Nat.reduceEqDiff, Nat.reduceAdd, Nat.reduceLeDiff, Nat.reduceLT, Int.reduceLE, Int.reduceLT, Int.reduceAdd, Int.reduceSub, Int.reduceToNat, Nat.reduceMul]
  refine w_loop (fun n s => ∃ (i : Nat) (D : List Int), n + i = x.length ∧ s.t 0 = .one (.dt (natD x)) ∧ s.t 1 = .one (.dt (natD y)) ∧ s.t 6 = .one (.dt (.lit (.int .i64 i))) ∧ s.t 5 = .one (.row (15, 0) 0) ∧ s.r (15, 0) = some ⟨103, 1, x.length + y.length, natC D, 0, true⟩ ∧ D.length = x.length + y.length ∧ Lim D ∧ (∀ j, i + y.length ≤ j → D.getD j 0 = 0) ∧ val D = val (x.take i) * val y) x.length ⟨0, List.replicate (x.length + y.length) 0, rfl, ?_, ?_, ?_, ?_, ?_, by simp, Lim.replicate _, fun j _ => ?_, by rw [val_replicate, List.take_zero, val_nil, Int.zero_mul]⟩ ?_
  · simp (maxSteps := 1000000) (disch := first | omega | (simp only [LL]; omega)) only [W, V, TY, CC, reduceIte, Nat.reduceEqDiff, Nat.reduceAdd, Nat.reduceLeDiff, Nat.reduceLT, Int.reduceLE, Int.reduceLT, Int.reduceAdd, Int.reduceSub, Int.reduceToNat, Nat.reduceMul]
  · simp (maxSteps := 1000000) (disch := first | omega | (simp only [LL]; omega)) only [W, V, TY, CC, reduceIte, Nat.reduceEqDiff, Nat.reduceAdd, Nat.reduceLeDiff, Nat.reduceLT, Int.reduceLE, Int.reduceLT, Int.reduceAdd, Int.reduceSub, Int.reduceToNat, Nat.reduceMul]
  · simp (maxSteps := 1000000) (disch := first | omega | (simp only [LL]; omega)) only [W, V, TY, CC, reduceIte, Nat.reduceEqDiff, Nat.reduceAdd, Nat.reduceLeDiff, Nat.reduceLT, Int.reduceLE, Int.reduceLT, Int.reduceAdd, Int.reduceSub, Int.reduceToNat, Nat.reduceMul]
  · simp (maxSteps := 1000000) (disch := first | omega | (simp only [LL]; omega)) only [W, V, TY, CC, reduceIte, Nat.reduceEqDiff, Nat.reduceAdd, Nat.reduceLeDiff, Nat.reduceLT, Int.reduceLE, Int.reduceLT, Int.reduceAdd, Int.reduceSub, Int.reduceToNat, Nat.reduceMul]
  · simp (maxSteps := 1000000) (disch := first | omega | (simp only [LL]; omega)) only [W, V, TY, CC, reduceIte, Nat.reduceEqDiff, Nat.reduceAdd, Nat.reduceLeDiff, Nat.reduceLT, Int.reduceLE, Int.reduceLT, Int.reduceAdd, Int.reduceSub, Int.reduceToNat, Nat.reduceMul]
  · rw [List.getD_eq_getElem?_getD, List.getElem?_replicate]; split <;> rfl
  intro n s _ ⟨i, D0, e, t0, t1, t6, t5, r5, hD, lD, hz, hv⟩
  simp (maxSteps := 1000000) (disch := first | omega | (simp only [LL]; omega)) only [W, V, TY, CC, reduceIte, Nat.reduceEqDiff, Nat.reduceAdd, Nat.reduceLeDiff, Nat.reduceLT, Int.reduceLE, Int.reduceLT, Int.reduceAdd, Int.reduceSub, Int.reduceToNat, Nat.reduceMul, t0, t1, t6, t5]
  refine c_split (fun hi => ?_) (fun hi => ?_)
  · have hp := l1.getD i
    simp (maxSteps := 1000000) (disch := first | omega | (simp only [LL]; omega)) only [W, V, TY, CC, reduceIte, Nat.reduceEqDiff, Nat.reduceAdd, Nat.reduceLeDiff, Nat.reduceLT, Int.reduceLE, Int.reduceLT, Int.reduceAdd, Int.reduceSub, Int.reduceToNat, Nat.reduceMul, t0, t1, t6, t5]
    refine w_loop (fun m s => ∃ (k : Nat) (D : List Int) (c : Int), m + k = y.length ∧ s.t 0 = .one (.dt (natD x)) ∧ s.t 1 = .one (.dt (natD y)) ∧ s.t 6 = .one (.dt (.lit (.int .i64 i))) ∧ s.t 5 = .one (.row (15, 0) 0) ∧ s.r (15, 0) = some ⟨103, 1, x.length + y.length, natC D, 0, true⟩ ∧ s.t 8 = .one (.dt (.lit (.int .i64 k))) ∧ s.t 7 = .one (.dt (.lit (.int .u64 c))) ∧ D.length = x.length + y.length ∧ Lim D ∧ (∀ j, i + y.length ≤ j → D.getD j 0 = 0) ∧ 0 ≤ c ∧ c < 4294967296 ∧ val D + bp (i + k) * c = val D0 + bp i * (x.getD i 0 * val (y.take k))) y.length ⟨0, D0, 0, rfl, ?_, ?_, ?_, ?_, ?_, ?_, ?_, hD, lD, hz, by omega, by omega, by simp [val]⟩ ?_
    · simp (maxSteps := 1000000) (disch := first | omega | (simp only [LL]; omega)) only [W, V, TY, CC, reduceIte, Nat.reduceEqDiff, Nat.reduceAdd, Nat.reduceLeDiff, Nat.reduceLT, Int.reduceLE, Int.reduceLT, Int.reduceAdd, Int.reduceSub, Int.reduceToNat, Nat.reduceMul, t0, t1, t6, t5, r5]
    · simp (maxSteps := 1000000) (disch := first | omega | (simp only [LL]; omega)) only [W, V, TY, CC, reduceIte, Nat.reduceEqDiff, Nat.reduceAdd, Nat.reduceLeDiff, Nat.reduceLT, Int.reduceLE, Int.reduceLT, Int.reduceAdd, Int.reduceSub, Int.reduceToNat, Nat.reduceMul, t0, t1, t6, t5, r5]
    · simp (maxSteps := 1000000) (disch := first | omega | (simp only [LL]; omega)) only [W, V, TY, CC, reduceIte, Nat.reduceEqDiff, Nat.reduceAdd, Nat.reduceLeDiff, Nat.reduceLT, Int.reduceLE, Int.reduceLT, Int.reduceAdd, Int.reduceSub, Int.reduceToNat, Nat.reduceMul, t0, t1, t6, t5, r5]
    · simp (maxSteps := 1000000) (disch := first | omega | (simp only [LL]; omega)) only [W, V, TY, CC, reduceIte, Nat.reduceEqDiff, Nat.reduceAdd, Nat.reduceLeDiff, Nat.reduceLT, Int.reduceLE, Int.reduceLT, Int.reduceAdd, Int.reduceSub, Int.reduceToNat, Nat.reduceMul, t0, t1, t6, t5, r5]
    · simp (maxSteps := 1000000) (disch := first | omega | (simp only [LL]; omega)) only [W, V, TY, CC, reduceIte, Nat.reduceEqDiff, Nat.reduceAdd, Nat.reduceLeDiff, Nat.reduceLT, Int.reduceLE, Int.reduceLT, Int.reduceAdd, Int.reduceSub, Int.reduceToNat, Nat.reduceMul, t0, t1, t6, t5, r5]
    · simp (maxSteps := 1000000) (disch := first | omega | (simp only [LL]; omega)) only [W, V, TY, CC, reduceIte, Nat.reduceEqDiff, Nat.reduceAdd, Nat.reduceLeDiff, Nat.reduceLT, Int.reduceLE, Int.reduceLT, Int.reduceAdd, Int.reduceSub, Int.reduceToNat, Nat.reduceMul, t0, t1, t6, t5, r5]
    · simp (maxSteps := 1000000) (disch := first | omega | (simp only [LL]; omega)) only [W, V, TY, CC, reduceIte, Nat.reduceEqDiff, Nat.reduceAdd, Nat.reduceLeDiff, Nat.reduceLT, Int.reduceLE, Int.reduceLT, Int.reduceAdd, Int.reduceSub, Int.reduceToNat, Nat.reduceMul, t0, t1, t6, t5, r5]
    clear t0 t1 t6 t5 r5 hD lD hz
    intro m s _ ⟨k, D, c, em, t0, t1, t6, t5, r5, t8, t7, hD, lD, hz, c0, c1, hw⟩
    simp (maxSteps := 1000000) (disch := first | omega | (simp only [LL]; omega)) only [W, V, TY, CC, reduceIte, Nat.reduceEqDiff, Nat.reduceAdd, Nat.reduceLeDiff, Nat.reduceLT, Int.reduceLE, Int.reduceLT, Int.reduceAdd, Int.reduceSub, Int.reduceToNat, Nat.reduceMul, t0, t1, t6, t5, t8, t7]
    refine c_split (fun hk => ?_) (fun hk => ?_)
    · have hq := l2.getD k
      have hd := lD.getD (i + k)
      obtain ⟨b0, b1⟩ := mul_bound hp.1 hp.2 hq.1 hq.2
      simp (maxSteps := 1000000) (disch := first | omega | (simp only [LL]; omega)) only [W, V, TY, CC, reduceIte, Nat.reduceEqDiff, Nat.reduceAdd, Nat.reduceLeDiff, Nat.reduceLT, Int.reduceLE, Int.reduceLT, Int.reduceAdd, Int.reduceSub, Int.reduceToNat, Nat.reduceMul, t0, t1, t6, t5, r5, t8, t7, IntKind.wrap_u32]
      refine ⟨⟨by omega, by omega⟩, ⟨by omega, by omega⟩, by omega, m - 1, by omega, k + 1, D.set (i + k) ((D.getD (i + k) 0 + x.getD i 0 * y.getD k 0 + c) % 4294967296), (D.getD (i + k) 0 + x.getD i 0 * y.getD k 0 + c) / 4294967296, by omega, rfl, rfl, rfl, by simp [hD], lD.set _ (by omega) (by omega), fun j hj => by rw [Limbs.getD_set_ne (by omega)]; exact hz j hj, by omega, by omega, ?_⟩
      rw [val_set_getD (by omega), val_take_getD (show k < y.length by omega), show i + (k + 1) = i + k + 1 from rfl, bp_succ]
      have hb := bp_add i k
      have ht := Int.emod_add_mul_ediv (D.getD (i + k) 0 + x.getD i 0 * y.getD k 0 + c) 4294967296
      generalize (D.getD (i + k) 0 + x.getD i 0 * y.getD k 0 + c) % 4294967296 = r at *
      generalize (D.getD (i + k) 0 + x.getD i 0 * y.getD k 0 + c) / 4294967296 = q at *
      generalize x.getD i 0 = xi at *
      generalize y.getD k 0 = yk at *
      generalize D.getD (i + k) 0 = dk at *
      clear t0 t1 t6 t5 r5 t8 t7 hz lD l1 l2 hv
      grind
    · simp (maxSteps := 1000000) (disch := first | omega | (simp only [LL]; omega)) only [W, V, TY, CC, reduceIte, Nat.reduceEqDiff, Nat.reduceAdd, Nat.reduceLeDiff, Nat.reduceLT, Int.reduceLE, Int.reduceLT, Int.reduceAdd, Int.reduceSub, Int.reduceToNat, Nat.reduceMul, t0, t1, t6, t5, r5, t8, t7]
      have hk' : k = y.length := by omega
      rw [hk', List.take_of_length_le (Nat.le_refl _)] at hw
      refine ⟨⟨by omega, by omega⟩, by omega, n - 1, by omega, i + 1, D.set (i + y.length) c, by omega, rfl, rfl, by simp [hD], lD.set _ c0 c1, fun j hj => by rw [Limbs.getD_set_ne (by omega)]; exact hz j (by omega), ?_⟩
      rw [val_set_getD (by omega), hz _ (Nat.le_refl _), val_take_getD (show i < x.length by omega)]
      generalize x.getD i 0 = xi at *
      clear t0 t1 t6 t5 r5 t8 t7 hz lD l1 l2
      grind
  · simp (maxSteps := 1000000) (disch := first | omega | (simp only [LL]; omega)) only [W, V, TY, CC, reduceIte, Nat.reduceEqDiff, Nat.reduceAdd, Nat.reduceLeDiff, Nat.reduceLT, Int.reduceLE, Int.reduceLT, Int.reduceAdd, Int.reduceSub, Int.reduceToNat, Nat.reduceMul, t0, t1, t6, t5, r5]
    refine a_call _ _ (ref_Norm D0 lD (by omega)) (by simp (maxSteps := 1000000) (disch := first | omega | (simp only [LL]; omega)) only [W, V, TY, CC, reduceIte, Nat.reduceEqDiff, Nat.reduceAdd, Nat.reduceLeDiff, Nat.reduceLT, Int.reduceLE, Int.reduceLT, Int.reduceAdd, Int.reduceSub, Int.reduceToNat, Nat.reduceMul, t0, t1, t6, t5, r5]) ?_
    simp (maxSteps := 1000000) (disch := first | omega | (simp only [LL]; omega)) only [W, V, TY, CC, reduceIte, Nat.reduceEqDiff, Nat.reduceAdd, Nat.reduceLeDiff, Nat.reduceLT, Int.reduceLE, Int.reduceLT, Int.reduceAdd, Int.reduceSub, Int.reduceToNat, Nat.reduceMul]
    refine f_ret _ _ _ ?_
    rw [List.take_of_length_le (by omega)] at hv
    have hres : tr D0 = nl (nv x * nv y) := by unfold tr; congr 1; have h1 := nv_eq lD; have h2 := nv_eq l1; have h3 := nv_eq l2; rw [hv, ← h2, ← h3, ← Int.natCast_mul] at h1; omega
    simp (maxSteps := 1000000) (disch := first | omega | (simp only [LL]; omega)) only [W, V, TY, CC, reduceIte, Nat.reduceEqDiff, Nat.reduceAdd, Nat.reduceLeDiff, Nat.reduceLT, Int.reduceLE, Int.reduceLT, Int.reduceAdd, Int.reduceSub, Int.reduceToNat, Nat.reduceMul, hres]
end Go.Proofs.YtljmgdepldpmdaaGreatDoor.E

set_option linter.unusedSimpArgs false
set_option linter.unusedVariables false
set_option maxHeartbeats 2000000
namespace Go.Proofs.YtljmgdepldpmdaaGreatDoor.E
open Go.RowKit Limbs
theorem div_bound {r a d : Int} (h0 : 0 ≤ r) (h1 : r < d) (h2 : 0 ≤ a) (h3 : a < 4294967296) : 0 ≤ (r * 4294967296 + a) / d ∧ (r * 4294967296 + a) / d < 4294967296 ∧ 0 ≤ (r * 4294967296 + a) % d ∧ (r * 4294967296 + a) % d < d ∧ d * ((r * 4294967296 + a) / d) + (r * 4294967296 + a) % d = r * 4294967296 + a := by
  have hd : 0 < d := by omega
  refine ⟨Int.ediv_nonneg (by omega) (by omega), Int.ediv_lt_of_lt_mul hd ?_, Int.emod_nonneg _ (by omega), Int.emod_lt_of_pos _ hd, Int.mul_ediv_add_emod _ _⟩
  have := Int.mul_le_mul_of_nonneg_right (show r + 1 ≤ d by omega) (show (0 : Int) ≤ 4294967296 by omega)
  rw [Int.mul_comm 4294967296 d]
  omega
theorem drop_set_eq {l : List Int} {j : Nat} (h : j < l.length) (q : Int) : (l.set j q).drop j = q :: l.drop (j + 1) := by
  rw [List.drop_eq_getElem_cons (by simpa using h), List.getElem_set_self, List.drop_set_of_lt (by omega)]
/-- examboard/nat.divSmall -/
def b132 : AF := ⟨43, 2, [.tmp 4, .tmp 5],
  (.seq (.reg [
    ⟨some 4, .assign (.const (.slice none 0 0)), none⟩,
    ⟨some 5, .assign (.const (.int .u32 0)), none⟩])
  (.seq (.reg [
    ⟨some 9, .move (.tmp 0), none⟩,
    ⟨some 10, .call ⟨(.builtin .len), #[(.tmp 9)], #[23]⟩, none⟩,
    ⟨some 11, .makeSlice 23 (.tmp 10) (.tmp 10), none⟩,
    ⟨some 6, .assign (.tmp 11), none⟩])
  (.seq (.reg [
    ⟨some 7, .assign (.const (.int .u64 0)), none⟩])
  (.seq (.seq (.reg [
    ⟨some 12, .move (.tmp 0), none⟩,
    ⟨some 13, .call ⟨(.builtin .len), #[(.tmp 12)], #[23]⟩, none⟩,
    ⟨some 14, .binOp .sub 3 (.tmp 13) (.const (.int .i64 1)) 3, none⟩,
    ⟨some 8, .assign (.tmp 14), none⟩])
  (.block 0 (.loop (.seq (.seq (.reg [
    ⟨some 15, .move (.tmp 8), none⟩,
    ⟨some 16, .binOp .geq 3 (.tmp 15) (.const (.int .i64 0)) 3, none⟩])
  (.cond (.tmp 16)
    .skip
    (.exit 0)))
  (.seq (.block 1 (.seq (.reg [
    ⟨some 19, .move (.tmp 7), none⟩,
    ⟨some 20, .binOp .shl 97 (.tmp 19) (.const (.int .u64 32)) 113, none⟩,
    ⟨some 21, .move (.tmp 0), none⟩,
    ⟨some 22, .move (.tmp 8), none⟩,
    ⟨some 23, .indexAddr 23 (.tmp 21) (.tmp 22), none⟩,
    ⟨some 24, .load 103 (.tmp 23), none⟩,
    ⟨some 25, .convert 103 97 (.tmp 24), none⟩,
    ⟨some 26, .binOp .or 97 (.tmp 20) (.tmp 25) 97, none⟩,
    ⟨some 7, .assign (.tmp 26), none⟩])
  (.seq (.reg [
    ⟨some 27, .move (.tmp 6), none⟩,
    ⟨some 28, .move (.tmp 8), none⟩,
    ⟨some 29, .move (.tmp 7), none⟩,
    ⟨some 30, .move (.tmp 1), none⟩,
    ⟨some 31, .convert 103 97 (.tmp 30), none⟩,
    ⟨some 32, .binOp .quo 97 (.tmp 29) (.tmp 31) 97, none⟩,
    ⟨some 33, .convert 97 103 (.tmp 32), none⟩,
    ⟨some 34, .indexAddr 23 (.tmp 27) (.tmp 28), none⟩,
    ⟨none, .store 103 (.tmp 34) (.tmp 33), none⟩])
  (.reg [
    ⟨some 35, .move (.tmp 7), none⟩,
    ⟨some 36, .move (.tmp 1), none⟩,
    ⟨some 37, .convert 103 97 (.tmp 36), none⟩,
    ⟨some 38, .binOp .rem 97 (.tmp 35) (.tmp 37) 97, none⟩,
    ⟨some 7, .assign (.tmp 38), none⟩]))))
  (.reg [
    ⟨some 17, .move (.tmp 8), none⟩,
    ⟨some 18, .binOp .sub 3 (.tmp 17) (.const (.int .i64 1)) 3, none⟩,
    ⟨some 8, .assign (.tmp 18), none⟩]))))))
  (.seq (.seq (.gh [.frz 6])
  (.reg [
    ⟨some 39, .move (.tmp 6), none⟩,
    ⟨some 40, .call ⟨(.value (.func 121)), #[(.tmp 39)], #[23]⟩, none⟩,
    ⟨some 41, .move (.tmp 7), none⟩,
    ⟨some 42, .convert 97 103 (.tmp 41), none⟩,
    ⟨some 4, .assign (.tmp 40), none⟩,
    ⟨some 5, .assign (.tmp 42), none⟩]))
  .ret)))))⟩
theorem c132 : fcomp Tryz.prog 132 = ⟨b132.n, b132.np, b132.res, b132.body.bare⟩ := by kernel_rfl
theorem k132 : fok Tryz.prog 132 = true := by kernel_rfl
theorem nat_divSmall (a : List Int) (d : Int) (ha : Lim a) (la : a.length < 8796093022208) (d0 : 0 < d) (d1 : d < 4294967296) : AFun Tryz.prog 132 [.one (natD a), .one (.lit (.int .u32 d))] [.one (natD (nl (nv a / d.toNat))), .one (.lit (.int .u32 (nv a % d.toNat : Nat)))] := by
  refine afun_intro mo_ _ _ c132 k132 _ _ rfl (by decide) ?_
  unfold b132
  simp (maxSteps := 1000000) (disch := first | omega | (simp only [LL]; omega)) only [W, V, TY, CC, reduceIte, Nat.reduceEqDiff, Nat.reduceAdd, Nat.reduceLeDiff, Nat.reduceLT, Int.reduceLE, Int.reduceLT, Int.reduceAdd, Int.reduceSub, Int.reduceToNat, Nat.reduceMul]
  refine w_loop (fun n s => ∃ (i : Nat) (D : List Int) (r : Int), n = i ∧ i ≤ a.length ∧ s.t 0 = .one (.dt (natD a)) ∧ s.t 1 = .one (.dt (.lit (.int .u32 d))) ∧ s.t 8 = .one (.dt (.lit (.int .i64 (i - 1)))) ∧ s.t 6 = .one (.row (11, 0) 0) ∧ s.r (11, 0) = some ⟨103, 1, a.length, natC D, 0, true⟩ ∧ s.t 7 = .one (.dt (.lit (.int .u64 r))) ∧ D.length = a.length ∧ Lim D ∧ 0 ≤ r ∧ r < d ∧ val (a.drop i) = d * val (D.drop i) + r) a.length ⟨a.length, List.replicate a.length 0, 0, rfl, Nat.le_refl _, ?_, ?_, ?_, ?_, ?_, ?_, by simp, Lim.replicate _, by omega, by omega, by rw [List.drop_of_length_le (Nat.le_refl _), List.drop_of_length_le (by simp)]; simp [val]⟩ ?_
  · simp (maxSteps := 1000000) (disch := first | omega | (simp only [LL]; omega)) only [W, V, TY, CC, reduceIte, Nat.reduceEqDiff, Nat.reduceAdd, Nat.reduceLeDiff, Nat.reduceLT, Int.reduceLE, Int.reduceLT, Int.reduceAdd, Int.reduceSub, Int.reduceToNat, Nat.reduceMul]
  · simp (maxSteps := 1000000) (disch := first | omega | (simp only [LL]; omega)) only [W, V, TY, CC, reduceIte, Nat.reduceEqDiff, Nat.reduceAdd, Nat.reduceLeDiff, Nat.reduceLT, Int.reduceLE, Int.reduceLT, Int.reduceAdd, Int.reduceSub, Int.reduceToNat, Nat.reduceMul]
  · simp (maxSteps := 1000000) (disch := first | omega | (simp only [LL]; omega)) only [W, V, TY, CC, reduceIte, Nat.reduceEqDiff, Nat.reduceAdd, Nat.reduceLeDiff, Nat.reduceLT, Int.reduceLE, Int.reduceLT, Int.reduceAdd, Int.reduceSub, Int.reduceToNat, Nat.reduceMul]
  · simp (maxSteps := 1000000) (disch := first | omega | (simp only [LL]; omega)) only [W, V, TY, CC, reduceIte, Nat.reduceEqDiff, Nat.reduceAdd, Nat.reduceLeDiff, Nat.reduceLT, Int.reduceLE, Int.reduceLT, Int.reduceAdd, Int.reduceSub, Int.reduceToNat, Nat.reduceMul]
  · simp (maxSteps := 1000000) (disch := first | omega | (simp only [LL]; omega)) only [W, V, TY, CC, reduceIte, Nat.reduceEqDiff, Nat.reduceAdd, Nat.reduceLeDiff, Nat.reduceLT, Int.reduceLE, Int.reduceLT, Int.reduceAdd, Int.reduceSub, Int.reduceToNat, Nat.reduceMul]
  · simp (maxSteps := 1000000) (disch := first | omega | (simp only [LL]; omega)) only [W, V, TY, CC, reduceIte, Nat.reduceEqDiff, Nat.reduceAdd, Nat.reduceLeDiff, Nat.reduceLT, Int.reduceLE, Int.reduceLT, Int.reduceAdd, Int.reduceSub, Int.reduceToNat, Nat.reduceMul]
  intro n s _ ⟨i, D, r, e, hi, t0, t1, t8, t6, r6, t7, hD, lD, r0, r1, hv⟩
  simp (maxSteps := 1000000) (disch := first | omega | (simp only [LL]; omega)) only [W, V, TY, CC, reduceIte, Nat.reduceEqDiff, Nat.reduceAdd, Nat.reduceLeDiff, Nat.reduceLT, Int.reduceLE, Int.reduceLT, Int.reduceAdd, Int.reduceSub, Int.reduceToNat, Nat.reduceMul, t0, t1, t8, t6, t7]
  refine c_split (fun hc => ?_) (fun hc => ?_)
  · obtain ⟨j, rfl⟩ : ∃ j, i = j + 1 := ⟨i - 1, by omega⟩
    have hx := ha.getD j
    obtain ⟨q0, q1, m0, m1, hq⟩ := div_bound r0 r1 hx.1 hx.2
    have hd0 : ¬ d = 0 := by omega
    simp (maxSteps := 1000000) (disch := first | omega | (simp only [LL]; omega)) only [W, V, TY, CC, reduceIte, Nat.reduceEqDiff, Nat.reduceAdd, Nat.reduceLeDiff, Nat.reduceLT, Int.reduceLE, Int.reduceLT, Int.reduceAdd, Int.reduceSub, Int.reduceToNat, Nat.reduceMul, t0, t1, t8, t6, t7, r6, shl_32, or_hi, td_nn, tm_nn, hd0]
    refine ⟨⟨by omega, by omega⟩, by omega, j, by omega, j, D.set j ((r * 4294967296 + a.getD j 0) / d), (r * 4294967296 + a.getD j 0) % d, rfl, by omega, rfl, rfl, rfl, by simp [hD], lD.set j q0 q1, m0, m1, ?_⟩
    rw [drop_set_eq (by omega), val_cons, val_drop' a j, hv]
    generalize (r * 4294967296 + a.getD j 0) / d = q at *
    generalize (r * 4294967296 + a.getD j 0) % d = m at *
    generalize a.getD j 0 = x at *
    clear t0 t1 t8 t6 r6 t7 lD ha
    grind
  · simp (maxSteps := 1000000) (disch := first | omega | (simp only [LL]; omega)) only [W, V, TY, CC, reduceIte, Nat.reduceEqDiff, Nat.reduceAdd, Nat.reduceLeDiff, Nat.reduceLT, Int.reduceLE, Int.reduceLT, Int.reduceAdd, Int.reduceSub, Int.reduceToNat, Nat.reduceMul, t0, t1, t8, t6, t7, r6]
    have h0 : i = 0 := by omega
    rw [h0, List.drop_zero, List.drop_zero] at hv
    refine a_call _ _ (nat_trim D lD (by omega)) (by simp (maxSteps := 1000000) (disch := first | omega | (simp only [LL]; omega)) only [W, V, TY, CC, reduceIte, Nat.reduceEqDiff, Nat.reduceAdd, Nat.reduceLeDiff, Nat.reduceLT, Int.reduceLE, Int.reduceLT, Int.reduceAdd, Int.reduceSub, Int.reduceToNat, Nat.reduceMul, t0, t1, t8, t6, t7, r6]) ?_
    simp (maxSteps := 1000000) (disch := first | omega | (simp only [LL]; omega)) only [W, V, TY, CC, reduceIte, Nat.reduceEqDiff, Nat.reduceAdd, Nat.reduceLeDiff, Nat.reduceLT, Int.reduceLE, Int.reduceLT, Int.reduceAdd, Int.reduceSub, Int.reduceToNat, Nat.reduceMul, t7]
    refine f_ret _ _ _ ?_
    have e1 := nv_eq ha
    have e2 := nv_eq lD
    have ed : ((d.toNat : Nat) : Int) = d := by omega
    have hq : nv a = d.toNat * nv D + r.toNat := by
      have : ((nv a : Nat) : Int) = ((d.toNat * nv D + r.toNat : Nat) : Int) := by
        rw [Int.natCast_add, Int.natCast_mul, ed, e1, e2, hv]; omega
      omega
    have hr : r.toNat < d.toNat := by omega
    have hdiv : nv a / d.toNat = nv D := by rw [hq, Nat.mul_add_div (by omega), Nat.div_eq_of_lt hr, Nat.add_zero]
    have hmod : nv a % d.toNat = r.toNat := by rw [hq, Nat.mul_add_mod, Nat.mod_eq_of_lt hr]
    have hres : tr D = nl (nv D) := rfl
    rw [hdiv, hmod]
    simp (maxSteps := 1000000) (disch := first | omega | (simp only [LL]; omega)) only [W, V, TY, CC, reduceIte, Nat.reduceEqDiff, Nat.reduceAdd, Nat.reduceLeDiff, Nat.reduceLT, Int.reduceLE, Int.reduceLT, Int.reduceAdd, Int.reduceSub, Int.reduceToNat, Nat.reduceMul, hres, t7]
    rw [show ((r.toNat : Nat) : Int) = r by omega]
end Go.Proofs.YtljmgdepldpmdaaGreatDoor.E

set_option linter.unusedSimpArgs false
set_option linter.unusedVariables false
set_option maxHeartbeats 2000000
namespace Go.Proofs.YtljmgdepldpmdaaGreatDoor.E
open Go.RowKit Limbs
/-- examboard/examboardref01.short -/
def b143 : AF := ⟨41, 2, [.tmp 4, .tmp 5],
  (.seq (.reg [
    ⟨some 4, .assign (.const (.slice none 0 0)), none⟩,
    ⟨some 5, .assign (.const (.int .u64 0)), none⟩])
  (.seq (.reg [
    ⟨some 10, .move (.tmp 0), none⟩,
    ⟨some 11, .call ⟨(.builtin .len), #[(.tmp 10)], #[23]⟩, none⟩,
    ⟨some 12, .makeSlice 23 (.tmp 11) (.tmp 11), none⟩,
    ⟨some 6, .assign (.tmp 12), none⟩])
  (.seq (.reg [
    ⟨some 7, .assign (.const (.int .u64 0)), none⟩])
  (.seq (.seq (.reg [
    ⟨some 13, .move (.tmp 0), none⟩,
    ⟨some 14, .call ⟨(.builtin .len), #[(.tmp 13)], #[23]⟩, none⟩,
    ⟨some 15, .binOp .sub 3 (.tmp 14) (.const (.int .i64 1)) 3, none⟩,
    ⟨some 8, .assign (.tmp 15), none⟩])
  (.block 0 (.loop (.seq (.seq (.reg [
    ⟨some 16, .move (.tmp 8), none⟩,
    ⟨some 17, .binOp .geq 3 (.tmp 16) (.const (.int .i64 0)) 3, none⟩])
  (.cond (.tmp 17)
    .skip
    (.exit 0)))
  (.seq (.block 1 (.seq (.reg [
    ⟨some 20, .move (.tmp 7), none⟩,
    ⟨some 21, .binOp .shl 97 (.tmp 20) (.const (.int .u64 32)) 113, none⟩,
    ⟨some 22, .move (.tmp 0), none⟩,
    ⟨some 23, .move (.tmp 8), none⟩,
    ⟨some 24, .indexAddr 23 (.tmp 22) (.tmp 23), none⟩,
    ⟨some 25, .load 103 (.tmp 24), none⟩,
    ⟨some 26, .convert 103 97 (.tmp 25), none⟩,
    ⟨some 27, .binOp .add 97 (.tmp 21) (.tmp 26) 97, none⟩,
    ⟨some 9, .assign (.tmp 27), none⟩])
  (.seq (.reg [
    ⟨some 28, .move (.tmp 6), none⟩,
    ⟨some 29, .move (.tmp 8), none⟩,
    ⟨some 30, .move (.tmp 9), none⟩,
    ⟨some 31, .move (.tmp 1), none⟩,
    ⟨some 32, .binOp .quo 97 (.tmp 30) (.tmp 31) 97, none⟩,
    ⟨some 33, .convert 97 103 (.tmp 32), none⟩,
    ⟨some 34, .indexAddr 23 (.tmp 28) (.tmp 29), none⟩,
    ⟨none, .store 103 (.tmp 34) (.tmp 33), none⟩])
  (.reg [
    ⟨some 35, .move (.tmp 9), none⟩,
    ⟨some 36, .move (.tmp 1), none⟩,
    ⟨some 37, .binOp .rem 97 (.tmp 35) (.tmp 36) 97, none⟩,
    ⟨some 7, .assign (.tmp 37), none⟩]))))
  (.reg [
    ⟨some 18, .move (.tmp 8), none⟩,
    ⟨some 19, .binOp .sub 3 (.tmp 18) (.const (.int .i64 1)) 3, none⟩,
    ⟨some 8, .assign (.tmp 19), none⟩]))))))
  (.seq (.seq (.gh [.frz 6])
  (.reg [
    ⟨some 38, .move (.tmp 6), none⟩,
    ⟨some 39, .call ⟨(.value (.func 126)), #[(.tmp 38)], #[23]⟩, none⟩,
    ⟨some 40, .move (.tmp 7), none⟩,
    ⟨some 4, .assign (.tmp 39), none⟩,
    ⟨some 5, .assign (.tmp 40), none⟩]))
  .ret)))))⟩
theorem c143 : fcomp Tryz.prog 143 = ⟨b143.n, b143.np, b143.res, b143.body.bare⟩ := by kernel_rfl
theorem k143 : fok Tryz.prog 143 = true := by kernel_rfl
theorem ref_short (a : List Int) (d : Int) (ha : Lim a) (la : a.length < 8796093022208) (d0 : 0 < d) (d1 : d < 4294967296) : AFun Tryz.prog 143 [.one (natD a), .one (.lit (.int .u64 d))] [.one (natD (nl (nv a / d.toNat))), .one (.lit (.int .u64 (nv a % d.toNat : Nat)))] := by
  refine afun_intro mo_ _ _ c143 k143 _ _ rfl (by decide) ?_
  unfold b143
  simp (maxSteps := 1000000) (disch := first | omega | (simp only [LL]; omega)) only [W, V, TY, CC, reduceIte, Nat.reduceEqDiff, Nat.reduceAdd, Nat.reduceLeDiff, Nat.reduceLT, Int.reduceLE, Int.reduceLT, Int.reduceAdd, Int.reduceSub, Int.reduceToNat, Nat.reduceMul]
  refine w_loop (fun n s => ∃ (i : Nat) (D : List Int) (r : Int), n = i ∧ i ≤ a.length ∧ s.t 0 = .one (.dt (natD a)) ∧ s.t 1 = .one (.dt (.lit (.int .u64 d))) ∧ s.t 8 = .one (.dt (.lit (.int .i64 (i - 1)))) ∧ s.t 6 = .one (.row (12, 0) 0) ∧ s.r (12, 0) = some ⟨103, 1, a.length, natC D, 0, true⟩ ∧ s.t 7 = .one (.dt (.lit (.int .u64 r))) ∧ D.length = a.length ∧ Lim D ∧ 0 ≤ r ∧ r < d ∧ val (a.drop i) = d * val (D.drop i) + r) a.length ⟨a.length, List.replicate a.length 0, 0, rfl, Nat.le_refl _, ?_, ?_, ?_, ?_, ?_, ?_, by simp, Lim.replicate _, by omega, by omega, by rw [List.drop_of_length_le (Nat.le_refl _), List.drop_of_length_le (by simp)]; simp [val]⟩ ?_
  · simp (maxSteps := 1000000) (disch := first | omega | (simp only [LL]; omega)) only [W, V, TY, CC, reduceIte, Nat.reduceEqDiff, Nat.reduceAdd, Nat.reduceLeDiff, Nat.reduceLT, Int.reduceLE, Int.reduceLT, Int.reduceAdd, Int.reduceSub, Int.reduceToNat, Nat.reduceMul]
  · simp (maxSteps := 1000000) (disch := first | omega | (simp only [LL]; omega)) only [W, V, TY, CC, reduceIte, Nat.reduceEqDiff, Nat.reduceAdd, Nat.reduceLeDiff, Nat.reduceLT, Int.reduceLE, Int.reduceLT, Int.reduceAdd, Int.reduceSub, Int.reduceToNat, Nat.reduceMul]
  · simp (maxSteps := 1000000) (disch := first | omega | (simp only [LL]; omega)) only [W, V, TY, CC, reduceIte, Nat.reduceEqDiff, Nat.reduceAdd, Nat.reduceLeDiff, Nat.reduceLT, Int.reduceLE, Int.reduceLT, Int.reduceAdd, Int.reduceSub, Int.reduceToNat, Nat.reduceMul]
  · simp (maxSteps := 1000000) (disch := first | omega | (simp only [LL]; omega)) only [W, V, TY, CC, reduceIte, Nat.reduceEqDiff, Nat.reduceAdd, Nat.reduceLeDiff, Nat.reduceLT, Int.reduceLE, Int.reduceLT, Int.reduceAdd, Int.reduceSub, Int.reduceToNat, Nat.reduceMul]
  · simp (maxSteps := 1000000) (disch := first | omega | (simp only [LL]; omega)) only [W, V, TY, CC, reduceIte, Nat.reduceEqDiff, Nat.reduceAdd, Nat.reduceLeDiff, Nat.reduceLT, Int.reduceLE, Int.reduceLT, Int.reduceAdd, Int.reduceSub, Int.reduceToNat, Nat.reduceMul]
  · simp (maxSteps := 1000000) (disch := first | omega | (simp only [LL]; omega)) only [W, V, TY, CC, reduceIte, Nat.reduceEqDiff, Nat.reduceAdd, Nat.reduceLeDiff, Nat.reduceLT, Int.reduceLE, Int.reduceLT, Int.reduceAdd, Int.reduceSub, Int.reduceToNat, Nat.reduceMul]
  intro n s _ ⟨i, D, r, e, hi, t0, t1, t8, t6, r6, t7, hD, lD, r0, r1, hv⟩
  simp (maxSteps := 1000000) (disch := first | omega | (simp only [LL]; omega)) only [W, V, TY, CC, reduceIte, Nat.reduceEqDiff, Nat.reduceAdd, Nat.reduceLeDiff, Nat.reduceLT, Int.reduceLE, Int.reduceLT, Int.reduceAdd, Int.reduceSub, Int.reduceToNat, Nat.reduceMul, t0, t1, t8, t6, t7]
  refine c_split (fun hc => ?_) (fun hc => ?_)
  · obtain ⟨j, rfl⟩ : ∃ j, i = j + 1 := ⟨i - 1, by omega⟩
    have hx := ha.getD j
    obtain ⟨q0, q1, m0, m1, hq⟩ := div_bound r0 r1 hx.1 hx.2
    have hd0 : ¬ d = 0 := by omega
    simp (maxSteps := 1000000) (disch := first | omega | (simp only [LL]; omega)) only [W, V, TY, CC, reduceIte, Nat.reduceEqDiff, Nat.reduceAdd, Nat.reduceLeDiff, Nat.reduceLT, Int.reduceLE, Int.reduceLT, Int.reduceAdd, Int.reduceSub, Int.reduceToNat, Nat.reduceMul, t0, t1, t8, t6, t7, r6, shl_32, or_hi, td_nn, tm_nn, hd0]
    refine ⟨⟨by omega, by omega⟩, by omega, j, by omega, j, D.set j ((r * 4294967296 + a.getD j 0) / d), (r * 4294967296 + a.getD j 0) % d, rfl, by omega, rfl, rfl, rfl, by simp [hD], lD.set j q0 q1, m0, m1, ?_⟩
    rw [drop_set_eq (by omega), val_cons, val_drop' a j, hv]
    generalize (r * 4294967296 + a.getD j 0) / d = q at *
    generalize (r * 4294967296 + a.getD j 0) % d = m at *
    generalize a.getD j 0 = x at *
    clear t0 t1 t8 t6 r6 t7 lD ha
    grind
  · simp (maxSteps := 1000000) (disch := first | omega | (simp only [LL]; omega)) only [W, V, TY, CC, reduceIte, Nat.reduceEqDiff, Nat.reduceAdd, Nat.reduceLeDiff, Nat.reduceLT, Int.reduceLE, Int.reduceLT, Int.reduceAdd, Int.reduceSub, Int.reduceToNat, Nat.reduceMul, t0, t1, t8, t6, t7, r6]
    have h0 : i = 0 := by omega
    rw [h0, List.drop_zero, List.drop_zero] at hv
    refine a_call _ _ (ref_Norm D lD (by omega)) (by simp (maxSteps := 1000000) (disch := first | omega | (simp only [LL]; omega)) only [W, V, TY, CC, reduceIte, Nat.reduceEqDiff, Nat.reduceAdd, Nat.reduceLeDiff, Nat.reduceLT, Int.reduceLE, Int.reduceLT, Int.reduceAdd, Int.reduceSub, Int.reduceToNat, Nat.reduceMul, t0, t1, t8, t6, t7, r6]) ?_
    simp (maxSteps := 1000000) (disch := first | omega | (simp only [LL]; omega)) only [W, V, TY, CC, reduceIte, Nat.reduceEqDiff, Nat.reduceAdd, Nat.reduceLeDiff, Nat.reduceLT, Int.reduceLE, Int.reduceLT, Int.reduceAdd, Int.reduceSub, Int.reduceToNat, Nat.reduceMul, t7]
    refine f_ret _ _ _ ?_
    have e1 := nv_eq ha
    have e2 := nv_eq lD
    have ed : ((d.toNat : Nat) : Int) = d := by omega
    have hq : nv a = d.toNat * nv D + r.toNat := by
      have : ((nv a : Nat) : Int) = ((d.toNat * nv D + r.toNat : Nat) : Int) := by
        rw [Int.natCast_add, Int.natCast_mul, ed, e1, e2, hv]; omega
      omega
    have hr : r.toNat < d.toNat := by omega
    have hdiv : nv a / d.toNat = nv D := by rw [hq, Nat.mul_add_div (by omega), Nat.div_eq_of_lt hr, Nat.add_zero]
    have hmod : nv a % d.toNat = r.toNat := by rw [hq, Nat.mul_add_mod, Nat.mod_eq_of_lt hr]
    have hres : tr D = nl (nv D) := rfl
    rw [hdiv, hmod]
    simp (maxSteps := 1000000) (disch := first | omega | (simp only [LL]; omega)) only [W, V, TY, CC, reduceIte, Nat.reduceEqDiff, Nat.reduceAdd, Nat.reduceLeDiff, Nat.reduceLT, Int.reduceLE, Int.reduceLT, Int.reduceAdd, Int.reduceSub, Int.reduceToNat, Nat.reduceMul, hres, t7]
    rw [show ((r.toNat : Nat) : Int) = r by omega]
end Go.Proofs.YtljmgdepldpmdaaGreatDoor.E

set_option linter.unusedSimpArgs false
set_option linter.unusedVariables false
set_option maxHeartbeats 2000000
namespace Go.Proofs.YtljmgdepldpmdaaGreatDoor.E
open Go.RowKit Limbs
theorem shr_1 (n : Int) : shr .u64 n 1 = n / 2 := by
  unfold shr
  rw [show (2 : Int) ^ (min (Int.toNat 1) IntKind.u64.bits) = 2 from rfl, Int.fdiv_eq_ediv_of_nonneg _ (by decide)]
/-- examboard/examboardref01.half -/
def b145 : AF := ⟨32, 1, [.tmp 2],
  (.seq (.reg [
    ⟨some 2, .assign (.const (.slice none 0 0)), none⟩])
  (.seq (.reg [
    ⟨some 5, .move (.tmp 0), none⟩,
    ⟨some 6, .call ⟨(.builtin .len), #[(.tmp 5)], #[23]⟩, none⟩,
    ⟨some 7, .makeSlice 23 (.tmp 6) (.tmp 6), none⟩,
    ⟨some 3, .assign (.tmp 7), none⟩])
  (.seq (.seq (.reg [
    ⟨some 4, .assign (.const (.int .i64 0)), none⟩])
  (.block 0 (.loop (.seq (.seq (.reg [
    ⟨some 8, .move (.tmp 4), none⟩,
    ⟨some 9, .move (.tmp 0), none⟩,
    ⟨some 10, .call ⟨(.builtin .len), #[(.tmp 9)], #[23]⟩, none⟩,
    ⟨some 11, .binOp .lss 3 (.tmp 8) (.tmp 10) 3, none⟩])
  (.cond (.tmp 11)
    .skip
    (.exit 0)))
  (.seq (.block 1 (.dreg [
    ⟨some 14, .move (.tmp 3), none⟩,
    ⟨some 15, .move (.tmp 4), none⟩,
    ⟨some 16, .move (.tmp 0), none⟩,
    ⟨some 17, .move (.tmp 4), none⟩,
    ⟨some 18, .binOp .add 3 (.tmp 17) (.const (.int .i64 1)) 3, none⟩,
    ⟨some 19, .call ⟨(.value (.func 146)), #[(.tmp 16), (.tmp 18)], #[23, 3]⟩, none⟩,
    ⟨some 20, .binOp .shl 97 (.tmp 19) (.const (.int .u64 32)) 113, none⟩,
    ⟨some 21, .move (.tmp 0), none⟩,
    ⟨some 22, .move (.tmp 4), none⟩,
    ⟨some 23, .indexAddr 23 (.tmp 21) (.tmp 22), none⟩,
    ⟨some 24, .load 103 (.tmp 23), none⟩,
    ⟨some 25, .convert 103 97 (.tmp 24), none⟩,
    ⟨some 26, .binOp .add 97 (.tmp 20) (.tmp 25) 97, none⟩,
    ⟨some 27, .binOp .shr 97 (.tmp 26) (.const (.int .u64 1)) 113, none⟩,
    ⟨some 28, .convert 97 103 (.tmp 27), none⟩,
    ⟨some 29, .indexAddr 23 (.tmp 14) (.tmp 15), none⟩,
    ⟨none, .store 103 (.tmp 29) (.tmp 28), none⟩]))
  (.reg [
    ⟨some 12, .move (.tmp 4), none⟩,
    ⟨some 13, .binOp .add 3 (.tmp 12) (.const (.int .i64 1)) 3, none⟩,
    ⟨some 4, .assign (.tmp 13), none⟩]))))))
  (.seq (.seq (.gh [.frz 3])
  (.reg [
    ⟨some 30, .move (.tmp 3), none⟩,
    ⟨some 31, .call ⟨(.value (.func 126)), #[(.tmp 30)], #[23]⟩, none⟩,
    ⟨some 2, .assign (.tmp 31), none⟩]))
  .ret))))⟩
theorem c145 : fcomp Tryz.prog 145 = ⟨b145.n, b145.np, b145.res, b145.body.bare⟩ := by kernel_rfl
theorem k145 : fok Tryz.prog 145 = true := by kernel_rfl
theorem ref_half (a : List Int) (ha : Lim a) (la : a.length < 8796093022208) : AFun Tryz.prog 145 [.one (natD a)] [.one (natD (nl (nv a / 2)))] := by
  refine afun_intro mo_ _ _ c145 k145 _ _ rfl (by decide) ?_
  unfold b145
  simp (maxSteps := 1000000) (disch := first | omega | (simp only [LL]; omega)) only [W, V, TY, CC, reduceIte, Nat.reduceEqDiff, Nat.reduceAdd, Nat.reduceLeDiff, Nat.reduceLT, Int.reduceLE, Int.reduceLT, Int.reduceAdd, Int.reduceSub, Int.reduceToNat, Nat.reduceMul]
  refine w_loop (fun n s => ∃ (i : Nat) (D : List Int), n + i = a.length ∧ s.t 0 = .one (.dt (natD a)) ∧ s.t 4 = .one (.dt (.lit (.int .i64 i))) ∧ s.t 3 = .one (.row (7, 0) 0) ∧ s.r (7, 0) = some ⟨103, 1, a.length, natC D, 0, true⟩ ∧ D.length = a.length ∧ Lim D ∧ 2 * val (D.take i) = val (a.take i) - a.getD 0 0 % 2 + bp i * (a.getD i 0 % 2)) a.length ⟨0, List.replicate a.length 0, rfl, ?_, ?_, ?_, ?_, by simp, Lim.replicate _, by simp only [List.take_zero, val, bp_zero]; omega⟩ ?_
  · simp (maxSteps := 1000000) (disch := first | omega | (simp only [LL]; omega)) only [W, V, TY, CC, reduceIte, Nat.reduceEqDiff, Nat.reduceAdd, Nat.reduceLeDiff, Nat.reduceLT, Int.reduceLE, Int.reduceLT, Int.reduceAdd, Int.reduceSub, Int.reduceToNat, Nat.reduceMul]
  · simp (maxSteps := 1000000) (disch := first | omega | (simp only [LL]; omega)) only [W, V, TY, CC, reduceIte, Nat.reduceEqDiff, Nat.reduceAdd, Nat.reduceLeDiff, Nat.reduceLT, Int.reduceLE, Int.reduceLT, Int.reduceAdd, Int.reduceSub, Int.reduceToNat, Nat.reduceMul]
  · simp (maxSteps := 1000000) (disch := first | omega | (simp only [LL]; omega)) only [W, V, TY, CC, reduceIte, Nat.reduceEqDiff, Nat.reduceAdd, Nat.reduceLeDiff, Nat.reduceLT, Int.reduceLE, Int.reduceLT, Int.reduceAdd, Int.reduceSub, Int.reduceToNat, Nat.reduceMul]
  · simp (maxSteps := 1000000) (disch := first | omega | (simp only [LL]; omega)) only [W, V, TY, CC, reduceIte, Nat.reduceEqDiff, Nat.reduceAdd, Nat.reduceLeDiff, Nat.reduceLT, Int.reduceLE, Int.reduceLT, Int.reduceAdd, Int.reduceSub, Int.reduceToNat, Nat.reduceMul]
  intro n s _ ⟨i, D, e, t0, t4, t3, r3, hD, lD, hv⟩
  simp (maxSteps := 1000000) (disch := first | omega | (simp only [LL]; omega)) only [W, V, TY, CC, reduceIte, Nat.reduceEqDiff, Nat.reduceAdd, Nat.reduceLeDiff, Nat.reduceLT, Int.reduceLE, Int.reduceLT, Int.reduceAdd, Int.reduceSub, Int.reduceToNat, Nat.reduceMul, t0, t4, t3]
  refine c_split (fun hi => ?_) (fun hi => ?_)
  · have hx := ha.getD i
    have hy := ha.getD (i + 1)
    simp (maxSteps := 1000000) (disch := first | omega | (simp only [LL]; omega)) only [W, V, TY, CC, reduceIte, Nat.reduceEqDiff, Nat.reduceAdd, Nat.reduceLeDiff, Nat.reduceLT, Int.reduceLE, Int.reduceLT, Int.reduceAdd, Int.reduceSub, Int.reduceToNat, Nat.reduceMul, t0, t4, t3, r3]
    refine a_call _ _ (ref_limb a (i + 1) ha) (by simp (maxSteps := 1000000) (disch := first | omega | (simp only [LL]; omega)) only [W, V, TY, CC, reduceIte, Nat.reduceEqDiff, Nat.reduceAdd, Nat.reduceLeDiff, Nat.reduceLT, Int.reduceLE, Int.reduceLT, Int.reduceAdd, Int.reduceSub, Int.reduceToNat, Nat.reduceMul, t0, t4, t3, r3]) ?_
    simp (maxSteps := 1000000) (disch := first | omega | (simp only [LL]; omega)) only [W, V, TY, CC, reduceIte, Nat.reduceEqDiff, Nat.reduceAdd, Nat.reduceLeDiff, Nat.reduceLT, Int.reduceLE, Int.reduceLT, Int.reduceAdd, Int.reduceSub, Int.reduceToNat, Nat.reduceMul, t0, t4, t3, r3, shl_32, shr_1, IntKind.wrap_u32]
    refine ⟨⟨by omega, by omega⟩, by omega, n - 1, by omega, i + 1, D.set i ((a.getD (i + 1) 0 * 4294967296 + a.getD i 0) / 2 % 4294967296), by omega, rfl, rfl, by simp [hD], lD.set i (by omega) (by omega), ?_⟩
    have hd : 2 * ((a.getD (i + 1) 0 * 4294967296 + a.getD i 0) / 2 % 4294967296) = a.getD i 0 - a.getD i 0 % 2 + 4294967296 * (a.getD (i + 1) 0 % 2) := by omega
    rw [take_set_succ (by omega), val_snoc, List.length_take, Nat.min_eq_left (by omega), bp_succ, val_take' a i]
    generalize (a.getD (i + 1) 0 * 4294967296 + a.getD i 0) / 2 % 4294967296 = q at *
    generalize a.getD (i + 1) 0 % 2 = y2 at *
    generalize a.getD i 0 % 2 = x2 at *
    generalize a.getD 0 0 % 2 = z2 at *
    generalize a.getD i 0 = x at *
    clear t0 t4 t3 r3
    grind
  · simp (maxSteps := 1000000) (disch := first | omega | (simp only [LL]; omega)) only [W, V, TY, CC, reduceIte, Nat.reduceEqDiff, Nat.reduceAdd, Nat.reduceLeDiff, Nat.reduceLT, Int.reduceLE, Int.reduceLT, Int.reduceAdd, Int.reduceSub, Int.reduceToNat, Nat.reduceMul, t0, t4, t3, r3]
    rw [List.take_of_length_le (by omega), List.take_of_length_le (by omega), getD_over (show a.length ≤ i by omega)] at hv
    refine a_call _ _ (ref_Norm D lD (by omega)) (by simp (maxSteps := 1000000) (disch := first | omega | (simp only [LL]; omega)) only [W, V, TY, CC, reduceIte, Nat.reduceEqDiff, Nat.reduceAdd, Nat.reduceLeDiff, Nat.reduceLT, Int.reduceLE, Int.reduceLT, Int.reduceAdd, Int.reduceSub, Int.reduceToNat, Nat.reduceMul, t0, t4, t3, r3]) ?_
    simp (maxSteps := 1000000) (disch := first | omega | (simp only [LL]; omega)) only [W, V, TY, CC, reduceIte, Nat.reduceEqDiff, Nat.reduceAdd, Nat.reduceLeDiff, Nat.reduceLT, Int.reduceLE, Int.reduceLT, Int.reduceAdd, Int.reduceSub, Int.reduceToNat, Nat.reduceMul]
    refine f_ret _ _ _ ?_
    have e1 := nv_eq ha
    have e2 := nv_eq lD
    simp only [Int.zero_emod, Int.mul_zero, Int.add_zero] at hv
    have hres : tr D = nl (nv a / 2) := by unfold tr; congr 1; omega
    simp (maxSteps := 1000000) (disch := first | omega | (simp only [LL]; omega)) only [W, V, TY, CC, reduceIte, Nat.reduceEqDiff, Nat.reduceAdd, Nat.reduceLeDiff, Nat.reduceLT, Int.reduceLE, Int.reduceLT, Int.reduceAdd, Int.reduceSub, Int.reduceToNat, Nat.reduceMul, hres]
end Go.Proofs.YtljmgdepldpmdaaGreatDoor.E

set_option linter.unusedSimpArgs false
set_option linter.unusedVariables false
set_option maxHeartbeats 2000000
namespace Go.Proofs.YtljmgdepldpmdaaGreatDoor.E
open Go.RowKit Limbs
/-- the number of significant bits -/
def bl (n : Nat) : Nat := if n = 0 then 0 else bl (n / 2) + 1
termination_by n
decreasing_by omega
theorem bl_zero : bl 0 = 0 := by rw [bl]; rfl
theorem bl_pos {n : Nat} (h : n ≠ 0) : bl n = bl (n / 2) + 1 := by rw [bl]; rw [if_neg h]
theorem bl_eq_zero {n : Nat} : bl n = 0 ↔ n = 0 := ⟨fun h => by
  by_cases h0 : n = 0
  · exact h0
  · rw [bl_pos h0] at h; omega, fun h => by rw [h, bl_zero]⟩
theorem bl_shift (k n : Nat) (h : n / 2 ^ k ≠ 0) : bl n = k + bl (n / 2 ^ k) := by
  induction k generalizing n with
  | zero => simp
  | succ k ih =>
    have hn : n ≠ 0 := by intro e; rw [e] at h; simp at h
    have e : n / 2 ^ (k + 1) = n / 2 / 2 ^ k := by rw [Nat.pow_succ, Nat.mul_comm, Nat.div_div_eq_div_mul]
    rw [e] at h ⊢
    rw [bl_pos hn, ih _ h]; omega
theorem bl_lt (n : Nat) : n < 2 ^ bl n := by
  induction n using Nat.strongRecOn with
  | _ n ih =>
    by_cases h : n = 0
    · rw [h]; exact Nat.two_pow_pos _
    · rw [bl_pos h, Nat.pow_succ]
      have := ih (n / 2) (by omega)
      omega
theorem bl_ge {n : Nat} (h : n ≠ 0) : 2 ^ (bl n - 1) ≤ n := by
  induction n using Nat.strongRecOn with
  | _ n ih =>
    rw [bl_pos h]
    by_cases h2 : n / 2 = 0
    · rw [h2, bl_zero]; simp; omega
    · have h3 := ih (n / 2) (by omega) h2
      have h4 : bl (n / 2) ≠ 0 := fun e => h2 (bl_eq_zero.1 e)
      have h5 : bl (n / 2) + 1 - 1 = (bl (n / 2) - 1) + 1 := by omega
      rw [h5, Nat.pow_succ]
      omega
/-- the bits of limbs in normal form -/
theorem bl_nv {l : List Int} (hl : Lim l) (hn : Nrm l) (h : l ≠ []) : bl (nv l) = 32 * (l.length - 1) + bl (l.getD (l.length - 1) 0).toNat ∧ l.getD (l.length - 1) 0 ≠ 0 := by
  have hlen : 0 < l.length := List.length_pos_iff.2 h
  have hi : l.length - 1 < l.length := by omega
  have ht : l.getD (l.length - 1) 0 ≠ 0 := by
    intro e
    apply hn
    rw [List.getLast?_eq_getElem?, List.getElem?_eq_getElem hi]
    rw [Limbs.getD_eq hi] at e
    rw [e]
  have h1 := hl.getD (l.length - 1)
  have h2 := val_take' l (l.length - 1)
  rw [show l.length - 1 + 1 = l.length by omega, List.take_of_length_le (Nat.le_refl _)] at h2
  have h3 := val_take_lt hl (l.length - 1)
  have h4 := val_nonneg (hl.take (l.length - 1))
  have h5 := nv_eq hl
  have hp : bp (l.length - 1) = ((2 ^ (32 * (l.length - 1)) : Nat) : Int) := by
    unfold bp
    rw [Nat.pow_mul]; simp
  generalize l.getD (l.length - 1) 0 = t at *
  have e : nv l / 2 ^ (32 * (l.length - 1)) = t.toNat := by
    have hpp : 0 < 2 ^ (32 * (l.length - 1)) := Nat.two_pow_pos _
    refine Nat.div_eq_of_lt_le ?_ ?_
    · have : ((t.toNat * 2 ^ (32 * (l.length - 1)) : Nat) : Int) ≤ nv l := by
        rw [Int.natCast_mul, ← hp, h5, h2, show ((t.toNat : Nat) : Int) = t by omega, Int.mul_comm]; omega
      omega
    · have : ((nv l : Nat) : Int) < (((t.toNat + 1) * 2 ^ (32 * (l.length - 1)) : Nat) : Int) := by
        rw [Int.natCast_mul, ← hp, h5, h2, show ((t.toNat + 1 : Nat) : Int) = t + 1 by omega, Int.add_mul, Int.mul_comm]; omega
      omega
  refine ⟨?_, ht⟩
  rw [bl_shift (32 * (l.length - 1)) (nv l) (by rw [e]; omega), e]
end Go.Proofs.YtljmgdepldpmdaaGreatDoor.E

set_option linter.unusedSimpArgs false
set_option linter.unusedVariables false
set_option maxHeartbeats 2000000
namespace Go.Proofs.YtljmgdepldpmdaaGreatDoor.E
open Go.RowKit Limbs
/-- examboard/examboardref01.Bits -/
def b122 : AF := ⟨27, 1, [.tmp 2],
  (.seq (.reg [
    ⟨some 2, .assign (.const (.int .i64 0)), none⟩])
  (.seq (.reg [
    ⟨some 5, .move (.tmp 0), none⟩,
    ⟨some 6, .call ⟨(.value (.func 126)), #[(.tmp 5)], #[23]⟩, none⟩,
    ⟨some 0, .assign (.tmp 6), none⟩])
  (.seq (.seq (.reg [
    ⟨some 7, .move (.tmp 0), none⟩,
    ⟨some 8, .call ⟨(.builtin .len), #[(.tmp 7)], #[23]⟩, none⟩,
    ⟨some 9, .binOp .eql 3 (.tmp 8) (.const (.int .i64 0)) 3, none⟩])
  (.cond (.tmp 9)
    (.seq (.reg [
      ⟨some 2, .assign (.const (.int .i64 0)), none⟩])
    .ret)
    .skip))
  (.seq (.reg [
    ⟨some 10, .move (.tmp 0), none⟩,
    ⟨some 11, .call ⟨(.builtin .len), #[(.tmp 10)], #[23]⟩, none⟩,
    ⟨some 12, .binOp .sub 3 (.tmp 11) (.const (.int .i64 1)) 3, none⟩,
    ⟨some 13, .binOp .mul 3 (.const (.int .i64 32)) (.tmp 12) 3, none⟩,
    ⟨some 3, .assign (.tmp 13), none⟩])
  (.seq (.seq (.reg [
    ⟨some 14, .move (.tmp 0), none⟩,
    ⟨some 15, .move (.tmp 0), none⟩,
    ⟨some 16, .call ⟨(.builtin .len), #[(.tmp 15)], #[23]⟩, none⟩,
    ⟨some 17, .binOp .sub 3 (.tmp 16) (.const (.int .i64 1)) 3, none⟩,
    ⟨some 18, .indexAddr 23 (.tmp 14) (.tmp 17), none⟩,
    ⟨some 19, .load 103 (.tmp 18), none⟩,
    ⟨some 4, .assign (.tmp 19), none⟩])
  (.block 0 (.loop (.seq (.seq (.reg [
    ⟨some 20, .move (.tmp 4), none⟩,
    ⟨some 21, .binOp .gtr 103 (.tmp 20) (.const (.int .u32 0)) 103, none⟩])
  (.cond (.tmp 21)
    .skip
    (.exit 0)))
  (.seq (.block 1 (.reg [
    ⟨some 24, .move (.tmp 3), none⟩,
    ⟨some 25, .binOp .add 3 (.tmp 24) (.const (.int .i64 1)) 3, none⟩,
    ⟨some 3, .assign (.tmp 25), none⟩]))
  (.reg [
    ⟨some 22, .move (.tmp 4), none⟩,
    ⟨some 23, .binOp .quo 103 (.tmp 22) (.const (.int .u32 2)) 103, none⟩,
    ⟨some 4, .assign (.tmp 23), none⟩]))))))
  (.seq (.reg [
    ⟨some 26, .move (.tmp 3), none⟩,
    ⟨some 2, .assign (.tmp 26), none⟩])
  .ret))))))⟩
theorem c122 : fcomp Tryz.prog 122 = ⟨b122.n, b122.np, b122.res, b122.body.bare⟩ := by kernel_rfl
theorem k122 : fok Tryz.prog 122 = true := by kernel_rfl
theorem ref_Bits (a : List Int) (ha : Lim a) (la : a.length < 8796093022208) : AFun Tryz.prog 122 [.one (natD a)] [.one (.lit (.int .i64 (bl (nv a) : Nat)))] := by
  refine afun_intro mo_ _ _ c122 k122 _ _ rfl (by decide) ?_
  unfold b122
  have h1 := tr_len ha
  have n1 : Nrm (tr a) := nl_nrm _
  have l1 := tr_lim a
  have v1 : nv (tr a) = nv a := by unfold nv; rw [val_tr ha]
  rw [← v1]
  simp (maxSteps := 1000000) (disch := first | omega | (simp only [LL]; omega)) only [W, V, TY, CC, reduceIte, Nat.reduceEqDiff, Nat.reduceAdd, Nat.reduceLeDiff, Nat.reduceLT, Int.reduceLE, Int.reduceLT, Int.reduceAdd, Int.reduceSub, Int.reduceToNat, Nat.reduceMul]
  refine a_call _ _ (ref_Norm a ha (by omega)) rfl ?_
  simp (maxSteps := 1000000) (disch := first | omega | (simp only [LL]; omega)) only [W, V, TY, CC, reduceIte, Nat.reduceEqDiff, Nat.reduceAdd, Nat.reduceLeDiff, Nat.reduceLT, Int.reduceLE, Int.reduceLT, Int.reduceAdd, Int.reduceSub, Int.reduceToNat, Nat.reduceMul]
  generalize tr a = x at *
  refine c_split (fun hl => ?_) (fun hl => ?_)
  · simp (maxSteps := 1000000) (disch := first | omega | (simp only [LL]; omega)) only [W, V, TY, CC, reduceIte, Nat.reduceEqDiff, Nat.reduceAdd, Nat.reduceLeDiff, Nat.reduceLT, Int.reduceLE, Int.reduceLT, Int.reduceAdd, Int.reduceSub, Int.reduceToNat, Nat.reduceMul]
    refine f_ret _ _ _ ?_
    have hx : x = [] := List.eq_nil_of_length_eq_zero (by omega)
    have hb : bl (nv x) = 0 := by rw [hx]; exact bl_zero
    simp (maxSteps := 1000000) (disch := first | omega | (simp only [LL]; omega)) only [W, V, TY, CC, reduceIte, Nat.reduceEqDiff, Nat.reduceAdd, Nat.reduceLeDiff, Nat.reduceLT, Int.reduceLE, Int.reduceLT, Int.reduceAdd, Int.reduceSub, Int.reduceToNat, Nat.reduceMul, hb]
  · have hne : x ≠ [] := by intro e; rw [e] at hl; simp at hl
    obtain ⟨hb, ht⟩ := bl_nv l1 n1 hne
    have htl := l1.getD (x.length - 1)
    simp (maxSteps := 1000000) (disch := first | omega | (simp only [LL]; omega)) only [W, V, TY, CC, reduceIte, Nat.reduceEqDiff, Nat.reduceAdd, Nat.reduceLeDiff, Nat.reduceLT, Int.reduceLE, Int.reduceLT, Int.reduceAdd, Int.reduceSub, Int.reduceToNat, Nat.reduceMul]
    refine w_loop (fun n s => ∃ (t c : Nat), n = t ∧ t < 4294967296 ∧ s.t 4 = .one (.dt (.lit (.int .u32 t))) ∧ s.t 3 = .one (.dt (.lit (.int .i64 c))) ∧ c + bl t = bl (nv x)) (x.getD (x.length - 1) 0).toNat ⟨_, 32 * (x.length - 1), rfl, by omega, ?_, ?_, hb.symm⟩ ?_
    · simp (maxSteps := 1000000) (disch := first | omega | (simp only [LL]; omega)) only [W, V, TY, CC, reduceIte, Nat.reduceEqDiff, Nat.reduceAdd, Nat.reduceLeDiff, Nat.reduceLT, Int.reduceLE, Int.reduceLT, Int.reduceAdd, Int.reduceSub, Int.reduceToNat, Nat.reduceMul]
      rw [show (((x.getD (x.length - 1) 0).toNat : Nat) : Int) = x.getD (x.length - 1) 0 by omega]
    · simp (maxSteps := 1000000) (disch := first | omega | (simp only [LL]; omega)) only [W, V, TY, CC, reduceIte, Nat.reduceEqDiff, Nat.reduceAdd, Nat.reduceLeDiff, Nat.reduceLT, Int.reduceLE, Int.reduceLT, Int.reduceAdd, Int.reduceSub, Int.reduceToNat, Nat.reduceMul]
      rw [show ((32 * (x.length - 1) : Nat) : Int) = 32 * ((x.length : Int) - 1) by omega]
    intro n s _ ⟨t, c, e, h32, t4, t3, hc⟩
    have hbb : bl (nv x) < 9223372036854775807 := by
      have h5 : bl (x.getD (x.length - 1) 0).toNat ≤ 32 := by
        by_cases h : bl (x.getD (x.length - 1) 0).toNat ≤ 32
        · exact h
        · have h6 := bl_ge (n := (x.getD (x.length - 1) 0).toNat) (by omega)
          have h7 : 2 ^ 32 ≤ 2 ^ (bl (x.getD (x.length - 1) 0).toNat - 1) := Nat.pow_le_pow_right (by omega) (by omega)
          omega
      omega
    simp (maxSteps := 1000000) (disch := first | omega | (simp only [LL]; omega)) only [W, V, TY, CC, reduceIte, Nat.reduceEqDiff, Nat.reduceAdd, Nat.reduceLeDiff, Nat.reduceLT, Int.reduceLE, Int.reduceLT, Int.reduceAdd, Int.reduceSub, Int.reduceToNat, Nat.reduceMul, t4, t3]
    refine c_split (fun hi => ?_) (fun hi => ?_)
    · have hp := bl_pos (n := t) (by omega)
      simp (maxSteps := 1000000) (disch := first | omega | (simp only [LL]; omega)) only [W, V, TY, CC, reduceIte, Nat.reduceEqDiff, Nat.reduceAdd, Nat.reduceLeDiff, Nat.reduceLT, Int.reduceLE, Int.reduceLT, Int.reduceAdd, Int.reduceSub, Int.reduceToNat, Nat.reduceMul, t4, t3]
      refine ⟨by omega, t / 2, by omega, t / 2, c + 1, rfl, by omega, ?_, ?_, by omega⟩
      · rw [show ((t / 2 : Nat) : Int) = (t : Int) / 2 by omega]
      · rw [castS]
    · simp (maxSteps := 1000000) (disch := first | omega | (simp only [LL]; omega)) only [W, V, TY, CC, reduceIte, Nat.reduceEqDiff, Nat.reduceAdd, Nat.reduceLeDiff, Nat.reduceLT, Int.reduceLE, Int.reduceLT, Int.reduceAdd, Int.reduceSub, Int.reduceToNat, Nat.reduceMul, t4, t3]
      refine f_ret _ _ _ ?_
      have h0 : t = 0 := by omega
      rw [h0, bl_zero] at hc
      simp (maxSteps := 1000000) (disch := first | omega | (simp only [LL]; omega)) only [W, V, TY, CC, reduceIte, Nat.reduceEqDiff, Nat.reduceAdd, Nat.reduceLeDiff, Nat.reduceLT, Int.reduceLE, Int.reduceLT, Int.reduceAdd, Int.reduceSub, Int.reduceToNat, Nat.reduceMul, ← hc, Nat.add_zero]
end Go.Proofs.YtljmgdepldpmdaaGreatDoor.E

set_option linter.unusedSimpArgs false
set_option linter.unusedVariables false
set_option maxHeartbeats 2000000
namespace Go.Proofs.YtljmgdepldpmdaaGreatDoor.E
open Go.RowKit Limbs
theorem pow_le32 {k : Nat} (hk : k < 32) : 1 ≤ (2 : Int) ^ k ∧ (2 : Int) ^ k ≤ 2147483648 := by
  have h1 : 2 ^ k ≤ 2 ^ 31 := Nat.pow_le_pow_right (by omega) (by omega)
  have h2 : 0 < 2 ^ k := Nat.two_pow_pos k
  have h3 : ((2 ^ k : Nat) : Int) = (2 : Int) ^ k := by simp
  omega
theorem shl_var {x : Int} {k : Nat} (hk : k < 32) (h0 : 0 ≤ x) (h1 : x < 4294967296) : shl .u64 x (k : Int) = x * 2 ^ k := by
  obtain ⟨p0, p1⟩ := pow_le32 hk
  unfold shl
  rw [Int.toNat_natCast, show min k IntKind.u64.bits = k from Nat.min_eq_left (by show k ≤ 64; omega)]
  have a1 := Int.mul_nonneg h0 (show 0 ≤ (2 : Int) ^ k by omega)
  have a2 := Int.mul_le_mul (show x ≤ 4294967295 by omega) p1 (by omega) (by omega)
  rw [wu64 a1 (by omega)]
theorem or_lo {d l : Int} {k : Nat} (hk : k < 32) (h0 : 0 ≤ d) (h1 : d < 2 ^ k) (h2 : 0 ≤ l) (h3 : l < 4294967296) (h4 : l % 2 ^ k = 0) : bits .or .u32 d l = l + d := by
  obtain ⟨p0, p1⟩ := pow_le32 hk
  have := bits_join .u32 32 (by decide) (fun n h1 h2 => wu32 h1 (by simpa using h2)) k l d h2 h4 (by simpa using h3) h0 h1 (by simp; omega)
  rw [← this]
  unfold bits
  simp only [BitVec.or_comm]
/-- examboard/examboardref01.Shift -/
def b144 : AF := ⟨58, 2, [.tmp 4],
  (.seq (.reg [
    ⟨some 4, .assign (.const (.slice none 0 0)), none⟩])
  (.seq (.reg [
    ⟨some 8, .move (.tmp 0), none⟩,
    ⟨some 9, .call ⟨(.builtin .len), #[(.tmp 8)], #[23]⟩, none⟩,
    ⟨some 10, .move (.tmp 1), none⟩,
    ⟨some 11, .binOp .quo 3 (.tmp 10) (.const (.int .i64 32)) 3, none⟩,
    ⟨some 12, .binOp .add 3 (.tmp 9) (.tmp 11) 3, none⟩,
    ⟨some 13, .binOp .add 3 (.tmp 12) (.const (.int .i64 1)) 3, none⟩,
    ⟨some 14, .makeSlice 23 (.tmp 13) (.tmp 13), none⟩,
    ⟨some 5, .assign (.tmp 14), none⟩])
  (.seq (.seq (.reg [
    ⟨some 6, .assign (.const (.int .i64 0)), none⟩])
  (.block 0 (.loop (.seq (.seq (.reg [
    ⟨some 15, .move (.tmp 6), none⟩,
    ⟨some 16, .move (.tmp 0), none⟩,
    ⟨some 17, .call ⟨(.builtin .len), #[(.tmp 16)], #[23]⟩, none⟩,
    ⟨some 18, .binOp .lss 3 (.tmp 15) (.tmp 17) 3, none⟩])
  (.cond (.tmp 18)
    .skip
    (.exit 0)))
  (.seq (.block 1 (.seq (.reg [
    ⟨some 21, .move (.tmp 0), none⟩,
    ⟨some 22, .move (.tmp 6), none⟩,
    ⟨some 23, .indexAddr 23 (.tmp 21) (.tmp 22), none⟩,
    ⟨some 24, .load 103 (.tmp 23), none⟩,
    ⟨some 25, .convert 103 97 (.tmp 24), none⟩,
    ⟨some 26, .move (.tmp 1), none⟩,
    ⟨some 27, .binOp .rem 3 (.tmp 26) (.const (.int .i64 32)) 3, none⟩,
    ⟨some 28, .convert 3 113 (.tmp 27), none⟩,
    ⟨some 29, .binOp .shl 97 (.tmp 25) (.tmp 28) 113, none⟩,
    ⟨some 7, .assign (.tmp 29), none⟩])
  (.seq (.reg [
    ⟨some 30, .move (.tmp 5), none⟩,
    ⟨some 31, .move (.tmp 6), none⟩,
    ⟨some 32, .move (.tmp 1), none⟩,
    ⟨some 33, .binOp .quo 3 (.tmp 32) (.const (.int .i64 32)) 3, none⟩,
    ⟨some 34, .binOp .add 3 (.tmp 31) (.tmp 33) 3, none⟩,
    ⟨some 35, .move (.tmp 5), none⟩,
    ⟨some 36, .move (.tmp 6), none⟩,
    ⟨some 37, .move (.tmp 1), none⟩,
    ⟨some 38, .binOp .quo 3 (.tmp 37) (.const (.int .i64 32)) 3, none⟩,
    ⟨some 39, .binOp .add 3 (.tmp 36) (.tmp 38) 3, none⟩,
    ⟨some 40, .indexAddr 23 (.tmp 35) (.tmp 39), none⟩,
    ⟨some 41, .load 103 (.tmp 40), none⟩,
    ⟨some 42, .move (.tmp 7), none⟩,
    ⟨some 43, .convert 97 103 (.tmp 42), none⟩,
    ⟨some 44, .binOp .or 103 (.tmp 41) (.tmp 43) 103, none⟩,
    ⟨some 45, .indexAddr 23 (.tmp 30) (.tmp 34), none⟩,
    ⟨none, .store 103 (.tmp 45) (.tmp 44), none⟩])
  (.reg [
    ⟨some 46, .move (.tmp 5), none⟩,
    ⟨some 47, .move (.tmp 6), none⟩,
    ⟨some 48, .move (.tmp 1), none⟩,
    ⟨some 49, .binOp .quo 3 (.tmp 48) (.const (.int .i64 32)) 3, none⟩,
    ⟨some 50, .binOp .add 3 (.tmp 47) (.tmp 49) 3, none⟩,
    ⟨some 51, .binOp .add 3 (.tmp 50) (.const (.int .i64 1)) 3, none⟩,
    ⟨some 52, .move (.tmp 7), none⟩,
    ⟨some 53, .binOp .shr 97 (.tmp 52) (.const (.int .u64 32)) 113, none⟩,
    ⟨some 54, .convert 97 103 (.tmp 53), none⟩,
    ⟨some 55, .indexAddr 23 (.tmp 46) (.tmp 51), none⟩,
    ⟨none, .store 103 (.tmp 55) (.tmp 54), none⟩]))))
  (.reg [
    ⟨some 19, .move (.tmp 6), none⟩,
    ⟨some 20, .binOp .add 3 (.tmp 19) (.const (.int .i64 1)) 3, none⟩,
    ⟨some 6, .assign (.tmp 20), none⟩]))))))
  (.seq (.seq (.gh [.frz 5])
  (.reg [
    ⟨some 56, .move (.tmp 5), none⟩,
    ⟨some 57, .call ⟨(.value (.func 126)), #[(.tmp 56)], #[23]⟩, none⟩,
    ⟨some 4, .assign (.tmp 57), none⟩]))
  .ret))))⟩
theorem c144 : fcomp Tryz.prog 144 = ⟨b144.n, b144.np, b144.res, b144.body.bare⟩ := by kernel_rfl
theorem k144 : fok Tryz.prog 144 = true := by kernel_rfl
theorem ref_Shift (a : List Int) (n : Nat) (ha : Lim a) (la : a.length < 8796093022208) (hn : n < 140737488355328) : AFun Tryz.prog 144 [.one (natD a), .one (.lit (.int .i64 n))] [.one (natD (nl (nv a * 2 ^ n)))] := by
  refine afun_intro mo_ _ _ c144 k144 _ _ rfl (by decide) ?_
  unfold b144
  obtain ⟨q, k, hnq, hk⟩ : ∃ q k, n = 32 * q + k ∧ k < 32 := ⟨n / 32, n % 32, by omega, by omega⟩
  have hq : (n : Int) / 32 = (q : Int) := by omega
  have hr : (n : Int) % 32 = (k : Int) := by omega
  obtain ⟨M, hM⟩ : ∃ M, M = a.length + q + 1 := ⟨_, rfl⟩
  have hMi : (a.length : Int) + (q : Int) + 1 = (M : Int) := by omega
  obtain ⟨p0, p1⟩ := pow_le32 hk
  simp (maxSteps := 1000000) (disch := first | omega | (simp only [LL]; omega)) only [W, V, TY, CC, reduceIte, Nat.reduceEqDiff, Nat.reduceAdd, Nat.reduceLeDiff, Nat.reduceLT, Int.reduceLE, Int.reduceLT, Int.reduceAdd, Int.reduceSub, Int.reduceToNat, Nat.reduceMul, hq, hMi]
  refine ⟨by omega, ?_⟩
  refine w_loop (fun m s => ∃ (i : Nat) (D : List Int), m + i = a.length ∧ s.t 0 = .one (.dt (natD a)) ∧ s.t 1 = .one (.dt (.lit (.int .i64 n))) ∧ s.t 6 = .one (.dt (.lit (.int .i64 i))) ∧ s.t 5 = .one (.row (14, 0) 0) ∧ s.r (14, 0) = some ⟨103, 1, M, natC D, 0, true⟩ ∧ D.length = M ∧ Lim D ∧ D.getD (i + q) 0 < 2 ^ k ∧ (∀ j, i + q < j → D.getD j 0 = 0) ∧ val D = val (a.take i) * (bp q * 2 ^ k)) a.length ⟨0, List.replicate M 0, rfl, ?_, ?_, ?_, ?_, ?_, by simp, Lim.replicate _, ?_, fun j _ => ?_, by rw [val_replicate, List.take_zero, val_nil, Int.zero_mul]⟩ ?_
  · simp (maxSteps := 1000000) (disch := first | omega | (simp only [LL]; omega)) only [W, V, TY, CC, reduceIte, Nat.reduceEqDiff, Nat.reduceAdd, Nat.reduceLeDiff, Nat.reduceLT, Int.reduceLE, Int.reduceLT, Int.reduceAdd, Int.reduceSub, Int.reduceToNat, Nat.reduceMul, hq]
  · simp (maxSteps := 1000000) (disch := first | omega | (simp only [LL]; omega)) only [W, V, TY, CC, reduceIte, Nat.reduceEqDiff, Nat.reduceAdd, Nat.reduceLeDiff, Nat.reduceLT, Int.reduceLE, Int.reduceLT, Int.reduceAdd, Int.reduceSub, Int.reduceToNat, Nat.reduceMul, hq]
  · simp (maxSteps := 1000000) (disch := first | omega | (simp only [LL]; omega)) only [W, V, TY, CC, reduceIte, Nat.reduceEqDiff, Nat.reduceAdd, Nat.reduceLeDiff, Nat.reduceLT, Int.reduceLE, Int.reduceLT, Int.reduceAdd, Int.reduceSub, Int.reduceToNat, Nat.reduceMul, hq]
  · simp (maxSteps := 1000000) (disch := first | omega | (simp only [LL]; omega)) only [W, V, TY, CC, reduceIte, Nat.reduceEqDiff, Nat.reduceAdd, Nat.reduceLeDiff, Nat.reduceLT, Int.reduceLE, Int.reduceLT, Int.reduceAdd, Int.reduceSub, Int.reduceToNat, Nat.reduceMul, hq]
  · simp (maxSteps := 1000000) (disch := first | omega | (simp only [LL]; omega)) only [W, V, TY, CC, reduceIte, Nat.reduceEqDiff, Nat.reduceAdd, Nat.reduceLeDiff, Nat.reduceLT, Int.reduceLE, Int.reduceLT, Int.reduceAdd, Int.reduceSub, Int.reduceToNat, Nat.reduceMul, hq, hMi]
  · rw [List.getD_eq_getElem?_getD, List.getElem?_replicate]; split <;> simp <;> omega
  · rw [List.getD_eq_getElem?_getD, List.getElem?_replicate]; split <;> rfl
  intro m s _ ⟨i, D, e, t0, t1, t6, t5, r5, hD, lD, hdk, hz, hv⟩
  simp (maxSteps := 1000000) (disch := first | omega | (simp only [LL]; omega)) only [W, V, TY, CC, reduceIte, Nat.reduceEqDiff, Nat.reduceAdd, Nat.reduceLeDiff, Nat.reduceLT, Int.reduceLE, Int.reduceLT, Int.reduceAdd, Int.reduceSub, Int.reduceToNat, Nat.reduceMul, t0, t1, t6, t5]
  refine c_split (fun hi => ?_) (fun hi => ?_)
  · have hx := ha.getD i
    have hd := lD.getD (i + q)
    have hs := shl_var (x := a.getD i 0) hk hx.1 hx.2
    have hx0 : 0 ≤ a.getD i 0 * 2 ^ k := Int.mul_nonneg hx.1 (by omega)
    have hx1 : a.getD i 0 * 2 ^ k ≤ 4294967295 * 2 ^ k := Int.mul_le_mul_of_nonneg_right (by omega) (by omega)
    have hj : ((i : Int) + (q : Int)).toNat = i + q := by omega
    have hj1 : ((i : Int) + (q : Int) + 1).toNat = i + q + 1 := by omega
    generalize hX : a.getD i 0 * 2 ^ k = X at hs hx0 hx1
    have hlow : (X % 4294967296) % 2 ^ k = 0 := by
      have hd1 : (2 : Int) ^ k ∣ X := ⟨a.getD i 0, by rw [← hX, Int.mul_comm]⟩
      have hd2 : (2 : Int) ^ k ∣ 4294967296 := ⟨2 ^ (32 - k), by rw [← Int.pow_add, show k + (32 - k) = 32 by omega]; rfl⟩
      rw [Int.emod_emod_of_dvd _ hd2]
      exact Int.emod_eq_zero_of_dvd hd1
    have hor := or_lo (d := D.getD (i + q) 0) (l := X % 4294967296) hk hd.1 hdk (by omega) (by omega) hlow
    simp (maxSteps := 1000000) (disch := first | omega | (simp only [LL]; omega)) only [W, V, TY, CC, reduceIte, Nat.reduceEqDiff, Nat.reduceAdd, Nat.reduceLeDiff, Nat.reduceLT, Int.reduceLE, Int.reduceLT, Int.reduceAdd, Int.reduceSub, Int.reduceToNat, Nat.reduceMul, t0, t1, t6, t5, r5, hq, hr, hs, shr_32, IntKind.wrap_u32, hj, hj1]
    have hb : 0 ≤ X % 4294967296 + D.getD (i + q) 0 ∧ X % 4294967296 + D.getD (i + q) 0 < 4294967296 := by
      rw [← hor]
      unfold bits
      rw [IntKind.wrap_u32]
      omega
    rw [hor]
    generalize hK : (2 : Int) ^ k = K at *
    have hq1 : X / 4294967296 < K := by omega
    refine ⟨by omega, by omega, by omega, by omega, by omega, by omega, by omega, by omega, by omega, by omega, m - 1, by omega, i + 1, (D.set (i + q) (X % 4294967296 + D.getD (i + q) 0)).set (i + q + 1) (X / 4294967296), by omega, rfl, rfl, by simp [hD], (lD.set _ hb.1 hb.2).set _ (by omega) (by omega), ?_, fun j hj => ?_, ?_⟩
    · rw [show i + 1 + q = i + q + 1 by omega, List.getD_eq_getElem?_getD, List.getElem?_set_self (by simp; omega)]
      exact hq1
    · rw [Limbs.getD_set_ne (by omega), Limbs.getD_set_ne (by omega)]
      exact hz j (by omega)
    · rw [val_set_getD (by simp; omega), val_set_getD (by omega), Limbs.getD_set_ne (by omega), hz (i + q + 1) (by omega), hv, val_take' a i, show i + q + 1 = (i + q) + 1 by omega, bp_succ, bp_add, Int.add_mul]
      have e1 : bp i * bp q * (X % 4294967296 + D.getD (i + q) 0 - D.getD (i + q) 0) + 4294967296 * (bp i * bp q) * (X / 4294967296 - 0) = bp i * bp q * X := by
        have e2 : X = X % 4294967296 + 4294967296 * (X / 4294967296) := by omega
        generalize X % 4294967296 = x0 at *
        generalize X / 4294967296 = x1 at *
        subst e2
        grind
      have e3 : bp i * a.getD i 0 * (bp q * K) = bp i * bp q * X := by rw [← hX]; grind
      rw [Int.add_assoc, e1, e3]
  · simp (maxSteps := 1000000) (disch := first | omega | (simp only [LL]; omega)) only [W, V, TY, CC, reduceIte, Nat.reduceEqDiff, Nat.reduceAdd, Nat.reduceLeDiff, Nat.reduceLT, Int.reduceLE, Int.reduceLT, Int.reduceAdd, Int.reduceSub, Int.reduceToNat, Nat.reduceMul, t0, t1, t6, t5, r5]
    refine a_call _ _ (ref_Norm D lD (by omega)) (by simp (maxSteps := 1000000) (disch := first | omega | (simp only [LL]; omega)) only [W, V, TY, CC, reduceIte, Nat.reduceEqDiff, Nat.reduceAdd, Nat.reduceLeDiff, Nat.reduceLT, Int.reduceLE, Int.reduceLT, Int.reduceAdd, Int.reduceSub, Int.reduceToNat, Nat.reduceMul, t0, t1, t6, t5, r5]) ?_
    simp (maxSteps := 1000000) (disch := first | omega | (simp only [LL]; omega)) only [W, V, TY, CC, reduceIte, Nat.reduceEqDiff, Nat.reduceAdd, Nat.reduceLeDiff, Nat.reduceLT, Int.reduceLE, Int.reduceLT, Int.reduceAdd, Int.reduceSub, Int.reduceToNat, Nat.reduceMul]
    refine f_ret _ _ _ ?_
    have e1 := nv_eq ha
    have e2 := nv_eq lD
    rw [List.take_of_length_le (by omega), ← e1, ← e2] at hv
    have hres : tr D = nl (nv a * 2 ^ n) := by
      unfold tr
      congr 1
      have : (2 : Int) ^ n = bp q * 2 ^ k := by
        rw [hnq, Int.pow_add, Int.pow_mul]
        rfl
      have h2 : ((nv a * 2 ^ n : Nat) : Int) = (nv D : Int) := by
        rw [hv, ← this]
        simp
      omega
    simp (maxSteps := 1000000) (disch := first | omega | (simp only [LL]; omega)) only [W, V, TY, CC, reduceIte, Nat.reduceEqDiff, Nat.reduceAdd, Nat.reduceLeDiff, Nat.reduceLT, Int.reduceLE, Int.reduceLT, Int.reduceAdd, Int.reduceSub, Int.reduceToNat, Nat.reduceMul, hres]
end Go.Proofs.YtljmgdepldpmdaaGreatDoor.E

set_option linter.unusedSimpArgs false
set_option linter.unusedVariables false
set_option maxHeartbeats 2000000
namespace Go.Proofs.YtljmgdepldpmdaaGreatDoor.E
open Go.RowKit Limbs
/-- what DivMod gives -/
def divR (m n : Nat) : List RV := if n = 0 then [.one (natD []), .one (natD []), .one (.lit (.bool false))] else [.one (natD (nl (m / n))), .one (natD (nl (m % n))), .one (.lit (.bool true))]
theorem shl_bit {r : Nat} (hr : r < 32) : shl .u32 1 (r : Int) = 2 ^ r := by
  obtain ⟨p0, p1⟩ := pow_le32 hr
  unfold shl
  rw [Int.toNat_natCast, show min r IntKind.u32.bits = r from Nat.min_eq_left (by show r ≤ 32; omega), Int.one_mul, wu32 (by omega) (by omega)]
theorem or_bit {x : Int} {r : Nat} (hr : r < 32) (h0 : 0 ≤ x) (h1 : x < 4294967296) (h2 : x % 2 ^ (r + 1) = 0) : bits .or .u32 x (2 ^ r) = x + 2 ^ r ∧ x + 2 ^ r < 4294967296 := by
  obtain ⟨p0, p1⟩ := pow_le32 hr
  have h3 : (2 : Int) ^ r < 2 ^ (r + 1) := by rw [Int.pow_succ]; omega
  have := bits_join .u32 32 (by decide) (fun n h1 h2 => wu32 h1 (by simpa using h2)) (r + 1) x (2 ^ r) h0 h2 (by simpa using h1) (by omega) h3 (by simp; omega)
  refine ⟨this, ?_⟩
  · rw [← this]
    unfold bits
    rw [IntKind.wrap_u32]
    omega
theorem mod_pow_le {x : Int} {m m' : Nat} (h : x % 2 ^ m = 0) (hm : m' ≤ m) : x % 2 ^ m' = 0 := by
  have h1 := Int.dvd_of_emod_eq_zero h
  have h2 : (2 : Int) ^ m' ∣ 2 ^ m := ⟨2 ^ (m - m'), by rw [← Int.pow_add]; congr 1; omega⟩
  exact Int.emod_eq_zero_of_dvd (Int.dvd_trans h2 h1)
theorem nl_len_pow {n m : Nat} (h : n < 2 ^ (32 * m)) : (nl n).length ≤ m := nl_len (by rw [show (4294967296 : Nat) = 2 ^ 32 from rfl, ← Nat.pow_mul]; exact h)
theorem bl_mono {m n : Nat} (h : bl m < bl n) : m < n := by
  have h1 := bl_lt m
  by_cases hn : n = 0
  · rw [hn, bl_zero] at h; omega
  · have h2 := bl_ge hn
    have h3 : 2 ^ bl m ≤ 2 ^ (bl n - 1) := Nat.pow_le_pow_right (by omega) (by omega)
    omega
theorem bl_le {n m : Nat} (h : n < 2 ^ m) : bl n ≤ m := by
  by_cases hn : n = 0
  · rw [hn, bl_zero]; omega
  · have h2 := bl_ge hn
    by_cases h3 : bl n ≤ m
    · exact h3
    · have : 2 ^ m ≤ 2 ^ (bl n - 1) := Nat.pow_le_pow_right (by omega) (by omega)
      omega
theorem nv_lt_pow {l : List Int} (h : Lim l) : nv l < 2 ^ (32 * l.length) := by
  have := nv_lt h
  rwa [show (4294967296 : Nat) = 2 ^ 32 from rfl, ← Nat.pow_mul] at this
/-- examboard/examboardref01.DivMod -/
def b128 : AF := ⟨84, 2, [.tmp 4, .tmp 5, .tmp 6],
  (.seq (.reg [
    ⟨some 4, .assign (.const (.slice none 0 0)), none⟩,
    ⟨some 5, .assign (.const (.slice none 0 0)), none⟩,
    ⟨some 6, .assign (.const (.bool false)), none⟩])
  (.seq (.reg [
    ⟨some 13, .move (.tmp 0), none⟩,
    ⟨some 14, .call ⟨(.value (.func 126)), #[(.tmp 13)], #[23]⟩, none⟩,
    ⟨some 15, .move (.tmp 1), none⟩,
    ⟨some 16, .call ⟨(.value (.func 126)), #[(.tmp 15)], #[23]⟩, none⟩,
    ⟨some 0, .assign (.tmp 14), none⟩,
    ⟨some 1, .assign (.tmp 16), none⟩])
  (.seq (.seq (.reg [
    ⟨some 17, .move (.tmp 1), none⟩,
    ⟨some 18, .call ⟨(.builtin .len), #[(.tmp 17)], #[23]⟩, none⟩,
    ⟨some 19, .binOp .eql 3 (.tmp 18) (.const (.int .i64 0)) 3, none⟩])
  (.cond (.tmp 19)
    (.seq (.reg [
      ⟨some 4, .assign (.const (.slice none 0 0)), none⟩,
      ⟨some 5, .assign (.const (.slice none 0 0)), none⟩,
      ⟨some 6, .assign (.const (.bool false)), none⟩])
    .ret)
    .skip))
  (.seq (.seq (.reg [
    ⟨some 20, .move (.tmp 1), none⟩,
    ⟨some 21, .call ⟨(.builtin .len), #[(.tmp 20)], #[23]⟩, none⟩,
    ⟨some 22, .binOp .eql 3 (.tmp 21) (.const (.int .i64 1)) 3, none⟩])
  (.cond (.tmp 22)
    (.seq (.reg [
      ⟨some 24, .move (.tmp 0), none⟩,
      ⟨some 25, .move (.tmp 1), none⟩,
      ⟨some 26, .indexAddr 23 (.tmp 25) (.const (.int .i64 0)), none⟩,
      ⟨some 27, .load 103 (.tmp 26), none⟩,
      ⟨some 28, .convert 103 97 (.tmp 27), none⟩,
      ⟨some 29, .call ⟨(.value (.func 143)), #[(.tmp 24), (.tmp 28)], #[23, 97]⟩, none⟩,
      ⟨some 23, .move (.tmp 29), none⟩,
      ⟨some 30, .extract (.tmp 23) 0, none⟩,
      ⟨some 31, .extract (.tmp 23) 1, none⟩,
      ⟨some 7, .assign (.tmp 30), none⟩,
      ⟨some 8, .assign (.tmp 31), none⟩])
    (.seq (.reg [
      ⟨some 32, .move (.tmp 7), none⟩,
      ⟨some 33, .move (.tmp 8), none⟩,
      ⟨some 34, .call ⟨(.value (.func 125)), #[(.tmp 33)], #[97]⟩, none⟩,
      ⟨some 4, .assign (.tmp 32), none⟩,
      ⟨some 5, .assign (.tmp 34), none⟩,
      ⟨some 6, .assign (.const (.bool true)), none⟩])
    .ret))
    .skip))
  (.seq (.reg [
    ⟨some 35, .move (.tmp 0), none⟩,
    ⟨some 36, .call ⟨(.value (.func 122)), #[(.tmp 35)], #[23]⟩, none⟩,
    ⟨some 37, .move (.tmp 1), none⟩,
    ⟨some 38, .call ⟨(.value (.func 122)), #[(.tmp 37)], #[23]⟩, none⟩,
    ⟨some 39, .binOp .sub 3 (.tmp 36) (.tmp 38) 3, none⟩,
    ⟨some 9, .assign (.tmp 39), none⟩])
  (.seq (.seq (.reg [
    ⟨some 40, .move (.tmp 9), none⟩,
    ⟨some 41, .binOp .lss 3 (.tmp 40) (.const (.int .i64 0)) 3, none⟩])
  (.cond (.tmp 41)
    (.seq (.reg [
      ⟨some 42, .move (.tmp 0), none⟩,
      ⟨some 4, .assign (.const (.slice none 0 0)), none⟩,
      ⟨some 5, .assign (.tmp 42), none⟩,
      ⟨some 6, .assign (.const (.bool true)), none⟩])
    .ret)
    .skip))
  (.seq (.reg [
    ⟨some 43, .move (.tmp 9), none⟩,
    ⟨some 44, .binOp .quo 3 (.tmp 43) (.const (.int .i64 32)) 3, none⟩,
    ⟨some 45, .binOp .add 3 (.tmp 44) (.const (.int .i64 1)) 3, none⟩,
    ⟨some 46, .makeSlice 23 (.tmp 45) (.tmp 45), none⟩,
    ⟨some 10, .assign (.tmp 46), none⟩])
  (.seq (.reg [
    ⟨some 47, .move (.tmp 1), none⟩,
    ⟨some 48, .move (.tmp 9), none⟩,
    ⟨some 49, .call ⟨(.value (.func 144)), #[(.tmp 47), (.tmp 48)], #[23, 3]⟩, none⟩,
    ⟨some 11, .assign (.tmp 49), none⟩])
  (.seq (.seq (.reg [
    ⟨some 50, .move (.tmp 9), none⟩,
    ⟨some 12, .assign (.tmp 50), none⟩])
  (.block 0 (.loop (.seq (.seq (.reg [
    ⟨some 51, .move (.tmp 12), none⟩,
    ⟨some 52, .binOp .geq 3 (.tmp 51) (.const (.int .i64 0)) 3, none⟩])
  (.cond (.tmp 52)
    .skip
    (.exit 0)))
  (.seq (.block 1 (.seq (.seq (.reg [
    ⟨some 55, .move (.tmp 0), none⟩,
    ⟨some 56, .move (.tmp 11), none⟩,
    ⟨some 57, .call ⟨(.value (.func 135)), #[(.tmp 55), (.tmp 56)], #[23, 23]⟩, none⟩,
    ⟨some 58, .binOp .geq 3 (.tmp 57) (.const (.int .i64 0)) 3, none⟩])
  (.cond (.tmp 58)
    (.seq (.reg [
      ⟨some 60, .move (.tmp 0), none⟩,
      ⟨some 61, .move (.tmp 11), none⟩,
      ⟨some 62, .call ⟨(.value (.func 130)), #[(.tmp 60), (.tmp 61)], #[23, 23]⟩, none⟩,
      ⟨some 59, .move (.tmp 62), none⟩,
      ⟨some 63, .extract (.tmp 59) 0, none⟩,
      ⟨some 64, .extract (.tmp 59) 1, none⟩,
      ⟨some 0, .assign (.tmp 63), none⟩])
    (.reg [
      ⟨some 65, .move (.tmp 10), none⟩,
      ⟨some 66, .move (.tmp 12), none⟩,
      ⟨some 67, .binOp .quo 3 (.tmp 66) (.const (.int .i64 32)) 3, none⟩,
      ⟨some 68, .move (.tmp 10), none⟩,
      ⟨some 69, .move (.tmp 12), none⟩,
      ⟨some 70, .binOp .quo 3 (.tmp 69) (.const (.int .i64 32)) 3, none⟩,
      ⟨some 71, .indexAddr 23 (.tmp 68) (.tmp 70), none⟩,
      ⟨some 72, .load 103 (.tmp 71), none⟩,
      ⟨some 73, .move (.tmp 12), none⟩,
      ⟨some 74, .binOp .rem 3 (.tmp 73) (.const (.int .i64 32)) 3, none⟩,
      ⟨some 75, .convert 3 113 (.tmp 74), none⟩,
      ⟨some 76, .binOp .shl 103 (.const (.int .u32 1)) (.tmp 75) 113, none⟩,
      ⟨some 77, .binOp .or 103 (.tmp 72) (.tmp 76) 103, none⟩,
      ⟨some 78, .indexAddr 23 (.tmp 65) (.tmp 67), none⟩,
      ⟨none, .store 103 (.tmp 78) (.tmp 77), none⟩]))
    .skip))
  (.reg [
    ⟨some 79, .move (.tmp 11), none⟩,
    ⟨some 80, .call ⟨(.value (.func 145)), #[(.tmp 79)], #[23]⟩, none⟩,
    ⟨some 11, .assign (.tmp 80), none⟩])))
  (.reg [
    ⟨some 53, .move (.tmp 12), none⟩,
    ⟨some 54, .binOp .sub 3 (.tmp 53) (.const (.int .i64 1)) 3, none⟩,
    ⟨some 12, .assign (.tmp 54), none⟩]))))))
  (.seq (.seq (.gh [.frz 10])
  (.reg [
    ⟨some 81, .move (.tmp 10), none⟩,
    ⟨some 82, .call ⟨(.value (.func 126)), #[(.tmp 81)], #[23]⟩, none⟩,
    ⟨some 83, .move (.tmp 0), none⟩,
    ⟨some 4, .assign (.tmp 82), none⟩,
    ⟨some 5, .assign (.tmp 83), none⟩,
    ⟨some 6, .assign (.const (.bool true)), none⟩]))
  .ret))))))))))⟩
theorem c128 : fcomp Tryz.prog 128 = ⟨b128.n, b128.np, b128.res, b128.body.bare⟩ := by kernel_rfl
theorem k128 : fok Tryz.prog 128 = true := by kernel_rfl
theorem ref_DivMod (a b : List Int) (ha : Lim a) (hb : Lim b) (la : a.length < 2199023255552) (lb : b.length < 2199023255552) : AFun Tryz.prog 128 [.one (natD a), .one (natD b)] (divR (nv a) (nv b)) := by
  refine afun_intro mo_ _ _ c128 k128 _ _ rfl (by decide) ?_
  unfold b128
  have h1 := tr_len ha
  have h2 := tr_len hb
  have n2 : Nrm (tr b) := nl_nrm _
  have l1 := tr_lim a
  have l2 := tr_lim b
  have v1 : nv (tr a) = nv a := by unfold nv; rw [val_tr ha]
  have v2 : nv (tr b) = nv b := by unfold nv; rw [val_tr hb]
  have t1 : tr a = nl (nv a) := rfl
  rw [← v2]
  simp (maxSteps := 1000000) (disch := first | omega | (simp only [LL]; omega)) only [W, V, TY, CC, reduceIte, Nat.reduceEqDiff, Nat.reduceAdd, Nat.reduceLeDiff, Nat.reduceLT, Int.reduceLE, Int.reduceLT, Int.reduceAdd, Int.reduceSub, Int.reduceToNat, Nat.reduceMul]
  refine a_call _ _ (ref_Norm a ha (by omega)) rfl ?_
  simp (maxSteps := 1000000) (disch := first | omega | (simp only [LL]; omega)) only [W, V, TY, CC, reduceIte, Nat.reduceEqDiff, Nat.reduceAdd, Nat.reduceLeDiff, Nat.reduceLT, Int.reduceLE, Int.reduceLT, Int.reduceAdd, Int.reduceSub, Int.reduceToNat, Nat.reduceMul]
  refine a_call _ _ (ref_Norm b hb (by omega)) (by simp (maxSteps := 1000000) (disch := first | omega | (simp only [LL]; omega)) only [W, V, TY, CC, reduceIte, Nat.reduceEqDiff, Nat.reduceAdd, Nat.reduceLeDiff, Nat.reduceLT, Int.reduceLE, Int.reduceLT, Int.reduceAdd, Int.reduceSub, Int.reduceToNat, Nat.reduceMul]) ?_
  generalize tr b = y at *
  simp (maxSteps := 1000000) (disch := first | omega | (simp only [LL]; omega)) only [W, V, TY, CC, reduceIte, Nat.reduceEqDiff, Nat.reduceAdd, Nat.reduceLeDiff, Nat.reduceLT, Int.reduceLE, Int.reduceLT, Int.reduceAdd, Int.reduceSub, Int.reduceToNat, Nat.reduceMul]
  refine c_split (fun hl => ?_) (fun hl => ?_)
  · have hy : y = [] := List.eq_nil_of_length_eq_zero (by omega)
    have hz : nv y = 0 := by rw [hy]; rfl
    simp (maxSteps := 1000000) (disch := first | omega | (simp only [LL]; omega)) only [W, V, TY, CC, reduceIte, Nat.reduceEqDiff, Nat.reduceAdd, Nat.reduceLeDiff, Nat.reduceLT, Int.reduceLE, Int.reduceLT, Int.reduceAdd, Int.reduceSub, Int.reduceToNat, Nat.reduceMul]
    refine f_ret _ _ _ ?_
    unfold divR
    simp (maxSteps := 1000000) (disch := first | omega | (simp only [LL]; omega)) only [W, V, TY, CC, reduceIte, Nat.reduceEqDiff, Nat.reduceAdd, Nat.reduceLeDiff, Nat.reduceLT, Int.reduceLE, Int.reduceLT, Int.reduceAdd, Int.reduceSub, Int.reduceToNat, Nat.reduceMul, hz]
    rfl
  · have hne : y ≠ [] := by intro e; rw [e] at hl; simp at hl
    have hpos := val_pos l2 n2 hne
    have hvy := nv_eq l2
    have hn0 : nv y ≠ 0 := by omega
    simp (maxSteps := 1000000) (disch := first | omega | (simp only [LL]; omega)) only [W, V, TY, CC, reduceIte, Nat.reduceEqDiff, Nat.reduceAdd, Nat.reduceLeDiff, Nat.reduceLT, Int.reduceLE, Int.reduceLT, Int.reduceAdd, Int.reduceSub, Int.reduceToNat, Nat.reduceMul]
    refine c_split (fun hl1 => ?_) (fun hl1 => ?_)
    · obtain ⟨d, rfl⟩ : ∃ d, y = [d] := List.length_eq_one_iff.1 (by omega)
      have hd := l2.head
      rw [val_one] at hpos
      have hnd : nv [d] = d.toNat := by unfold nv; rw [val_one]
      simp (maxSteps := 1000000) (disch := first | omega | (simp only [LL]; omega)) only [W, V, TY, CC, reduceIte, Nat.reduceEqDiff, Nat.reduceAdd, Nat.reduceLeDiff, Nat.reduceLT, Int.reduceLE, Int.reduceLT, Int.reduceAdd, Int.reduceSub, Int.reduceToNat, Nat.reduceMul, List.getD_cons_zero]
      refine a_call _ _ (ref_short (tr a) d l1 (by omega) hpos hd.2) (by simp (maxSteps := 1000000) (disch := first | omega | (simp only [LL]; omega)) only [W, V, TY, CC, reduceIte, Nat.reduceEqDiff, Nat.reduceAdd, Nat.reduceLeDiff, Nat.reduceLT, Int.reduceLE, Int.reduceLT, Int.reduceAdd, Int.reduceSub, Int.reduceToNat, Nat.reduceMul]) ?_
      simp (maxSteps := 1000000) (disch := first | omega | (simp only [LL]; omega)) only [W, V, TY, CC, reduceIte, Nat.reduceEqDiff, Nat.reduceAdd, Nat.reduceLeDiff, Nat.reduceLT, Int.reduceLE, Int.reduceLT, Int.reduceAdd, Int.reduceSub, Int.reduceToNat, Nat.reduceMul]
      have hrem : nv (tr a) % d.toNat < d.toNat := Nat.mod_lt _ (by omega)
      refine a_call _ _ (ref_Of (nv (tr a) % d.toNat : Nat) (by omega) (by omega)) (by simp (maxSteps := 1000000) (disch := first | omega | (simp only [LL]; omega)) only [W, V, TY, CC, reduceIte, Nat.reduceEqDiff, Nat.reduceAdd, Nat.reduceLeDiff, Nat.reduceLT, Int.reduceLE, Int.reduceLT, Int.reduceAdd, Int.reduceSub, Int.reduceToNat, Nat.reduceMul]) ?_
      simp (maxSteps := 1000000) (disch := first | omega | (simp only [LL]; omega)) only [W, V, TY, CC, reduceIte, Nat.reduceEqDiff, Nat.reduceAdd, Nat.reduceLeDiff, Nat.reduceLT, Int.reduceLE, Int.reduceLT, Int.reduceAdd, Int.reduceSub, Int.reduceToNat, Nat.reduceMul]
      refine f_ret _ _ _ ?_
      unfold divR
      rw [if_neg hn0, hnd, v1]
      simp (maxSteps := 1000000) (disch := first | omega | (simp only [LL]; omega)) only [W, V, TY, CC, reduceIte, Nat.reduceEqDiff, Nat.reduceAdd, Nat.reduceLeDiff, Nat.reduceLT, Int.reduceLE, Int.reduceLT, Int.reduceAdd, Int.reduceSub, Int.reduceToNat, Nat.reduceMul]
    · simp (maxSteps := 1000000) (disch := first | omega | (simp only [LL]; omega)) only [W, V, TY, CC, reduceIte, Nat.reduceEqDiff, Nat.reduceAdd, Nat.reduceLeDiff, Nat.reduceLT, Int.reduceLE, Int.reduceLT, Int.reduceAdd, Int.reduceSub, Int.reduceToNat, Nat.reduceMul]
      refine a_call _ _ (ref_Bits (tr a) l1 (by omega)) (by simp (maxSteps := 1000000) (disch := first | omega | (simp only [LL]; omega)) only [W, V, TY, CC, reduceIte, Nat.reduceEqDiff, Nat.reduceAdd, Nat.reduceLeDiff, Nat.reduceLT, Int.reduceLE, Int.reduceLT, Int.reduceAdd, Int.reduceSub, Int.reduceToNat, Nat.reduceMul]) ?_
      simp (maxSteps := 1000000) (disch := first | omega | (simp only [LL]; omega)) only [W, V, TY, CC, reduceIte, Nat.reduceEqDiff, Nat.reduceAdd, Nat.reduceLeDiff, Nat.reduceLT, Int.reduceLE, Int.reduceLT, Int.reduceAdd, Int.reduceSub, Int.reduceToNat, Nat.reduceMul]
      refine a_call _ _ (ref_Bits y l2 (by omega)) (by simp (maxSteps := 1000000) (disch := first | omega | (simp only [LL]; omega)) only [W, V, TY, CC, reduceIte, Nat.reduceEqDiff, Nat.reduceAdd, Nat.reduceLeDiff, Nat.reduceLT, Int.reduceLE, Int.reduceLT, Int.reduceAdd, Int.reduceSub, Int.reduceToNat, Nat.reduceMul]) ?_
      rw [v1]
      have b1 := bl_le (nv_lt_pow ha)
      have b2 := bl_le (nv_lt_pow l2)
      simp (maxSteps := 1000000) (disch := first | omega | (simp only [LL]; omega)) only [W, V, TY, CC, reduceIte, Nat.reduceEqDiff, Nat.reduceAdd, Nat.reduceLeDiff, Nat.reduceLT, Int.reduceLE, Int.reduceLT, Int.reduceAdd, Int.reduceSub, Int.reduceToNat, Nat.reduceMul, wi64 (n := (bl (nv a) : Int) - (bl (nv y) : Int)) (by omega) (by omega)]
      refine c_split (fun hneg => ?_) (fun hneg => ?_)
      · have hlt := bl_mono (m := nv a) (n := nv y) (by omega)
        simp (maxSteps := 1000000) (disch := first | omega | (simp only [LL]; omega)) only [W, V, TY, CC, reduceIte, Nat.reduceEqDiff, Nat.reduceAdd, Nat.reduceLeDiff, Nat.reduceLT, Int.reduceLE, Int.reduceLT, Int.reduceAdd, Int.reduceSub, Int.reduceToNat, Nat.reduceMul]
        refine f_ret _ _ _ ?_
        unfold divR
        rw [if_neg hn0, Nat.div_eq_of_lt hlt, Nat.mod_eq_of_lt hlt, nl_zero, t1]
        simp (maxSteps := 1000000) (disch := first | omega | (simp only [LL]; omega)) only [W, V, TY, CC, reduceIte, Nat.reduceEqDiff, Nat.reduceAdd, Nat.reduceLeDiff, Nat.reduceLT, Int.reduceLE, Int.reduceLT, Int.reduceAdd, Int.reduceSub, Int.reduceToNat, Nat.reduceMul]
        rfl
      · obtain ⟨sh, hsh⟩ : ∃ sh : Nat, bl (nv a) = bl (nv y) + sh := ⟨bl (nv a) - bl (nv y), by omega⟩
        have hs : (bl (nv a) : Int) - (bl (nv y) : Int) = (sh : Int) := by omega
        obtain ⟨M, hM⟩ : ∃ M, M = sh / 32 + 1 := ⟨_, rfl⟩
        have hMi : (sh : Int) / 32 + 1 = (M : Int) := by omega
        simp (maxSteps := 1000000) (disch := first | omega | (simp only [LL]; omega)) only [W, V, TY, CC, reduceIte, Nat.reduceEqDiff, Nat.reduceAdd, Nat.reduceLeDiff, Nat.reduceLT, Int.reduceLE, Int.reduceLT, Int.reduceAdd, Int.reduceSub, Int.reduceToNat, Nat.reduceMul, hs, hMi]
        refine ⟨by omega, ?_⟩
        refine a_call _ _ (ref_Shift y sh l2 (by omega) (by omega)) (by simp (maxSteps := 1000000) (disch := first | omega | (simp only [LL]; omega)) only [W, V, TY, CC, reduceIte, Nat.reduceEqDiff, Nat.reduceAdd, Nat.reduceLeDiff, Nat.reduceLT, Int.reduceLE, Int.reduceLT, Int.reduceAdd, Int.reduceSub, Int.reduceToNat, Nat.reduceMul]) ?_
        simp (maxSteps := 1000000) (disch := first | omega | (simp only [LL]; omega)) only [W, V, TY, CC, reduceIte, Nat.reduceEqDiff, Nat.reduceAdd, Nat.reduceLeDiff, Nat.reduceLT, Int.reduceLE, Int.reduceLT, Int.reduceAdd, Int.reduceSub, Int.reduceToNat, Nat.reduceMul]
        have ba := nv_lt_pow ha
        have hB0 := bl_ge hn0
        have hB1 := bl_lt (nv y)
        have hN1 := bl_lt (nv a)
        have hD0 : nv y * 2 ^ sh < 2 ^ (32 * a.length) := by
          have e1 : nv y * 2 ^ sh < 2 ^ bl (nv y) * 2 ^ sh := Nat.mul_lt_mul_of_pos_right hB1 (Nat.two_pow_pos _)
          rw [← Nat.pow_add, ← hsh] at e1
          exact Nat.lt_of_lt_of_le e1 (Nat.pow_le_pow_right (by omega) b1)
        have hA0 : nv a < nv y * 2 ^ (sh + 1) := by
          have e1 : 2 ^ (bl (nv y) - 1) * 2 ^ (sh + 1) ≤ nv y * 2 ^ (sh + 1) := Nat.mul_le_mul_right _ hB0
          have e0 : bl (nv y) ≠ 0 := fun e => hn0 (bl_eq_zero.1 e)
          rw [← Nat.pow_add, show bl (nv y) - 1 + (sh + 1) = bl (nv a) by omega] at e1
          omega
        generalize hB : nv y = B at *
        generalize hN : nv a = N at *
        refine w_loop (fun n s => ∃ (e A D : Nat) (Q : List Int), n = e ∧ s.t 0 = .one (.dt (natD (nl A))) ∧ s.t 11 = .one (.dt (natD (nl D))) ∧ s.t 12 = .one (.dt (.lit (.int .i64 ((e : Int) - 1)))) ∧ s.t 10 = .one (.row (46, 0) 0) ∧ s.r (46, 0) = some ⟨103, 1, M, natC Q, 0, true⟩ ∧ Q.length = M ∧ Lim Q ∧ e ≤ sh + 1 ∧ (nl D).length ≤ a.length ∧ (e ≠ 0 → D = B * 2 ^ (e - 1)) ∧ A < B * 2 ^ e ∧ A ≤ N ∧ N = A + B * nv Q ∧ ∀ k, Q.getD k 0 % 2 ^ (min 32 (e - 32 * k)) = 0) (sh + 1) ⟨sh + 1, N, B * 2 ^ sh, List.replicate M 0, rfl, ?_, ?_, ?_, ?_, ?_, by simp, Lim.replicate _, Nat.le_refl _, nl_len_pow hD0, fun _ => rfl, hA0, Nat.le_refl _, ?_, fun k => ?_⟩ ?_
        · simp (maxSteps := 1000000) (disch := first | omega | (simp only [LL]; omega)) only [W, V, TY, CC, reduceIte, Nat.reduceEqDiff, Nat.reduceAdd, Nat.reduceLeDiff, Nat.reduceLT, Int.reduceLE, Int.reduceLT, Int.reduceAdd, Int.reduceSub, Int.reduceToNat, Nat.reduceMul, t1]
        · simp (maxSteps := 1000000) (disch := first | omega | (simp only [LL]; omega)) only [W, V, TY, CC, reduceIte, Nat.reduceEqDiff, Nat.reduceAdd, Nat.reduceLeDiff, Nat.reduceLT, Int.reduceLE, Int.reduceLT, Int.reduceAdd, Int.reduceSub, Int.reduceToNat, Nat.reduceMul]
        · simp (maxSteps := 1000000) (disch := first | omega | (simp only [LL]; omega)) only [W, V, TY, CC, reduceIte, Nat.reduceEqDiff, Nat.reduceAdd, Nat.reduceLeDiff, Nat.reduceLT, Int.reduceLE, Int.reduceLT, Int.reduceAdd, Int.reduceSub, Int.reduceToNat, Nat.reduceMul]
        · simp (maxSteps := 1000000) (disch := first | omega | (simp only [LL]; omega)) only [W, V, TY, CC, reduceIte, Nat.reduceEqDiff, Nat.reduceAdd, Nat.reduceLeDiff, Nat.reduceLT, Int.reduceLE, Int.reduceLT, Int.reduceAdd, Int.reduceSub, Int.reduceToNat, Nat.reduceMul]
        · simp (maxSteps := 1000000) (disch := first | omega | (simp only [LL]; omega)) only [W, V, TY, CC, reduceIte, Nat.reduceEqDiff, Nat.reduceAdd, Nat.reduceLeDiff, Nat.reduceLT, Int.reduceLE, Int.reduceLT, Int.reduceAdd, Int.reduceSub, Int.reduceToNat, Nat.reduceMul, hMi]
        · unfold nv; rw [val_replicate]; rfl
        · rw [List.getD_eq_getElem?_getD, List.getElem?_replicate]; split <;> simp
        clear hA0 hD0 hN1 hB0 hB1
        intro n s _ ⟨e, A, D, Q, hne, s0, s11, s12, s10, r46, hQ, lQ, hesh, hDl, hDv, hAe, hAN, hNA, hmod⟩
        simp (maxSteps := 1000000) (disch := first | omega | (simp only [LL]; omega)) only [W, V, TY, CC, reduceIte, Nat.reduceEqDiff, Nat.reduceAdd, Nat.reduceLeDiff, Nat.reduceLT, Int.reduceLE, Int.reduceLT, Int.reduceAdd, Int.reduceSub, Int.reduceToNat, Nat.reduceMul, s0, s11, s12, s10]
        refine c_split (fun he => ?_) (fun he => ?_)
        · obtain ⟨i, rfl⟩ : ∃ i, e = i + 1 := ⟨e - 1, by omega⟩
          have hi1 : ((i + 1 : Nat) : Int) - 1 = (i : Int) := by omega
          rw [hi1] at s12
          have hDv' := hDv (by omega)
          rw [Nat.add_sub_cancel] at hDv'
          have hAl : (nl A).length ≤ a.length := nl_len_pow (by omega)
          simp (maxSteps := 1000000) (disch := first | omega | (simp only [LL]; omega)) only [W, V, TY, CC, reduceIte, Nat.reduceEqDiff, Nat.reduceAdd, Nat.reduceLeDiff, Nat.reduceLT, Int.reduceLE, Int.reduceLT, Int.reduceAdd, Int.reduceSub, Int.reduceToNat, Nat.reduceMul, s0, s11, s12, s10]
          refine a_call _ _ (ref_Cmp (nl A) (nl D) (nl_lim _) (nl_lim _) (by omega) (by omega)) (by simp (maxSteps := 1000000) (disch := first | omega | (simp only [LL]; omega)) only [W, V, TY, CC, reduceIte, Nat.reduceEqDiff, Nat.reduceAdd, Nat.reduceLeDiff, Nat.reduceLT, Int.reduceLE, Int.reduceLT, Int.reduceAdd, Int.reduceSub, Int.reduceToNat, Nat.reduceMul, s0, s11, s12, s10]) ?_
          rw [val_nl, val_nl]
          simp (maxSteps := 1000000) (disch := first | omega | (simp only [LL]; omega)) only [W, V, TY, CC, reduceIte, Nat.reduceEqDiff, Nat.reduceAdd, Nat.reduceLeDiff, Nat.reduceLT, Int.reduceLE, Int.reduceLT, Int.reduceAdd, Int.reduceSub, Int.reduceToNat, Nat.reduceMul, s0, s11, s12, s10]
          refine c_split (fun hc => ?_) (fun hc => ?_)
          · have hDA : D ≤ A := by unfold cmpZ at hc; split at hc <;> omega
            simp (maxSteps := 1000000) (disch := first | omega | (simp only [LL]; omega)) only [W, V, TY, CC, reduceIte, Nat.reduceEqDiff, Nat.reduceAdd, Nat.reduceLeDiff, Nat.reduceLT, Int.reduceLE, Int.reduceLT, Int.reduceAdd, Int.reduceSub, Int.reduceToNat, Nat.reduceMul, s0, s11, s12, s10]
            refine a_call _ _ (ref_Sub (nl A) (nl D) (nl_lim _) (nl_lim _) (by omega) (by omega)) (by simp (maxSteps := 1000000) (disch := first | omega | (simp only [LL]; omega)) only [W, V, TY, CC, reduceIte, Nat.reduceEqDiff, Nat.reduceAdd, Nat.reduceLeDiff, Nat.reduceLT, Int.reduceLE, Int.reduceLT, Int.reduceAdd, Int.reduceSub, Int.reduceToNat, Nat.reduceMul, s0, s11, s12, s10]) ?_
            unfold subR
            rw [nv_nl, nv_nl, if_pos hDA]
            obtain ⟨j, r, hij, hr⟩ : ∃ j r, i = 32 * j + r ∧ r < 32 := ⟨i / 32, i % 32, by omega, by omega⟩
            have hq : (i : Int) / 32 = (j : Int) := by omega
            have hrr : (i : Int) % 32 = (r : Int) := by omega
            have hjM : j < M := by omega
            have hx := lQ.getD j
            have hm := hmod j
            rw [show min 32 (i + 1 - 32 * j) = r + 1 by omega] at hm
            obtain ⟨ho1, ho2⟩ := or_bit hr hx.1 hx.2 hm
            obtain ⟨p0, p1⟩ := pow_le32 hr
            simp (maxSteps := 1000000) (disch := first | omega | (simp only [LL]; omega)) only [W, V, TY, CC, reduceIte, Nat.reduceEqDiff, Nat.reduceAdd, Nat.reduceLeDiff, Nat.reduceLT, Int.reduceLE, Int.reduceLT, Int.reduceAdd, Int.reduceSub, Int.reduceToNat, Nat.reduceMul, s0, s11, s12, s10, r46, hq, hrr, shl_bit hr, ho1]
            refine ⟨by omega, by omega, by omega, by omega, by omega, by omega, by omega, ?_⟩
            refine a_call _ _ (ref_half (nl D) (nl_lim _) (by omega)) (by simp (maxSteps := 1000000) (disch := first | omega | (simp only [LL]; omega)) only [W, V, TY, CC, reduceIte, Nat.reduceEqDiff, Nat.reduceAdd, Nat.reduceLeDiff, Nat.reduceLT, Int.reduceLE, Int.reduceLT, Int.reduceAdd, Int.reduceSub, Int.reduceToNat, Nat.reduceMul, s0, s11, s12, s10]) ?_
            simp (maxSteps := 1000000) (disch := first | omega | (simp only [LL]; omega)) only [W, V, TY, CC, reduceIte, Nat.reduceEqDiff, Nat.reduceAdd, Nat.reduceLeDiff, Nat.reduceLT, Int.reduceLE, Int.reduceLT, Int.reduceAdd, Int.reduceSub, Int.reduceToNat, Nat.reduceMul, s0, s11, s12, s10]
            have hD2 : B * 2 ^ (i + 1) = 2 * (B * 2 ^ i) := by rw [Nat.pow_succ]; grind
            rw [hD2, ← hDv'] at hAe
            refine ⟨i, by omega, i, A - D, nv (nl D) / 2, Q.set j (Q.getD j 0 + 2 ^ r), rfl, rfl, rfl, rfl, rfl, by simp [hQ], lQ.set _ (by omega) ho2, by omega, nl_len_iff.2 (Nat.lt_of_le_of_lt (by rw [nv_nl]; exact Nat.div_le_self _ _) (nl_len_iff.1 hDl)), fun hi0 => ?_, by omega, by omega, ?_, fun k => ?_⟩
            · obtain ⟨i', rfl⟩ : ∃ i', i = i' + 1 := ⟨i - 1, by omega⟩
              rw [nv_nl, hDv', Nat.add_sub_cancel, Nat.pow_succ, ← Nat.mul_assoc, Nat.mul_div_cancel _ (by omega)]
            · have hv := val_set_getD (l := Q) (i := j) (by omega) (Q.getD j 0 + 2 ^ r)
              have hb : bp j * 2 ^ r = ((2 ^ i : Nat) : Int) := by
                rw [hij, Nat.pow_add, Nat.pow_mul]
                unfold bp
                simp
              have e1 : nv (Q.set j (Q.getD j 0 + 2 ^ r)) = nv Q + 2 ^ i := by
                have := nv_eq lQ
                have := nv_eq (lQ.set j (x := Q.getD j 0 + 2 ^ r) (by omega) ho2)
                rw [show Q.getD j 0 + 2 ^ r - Q.getD j 0 = (2 : Int) ^ r by omega, hb] at hv
                omega
              rw [e1, Nat.mul_add, ← hDv']
              omega
            · by_cases hk : k = j
              · rw [hk, List.getD_eq_getElem?_getD, List.getElem?_set_self (by omega), show min 32 (i - 32 * j) = r by omega]
                exact Int.emod_eq_zero_of_dvd (Int.dvd_add (Int.dvd_of_emod_eq_zero (mod_pow_le hm (by omega))) (Int.dvd_refl _))
              · rw [Limbs.getD_set_ne (fun e => hk e.symm)]
                exact mod_pow_le (hmod k) (by omega)
          · have hDA : A < D := by unfold cmpZ at hc; split at hc <;> omega
            simp (maxSteps := 1000000) (disch := first | omega | (simp only [LL]; omega)) only [W, V, TY, CC, reduceIte, Nat.reduceEqDiff, Nat.reduceAdd, Nat.reduceLeDiff, Nat.reduceLT, Int.reduceLE, Int.reduceLT, Int.reduceAdd, Int.reduceSub, Int.reduceToNat, Nat.reduceMul, s0, s11, s12, s10]
            refine a_call _ _ (ref_half (nl D) (nl_lim _) (by omega)) (by simp (maxSteps := 1000000) (disch := first | omega | (simp only [LL]; omega)) only [W, V, TY, CC, reduceIte, Nat.reduceEqDiff, Nat.reduceAdd, Nat.reduceLeDiff, Nat.reduceLT, Int.reduceLE, Int.reduceLT, Int.reduceAdd, Int.reduceSub, Int.reduceToNat, Nat.reduceMul, s0, s11, s12, s10]) ?_
            simp (maxSteps := 1000000) (disch := first | omega | (simp only [LL]; omega)) only [W, V, TY, CC, reduceIte, Nat.reduceEqDiff, Nat.reduceAdd, Nat.reduceLeDiff, Nat.reduceLT, Int.reduceLE, Int.reduceLT, Int.reduceAdd, Int.reduceSub, Int.reduceToNat, Nat.reduceMul, s0, s11, s12, s10]
            refine ⟨i, by omega, i, A, nv (nl D) / 2, Q, rfl, rfl, rfl, rfl, r46, hQ, lQ, by omega, nl_len_iff.2 (Nat.lt_of_le_of_lt (by rw [nv_nl]; exact Nat.div_le_self _ _) (nl_len_iff.1 hDl)), fun hi0 => ?_, by omega, hAN, hNA, fun k => mod_pow_le (hmod k) (by omega)⟩
            obtain ⟨i', rfl⟩ : ∃ i', i = i' + 1 := ⟨i - 1, by omega⟩
            rw [nv_nl, hDv', Nat.add_sub_cancel, Nat.pow_succ, ← Nat.mul_assoc, Nat.mul_div_cancel _ (by omega)]
        · simp (maxSteps := 1000000) (disch := first | omega | (simp only [LL]; omega)) only [W, V, TY, CC, reduceIte, Nat.reduceEqDiff, Nat.reduceAdd, Nat.reduceLeDiff, Nat.reduceLT, Int.reduceLE, Int.reduceLT, Int.reduceAdd, Int.reduceSub, Int.reduceToNat, Nat.reduceMul, s0, s11, s12, s10, r46]
          refine a_call _ _ (ref_Norm Q lQ (by omega)) (by simp (maxSteps := 1000000) (disch := first | omega | (simp only [LL]; omega)) only [W, V, TY, CC, reduceIte, Nat.reduceEqDiff, Nat.reduceAdd, Nat.reduceLeDiff, Nat.reduceLT, Int.reduceLE, Int.reduceLT, Int.reduceAdd, Int.reduceSub, Int.reduceToNat, Nat.reduceMul, s0, s11, s12, s10, r46]) ?_
          simp (maxSteps := 1000000) (disch := first | omega | (simp only [LL]; omega)) only [W, V, TY, CC, reduceIte, Nat.reduceEqDiff, Nat.reduceAdd, Nat.reduceLeDiff, Nat.reduceLT, Int.reduceLE, Int.reduceLT, Int.reduceAdd, Int.reduceSub, Int.reduceToNat, Nat.reduceMul, s0, s11, s12, s10, r46]
          refine f_ret _ _ _ ?_
          have he0 : e = 0 := by omega
          subst he0
          rw [Nat.pow_zero, Nat.mul_one] at hAe
          unfold divR
          have hd1 : N / B = nv Q := by rw [hNA, Nat.add_mul_div_left _ _ (by omega), Nat.div_eq_of_lt hAe]; omega
          have hd2 : N % B = A := by rw [hNA, Nat.add_mul_mod_self_left, Nat.mod_eq_of_lt hAe]
          rw [if_neg hn0, hd1, hd2]
          simp (maxSteps := 1000000) (disch := first | omega | (simp only [LL]; omega)) only [W, V, TY, CC, reduceIte, Nat.reduceEqDiff, Nat.reduceAdd, Nat.reduceLeDiff, Nat.reduceLT, Int.reduceLE, Int.reduceLT, Int.reduceAdd, Int.reduceSub, Int.reduceToNat, Nat.reduceMul, s0]
          rfl
end Go.Proofs.YtljmgdepldpmdaaGreatDoor.E

set_option linter.unusedSimpArgs false
set_option linter.unusedVariables false
set_option maxHeartbeats 2000000
namespace Go.Proofs.YtljmgdepldpmdaaGreatDoor.E
open Go.RowKit Limbs
theorem nl_len_le {n : Nat} {l : List Int} (hl : Lim l) (h : n ≤ nv l) : (nl n).length ≤ l.length := nl_len_iff.2 (Nat.lt_of_le_of_lt h (nv_lt hl))
theorem nl_len0 {n : Nat} : ((nl n).length = 0) = (n = 0) := propext ⟨fun h => nl_eq_nil.1 (List.eq_nil_of_length_eq_zero h), fun h => by rw [h, nl_zero]; rfl⟩
/-- examboard/examboardref01.Gcd -/
def b127 : AF := ⟨25, 2, [.tmp 4],
  (.seq (.reg [
    ⟨some 4, .assign (.const (.slice none 0 0)), none⟩])
  (.seq (.reg [
    ⟨some 8, .move (.tmp 0), none⟩,
    ⟨some 9, .call ⟨(.value (.func 126)), #[(.tmp 8)], #[23]⟩, none⟩,
    ⟨some 10, .move (.tmp 1), none⟩,
    ⟨some 11, .call ⟨(.value (.func 126)), #[(.tmp 10)], #[23]⟩, none⟩,
    ⟨some 0, .assign (.tmp 9), none⟩,
    ⟨some 1, .assign (.tmp 11), none⟩])
  (.seq (.block 0 (.loop (.seq (.seq (.reg [
    ⟨some 12, .move (.tmp 1), none⟩,
    ⟨some 13, .call ⟨(.builtin .len), #[(.tmp 12)], #[23]⟩, none⟩,
    ⟨some 14, .binOp .gtr 3 (.tmp 13) (.const (.int .i64 0)) 3, none⟩])
  (.cond (.tmp 14)
    .skip
    (.exit 0)))
  (.block 1 (.seq (.reg [
    ⟨some 16, .move (.tmp 0), none⟩,
    ⟨some 17, .move (.tmp 1), none⟩,
    ⟨some 18, .call ⟨(.value (.func 128)), #[(.tmp 16), (.tmp 17)], #[23, 23]⟩, none⟩,
    ⟨some 15, .move (.tmp 18), none⟩,
    ⟨some 19, .extract (.tmp 15) 0, none⟩,
    ⟨some 20, .extract (.tmp 15) 1, none⟩,
    ⟨some 21, .extract (.tmp 15) 2, none⟩,
    ⟨some 5, .assign (.tmp 19), none⟩,
    ⟨some 6, .assign (.tmp 20), none⟩,
    ⟨some 7, .assign (.tmp 21), none⟩])
  (.reg [
    ⟨some 22, .move (.tmp 1), none⟩,
    ⟨some 23, .move (.tmp 6), none⟩,
    ⟨some 0, .assign (.tmp 22), none⟩,
    ⟨some 1, .assign (.tmp 23), none⟩]))))))
  (.seq (.reg [
    ⟨some 24, .move (.tmp 0), none⟩,
    ⟨some 4, .assign (.tmp 24), none⟩])
  .ret))))⟩
theorem c127 : fcomp Tryz.prog 127 = ⟨b127.n, b127.np, b127.res, b127.body.bare⟩ := by kernel_rfl
theorem k127 : fok Tryz.prog 127 = true := by kernel_rfl
theorem ref_Gcd (a b : List Int) (ha : Lim a) (hb : Lim b) (la : a.length < 2199023255552) (lb : b.length < 2199023255552) : AFun Tryz.prog 127 [.one (natD a), .one (natD b)] [.one (natD (nl (Nat.gcd (nv a) (nv b))))] := by
  refine afun_intro mo_ _ _ c127 k127 _ _ rfl (by decide) ?_
  unfold b127
  simp (maxSteps := 1000000) (disch := first | omega | (simp only [LL]; omega)) only [W, V, TY, CC, reduceIte, Nat.reduceEqDiff, Nat.reduceAdd, Nat.reduceLeDiff, Nat.reduceLT, Int.reduceLE, Int.reduceLT, Int.reduceAdd, Int.reduceSub, Int.reduceToNat, Nat.reduceMul]
  refine a_call _ _ (ref_Norm a ha (by omega)) rfl ?_
  simp (maxSteps := 1000000) (disch := first | omega | (simp only [LL]; omega)) only [W, V, TY, CC, reduceIte, Nat.reduceEqDiff, Nat.reduceAdd, Nat.reduceLeDiff, Nat.reduceLT, Int.reduceLE, Int.reduceLT, Int.reduceAdd, Int.reduceSub, Int.reduceToNat, Nat.reduceMul]
  refine a_call _ _ (ref_Norm b hb (by omega)) (by simp (maxSteps := 1000000) (disch := first | omega | (simp only [LL]; omega)) only [W, V, TY, CC, reduceIte, Nat.reduceEqDiff, Nat.reduceAdd, Nat.reduceLeDiff, Nat.reduceLT, Int.reduceLE, Int.reduceLT, Int.reduceAdd, Int.reduceSub, Int.reduceToNat, Nat.reduceMul]) ?_
  simp (maxSteps := 1000000) (disch := first | omega | (simp only [LL]; omega)) only [W, V, TY, CC, reduceIte, Nat.reduceEqDiff, Nat.reduceAdd, Nat.reduceLeDiff, Nat.reduceLT, Int.reduceLE, Int.reduceLT, Int.reduceAdd, Int.reduceSub, Int.reduceToNat, Nat.reduceMul]
  refine w_loop (fun n s => ∃ (x y : Nat), n = y ∧ s.t 0 = .one (.dt (natD (nl x))) ∧ s.t 1 = .one (.dt (natD (nl y))) ∧ Nat.gcd x y = Nat.gcd (nv a) (nv b) ∧ (nl x).length < 2199023255552 ∧ (nl y).length < 2199023255552) (nv b) ⟨nv a, nv b, rfl, ?_, ?_, rfl, ?_, ?_⟩ ?_
  · simp (maxSteps := 1000000) (disch := first | omega | (simp only [LL]; omega)) only [W, V, TY, CC, reduceIte, Nat.reduceEqDiff, Nat.reduceAdd, Nat.reduceLeDiff, Nat.reduceLT, Int.reduceLE, Int.reduceLT, Int.reduceAdd, Int.reduceSub, Int.reduceToNat, Nat.reduceMul]; rfl
  · simp (maxSteps := 1000000) (disch := first | omega | (simp only [LL]; omega)) only [W, V, TY, CC, reduceIte, Nat.reduceEqDiff, Nat.reduceAdd, Nat.reduceLeDiff, Nat.reduceLT, Int.reduceLE, Int.reduceLT, Int.reduceAdd, Int.reduceSub, Int.reduceToNat, Nat.reduceMul]; rfl
  · exact Nat.lt_of_le_of_lt (nl_len_le ha (Nat.le_refl _)) la
  · exact Nat.lt_of_le_of_lt (nl_len_le hb (Nat.le_refl _)) lb
  intro n s _ ⟨x, y, e, t0, t1, hg, lx, ly⟩
  simp (maxSteps := 1000000) (disch := first | omega | (simp only [LL]; omega)) only [W, V, TY, CC, reduceIte, Nat.reduceEqDiff, Nat.reduceAdd, Nat.reduceLeDiff, Nat.reduceLT, Int.reduceLE, Int.reduceLT, Int.reduceAdd, Int.reduceSub, Int.reduceToNat, Nat.reduceMul, t0, t1]
  refine c_split (fun hi => ?_) (fun hi => ?_)
  · have hy : y ≠ 0 := by intro h; rw [h, nl_zero] at hi; simp at hi
    simp (maxSteps := 1000000) (disch := first | omega | (simp only [LL]; omega)) only [W, V, TY, CC, reduceIte, Nat.reduceEqDiff, Nat.reduceAdd, Nat.reduceLeDiff, Nat.reduceLT, Int.reduceLE, Int.reduceLT, Int.reduceAdd, Int.reduceSub, Int.reduceToNat, Nat.reduceMul, t0, t1]
    refine a_call _ _ (ref_DivMod (nl x) (nl y) (nl_lim _) (nl_lim _) lx ly) (by simp (maxSteps := 1000000) (disch := first | omega | (simp only [LL]; omega)) only [W, V, TY, CC, reduceIte, Nat.reduceEqDiff, Nat.reduceAdd, Nat.reduceLeDiff, Nat.reduceLT, Int.reduceLE, Int.reduceLT, Int.reduceAdd, Int.reduceSub, Int.reduceToNat, Nat.reduceMul, t0, t1]) ?_
    unfold divR
    rw [nv_nl, nv_nl, if_neg hy]
    simp (maxSteps := 1000000) (disch := first | omega | (simp only [LL]; omega)) only [W, V, TY, CC, reduceIte, Nat.reduceEqDiff, Nat.reduceAdd, Nat.reduceLeDiff, Nat.reduceLT, Int.reduceLE, Int.reduceLT, Int.reduceAdd, Int.reduceSub, Int.reduceToNat, Nat.reduceMul, t0, t1]
    have hm : x % y < y := Nat.mod_lt _ (by omega)
    refine ⟨x % y, by omega, y, x % y, rfl, rfl, rfl, ?_, ly, ?_⟩
    · rw [← hg, Nat.gcd_comm x y, Nat.gcd_rec y x, Nat.gcd_comm]
    · refine Nat.lt_of_le_of_lt (nl_len_le (nl_lim y) ?_) ly
      rw [nv_nl]; omega
  · simp (maxSteps := 1000000) (disch := first | omega | (simp only [LL]; omega)) only [W, V, TY, CC, reduceIte, Nat.reduceEqDiff, Nat.reduceAdd, Nat.reduceLeDiff, Nat.reduceLT, Int.reduceLE, Int.reduceLT, Int.reduceAdd, Int.reduceSub, Int.reduceToNat, Nat.reduceMul, t0, t1]
    refine f_ret _ _ _ ?_
    have hy : y = 0 := by
      have : (nl y).length = 0 := by omega
      rwa [nl_len0] at this
    rw [hy, Nat.gcd_zero_right] at hg
    simp (maxSteps := 1000000) (disch := first | omega | (simp only [LL]; omega)) only [W, V, TY, CC, reduceIte, Nat.reduceEqDiff, Nat.reduceAdd, Nat.reduceLeDiff, Nat.reduceLT, Int.reduceLE, Int.reduceLT, Int.reduceAdd, Int.reduceSub, Int.reduceToNat, Nat.reduceMul, hg]
end Go.Proofs.YtljmgdepldpmdaaGreatDoor.E

set_option linter.unusedSimpArgs false
set_option linter.unusedVariables false
set_option maxHeartbeats 2000000
namespace Go.Proofs.YtljmgdepldpmdaaGreatDoor.E
open Go.RowKit Limbs
/-- 2^32 to a power -/
def bn (n : Nat) : Nat := 4294967296 ^ n
theorem bn_zero : bn 0 = 1 := rfl
theorem bn_succ (n : Nat) : bn (n + 1) = bn n * 4294967296 := by unfold bn; exact Nat.pow_succ ..
theorem bn_add (m n : Nat) : bn (m + n) = bn m * bn n := Nat.pow_add ..
theorem bn_pos (n : Nat) : 0 < bn n := Nat.pow_pos (by omega)
theorem bn_bp (n : Nat) : ((bn n : Nat) : Int) = bp n := by unfold bn bp; simp
theorem bn_two (n : Nat) : bn n = 2 ^ (32 * n) := by unfold bn; rw [show (4294967296 : Nat) = 2 ^ 32 from rfl, ← Nat.pow_mul]
/-- the n lowest limbs of a number -/
def lim : Nat → Nat → List Int
  | 0, _ => []
  | n + 1, v => ((v % 4294967296 : Nat) : Int) :: lim n (v / 4294967296)
theorem lim_len : ∀ (n v : Nat), (lim n v).length = n
  | 0, _ => rfl
  | n + 1, v => by simp [lim, lim_len n]
theorem lim_lim : ∀ (n v : Nat), Lim (lim n v)
  | 0, _ => Lim.nil
  | n + 1, v => Lim.cons (by omega) (by omega) (lim_lim n _)
theorem val_lim : ∀ (n v : Nat), v < bn n → val (lim n v) = v
  | 0, v, h => by
    rw [bn_zero] at h
    have : v = 0 := by omega
    rw [this]; rfl
  | n + 1, v, h => by
    rw [bn_succ] at h
    rw [lim, val_cons, val_lim n (v / 4294967296) (by omega)]
    omega
theorem nv_lim {n v : Nat} (h : v < bn n) : nv (lim n v) = v := by unfold nv; rw [val_lim n v h]; omega
theorem eq_lim : ∀ {l : List Int} {n v : Nat}, Lim l → l.length = n → val l = v → l = lim n v
  | [], n, v, _, hn, _ => by rw [← hn]; rfl
  | x :: l, n, v, hl, hn, hv => by
    have hx := hl.head
    have hr := val_nonneg hl.tail
    rw [val_cons] at hv
    obtain ⟨m, rfl⟩ : ∃ m, n = m + 1 := ⟨l.length, by simpa using hn.symm⟩
    rw [lim, ← eq_lim (l := l) (n := m) (v := v / 4294967296) hl.tail (by simpa using hn) (by omega)]
    congr 1
    omega
theorem lim_getD : ∀ (n v i : Nat), i < n → (lim n v).getD i 0 = ((v / bn i % 4294967296 : Nat) : Int)
  | n + 1, v, 0, _ => by simp [lim, bn_zero]
  | n + 1, v, i + 1, h => by
    rw [lim, List.getD_cons_succ, lim_getD n _ i (by omega), bn_succ, Nat.mul_comm, ← Nat.div_div_eq_div_mul]
theorem lim_drop : ∀ (n v i : Nat), i ≤ n → (lim n v).drop i = lim (n - i) (v / bn i)
  | n, v, 0, _ => by simp [bn_zero]
  | n + 1, v, i + 1, h => by
    rw [lim, List.drop_succ_cons, lim_drop n _ i (by omega), bn_succ, Nat.mul_comm, ← Nat.div_div_eq_div_mul, Nat.add_sub_add_right]
theorem lim_take : ∀ (n v i : Nat), i ≤ n → (lim n v).take i = lim i v
  | n, v, 0, _ => by rw [List.take_zero]; rfl
  | n + 1, v, i + 1, h => by rw [lim, List.take_succ_cons, lim_take n _ i (by omega), lim]
/-- the window of a number's limbs -/
theorem lim_win {n v j m : Nat} (h : j + m ≤ n) (hv : v < bn (j + m)) : val (((lim n v).drop j).take m) = ((v / bn j : Nat) : Int) := by
  rw [lim_drop n v j (by omega), lim_take _ _ _ (by omega), val_lim]
  rw [bn_add] at hv
  exact Nat.div_lt_of_lt_mul hv
theorem top3 {v j : Nat} (h : v < bn (j + 3)) : v / bn (j + 2) % 4294967296 * 18446744073709551616 + v / bn (j + 1) % 4294967296 * 4294967296 + v / bn j % 4294967296 = v / bn j := by
  have e2 : v / bn (j + 2) = v / bn j / 4294967296 / 4294967296 := by rw [bn_succ, bn_succ, ← Nat.div_div_eq_div_mul, ← Nat.div_div_eq_div_mul]
  have e1 : v / bn (j + 1) = v / bn j / 4294967296 := by rw [bn_succ, ← Nat.div_div_eq_div_mul]
  have hb : v / bn j < bn 3 := by rw [bn_add] at h; exact Nat.div_lt_of_lt_mul h
  rw [show bn 3 = 79228162514264337593543950336 from rfl] at hb
  rw [e2, e1]
  clear e2 e1 h
  generalize v / bn j = q at *
  omega
theorem top2 {v j : Nat} (h : v < bn (j + 2)) : v / bn (j + 1) % 4294967296 * 4294967296 + v / bn j % 4294967296 = v / bn j := by
  have e1 : v / bn (j + 1) = v / bn j / 4294967296 := by rw [bn_succ, ← Nat.div_div_eq_div_mul]
  have hb : v / bn j < bn 2 := by rw [bn_add] at h; exact Nat.div_lt_of_lt_mul h
  rw [show bn 2 = 18446744073709551616 from rfl] at hb
  rw [e1]
  clear e1 h
  generalize v / bn j = q at *
  omega
/-- the quotient digit of the highest limbs is the right one or one too great -/
theorem digit {w V H W M ur vr : Nat} (hM : 0 < M) (hw : w = H * M + ur) (hur : ur < M) (hV : V = W * M + vr) (hvr : vr < M) (hW : 4294967296 ≤ W) (hwV : w < V * 4294967296) (g : Nat) (hg : g = min 4294967295 (H / W)) :
    (g * V ≤ w → w / V = g) ∧ (w < g * V → w / V = g - 1 ∧ 0 < g) := by
  have hVp : 0 < V := by
    have : 4294967296 * 1 ≤ W * M := Nat.mul_le_mul hW hM
    omega
  have hq1 : w / V ≤ 4294967295 := by
    have := Nat.div_lt_of_lt_mul hwV
    omega
  have hgH : g * W ≤ H := by
    have h1 : g ≤ H / W := by omega
    exact Nat.le_trans (Nat.mul_le_mul_right _ h1) (Nat.div_mul_le_self _ _)
  -- g is not too small
  have hge : w / V ≤ g := by
    by_cases hc : g = 4294967295
    · omega
    · have hgq : g = H / W := by omega
      by_cases h : w / V ≤ g
      · exact h
      · exfalso
        have h1 : H < (g + 1) * W := by rw [hgq]; exact Nat.lt_mul_of_div_lt (by omega) (by omega)
        have h2 : (g + 1) * V ≤ w := Nat.le_trans (Nat.mul_le_mul_right _ (by omega)) (Nat.div_mul_le_self w V)
        have h3 : (H + 1) * M ≤ (g + 1) * W * M := Nat.mul_le_mul_right _ h1
        have h4 : (g + 1) * V = (g + 1) * W * M + (g + 1) * vr := by rw [hV, Nat.mul_add, Nat.mul_assoc]
        rw [Nat.add_mul] at h3
        omega
  -- g is at most one too great
  have hlt : g * V < w + V := by
    have h1 : g * W * M ≤ H * M := Nat.mul_le_mul_right _ hgH
    have h2 : g * V = g * W * M + g * vr := by rw [hV, Nat.mul_add, Nat.mul_assoc]
    have h3 : g * vr ≤ g * M := Nat.mul_le_mul_left _ (by omega)
    have h4 : g * M < 4294967296 * M := Nat.mul_lt_mul_of_pos_right (by omega) hM
    have h5 : 4294967296 * M ≤ W * M := Nat.mul_le_mul_right _ hW
    omega
  constructor
  · intro h
    have : g ≤ w / V := (Nat.le_div_iff_mul_le hVp).2 h
    omega
  · intro h
    have h0 : 0 < g := by
      rcases Nat.eq_zero_or_pos g with h0 | h0
      · rw [h0] at h; omega
      · exact h0
    obtain ⟨k, rfl⟩ : ∃ k, g = k + 1 := ⟨g - 1, by omega⟩
    have h1 : k ≤ w / V := (Nat.le_div_iff_mul_le hVp).2 (by rw [Nat.add_mul] at hlt; omega)
    have h2 : w / V < k + 1 := Nat.div_lt_of_lt_mul (by rw [Nat.mul_comm]; exact h)
    exact ⟨by omega, h0⟩
end Go.Proofs.YtljmgdepldpmdaaGreatDoor.E

set_option linter.unusedSimpArgs false
set_option linter.unusedVariables false
set_option maxHeartbeats 2000000
namespace Go.Proofs.YtljmgdepldpmdaaGreatDoor.E
open Go.RowKit Limbs
theorem or_lo64 {d l : Int} {k : Nat} (hk : k < 32) (h0 : 0 ≤ d) (h1 : d < 2 ^ k) (h2 : 0 ≤ l) (h3 : l < 9223372036854775808) (h4 : l % 2 ^ k = 0) : bits .or .u64 d l = d + l := by
  obtain ⟨p0, p1⟩ := pow_le32 hk
  have := bits_join .u64 64 (by decide) (fun n h1 h2 => wu64 h1 (by simpa using h2)) k l d h2 h4 (by simp; omega) h0 h1 (by simp; omega)
  rw [Int.add_comm d l, ← this]
  unfold bits
  simp only [BitVec.or_comm]
/-- examboard/nat.shiftUp -/
def b138 : AF := ⟨42, 2, [.tmp 4],
  (.seq (.reg [
    ⟨some 4, .assign (.const (.slice none 0 0)), none⟩])
  (.seq (.reg [
    ⟨some 9, .move (.tmp 0), none⟩,
    ⟨some 10, .call ⟨(.builtin .len), #[(.tmp 9)], #[23]⟩, none⟩,
    ⟨some 11, .binOp .add 3 (.tmp 10) (.const (.int .i64 1)) 3, none⟩,
    ⟨some 12, .makeSlice 23 (.tmp 11) (.tmp 11), none⟩,
    ⟨some 5, .assign (.tmp 12), none⟩])
  (.seq (.reg [
    ⟨some 6, .assign (.const (.int .u64 0)), none⟩])
  (.seq (.seq (.reg [
    ⟨some 13, .move (.tmp 0), none⟩,
    ⟨some 14, .call ⟨(.builtin .len), #[(.tmp 13)], #[23]⟩, none⟩,
    ⟨some 15, .move (.const (.int .i64 0)), none⟩])
  (.block 0 (.loop (.seq (.reg [
    ⟨some 16, .binOp .lss 3 (.tmp 15) (.tmp 14) 3, none⟩])
  (.seq (.cond (.tmp 16)
    .skip
    (.exit 0))
  (.seq (.block 1 (.seq (.reg [
    ⟨some 17, .move (.tmp 15), none⟩,
    ⟨some 18, .indexAddr 23 (.tmp 13) (.tmp 15), none⟩,
    ⟨some 19, .load 103 (.tmp 18), none⟩,
    ⟨some 7, .assign (.tmp 17), none⟩,
    ⟨some 8, .assign (.tmp 19), none⟩])
  (.seq (.reg [
    ⟨some 20, .move (.tmp 6), none⟩,
    ⟨some 21, .move (.tmp 8), none⟩,
    ⟨some 22, .convert 103 97 (.tmp 21), none⟩,
    ⟨some 23, .move (.tmp 1), none⟩,
    ⟨some 24, .binOp .shl 97 (.tmp 22) (.tmp 23) 113, none⟩,
    ⟨some 25, .binOp .or 97 (.tmp 20) (.tmp 24) 97, none⟩,
    ⟨some 6, .assign (.tmp 25), none⟩])
  (.seq (.reg [
    ⟨some 26, .move (.tmp 5), none⟩,
    ⟨some 27, .move (.tmp 7), none⟩,
    ⟨some 28, .move (.tmp 6), none⟩,
    ⟨some 29, .binOp .and 97 (.tmp 28) (.const (.int .u64 4294967295)) 97, none⟩,
    ⟨some 30, .convert 97 103 (.tmp 29), none⟩,
    ⟨some 31, .indexAddr 23 (.tmp 26) (.tmp 27), none⟩,
    ⟨none, .store 103 (.tmp 31) (.tmp 30), none⟩])
  (.reg [
    ⟨some 32, .move (.tmp 6), none⟩,
    ⟨some 33, .binOp .shr 97 (.tmp 32) (.const (.int .u64 32)) 113, none⟩,
    ⟨some 6, .assign (.tmp 33), none⟩])))))
  (.reg [
    ⟨some 34, .binOp .add 3 (.tmp 15) (.const (.int .i64 1)) 3, none⟩,
    ⟨some 15, .move (.tmp 34), none⟩])))))))
  (.seq (.reg [
    ⟨some 35, .move (.tmp 5), none⟩,
    ⟨some 36, .move (.tmp 0), none⟩,
    ⟨some 37, .call ⟨(.builtin .len), #[(.tmp 36)], #[23]⟩, none⟩,
    ⟨some 38, .move (.tmp 6), none⟩,
    ⟨some 39, .convert 97 103 (.tmp 38), none⟩,
    ⟨some 40, .indexAddr 23 (.tmp 35) (.tmp 37), none⟩,
    ⟨none, .store 103 (.tmp 40) (.tmp 39), none⟩])
  (.seq (.reg [
    ⟨some 41, .move (.tmp 5), none⟩,
    ⟨some 4, .assign (.tmp 41), none⟩])
  .ret))))))⟩
theorem c138 : fcomp Tryz.prog 138 = ⟨b138.n, b138.np, b138.res, b138.body.bare⟩ := by kernel_rfl
theorem k138 : fok Tryz.prog 138 = true := by kernel_rfl
theorem shiftUp_body (a : List Int) (k : Nat) (ha : Lim a) (la : a.length < 8796093022208) (hk : k < 32) (K : AEx → AS → Prop) (hK : ∀ s, s.t 4 = .one (.row (12, 0) 0) → s.r (12, 0) = some ⟨103, 1, a.length + 1, natC (lim (a.length + 1) (nv a * 2 ^ k)), 0, true⟩ → K .ret s) :
    awp Tryz.prog b138.body K (start [.one (natD a), .one (.lit (.int .u64 k))]) := by
  unfold b138
  obtain ⟨M, hM⟩ : ∃ M, M = a.length + 1 := ⟨_, rfl⟩
  have hMi : (a.length : Int) + 1 = (M : Int) := by omega
  obtain ⟨p0, p1⟩ := pow_le32 hk
  rw [← hM] at hK
  simp (maxSteps := 1000000) (disch := first | omega | (simp only [LL]; omega)) only [W, V, TY, CC, reduceIte, Nat.reduceEqDiff, Nat.reduceAdd, Nat.reduceLeDiff, Nat.reduceLT, Int.reduceLE, Int.reduceLT, Int.reduceAdd, Int.reduceSub, Int.reduceToNat, Nat.reduceMul, hMi]
  refine w_loop (fun m s => ∃ (i : Nat) (c : Int) (D : List Int), m + i = a.length ∧ s.t 0 = .one (.dt (natD a)) ∧ s.t 1 = .one (.dt (.lit (.int .u64 k))) ∧ s.t 13 = .one (.dt (natD a)) ∧ s.t 14 = .one (.dt (.lit (.int .i64 a.length))) ∧ s.t 15 = .one (.dt (.lit (.int .i64 i))) ∧ s.t 6 = .one (.dt (.lit (.int .u64 c))) ∧ s.t 5 = .one (.row (12, 0) 0) ∧ s.r (12, 0) = some ⟨103, 1, M, natC D, 0, true⟩ ∧ D.length = M ∧ Lim D ∧ 0 ≤ c ∧ c < 2 ^ k ∧ val (D.take i) + bp i * c = val (a.take i) * 2 ^ k) a.length ⟨0, 0, List.replicate M 0, rfl, ?_, ?_, ?_, ?_, ?_, ?_, ?_, ?_, by simp, Lim.replicate _, Int.le_refl _, by omega, by simp [val_nil]⟩ ?_
  · simp (maxSteps := 1000000) (disch := first | omega | (simp only [LL]; omega)) only [W, V, TY, CC, reduceIte, Nat.reduceEqDiff, Nat.reduceAdd, Nat.reduceLeDiff, Nat.reduceLT, Int.reduceLE, Int.reduceLT, Int.reduceAdd, Int.reduceSub, Int.reduceToNat, Nat.reduceMul]
  · simp (maxSteps := 1000000) (disch := first | omega | (simp only [LL]; omega)) only [W, V, TY, CC, reduceIte, Nat.reduceEqDiff, Nat.reduceAdd, Nat.reduceLeDiff, Nat.reduceLT, Int.reduceLE, Int.reduceLT, Int.reduceAdd, Int.reduceSub, Int.reduceToNat, Nat.reduceMul]
  · simp (maxSteps := 1000000) (disch := first | omega | (simp only [LL]; omega)) only [W, V, TY, CC, reduceIte, Nat.reduceEqDiff, Nat.reduceAdd, Nat.reduceLeDiff, Nat.reduceLT, Int.reduceLE, Int.reduceLT, Int.reduceAdd, Int.reduceSub, Int.reduceToNat, Nat.reduceMul]
  · simp (maxSteps := 1000000) (disch := first | omega | (simp only [LL]; omega)) only [W, V, TY, CC, reduceIte, Nat.reduceEqDiff, Nat.reduceAdd, Nat.reduceLeDiff, Nat.reduceLT, Int.reduceLE, Int.reduceLT, Int.reduceAdd, Int.reduceSub, Int.reduceToNat, Nat.reduceMul]
  · simp (maxSteps := 1000000) (disch := first | omega | (simp only [LL]; omega)) only [W, V, TY, CC, reduceIte, Nat.reduceEqDiff, Nat.reduceAdd, Nat.reduceLeDiff, Nat.reduceLT, Int.reduceLE, Int.reduceLT, Int.reduceAdd, Int.reduceSub, Int.reduceToNat, Nat.reduceMul]
  · simp (maxSteps := 1000000) (disch := first | omega | (simp only [LL]; omega)) only [W, V, TY, CC, reduceIte, Nat.reduceEqDiff, Nat.reduceAdd, Nat.reduceLeDiff, Nat.reduceLT, Int.reduceLE, Int.reduceLT, Int.reduceAdd, Int.reduceSub, Int.reduceToNat, Nat.reduceMul]
  · simp (maxSteps := 1000000) (disch := first | omega | (simp only [LL]; omega)) only [W, V, TY, CC, reduceIte, Nat.reduceEqDiff, Nat.reduceAdd, Nat.reduceLeDiff, Nat.reduceLT, Int.reduceLE, Int.reduceLT, Int.reduceAdd, Int.reduceSub, Int.reduceToNat, Nat.reduceMul]
  · simp (maxSteps := 1000000) (disch := first | omega | (simp only [LL]; omega)) only [W, V, TY, CC, reduceIte, Nat.reduceEqDiff, Nat.reduceAdd, Nat.reduceLeDiff, Nat.reduceLT, Int.reduceLE, Int.reduceLT, Int.reduceAdd, Int.reduceSub, Int.reduceToNat, Nat.reduceMul, hMi]
  intro m s _ ⟨i, c, D, e, t0, t1, t13, t14, t15, t6, t5, r12, hD, lD, c0, c1, hv⟩
  simp (maxSteps := 1000000) (disch := first | omega | (simp only [LL]; omega)) only [W, V, TY, CC, reduceIte, Nat.reduceEqDiff, Nat.reduceAdd, Nat.reduceLeDiff, Nat.reduceLT, Int.reduceLE, Int.reduceLT, Int.reduceAdd, Int.reduceSub, Int.reduceToNat, Nat.reduceMul, t14, t15]
  refine c_split (fun hi => ?_) (fun hi => ?_)
  · have hx := ha.getD i
    have hs := shl_var (x := a.getD i 0) hk hx.1 hx.2
    have hx0 : 0 ≤ a.getD i 0 * 2 ^ k := Int.mul_nonneg hx.1 (by omega)
    have hx1 : a.getD i 0 * 2 ^ k ≤ 4294967295 * 2 ^ k := Int.mul_le_mul_of_nonneg_right (by omega) (by omega)
    have hx2 : a.getD i 0 * 2 ^ k % 2 ^ k = 0 := Int.mul_emod_left _ _
    generalize hX : a.getD i 0 * 2 ^ k = X at hs hx0 hx1 hx2
    have ho := or_lo64 (d := c) (l := X) hk c0 c1 hx0 (by omega) hx2
    generalize hK2 : (2 : Int) ^ k = K2 at *
    simp (maxSteps := 1000000) (disch := first | omega | (simp only [LL]; omega)) only [W, V, TY, CC, reduceIte, Nat.reduceEqDiff, Nat.reduceAdd, Nat.reduceLeDiff, Nat.reduceLT, Int.reduceLE, Int.reduceLT, Int.reduceAdd, Int.reduceSub, Int.reduceToNat, Nat.reduceMul, t0, t1, t13, t14, t15, t6, t5, r12, hs, ho, and_m32 (n := c + X) (by omega) (by omega), shr_32, wu32 (n := (c + X) % 4294967296) (by omega) (by omega)]
    refine ⟨by omega, by omega, by omega, m - 1, by omega, i + 1, (c + X) / 4294967296, D.set i ((c + X) % 4294967296), by omega, rfl, rfl, rfl, by simp [hD], lD.set _ (by omega) (by omega), by omega, by omega, ?_⟩
    rw [take_set_succ (by omega), val_snoc, List.length_take, Nat.min_eq_left (by omega), val_take' a i, Int.add_mul, Int.mul_assoc, hX, ← hv, bp_succ]
    have e2 : c + X = (c + X) % 4294967296 + 4294967296 * ((c + X) / 4294967296) := by omega
    generalize (c + X) % 4294967296 = x0 at *
    generalize (c + X) / 4294967296 = x1 at *
    grind
  · simp (maxSteps := 1000000) (disch := first | omega | (simp only [LL]; omega)) only [W, V, TY, CC, reduceIte, Nat.reduceEqDiff, Nat.reduceAdd, Nat.reduceLeDiff, Nat.reduceLT, Int.reduceLE, Int.reduceLT, Int.reduceAdd, Int.reduceSub, Int.reduceToNat, Nat.reduceMul, t0, t1, t13, t14, t15, t6, t5, r12, wu32 (n := c) (by omega) (by omega)]
    refine ⟨by omega, by omega, ?_⟩
    have hi' : i = a.length := by omega
    subst hi'
    rw [List.take_length] at hv
    refine hK _ ?_ ?_
    · simp (maxSteps := 1000000) (disch := first | omega | (simp only [LL]; omega)) only [W, V, TY, CC, reduceIte, Nat.reduceEqDiff, Nat.reduceAdd, Nat.reduceLeDiff, Nat.reduceLT, Int.reduceLE, Int.reduceLT, Int.reduceAdd, Int.reduceSub, Int.reduceToNat, Nat.reduceMul, t5]
    · have hfin : D.set a.length c = lim M (nv a * 2 ^ k) := by
        refine eq_lim (lD.set _ c0 (by omega)) (by simp [hD]) ?_
        have e1 := take_set_succ (l := D) (i := a.length) (by omega) c
        rw [List.take_of_length_le (by simp; omega)] at e1
        rw [e1, val_snoc, List.length_take, Nat.min_eq_left (by omega), hv, ← nv_eq ha]
        simp
      simp (maxSteps := 1000000) (disch := first | omega | (simp only [LL]; omega)) only [W, V, TY, CC, reduceIte, Nat.reduceEqDiff, Nat.reduceAdd, Nat.reduceLeDiff, Nat.reduceLT, Int.reduceLE, Int.reduceLT, Int.reduceAdd, Int.reduceSub, Int.reduceToNat, Nat.reduceMul, r12, hfin]
theorem nat_shiftUp (a : List Int) (k : Nat) (ha : Lim a) (la : a.length < 8796093022208) (hk : k < 32) : AFun Tryz.prog 138 [.one (natD a), .one (.lit (.int .u64 k))] [.one (natD (lim (a.length + 1) (nv a * 2 ^ k)))] := by
  refine afun_intro mo_ _ _ c138 k138 _ _ rfl (by decide) (shiftUp_body a k ha la hk _ fun s t4 r12 => ?_)
  refine f_retg _ _ _ [.frz 4] ?_
  unfold b138
  have h := lim_len (a.length + 1) (nv a * 2 ^ k)
  simp (maxSteps := 1000000) (disch := first | omega | (simp only [LL]; omega)) only [W, V, TY, CC, reduceIte, Nat.reduceEqDiff, Nat.reduceAdd, Nat.reduceLeDiff, Nat.reduceLT, Int.reduceLE, Int.reduceLT, Int.reduceAdd, Int.reduceSub, Int.reduceToNat, Nat.reduceMul, t4, r12]
theorem nat_shiftUpO (a : List Int) (k : Nat) (ha : Lim a) (la : a.length < 8796093022208) (hk : k < 32) : OFun Tryz.prog 138 [.one (natD a), .one (.lit (.int .u64 k))] (lim (a.length + 1) (nv a * 2 ^ k)) := by
  refine ofun_intro mo_ _ _ c138 k138 _ _ rfl (by decide) (shiftUp_body a k ha la hk _ fun s t4 r12 => ?_)
  have h := lim_len (a.length + 1) (nv a * 2 ^ k)
  exact f_reto _ _ 4 (12, 0) 0 _ rfl t4 r12 ⟨rfl, rfl, h.symm, natC_map _, fun e => by rw [e] at h; simp at h⟩
end Go.Proofs.YtljmgdepldpmdaaGreatDoor.E

set_option linter.unusedSimpArgs false
set_option linter.unusedVariables false
set_option maxHeartbeats 2000000
namespace Go.Proofs.YtljmgdepldpmdaaGreatDoor.E
open Go.RowKit Limbs
theorem shr_var {x : Int} {k : Nat} (hk : k < 32) : shr .u64 x (k : Int) = x / 2 ^ k := by
  unfold shr
  rw [Int.toNat_natCast, show min k IntKind.u64.bits = k from Nat.min_eq_left (by show k ≤ 64; omega), Int.fdiv_eq_ediv_of_nonneg _ (Int.pow_nonneg (by decide))]
theorem or_hic {r a : Int} (h : 0 ≤ r) (h1 : r < 4294967296) (h2 : 0 ≤ a) (h3 : a < 4294967296) : bits .or .u64 a (r * 4294967296) = r * 4294967296 + a := by
  rw [← or_hi h h1 h2 h3]
  unfold bits
  simp only [BitVec.or_comm]
theorem down_step {x y K T : Int} (hK : 0 < K) (hT : K * T = 4294967296) (hx : 0 ≤ x) (hx1 : x < 4294967296) (hy : 0 ≤ y) (hy1 : y < 4294967296) : ((x + 4294967296 * y) / K % 4294967296) * K = x - x % K + y % K * 4294967296 := by
  have e1 : K * (x / K) + x % K = x := Int.mul_ediv_add_emod x K
  have e2 : K * (y / K) + y % K = y := Int.mul_ediv_add_emod y K
  have r1 := Int.emod_nonneg x (show K ≠ 0 by omega)
  have r2 := Int.emod_lt_of_pos x hK
  have r3 := Int.emod_nonneg y (show K ≠ 0 by omega)
  have r4 := Int.emod_lt_of_pos y hK
  have q1 : 0 ≤ x / K := Int.ediv_nonneg hx (by omega)
  generalize x / K = xq at *
  generalize x % K = xr at *
  generalize y / K = yq at *
  generalize y % K = yr at *
  have q2 : xq < T := by
    refine Int.lt_of_mul_lt_mul_left (a := K) ?_ (by omega)
    omega
  have h1 : x + 4294967296 * y = xr + K * (xq + T * yr + 4294967296 * yq) := by
    rw [← e1, ← e2, ← hT]; grind
  have hTp : 0 ≤ T * yr := Int.mul_nonneg (by omega) r3
  have hTq : T * yr ≤ T * (K - 1) := Int.mul_le_mul_of_nonneg_left (by omega) (by omega)
  have hTK : T * (K - 1) = 4294967296 - T := by rw [← hT]; grind
  rw [h1, Int.add_mul_ediv_left _ _ (by omega), Int.ediv_eq_zero_of_lt r1 r2, Int.zero_add, Int.add_mul_emod_self_left, Int.emod_eq_of_lt (by omega) (by omega), ← e1, ← hT]
  grind
/-- examboard/nat.shiftDown -/
def b142 : AF := ⟨46, 2, [.tmp 4],
  (.seq (.reg [
    ⟨some 4, .assign (.const (.slice none 0 0)), none⟩])
  (.seq (.reg [
    ⟨some 8, .move (.tmp 0), none⟩,
    ⟨some 9, .call ⟨(.builtin .len), #[(.tmp 8)], #[23]⟩, none⟩,
    ⟨some 10, .makeSlice 23 (.tmp 9) (.tmp 9), none⟩,
    ⟨some 5, .assign (.tmp 10), none⟩])
  (.seq (.seq (.reg [
    ⟨some 11, .move (.tmp 0), none⟩,
    ⟨some 12, .call ⟨(.builtin .len), #[(.tmp 11)], #[23]⟩, none⟩,
    ⟨some 13, .move (.const (.int .i64 0)), none⟩])
  (.block 0 (.loop (.seq (.reg [
    ⟨some 14, .binOp .lss 3 (.tmp 13) (.tmp 12) 3, none⟩])
  (.seq (.cond (.tmp 14)
    .skip
    (.exit 0))
  (.seq (.block 1 (.seq (.reg [
    ⟨some 15, .move (.tmp 13), none⟩,
    ⟨some 6, .assign (.tmp 15), none⟩])
  (.seq (.reg [
    ⟨some 16, .move (.tmp 0), none⟩,
    ⟨some 17, .move (.tmp 6), none⟩,
    ⟨some 18, .indexAddr 23 (.tmp 16) (.tmp 17), none⟩,
    ⟨some 19, .load 103 (.tmp 18), none⟩,
    ⟨some 20, .convert 103 97 (.tmp 19), none⟩,
    ⟨some 7, .assign (.tmp 20), none⟩])
  (.seq (.seq (.reg [
    ⟨some 21, .move (.tmp 6), none⟩,
    ⟨some 22, .binOp .add 3 (.tmp 21) (.const (.int .i64 1)) 3, none⟩,
    ⟨some 23, .move (.tmp 0), none⟩,
    ⟨some 24, .call ⟨(.builtin .len), #[(.tmp 23)], #[23]⟩, none⟩,
    ⟨some 25, .binOp .lss 3 (.tmp 22) (.tmp 24) 3, none⟩])
  (.cond (.tmp 25)
    (.reg [
      ⟨some 26, .move (.tmp 7), none⟩,
      ⟨some 27, .move (.tmp 0), none⟩,
      ⟨some 28, .move (.tmp 6), none⟩,
      ⟨some 29, .binOp .add 3 (.tmp 28) (.const (.int .i64 1)) 3, none⟩,
      ⟨some 30, .indexAddr 23 (.tmp 27) (.tmp 29), none⟩,
      ⟨some 31, .load 103 (.tmp 30), none⟩,
      ⟨some 32, .convert 103 97 (.tmp 31), none⟩,
      ⟨some 33, .binOp .shl 97 (.tmp 32) (.const (.int .u64 32)) 113, none⟩,
      ⟨some 34, .binOp .or 97 (.tmp 26) (.tmp 33) 97, none⟩,
      ⟨some 7, .assign (.tmp 34), none⟩])
    .skip))
  (.reg [
    ⟨some 35, .move (.tmp 5), none⟩,
    ⟨some 36, .move (.tmp 6), none⟩,
    ⟨some 37, .move (.tmp 7), none⟩,
    ⟨some 38, .move (.tmp 1), none⟩,
    ⟨some 39, .binOp .shr 97 (.tmp 37) (.tmp 38) 113, none⟩,
    ⟨some 40, .binOp .and 97 (.tmp 39) (.const (.int .u64 4294967295)) 97, none⟩,
    ⟨some 41, .convert 97 103 (.tmp 40), none⟩,
    ⟨some 42, .indexAddr 23 (.tmp 35) (.tmp 36), none⟩,
    ⟨none, .store 103 (.tmp 42) (.tmp 41), none⟩])))))
  (.reg [
    ⟨some 43, .binOp .add 3 (.tmp 13) (.const (.int .i64 1)) 3, none⟩,
    ⟨some 13, .move (.tmp 43), none⟩])))))))
  (.seq (.seq (.gh [.frz 5])
  (.reg [
    ⟨some 44, .move (.tmp 5), none⟩,
    ⟨some 45, .call ⟨(.value (.func 121)), #[(.tmp 44)], #[23]⟩, none⟩,
    ⟨some 4, .assign (.tmp 45), none⟩]))
  .ret))))⟩
theorem c142 : fcomp Tryz.prog 142 = ⟨b142.n, b142.np, b142.res, b142.body.bare⟩ := by kernel_rfl
theorem k142 : fok Tryz.prog 142 = true := by kernel_rfl
theorem nat_shiftDown (a : List Int) (k : Nat) (ha : Lim a) (la : a.length < 8796093022208) (hk : k < 32) : AFun Tryz.prog 142 [.one (natD a), .one (.lit (.int .u64 k))] [.one (natD (nl (nv a / 2 ^ k)))] := by
  refine afun_intro mo_ _ _ c142 k142 _ _ rfl (by decide) ?_
  unfold b142
  obtain ⟨p0, p1⟩ := pow_le32 hk
  have hT : (2 : Int) ^ k * 2 ^ (32 - k) = 4294967296 := by rw [← Int.pow_add, show k + (32 - k) = 32 by omega]; rfl
  simp (maxSteps := 1000000) (disch := first | omega | (simp only [LL]; omega)) only [W, V, TY, CC, reduceIte, Nat.reduceEqDiff, Nat.reduceAdd, Nat.reduceLeDiff, Nat.reduceLT, Int.reduceLE, Int.reduceLT, Int.reduceAdd, Int.reduceSub, Int.reduceToNat, Nat.reduceMul]
  refine w_loop (fun m s => ∃ (i : Nat) (D : List Int), m + i = a.length ∧ s.t 0 = .one (.dt (natD a)) ∧ s.t 1 = .one (.dt (.lit (.int .u64 k))) ∧ s.t 12 = .one (.dt (.lit (.int .i64 a.length))) ∧ s.t 13 = .one (.dt (.lit (.int .i64 i))) ∧ s.t 5 = .one (.row (10, 0) 0) ∧ s.r (10, 0) = some ⟨103, 1, a.length, natC D, 0, true⟩ ∧ D.length = a.length ∧ Lim D ∧ val (D.take i) * 2 ^ k + a.getD 0 0 % 2 ^ k = val (a.take i) + bp i * (a.getD i 0 % 2 ^ k)) a.length ⟨0, List.replicate a.length 0, rfl, ?_, ?_, ?_, ?_, ?_, ?_, by simp, Lim.replicate _, by simp [val_nil, bp_zero]⟩ ?_
  · simp (maxSteps := 1000000) (disch := first | omega | (simp only [LL]; omega)) only [W, V, TY, CC, reduceIte, Nat.reduceEqDiff, Nat.reduceAdd, Nat.reduceLeDiff, Nat.reduceLT, Int.reduceLE, Int.reduceLT, Int.reduceAdd, Int.reduceSub, Int.reduceToNat, Nat.reduceMul]
  · simp (maxSteps := 1000000) (disch := first | omega | (simp only [LL]; omega)) only [W, V, TY, CC, reduceIte, Nat.reduceEqDiff, Nat.reduceAdd, Nat.reduceLeDiff, Nat.reduceLT, Int.reduceLE, Int.reduceLT, Int.reduceAdd, Int.reduceSub, Int.reduceToNat, Nat.reduceMul]
  · simp (maxSteps := 1000000) (disch := first | omega | (simp only [LL]; omega)) only [W, V, TY, CC, reduceIte, Nat.reduceEqDiff, Nat.reduceAdd, Nat.reduceLeDiff, Nat.reduceLT, Int.reduceLE, Int.reduceLT, Int.reduceAdd, Int.reduceSub, Int.reduceToNat, Nat.reduceMul]
  · simp (maxSteps := 1000000) (disch := first | omega | (simp only [LL]; omega)) only [W, V, TY, CC, reduceIte, Nat.reduceEqDiff, Nat.reduceAdd, Nat.reduceLeDiff, Nat.reduceLT, Int.reduceLE, Int.reduceLT, Int.reduceAdd, Int.reduceSub, Int.reduceToNat, Nat.reduceMul]
  · simp (maxSteps := 1000000) (disch := first | omega | (simp only [LL]; omega)) only [W, V, TY, CC, reduceIte, Nat.reduceEqDiff, Nat.reduceAdd, Nat.reduceLeDiff, Nat.reduceLT, Int.reduceLE, Int.reduceLT, Int.reduceAdd, Int.reduceSub, Int.reduceToNat, Nat.reduceMul]
  · simp (maxSteps := 1000000) (disch := first | omega | (simp only [LL]; omega)) only [W, V, TY, CC, reduceIte, Nat.reduceEqDiff, Nat.reduceAdd, Nat.reduceLeDiff, Nat.reduceLT, Int.reduceLE, Int.reduceLT, Int.reduceAdd, Int.reduceSub, Int.reduceToNat, Nat.reduceMul]
  intro m s _ ⟨i, D, e, t0, t1, t12, t13, t5, r10, hD, lD, hv⟩
  simp (maxSteps := 1000000) (disch := first | omega | (simp only [LL]; omega)) only [W, V, TY, CC, reduceIte, Nat.reduceEqDiff, Nat.reduceAdd, Nat.reduceLeDiff, Nat.reduceLT, Int.reduceLE, Int.reduceLT, Int.reduceAdd, Int.reduceSub, Int.reduceToNat, Nat.reduceMul, t12, t13]
  refine c_split (fun hi => ?_) (fun hi => ?_)
  · have hx := ha.getD i
    have hy := ha.getD (i + 1)
    have hst := down_step (T := 2 ^ (32 - k)) (show 0 < (2 : Int) ^ k by omega) hT hx.1 hx.2 hy.1 hy.2
    generalize hK2 : (2 : Int) ^ k = K2 at *
    have hz0 : 0 ≤ (a.getD i 0 + 4294967296 * a.getD (i + 1) 0) / K2 := Int.ediv_nonneg (by omega) (by omega)
    have hz1 : (a.getD i 0 + 4294967296 * a.getD (i + 1) 0) / K2 < 18446744073709551616 := Int.lt_of_le_of_lt (Int.ediv_le_self _ (by omega)) (by omega)
    have fin : ∀ D', D' = D.set i ((a.getD i 0 + 4294967296 * a.getD (i + 1) 0) / K2 % 4294967296) → D'.length = a.length ∧ Lim D' ∧ val (D'.take (i + 1)) * K2 + a.getD 0 0 % K2 = val (a.take (i + 1)) + bp (i + 1) * (a.getD (i + 1) 0 % K2) := fun D' hD' => by
      subst hD'
      refine ⟨by simp [hD], lD.set _ (by omega) (by omega), ?_⟩
      rw [take_set_succ (by omega), val_snoc, List.length_take, Nat.min_eq_left (by omega), val_take' a i, Int.add_mul, Int.mul_assoc, hst, bp_succ]
      grind
    simp (maxSteps := 1000000) (disch := first | omega | (simp only [LL]; omega)) only [W, V, TY, CC, reduceIte, Nat.reduceEqDiff, Nat.reduceAdd, Nat.reduceLeDiff, Nat.reduceLT, Int.reduceLE, Int.reduceLT, Int.reduceAdd, Int.reduceSub, Int.reduceToNat, Nat.reduceMul, t0, t1, t12, t13, t5, r10]
    refine c_split (fun hj => ?_) (fun hj => ?_)
    · simp (maxSteps := 1000000) (disch := first | omega | (simp only [LL]; omega)) only [W, V, TY, CC, reduceIte, Nat.reduceEqDiff, Nat.reduceAdd, Nat.reduceLeDiff, Nat.reduceLT, Int.reduceLE, Int.reduceLT, Int.reduceAdd, Int.reduceSub, Int.reduceToNat, Nat.reduceMul, t0, t1, t12, t13, t5, r10, or_hic hy.1 hy.2 hx.1 hx.2, shr_var hk, hK2, shl_32 hy.1 hy.2]
      rw [show a.getD (i + 1) 0 * 4294967296 + a.getD i 0 = a.getD i 0 + 4294967296 * a.getD (i + 1) 0 by omega]
      simp (maxSteps := 1000000) (disch := first | omega | (simp only [LL]; omega)) only [W, V, TY, CC, reduceIte, Nat.reduceEqDiff, Nat.reduceAdd, Nat.reduceLeDiff, Nat.reduceLT, Int.reduceLE, Int.reduceLT, Int.reduceAdd, Int.reduceSub, Int.reduceToNat, Nat.reduceMul, t0, t1, t12, t13, t5, r10, and_m32 hz0 hz1]
      obtain ⟨f1, f2, f3⟩ := fin _ rfl
      exact ⟨by omega, by omega, by omega, m - 1, by omega, i + 1, _, by omega, rfl, rfl, f1, f2, f3⟩
    · have h0 : a.getD (i + 1) 0 = 0 := Limbs.getD_over (by omega)
      rw [h0, Int.mul_zero, Int.add_zero] at hz0 hz1
      simp (maxSteps := 1000000) (disch := first | omega | (simp only [LL]; omega)) only [W, V, TY, CC, reduceIte, Nat.reduceEqDiff, Nat.reduceAdd, Nat.reduceLeDiff, Nat.reduceLT, Int.reduceLE, Int.reduceLT, Int.reduceAdd, Int.reduceSub, Int.reduceToNat, Nat.reduceMul, t0, t1, t12, t13, t5, r10, shr_var hk, hK2, and_m32 hz0 hz1]
      rw [h0, Int.mul_zero, Int.add_zero] at fin
      obtain ⟨f1, f2, f3⟩ := fin _ rfl
      rw [← h0] at f3
      exact ⟨by omega, by omega, by omega, m - 1, by omega, i + 1, _, by omega, rfl, rfl, f1, f2, by rw [h0] at f3 ⊢; exact f3⟩
  · simp (maxSteps := 1000000) (disch := first | omega | (simp only [LL]; omega)) only [W, V, TY, CC, reduceIte, Nat.reduceEqDiff, Nat.reduceAdd, Nat.reduceLeDiff, Nat.reduceLT, Int.reduceLE, Int.reduceLT, Int.reduceAdd, Int.reduceSub, Int.reduceToNat, Nat.reduceMul, t12, t13]
    refine a_call _ _ (nat_trim D lD (by omega)) (by simp (maxSteps := 1000000) (disch := first | omega | (simp only [LL]; omega)) only [W, V, TY, CC, reduceIte, Nat.reduceEqDiff, Nat.reduceAdd, Nat.reduceLeDiff, Nat.reduceLT, Int.reduceLE, Int.reduceLT, Int.reduceAdd, Int.reduceSub, Int.reduceToNat, Nat.reduceMul, t0, t1, t12, t13, t5, r10]) ?_
    simp (maxSteps := 1000000) (disch := first | omega | (simp only [LL]; omega)) only [W, V, TY, CC, reduceIte, Nat.reduceEqDiff, Nat.reduceAdd, Nat.reduceLeDiff, Nat.reduceLT, Int.reduceLE, Int.reduceLT, Int.reduceAdd, Int.reduceSub, Int.reduceToNat, Nat.reduceMul]
    refine f_ret _ _ _ ?_
    have hi' : i = a.length := by omega
    subst hi'
    rw [List.take_of_length_le (by omega), List.take_length, Limbs.getD_over (Nat.le_refl _), Int.zero_emod, Int.mul_zero, Int.add_zero, ← nv_eq ha, ← nv_eq lD] at hv
    have hres : tr D = nl (nv a / 2 ^ k) := by
      unfold tr
      congr 1
      have h0 := Int.emod_nonneg (a.getD 0 0) (show (2 : Int) ^ k ≠ 0 by omega)
      have h1 := Int.emod_lt_of_pos (a.getD 0 0) (show 0 < (2 : Int) ^ k by omega)
      have hr : nv a = nv D * 2 ^ k + (a.getD 0 0 % 2 ^ k).toNat := by
        have : ((nv D * 2 ^ k : Nat) : Int) = (nv D : Int) * 2 ^ k := by simp
        omega
      have hlt : (a.getD 0 0 % 2 ^ k).toNat < 2 ^ k := by
        have : ((2 ^ k : Nat) : Int) = (2 : Int) ^ k := by simp
        omega
      rw [hr, Nat.add_comm, Nat.add_mul_div_right _ _ (Nat.two_pow_pos _), Nat.div_eq_of_lt hlt, Nat.zero_add]
    simp (maxSteps := 1000000) (disch := first | omega | (simp only [LL]; omega)) only [W, V, TY, CC, reduceIte, Nat.reduceEqDiff, Nat.reduceAdd, Nat.reduceLeDiff, Nat.reduceLT, Int.reduceLE, Int.reduceLT, Int.reduceAdd, Int.reduceSub, Int.reduceToNat, Nat.reduceMul, hres]
end Go.Proofs.YtljmgdepldpmdaaGreatDoor.E

set_option linter.unusedSimpArgs false
set_option linter.unusedVariables false
set_option maxHeartbeats 2000000
namespace Go.Proofs.YtljmgdepldpmdaaGreatDoor.E
open Go.RowKit Limbs
/-- what guess gives -/
def gs (H W : Nat) : Nat := min 4294967295 (H / W)
theorem gs_eq {H W d : Nat} (hW : 0 < W) (h1 : d ≤ 4294967295) (h2 : d * W ≤ H) (h3 : 4294967295 ≤ d ∨ H < (d + 1) * W) : gs H W = d := by
  unfold gs
  have h4 : d ≤ H / W := (Nat.le_div_iff_mul_le hW).2 h2
  rcases h3 with h3 | h3
  · omega
  · have := Nat.div_lt_of_lt_mul (by rw [Nat.mul_comm]; exact h3 : H < W * (d + 1))
    omega
/-- examboard/nat.guess -/
def b139 : AF := ⟨51, 5, [.tmp 10],
  (.seq (.reg [
    ⟨some 10, .assign (.const (.int .u64 0)), none⟩])
  (.seq (.reg [
    ⟨some 14, .move (.tmp 0), none⟩,
    ⟨some 15, .convert 103 97 (.tmp 14), none⟩,
    ⟨some 16, .binOp .shl 97 (.tmp 15) (.const (.int .u64 32)) 113, none⟩,
    ⟨some 17, .move (.tmp 1), none⟩,
    ⟨some 18, .convert 103 97 (.tmp 17), none⟩,
    ⟨some 19, .binOp .or 97 (.tmp 16) (.tmp 18) 97, none⟩,
    ⟨some 11, .assign (.tmp 19), none⟩])
  (.seq (.reg [
    ⟨some 20, .move (.tmp 11), none⟩,
    ⟨some 21, .move (.tmp 3), none⟩,
    ⟨some 22, .convert 103 97 (.tmp 21), none⟩,
    ⟨some 23, .binOp .quo 97 (.tmp 20) (.tmp 22) 97, none⟩,
    ⟨some 12, .assign (.tmp 23), none⟩])
  (.seq (.reg [
    ⟨some 24, .move (.tmp 11), none⟩,
    ⟨some 25, .move (.tmp 3), none⟩,
    ⟨some 26, .convert 103 97 (.tmp 25), none⟩,
    ⟨some 27, .binOp .rem 97 (.tmp 24) (.tmp 26) 97, none⟩,
    ⟨some 13, .assign (.tmp 27), none⟩])
  (.seq (.block 0 (.loop (.seq (.seq (.reg [
    ⟨some 28, .move (.tmp 12), none⟩,
    ⟨some 29, .binOp .gtr 97 (.tmp 28) (.const (.int .u64 4294967295)) 97, none⟩,
    ⟨some 30, .move (.tmp 29), none⟩,
    ⟨some 31, .move (.tmp 12), some (30, false)⟩,
    ⟨some 32, .move (.tmp 4), some (30, false)⟩,
    ⟨some 33, .convert 103 97 (.tmp 32), some (30, false)⟩,
    ⟨some 34, .binOp .mul 97 (.tmp 31) (.tmp 33) 97, some (30, false)⟩,
    ⟨some 35, .move (.tmp 13), some (30, false)⟩,
    ⟨some 36, .binOp .shl 97 (.tmp 35) (.const (.int .u64 32)) 113, some (30, false)⟩,
    ⟨some 37, .move (.tmp 2), some (30, false)⟩,
    ⟨some 38, .convert 103 97 (.tmp 37), some (30, false)⟩,
    ⟨some 39, .binOp .or 97 (.tmp 36) (.tmp 38) 97, some (30, false)⟩,
    ⟨some 40, .binOp .gtr 97 (.tmp 34) (.tmp 39) 97, some (30, false)⟩,
    ⟨some 41, .pick (.tmp 30) (.const (.bool true)) (.tmp 40), none⟩])
  (.cond (.tmp 41)
    .skip
    (.exit 0)))
  (.block 1 (.seq (.reg [
    ⟨some 42, .move (.tmp 12), none⟩,
    ⟨some 43, .binOp .sub 97 (.tmp 42) (.const (.int .u64 1)) 97, none⟩,
    ⟨some 12, .assign (.tmp 43), none⟩])
  (.seq (.reg [
    ⟨some 44, .move (.tmp 13), none⟩,
    ⟨some 45, .move (.tmp 3), none⟩,
    ⟨some 46, .convert 103 97 (.tmp 45), none⟩,
    ⟨some 47, .binOp .add 97 (.tmp 44) (.tmp 46) 97, none⟩,
    ⟨some 13, .assign (.tmp 47), none⟩])
  (.seq (.reg [
    ⟨some 48, .move (.tmp 13), none⟩,
    ⟨some 49, .binOp .gtr 97 (.tmp 48) (.const (.int .u64 4294967295)) 97, none⟩])
  (.cond (.tmp 49)
    (.exit 0)
    .skip))))))))
  (.seq (.reg [
    ⟨some 50, .move (.tmp 12), none⟩,
    ⟨some 10, .assign (.tmp 50), none⟩])
  .ret))))))⟩
theorem c139 : fcomp Tryz.prog 139 = ⟨b139.n, b139.np, b139.res, b139.body.bare⟩ := by kernel_rfl
theorem k139 : fok Tryz.prog 139 = true := by kernel_rfl
theorem nat_guess (u2 u1 u0 v1 v0 : Nat) (h2 : u2 < 4294967296) (h1 : u1 < 4294967296) (h0 : u0 < 4294967296) (w1 : v1 < 4294967296) (w0 : v0 < 4294967296) (hv : 2147483648 ≤ v1) (hh : u2 * 4294967296 + u1 ≤ v1 * 4294967296 + v0) :
    AFun Tryz.prog 139 [.one (.lit (.int .u32 u2)), .one (.lit (.int .u32 u1)), .one (.lit (.int .u32 u0)), .one (.lit (.int .u32 v1)), .one (.lit (.int .u32 v0))] [.one (.lit (.int .u64 (gs (u2 * 18446744073709551616 + u1 * 4294967296 + u0) (v1 * 4294967296 + v0) : Nat)))] := by
  refine afun_intro mo_ _ _ c139 k139 _ _ rfl (by decide) ?_
  unfold b139
  simp (maxSteps := 1000000) (disch := first | omega | (simp only [LL]; omega)) only [W, V, TY, CC, reduceIte, Nat.reduceEqDiff, Nat.reduceAdd, Nat.reduceLeDiff, Nat.reduceLT, Int.reduceLE, Int.reduceLT, Int.reduceAdd, Int.reduceSub, Int.reduceToNat, Nat.reduceMul]
  refine ⟨by omega, by omega, ?_⟩
  obtain ⟨hd, hhd⟩ : ∃ hd, hd = u2 * 4294967296 + u1 := ⟨_, rfl⟩
  have e1 : (u2 : Int) * 4294967296 + (u1 : Int) = (hd : Int) := by omega
  have e2 : (hd : Int) / (v1 : Int) = (hd / v1 : Nat) := by simp
  have e3 : (hd : Int) % (v1 : Int) = (hd % v1 : Nat) := by simp
  have hdm := Nat.div_add_mod hd v1
  have hr := Nat.mod_lt hd (show v1 > 0 by omega)
  have hHv : u2 * 18446744073709551616 + u1 * 4294967296 + u0 = hd * 4294967296 + u0 := by omega
  rw [← hhd] at hh
  rw [hHv]
  have hdB : hd < 18446744073709551616 := by omega
  refine w_loop (fun n s => ∃ d r : Nat, n = d ∧ s.t 2 = .one (.dt (.lit (.int .u32 u0))) ∧ s.t 3 = .one (.dt (.lit (.int .u32 v1))) ∧ s.t 4 = .one (.dt (.lit (.int .u32 v0))) ∧ s.t 12 = .one (.dt (.lit (.int .u64 d))) ∧ s.t 13 = .one (.dt (.lit (.int .u64 r))) ∧ hd = v1 * d + r ∧ r < 4294967296 ∧ (4294967295 ≤ d ∨ hd * 4294967296 + u0 < (d + 1) * (v1 * 4294967296 + v0))) (hd / v1) ⟨hd / v1, hd % v1, rfl, ?_, ?_, ?_, ?_, ?_, by omega, by omega, ?_⟩ ?_
  · simp (maxSteps := 1000000) (disch := first | omega | (simp only [LL]; omega)) only [W, V, TY, CC, reduceIte, Nat.reduceEqDiff, Nat.reduceAdd, Nat.reduceLeDiff, Nat.reduceLT, Int.reduceLE, Int.reduceLT, Int.reduceAdd, Int.reduceSub, Int.reduceToNat, Nat.reduceMul]
  · simp (maxSteps := 1000000) (disch := first | omega | (simp only [LL]; omega)) only [W, V, TY, CC, reduceIte, Nat.reduceEqDiff, Nat.reduceAdd, Nat.reduceLeDiff, Nat.reduceLT, Int.reduceLE, Int.reduceLT, Int.reduceAdd, Int.reduceSub, Int.reduceToNat, Nat.reduceMul]
  · simp (maxSteps := 1000000) (disch := first | omega | (simp only [LL]; omega)) only [W, V, TY, CC, reduceIte, Nat.reduceEqDiff, Nat.reduceAdd, Nat.reduceLeDiff, Nat.reduceLT, Int.reduceLE, Int.reduceLT, Int.reduceAdd, Int.reduceSub, Int.reduceToNat, Nat.reduceMul]
  · simp (maxSteps := 1000000) (disch := first | omega | (simp only [LL]; omega)) only [W, V, TY, CC, reduceIte, Nat.reduceEqDiff, Nat.reduceAdd, Nat.reduceLeDiff, Nat.reduceLT, Int.reduceLE, Int.reduceLT, Int.reduceAdd, Int.reduceSub, Int.reduceToNat, Nat.reduceMul, e1, e2]
    rw [wu64 (Int.natCast_nonneg _) (by have := Nat.div_le_self hd v1; omega)]
  · simp (maxSteps := 1000000) (disch := first | omega | (simp only [LL]; omega)) only [W, V, TY, CC, reduceIte, Nat.reduceEqDiff, Nat.reduceAdd, Nat.reduceLeDiff, Nat.reduceLT, Int.reduceLE, Int.reduceLT, Int.reduceAdd, Int.reduceSub, Int.reduceToNat, Nat.reduceMul, e1, e3]
  · right
    have h5 : hd < v1 * (hd / v1 + 1) := by rw [Nat.mul_add]; omega
    have h6 : (hd + 1) * 4294967296 ≤ v1 * (hd / v1 + 1) * 4294967296 := Nat.mul_le_mul_right _ h5
    have h7 : (hd / v1 + 1) * (v1 * 4294967296 + v0) = v1 * (hd / v1 + 1) * 4294967296 + (hd / v1 + 1) * v0 := by grind
    omega
  intro n s _ ⟨d, r, e, t2, t3, t4, t12, t13, hdr, hr, hP⟩
  clear e1 e2 e3 hdm hHv
  have hdd : d ≤ hd := by
    have : 1 * d ≤ v1 * d := Nat.mul_le_mul_right _ (by omega)
    omega
  have hW : 0 < v1 * 4294967296 + v0 := by omega
  -- one less
  have dec : (4294967295 < d ∨ hd * 4294967296 + u0 < d * (v1 * 4294967296 + v0)) → ∃ d', d = d' + 1 ∧ hd = v1 * d' + (r + v1) ∧ (4294967295 ≤ d' ∨ hd * 4294967296 + u0 < (d' + 1) * (v1 * 4294967296 + v0)) ∧ (4294967296 ≤ r + v1 → gs (hd * 4294967296 + u0) (v1 * 4294967296 + v0) = d') := by
    intro hc
    obtain ⟨d', rfl⟩ : ∃ d', d = d' + 1 := ⟨d - 1, by
      rcases Nat.eq_zero_or_pos d with h | h
      · rw [h] at hc; omega
      · omega⟩
    have h1 : hd = v1 * d' + (r + v1) := by rw [Nat.mul_add] at hdr; omega
    have h2 : 4294967295 ≤ d' ∨ hd * 4294967296 + u0 < (d' + 1) * (v1 * 4294967296 + v0) := by
      rcases hc with hc | hc
      · left; omega
      · right; exact hc
    refine ⟨d', rfl, h1, h2, fun hr' => ?_⟩
    have h3 : d' ≤ 4294967295 := by
      rcases Nat.lt_or_ge 4294967295 d' with h | h
      · exfalso
        have : v1 * 4294967296 ≤ v1 * d' := Nat.mul_le_mul_left _ h
        omega
      · exact h
    refine gs_eq hW h3 ?_ h2
    have h4 : d' * (v1 * 4294967296 + v0) = v1 * d' * 4294967296 + d' * v0 := by grind
    have h5 : d' * v0 ≤ 4294967295 * 4294967296 := Nat.mul_le_mul h3 (by omega)
    omega
  simp (maxSteps := 1000000) (disch := first | omega | (simp only [LL]; omega)) only [W, V, TY, CC, reduceIte, Nat.reduceEqDiff, Nat.reduceAdd, Nat.reduceLeDiff, Nat.reduceLT, Int.reduceLE, Int.reduceLT, Int.reduceAdd, Int.reduceSub, Int.reduceToNat, Nat.reduceMul, t2, t3, t4, t12, t13]
  refine g_split (fun h => ?_) (fun h => ?_)
  · obtain ⟨d', hde, hd1, hP1, hex⟩ := dec (.inl (by omega))
    have hd2 : (d : Int) - 1 = (d' : Int) := by omega
    simp (maxSteps := 1000000) (disch := first | omega | (simp only [LL]; omega)) only [W, V, TY, CC, reduceIte, Nat.reduceEqDiff, Nat.reduceAdd, Nat.reduceLeDiff, Nat.reduceLT, Int.reduceLE, Int.reduceLT, Int.reduceAdd, Int.reduceSub, Int.reduceToNat, Nat.reduceMul, t2, t3, t4, t12, t13, h, hd2]
    refine c_split (fun hb => ?_) (fun hb => ?_)
    · simp (maxSteps := 1000000) (disch := first | omega | (simp only [LL]; omega)) only [W, V, TY, CC, reduceIte, Nat.reduceEqDiff, Nat.reduceAdd, Nat.reduceLeDiff, Nat.reduceLT, Int.reduceLE, Int.reduceLT, Int.reduceAdd, Int.reduceSub, Int.reduceToNat, Nat.reduceMul]
      refine f_ret _ _ _ ?_
      have hx := hex (by omega)
      simp (maxSteps := 1000000) (disch := first | omega | (simp only [LL]; omega)) only [W, V, TY, CC, reduceIte, Nat.reduceEqDiff, Nat.reduceAdd, Nat.reduceLeDiff, Nat.reduceLT, Int.reduceLE, Int.reduceLT, Int.reduceAdd, Int.reduceSub, Int.reduceToNat, Nat.reduceMul, hx]
    · simp (maxSteps := 1000000) (disch := first | omega | (simp only [LL]; omega)) only [W, V, TY, CC, reduceIte, Nat.reduceEqDiff, Nat.reduceAdd, Nat.reduceLeDiff, Nat.reduceLT, Int.reduceLE, Int.reduceLT, Int.reduceAdd, Int.reduceSub, Int.reduceToNat, Nat.reduceMul, t2, t3, t4]
      refine ⟨d', by omega, d', r + v1, rfl, rfl, by rw [Int.natCast_add], hd1, by omega, hP1⟩
  · have hm : (d : Int) * (v0 : Int) = ((d * v0 : Nat) : Int) := by simp
    have hm1 : d * v0 ≤ 4294967295 * 4294967295 := Nat.mul_le_mul (by omega) (by omega)
    simp (maxSteps := 1000000) (disch := first | omega | (simp only [LL]; omega)) only [W, V, TY, CC, reduceIte, Nat.reduceEqDiff, Nat.reduceAdd, Nat.reduceLeDiff, Nat.reduceLT, Int.reduceLE, Int.reduceLT, Int.reduceAdd, Int.reduceSub, Int.reduceToNat, Nat.reduceMul, t2, t3, t4, t12, t13, h, hm, wu64 (n := ((d * v0 : Nat) : Int)) (Int.natCast_nonneg _) (by omega)]
    refine c_split (fun hc => ?_) (fun hc => ?_)
    · have h4 : d * (v1 * 4294967296 + v0) = v1 * d * 4294967296 + d * v0 := by grind
      obtain ⟨d', hde, hd1, hP1, hex⟩ := dec (.inr (by omega))
      have hd2 : (d : Int) - 1 = (d' : Int) := by omega
      simp (maxSteps := 1000000) (disch := first | omega | (simp only [LL]; omega)) only [W, V, TY, CC, reduceIte, Nat.reduceEqDiff, Nat.reduceAdd, Nat.reduceLeDiff, Nat.reduceLT, Int.reduceLE, Int.reduceLT, Int.reduceAdd, Int.reduceSub, Int.reduceToNat, Nat.reduceMul, t2, t3, t4, t12, t13, h, hc, hd2]
      refine c_split (fun hb => ?_) (fun hb => ?_)
      · simp (maxSteps := 1000000) (disch := first | omega | (simp only [LL]; omega)) only [W, V, TY, CC, reduceIte, Nat.reduceEqDiff, Nat.reduceAdd, Nat.reduceLeDiff, Nat.reduceLT, Int.reduceLE, Int.reduceLT, Int.reduceAdd, Int.reduceSub, Int.reduceToNat, Nat.reduceMul]
        refine f_ret _ _ _ ?_
        have hx := hex (by omega)
        simp (maxSteps := 1000000) (disch := first | omega | (simp only [LL]; omega)) only [W, V, TY, CC, reduceIte, Nat.reduceEqDiff, Nat.reduceAdd, Nat.reduceLeDiff, Nat.reduceLT, Int.reduceLE, Int.reduceLT, Int.reduceAdd, Int.reduceSub, Int.reduceToNat, Nat.reduceMul, hx]
      · simp (maxSteps := 1000000) (disch := first | omega | (simp only [LL]; omega)) only [W, V, TY, CC, reduceIte, Nat.reduceEqDiff, Nat.reduceAdd, Nat.reduceLeDiff, Nat.reduceLT, Int.reduceLE, Int.reduceLT, Int.reduceAdd, Int.reduceSub, Int.reduceToNat, Nat.reduceMul, t2, t3, t4]
        refine ⟨d', by omega, d', r + v1, rfl, rfl, by rw [Int.natCast_add], hd1, by omega, hP1⟩
    · simp (maxSteps := 1000000) (disch := first | omega | (simp only [LL]; omega)) only [W, V, TY, CC, reduceIte, Nat.reduceEqDiff, Nat.reduceAdd, Nat.reduceLeDiff, Nat.reduceLT, Int.reduceLE, Int.reduceLT, Int.reduceAdd, Int.reduceSub, Int.reduceToNat, Nat.reduceMul, t2, t3, t4, t12, t13, h, hc]
      refine f_ret _ _ _ ?_
      have h4 : d * (v1 * 4294967296 + v0) = v1 * d * 4294967296 + d * v0 := by grind
      have hx := gs_eq hW (d := d) (by omega) (show d * (v1 * 4294967296 + v0) ≤ hd * 4294967296 + u0 by omega) hP
      simp (maxSteps := 1000000) (disch := first | omega | (simp only [LL]; omega)) only [W, V, TY, CC, reduceIte, Nat.reduceEqDiff, Nat.reduceAdd, Nat.reduceLeDiff, Nat.reduceLT, Int.reduceLE, Int.reduceLT, Int.reduceAdd, Int.reduceSub, Int.reduceToNat, Nat.reduceMul, hx]
end Go.Proofs.YtljmgdepldpmdaaGreatDoor.E

set_option linter.unusedSimpArgs false
set_option linter.unusedVariables false
set_option maxHeartbeats 2000000
namespace Go.Proofs.YtljmgdepldpmdaaGreatDoor.E
open Go.RowKit Limbs
theorem shr_63 (n : Int) : shr .u64 n 63 = n / 9223372036854775808 := by
  unfold shr
  rw [show (2 : Int) ^ (min (Int.toNat 63) IntKind.u64.bits) = 9223372036854775808 from rfl, Int.fdiv_eq_ediv_of_nonneg _ (by decide)]
theorem val_win (l : List Int) (a b : Nat) : val (l.take (a + b)) = val (l.take a) + bp a * val ((l.drop a).take b) := by
  by_cases h : a ≤ l.length
  · rw [List.take_add, val_append, List.length_take, Nat.min_eq_left h]
  · rw [List.take_of_length_le (by omega), List.take_of_length_le (by omega), List.drop_of_length_le (by omega), List.take_nil, val_nil]; omega
theorem nv_win_lt {l : List Int} (h : Lim l) (a b : Nat) : 0 ≤ val ((l.drop a).take b) ∧ val ((l.drop a).take b) < bp b := ⟨val_nonneg ((h.drop a).take b), val_take_lt (h.drop a) b⟩
theorem sub_step {U br x : Int} (u0 : 0 ≤ U) (u1 : U < 4294967296) (b0 : 0 ≤ br) (b1 : br ≤ 1) (x0 : 0 ≤ x) (x1 : x < 4294967296) :
    ∃ nb : Int, 0 ≤ nb ∧ nb ≤ 1 ∧ IntKind.u64.wrap (IntKind.u64.wrap (U - br) - x) / 9223372036854775808 = nb ∧ IntKind.u32.wrap (bits .and .u64 (IntKind.u64.wrap (IntKind.u64.wrap (U - br) - x)) 4294967295) = U - br - x + 4294967296 * nb ∧ 0 ≤ U - br - x + 4294967296 * nb ∧ U - br - x + 4294967296 * nb < 4294967296 ∧ IntKind.u64.wrap (IntKind.u64.wrap (U - br) - x) % 4294967296 = U - br - x + 4294967296 * nb := by
  rw [and_m32 (by rw [IntKind.wrap_u64]; omega) (by rw [IntKind.wrap_u64]; omega)]
  rw [IntKind.wrap_u64, IntKind.wrap_u64, IntKind.wrap_u32]
  by_cases h : U - br - x < 0
  · exact ⟨1, by omega, by omega, by omega, by omega, by omega, by omega, by omega⟩
  · exact ⟨0, by omega, by omega, by omega, by omega, by omega, by omega, by omega⟩
/-- the window of n + 1 limbs from off on -/
def win (l : List Int) (off n : Nat) : Int := val ((l.drop off).take (n + 1))
/-- what subtract leaves -/
def subL (l : List Int) (off n : Nat) (p : Int) : List Int := lim l.length (val l - bp off * p + if win l off n < p then bp (off + n + 1) else 0).toNat
theorem sub_end {l T : List Int} {off n : Nat} {p nb : Int} (hl : Lim l) (hT : Lim T) (hTl : T.length = l.length) (D1 : val (T.take off) = val (l.take off)) (D2 : T.drop (off + n + 1) = l.drop (off + n + 1)) (hpre : val (T.take (off + n + 1)) = val (l.take (off + n + 1)) + bp off * (nb * bp (n + 1) - p)) (n0 : 0 ≤ nb) (n1 : nb ≤ 1) (hp : 0 ≤ p) :
    T = subL l off n p ∧ nb = if win l off n < p then 1 else 0 := by
  have hb := bp_pos off
  have h1 := val_win T off (n + 1)
  have h2 := val_win l off (n + 1)
  rw [← Nat.add_assoc] at h1 h2
  rw [hpre, h2, D1] at h1
  have h3 : bp off * val ((T.drop off).take (n + 1)) = bp off * (win l off n + nb * bp (n + 1) - p) := by
    unfold win
    grind
  have hwin := Int.eq_of_mul_eq_mul_left (by omega) h3
  have hw0 := nv_win_lt hT off (n + 1)
  rw [hwin] at hw0
  have hwl := nv_win_lt hl off (n + 1)
  have hwd : win l off n = val ((l.drop off).take (n + 1)) := rfl
  have hnb : nb = if win l off n < p then 1 else 0 := by
    rcases (by omega : nb = 0 ∨ nb = 1) with h | h
    · subst h; rw [if_neg (by omega)]
    · subst h; rw [if_pos (by omega)]
  refine ⟨?_, hnb⟩
  have hval : val T = val l - bp off * p + if win l off n < p then bp (off + n + 1) else 0 := by
    rw [val_split' T (off + n + 1), hpre, D2, val_split' l (off + n + 1), hnb]
    have hb3 : bp (off + n + 1) = bp off * bp (n + 1) := by rw [Nat.add_assoc, bp_add]
    split
    · rw [hb3]; grind
    · grind
  have h0 := val_nonneg hT
  refine eq_lim hT hTl ?_
  rw [hval] at h0 ⊢
  omega
/-- examboard/nat.subtract -/
def b140 : AF := ⟨67, 3, [.tmp 6],
  (.seq (.reg [
    ⟨some 6, .assign (.const (.bool false)), none⟩])
  (.seq (.reg [
    ⟨some 7, .assign (.const (.int .u64 0)), none⟩,
    ⟨some 8, .assign (.const (.int .u64 0)), none⟩])
  (.seq (.seq (.reg [
    ⟨some 13, .move (.tmp 1), none⟩,
    ⟨some 14, .call ⟨(.builtin .len), #[(.tmp 13)], #[23]⟩, none⟩,
    ⟨some 15, .move (.const (.int .i64 0)), none⟩])
  (.block 0 (.loop (.seq (.reg [
    ⟨some 16, .binOp .lss 3 (.tmp 15) (.tmp 14) 3, none⟩])
  (.seq (.cond (.tmp 16)
    .skip
    (.exit 0))
  (.seq (.block 1 (.seq (.reg [
    ⟨some 17, .move (.tmp 15), none⟩,
    ⟨some 18, .indexAddr 23 (.tmp 13) (.tmp 15), none⟩,
    ⟨some 19, .load 103 (.tmp 18), none⟩,
    ⟨some 9, .assign (.tmp 17), none⟩,
    ⟨some 10, .assign (.tmp 19), none⟩])
  (.seq (.reg [
    ⟨some 20, .move (.tmp 8), none⟩,
    ⟨some 21, .move (.tmp 2), none⟩,
    ⟨some 22, .move (.tmp 10), none⟩,
    ⟨some 23, .convert 103 97 (.tmp 22), none⟩,
    ⟨some 24, .binOp .mul 97 (.tmp 21) (.tmp 23) 97, none⟩,
    ⟨some 25, .binOp .add 97 (.tmp 20) (.tmp 24) 97, none⟩,
    ⟨some 8, .assign (.tmp 25), none⟩])
  (.seq (.reg [
    ⟨some 26, .move (.tmp 0), none⟩,
    ⟨some 27, .move (.tmp 9), none⟩,
    ⟨some 28, .indexAddr 23 (.tmp 26) (.tmp 27), none⟩,
    ⟨some 29, .load 103 (.tmp 28), none⟩,
    ⟨some 30, .convert 103 97 (.tmp 29), none⟩,
    ⟨some 31, .move (.tmp 7), none⟩,
    ⟨some 32, .binOp .sub 97 (.tmp 30) (.tmp 31) 97, none⟩,
    ⟨some 33, .move (.tmp 8), none⟩,
    ⟨some 34, .binOp .and 97 (.tmp 33) (.const (.int .u64 4294967295)) 97, none⟩,
    ⟨some 35, .binOp .sub 97 (.tmp 32) (.tmp 34) 97, none⟩,
    ⟨some 11, .assign (.tmp 35), none⟩])
  (.seq (.reg [
    ⟨some 36, .move (.tmp 0), none⟩,
    ⟨some 37, .move (.tmp 9), none⟩,
    ⟨some 38, .move (.tmp 11), none⟩,
    ⟨some 39, .binOp .and 97 (.tmp 38) (.const (.int .u64 4294967295)) 97, none⟩,
    ⟨some 40, .convert 97 103 (.tmp 39), none⟩,
    ⟨some 41, .indexAddr 23 (.tmp 36) (.tmp 37), none⟩,
    ⟨none, .store 103 (.tmp 41) (.tmp 40), none⟩])
  (.seq (.reg [
    ⟨some 42, .move (.tmp 11), none⟩,
    ⟨some 43, .binOp .shr 97 (.tmp 42) (.const (.int .u64 63)) 113, none⟩,
    ⟨some 7, .assign (.tmp 43), none⟩])
  (.reg [
    ⟨some 44, .move (.tmp 8), none⟩,
    ⟨some 45, .binOp .shr 97 (.tmp 44) (.const (.int .u64 32)) 113, none⟩,
    ⟨some 8, .assign (.tmp 45), none⟩])))))))
  (.reg [
    ⟨some 46, .binOp .add 3 (.tmp 15) (.const (.int .i64 1)) 3, none⟩,
    ⟨some 15, .move (.tmp 46), none⟩])))))))
  (.seq (.reg [
    ⟨some 47, .move (.tmp 0), none⟩,
    ⟨some 48, .move (.tmp 1), none⟩,
    ⟨some 49, .call ⟨(.builtin .len), #[(.tmp 48)], #[23]⟩, none⟩,
    ⟨some 50, .indexAddr 23 (.tmp 47) (.tmp 49), none⟩,
    ⟨some 51, .load 103 (.tmp 50), none⟩,
    ⟨some 52, .convert 103 97 (.tmp 51), none⟩,
    ⟨some 53, .move (.tmp 7), none⟩,
    ⟨some 54, .binOp .sub 97 (.tmp 52) (.tmp 53) 97, none⟩,
    ⟨some 55, .move (.tmp 8), none⟩,
    ⟨some 56, .binOp .sub 97 (.tmp 54) (.tmp 55) 97, none⟩,
    ⟨some 12, .assign (.tmp 56), none⟩])
  (.seq (.reg [
    ⟨some 57, .move (.tmp 0), none⟩,
    ⟨some 58, .move (.tmp 1), none⟩,
    ⟨some 59, .call ⟨(.builtin .len), #[(.tmp 58)], #[23]⟩, none⟩,
    ⟨some 60, .move (.tmp 12), none⟩,
    ⟨some 61, .binOp .and 97 (.tmp 60) (.const (.int .u64 4294967295)) 97, none⟩,
    ⟨some 62, .convert 97 103 (.tmp 61), none⟩,
    ⟨some 63, .indexAddr 23 (.tmp 57) (.tmp 59), none⟩,
    ⟨none, .store 103 (.tmp 63) (.tmp 62), none⟩])
  (.seq (.reg [
    ⟨some 64, .move (.tmp 12), none⟩,
    ⟨some 65, .binOp .shr 97 (.tmp 64) (.const (.int .u64 63)) 113, none⟩,
    ⟨some 66, .binOp .eql 97 (.tmp 65) (.const (.int .u64 1)) 97, none⟩,
    ⟨some 6, .assign (.tmp 66), none⟩])
  .ret))))))⟩
theorem c140 : fcomp Tryz.prog 140 = ⟨b140.n, b140.np, b140.res, b140.body.bare⟩ := by kernel_rfl
theorem k140 : fok Tryz.prog 140 = true := by kernel_rfl
theorem nat_subtract (l v : List Int) (off n g : Nat) (hl : Lim l) (hlv : Lim v) (hvn : v.length = n) (hoff : off + n + 1 ≤ l.length) (hn : n < 8796093022208) (hg : g < 4294967296) :
    WFun Tryz.prog 140 l off (n + 1) [.one (natD v), .one (.lit (.int .u64 g))] (subL l off n (g * val v)) [.one (.lit (.bool (decide (win l off n < g * val v))))] := by
  refine wfun_intro mo_ _ _ c140 k140 _ _ _ _ _ _ rfl (by decide) rfl ?_
  unfold b140
  simp (maxSteps := 1000000) (disch := first | omega | (simp only [LL]; omega)) only [W, V, TY, CC, reduceIte, Nat.reduceEqDiff, Nat.reduceAdd, Nat.reduceLeDiff, Nat.reduceLT, Int.reduceLE, Int.reduceLT, Int.reduceAdd, Int.reduceSub, Int.reduceToNat, Nat.reduceMul, hvn]
  refine w_loop (fun m s => ∃ (i : Nat) (br c : Int) (L : List Int), m + i = n ∧ s.t 0 = .sv (0, 0) off (n + 1) ∧ s.t 1 = .one (.dt (natD v)) ∧ s.t 2 = .one (.dt (.lit (.int .u64 g))) ∧ s.t 13 = .one (.dt (natD v)) ∧ s.t 14 = .one (.dt (.lit (.int .i64 n))) ∧ s.t 15 = .one (.dt (.lit (.int .i64 i))) ∧ s.t 7 = .one (.dt (.lit (.int .u64 br))) ∧ s.t 8 = .one (.dt (.lit (.int .u64 c))) ∧ s.v (0, 0) = some (u32s L) ∧ s.f (0, 0) = false ∧ L.length = l.length ∧ Lim L ∧ 0 ≤ c ∧ c < 4294967296 ∧ 0 ≤ br ∧ br ≤ 1 ∧ val (L.take off) = val (l.take off) ∧ L.drop (off + n + 1) = l.drop (off + n + 1) ∧ (∀ k, off + i ≤ k → L.getD k 0 = l.getD k 0) ∧ val (L.take (off + i)) = val (l.take (off + i)) + bp off * ((br + c) * bp i - g * val (v.take i))) n ⟨0, 0, 0, l, rfl, ?_, ?_, ?_, ?_, ?_, ?_, ?_, ?_, ?_, ?_, rfl, hl, Int.le_refl _, by decide, Int.le_refl _, by decide, rfl, rfl, fun _ _ => rfl, by simp [val_nil]⟩ ?_
  · simp (maxSteps := 1000000) (disch := first | omega | (simp only [LL]; omega)) only [W, V, TY, CC, reduceIte, Nat.reduceEqDiff, Nat.reduceAdd, Nat.reduceLeDiff, Nat.reduceLT, Int.reduceLE, Int.reduceLT, Int.reduceAdd, Int.reduceSub, Int.reduceToNat, Nat.reduceMul]
  · simp (maxSteps := 1000000) (disch := first | omega | (simp only [LL]; omega)) only [W, V, TY, CC, reduceIte, Nat.reduceEqDiff, Nat.reduceAdd, Nat.reduceLeDiff, Nat.reduceLT, Int.reduceLE, Int.reduceLT, Int.reduceAdd, Int.reduceSub, Int.reduceToNat, Nat.reduceMul]
  · simp (maxSteps := 1000000) (disch := first | omega | (simp only [LL]; omega)) only [W, V, TY, CC, reduceIte, Nat.reduceEqDiff, Nat.reduceAdd, Nat.reduceLeDiff, Nat.reduceLT, Int.reduceLE, Int.reduceLT, Int.reduceAdd, Int.reduceSub, Int.reduceToNat, Nat.reduceMul]
  · simp (maxSteps := 1000000) (disch := first | omega | (simp only [LL]; omega)) only [W, V, TY, CC, reduceIte, Nat.reduceEqDiff, Nat.reduceAdd, Nat.reduceLeDiff, Nat.reduceLT, Int.reduceLE, Int.reduceLT, Int.reduceAdd, Int.reduceSub, Int.reduceToNat, Nat.reduceMul]
  · simp (maxSteps := 1000000) (disch := first | omega | (simp only [LL]; omega)) only [W, V, TY, CC, reduceIte, Nat.reduceEqDiff, Nat.reduceAdd, Nat.reduceLeDiff, Nat.reduceLT, Int.reduceLE, Int.reduceLT, Int.reduceAdd, Int.reduceSub, Int.reduceToNat, Nat.reduceMul, hvn]
  · simp (maxSteps := 1000000) (disch := first | omega | (simp only [LL]; omega)) only [W, V, TY, CC, reduceIte, Nat.reduceEqDiff, Nat.reduceAdd, Nat.reduceLeDiff, Nat.reduceLT, Int.reduceLE, Int.reduceLT, Int.reduceAdd, Int.reduceSub, Int.reduceToNat, Nat.reduceMul]
  · simp (maxSteps := 1000000) (disch := first | omega | (simp only [LL]; omega)) only [W, V, TY, CC, reduceIte, Nat.reduceEqDiff, Nat.reduceAdd, Nat.reduceLeDiff, Nat.reduceLT, Int.reduceLE, Int.reduceLT, Int.reduceAdd, Int.reduceSub, Int.reduceToNat, Nat.reduceMul]
  · simp (maxSteps := 1000000) (disch := first | omega | (simp only [LL]; omega)) only [W, V, TY, CC, reduceIte, Nat.reduceEqDiff, Nat.reduceAdd, Nat.reduceLeDiff, Nat.reduceLT, Int.reduceLE, Int.reduceLT, Int.reduceAdd, Int.reduceSub, Int.reduceToNat, Nat.reduceMul]
  · simp (maxSteps := 1000000) (disch := first | omega | (simp only [LL]; omega)) only [W, V, TY, CC, reduceIte, Nat.reduceEqDiff, Nat.reduceAdd, Nat.reduceLeDiff, Nat.reduceLT, Int.reduceLE, Int.reduceLT, Int.reduceAdd, Int.reduceSub, Int.reduceToNat, Nat.reduceMul]
  · simp (maxSteps := 1000000) (disch := first | omega | (simp only [LL]; omega)) only [W, V, TY, CC, reduceIte, Nat.reduceEqDiff, Nat.reduceAdd, Nat.reduceLeDiff, Nat.reduceLT, Int.reduceLE, Int.reduceLT, Int.reduceAdd, Int.reduceSub, Int.reduceToNat, Nat.reduceMul]
  intro m s _ ⟨i, br, c, L, e, t0, t1, t2, t13, t14, t15, t7, t8, v0, f0, hL, lL, c0, c1, b0, b1, D1, D2, D3, D4⟩
  simp (maxSteps := 1000000) (disch := first | omega | (simp only [LL]; omega)) only [W, V, TY, CC, reduceIte, Nat.reduceEqDiff, Nat.reduceAdd, Nat.reduceLeDiff, Nat.reduceLT, Int.reduceLE, Int.reduceLT, Int.reduceAdd, Int.reduceSub, Int.reduceToNat, Nat.reduceMul, t14, t15]
  refine c_split (fun hi => ?_) (fun hi => ?_)
  · have hx := hlv.getD i
    have hu := lL.getD (off + i)
    obtain ⟨m1, m2⟩ := mul_bound (p := (g : Int)) (q := v.getD i 0) (by omega) (by omega) hx.1 hx.2
    generalize hC : (g : Int) * v.getD i 0 = C at *
    simp (maxSteps := 1000000) (disch := first | omega | (simp only [LL]; omega)) only [W, V, TY, CC, reduceIte, Nat.reduceEqDiff, Nat.reduceAdd, Nat.reduceLeDiff, Nat.reduceLT, Int.reduceLE, Int.reduceLT, Int.reduceAdd, Int.reduceSub, Int.reduceToNat, Nat.reduceMul, t0, t1, t2, t13, t14, t15, t7, t8, v0, f0, hC, shr_63, shr_32]
    have hUl := D3 (off + i) (Nat.le_refl _)
    obtain ⟨nb, n0, n1, q1, q2, q3, q4, q5⟩ := sub_step (x := (c + C) % 4294967296) hu.1 hu.2 b0 b1 (by omega) (by omega)
    rw [q1, q2]
    refine ⟨by omega, by omega, by omega, m - 1, by omega, i + 1, nb, (c + C) / 4294967296, _, by omega, rfl, rfl, rfl, rfl, by simp [hL], lL.set _ q3 q4, by omega, by omega, n0, n1, ?_, ?_, fun k hk => ?_, ?_⟩
    · rw [List.take_set_of_le (by omega)]; exact D1
    · rw [List.drop_set_of_lt (by omega)]; exact D2
    · rw [Limbs.getD_set_ne (by omega)]; exact D3 k (by omega)
    · rw [show off + (i + 1) = off + i + 1 by omega, take_set_succ (by omega), val_snoc, List.length_take, Nat.min_eq_left (by omega), D4, val_take' l (off + i), val_take' v i, hUl, bp_succ, bp_add]
      have e2 : c + C = (c + C) % 4294967296 + 4294967296 * ((c + C) / 4294967296) := by omega
      generalize (c + C) % 4294967296 = x0 at *
      generalize (c + C) / 4294967296 = x1 at *
      have e3 : C = x0 + 4294967296 * x1 - c := by omega
      rw [← hC] at e3
      clear e2 hC q1 q2
      generalize l.getD (off + i) 0 = U at *
      generalize v.getD i 0 = x at *
      generalize bp off = A at *
      generalize bp i = B at *
      grind
  · simp (maxSteps := 1000000) (disch := first | omega | (simp only [LL]; omega)) only [W, V, TY, CC, reduceIte, Nat.reduceEqDiff, Nat.reduceAdd, Nat.reduceLeDiff, Nat.reduceLT, Int.reduceLE, Int.reduceLT, Int.reduceAdd, Int.reduceSub, Int.reduceToNat, Nat.reduceMul, t0, t1, t2, t13, t14, t15, t7, t8, v0, f0]
    refine ⟨by omega, by omega, by omega, ?_⟩
    have hin : i = n := by omega
    subst hin
    rw [hvn]
    have hu := lL.getD (off + i)
    obtain ⟨nb, n0, n1, q1, q2, q3, q4, q5⟩ := sub_step (x := c) hu.1 hu.2 b0 b1 c0 c1
    have hUl := D3 (off + i) (Nat.le_refl _)
    have hLset : Lim (L.set (off + i) (L.getD (off + i) 0 - br - c + 4294967296 * nb)) := lL.set _ q3 q4
    rw [List.take_of_length_le (by omega : v.length ≤ i)] at D4
    have hpre : val ((L.set (off + i) (L.getD (off + i) 0 - br - c + 4294967296 * nb)).take (off + i + 1)) = val (l.take (off + i + 1)) + bp off * (nb * bp (i + 1) - g * val v) := by
      rw [take_set_succ (by omega), val_snoc, List.length_take, Nat.min_eq_left (by omega), D4, val_take' l (off + i), hUl, bp_succ, bp_add]
      grind
    obtain ⟨hres, hnb⟩ := sub_end (n := i) hl hLset (by simp [hL]) (by rw [List.take_set_of_le (by omega)]; exact D1) (by rw [List.drop_set_of_lt (by omega)]; exact D2) hpre n0 n1 (Int.mul_nonneg (by omega) (val_nonneg hlv))
    have hbool : decide (nb = 1) = decide (win l off i < g * val v) := by
      rw [hnb]; split <;> simp [*]
    clear hpre hnb D1 D2 D3 D4
    refine f_retw _ _ _ _ ?_
    simp (maxSteps := 1000000) (disch := first | omega | (simp only [LL]; omega)) only [W, V, TY, CC, reduceIte, Nat.reduceEqDiff, Nat.reduceAdd, Nat.reduceLeDiff, Nat.reduceLT, Int.reduceLE, Int.reduceLT, Int.reduceAdd, Int.reduceSub, Int.reduceToNat, Nat.reduceMul, q1, q2, q5, hres, hbool, shr_63]
end Go.Proofs.YtljmgdepldpmdaaGreatDoor.E

set_option linter.unusedSimpArgs false
set_option linter.unusedVariables false
set_option maxHeartbeats 2000000
namespace Go.Proofs.YtljmgdepldpmdaaGreatDoor.E
open Go.RowKit Limbs
/-- what addBack leaves -/
def addL (l : List Int) (off n : Nat) (p : Int) : List Int := lim l.length (val l + bp off * p - if bp (n + 1) ≤ win l off n + p then bp (off + n + 1) else 0).toNat
theorem add_end {l T : List Int} {off n : Nat} {p nb : Int} (hl : Lim l) (hT : Lim T) (hTl : T.length = l.length) (D1 : val (T.take off) = val (l.take off)) (D2 : T.drop (off + n + 1) = l.drop (off + n + 1)) (hpre : val (T.take (off + n + 1)) = val (l.take (off + n + 1)) + bp off * (p - nb * bp (n + 1))) (n0 : 0 ≤ nb) (n1 : nb ≤ 1) (hp : 0 ≤ p) :
    T = addL l off n p := by
  have hb := bp_pos off
  have h1 := val_win T off (n + 1)
  have h2 := val_win l off (n + 1)
  rw [← Nat.add_assoc] at h1 h2
  rw [hpre, h2, D1] at h1
  have h3 : bp off * val ((T.drop off).take (n + 1)) = bp off * (win l off n - nb * bp (n + 1) + p) := by
    unfold win
    grind
  have hwin := Int.eq_of_mul_eq_mul_left (by omega) h3
  have hw0 := nv_win_lt hT off (n + 1)
  rw [hwin] at hw0
  have hwl := nv_win_lt hl off (n + 1)
  have hwd : win l off n = val ((l.drop off).take (n + 1)) := rfl
  have hnb : nb = if bp (n + 1) ≤ win l off n + p then 1 else 0 := by
    rcases (by omega : nb = 0 ∨ nb = 1) with h | h
    · subst h; rw [if_neg (by omega)]
    · subst h; rw [if_pos (by omega)]
  have hval : val T = val l + bp off * p - if bp (n + 1) ≤ win l off n + p then bp (off + n + 1) else 0 := by
    rw [val_split' T (off + n + 1), hpre, D2, val_split' l (off + n + 1), hnb]
    have hb3 : bp (off + n + 1) = bp off * bp (n + 1) := by rw [Nat.add_assoc, bp_add]
    split
    · rw [hb3]; grind
    · grind
  have h0 := val_nonneg hT
  refine eq_lim hT hTl ?_
  rw [hval] at h0 ⊢
  omega
/-- examboard/nat.addBack -/
def b141 : AF := ⟨42, 2, [],
  (.seq (.reg [
    ⟨some 4, .assign (.const (.int .u64 0)), none⟩])
  (.seq (.seq (.reg [
    ⟨some 7, .move (.tmp 1), none⟩,
    ⟨some 8, .call ⟨(.builtin .len), #[(.tmp 7)], #[23]⟩, none⟩,
    ⟨some 9, .move (.const (.int .i64 0)), none⟩])
  (.block 0 (.loop (.seq (.reg [
    ⟨some 10, .binOp .lss 3 (.tmp 9) (.tmp 8) 3, none⟩])
  (.seq (.cond (.tmp 10)
    .skip
    (.exit 0))
  (.seq (.block 1 (.seq (.reg [
    ⟨some 11, .move (.tmp 9), none⟩,
    ⟨some 12, .indexAddr 23 (.tmp 7) (.tmp 9), none⟩,
    ⟨some 13, .load 103 (.tmp 12), none⟩,
    ⟨some 5, .assign (.tmp 11), none⟩,
    ⟨some 6, .assign (.tmp 13), none⟩])
  (.seq (.reg [
    ⟨some 14, .move (.tmp 4), none⟩,
    ⟨some 15, .move (.tmp 0), none⟩,
    ⟨some 16, .move (.tmp 5), none⟩,
    ⟨some 17, .indexAddr 23 (.tmp 15) (.tmp 16), none⟩,
    ⟨some 18, .load 103 (.tmp 17), none⟩,
    ⟨some 19, .convert 103 97 (.tmp 18), none⟩,
    ⟨some 20, .move (.tmp 6), none⟩,
    ⟨some 21, .convert 103 97 (.tmp 20), none⟩,
    ⟨some 22, .binOp .add 97 (.tmp 19) (.tmp 21) 97, none⟩,
    ⟨some 23, .binOp .add 97 (.tmp 14) (.tmp 22) 97, none⟩,
    ⟨some 4, .assign (.tmp 23), none⟩])
  (.seq (.reg [
    ⟨some 24, .move (.tmp 0), none⟩,
    ⟨some 25, .move (.tmp 5), none⟩,
    ⟨some 26, .move (.tmp 4), none⟩,
    ⟨some 27, .binOp .and 97 (.tmp 26) (.const (.int .u64 4294967295)) 97, none⟩,
    ⟨some 28, .convert 97 103 (.tmp 27), none⟩,
    ⟨some 29, .indexAddr 23 (.tmp 24) (.tmp 25), none⟩,
    ⟨none, .store 103 (.tmp 29) (.tmp 28), none⟩])
  (.reg [
    ⟨some 30, .move (.tmp 4), none⟩,
    ⟨some 31, .binOp .shr 97 (.tmp 30) (.const (.int .u64 32)) 113, none⟩,
    ⟨some 4, .assign (.tmp 31), none⟩])))))
  (.reg [
    ⟨some 32, .binOp .add 3 (.tmp 9) (.const (.int .i64 1)) 3, none⟩,
    ⟨some 9, .move (.tmp 32), none⟩])))))))
  (.reg [
    ⟨some 33, .move (.tmp 0), none⟩,
    ⟨some 34, .move (.tmp 1), none⟩,
    ⟨some 35, .call ⟨(.builtin .len), #[(.tmp 34)], #[23]⟩, none⟩,
    ⟨some 36, .indexAddr 23 (.tmp 33) (.tmp 35), none⟩,
    ⟨some 37, .load 103 (.tmp 36), none⟩,
    ⟨some 38, .move (.tmp 4), none⟩,
    ⟨some 39, .convert 97 103 (.tmp 38), none⟩,
    ⟨some 40, .binOp .add 103 (.tmp 37) (.tmp 39) 103, none⟩,
    ⟨some 41, .indexAddr 23 (.tmp 33) (.tmp 35), none⟩,
    ⟨none, .store 103 (.tmp 41) (.tmp 40), none⟩])))⟩
theorem c141 : fcomp Tryz.prog 141 = ⟨b141.n, b141.np, b141.res, b141.body.bare⟩ := by kernel_rfl
theorem k141 : fok Tryz.prog 141 = true := by kernel_rfl
theorem nat_addBack (l v : List Int) (off n : Nat) (hl : Lim l) (hlv : Lim v) (hvn : v.length = n) (hoff : off + n + 1 ≤ l.length) (hn : n < 8796093022208) :
    WFun Tryz.prog 141 l off (n + 1) [.one (natD v)] (addL l off n (val v)) [] := by
  refine wfun_intro mo_ _ _ c141 k141 _ _ _ _ _ _ rfl (by decide) rfl ?_
  unfold b141
  simp (maxSteps := 1000000) (disch := first | omega | (simp only [LL]; omega)) only [W, V, TY, CC, reduceIte, Nat.reduceEqDiff, Nat.reduceAdd, Nat.reduceLeDiff, Nat.reduceLT, Int.reduceLE, Int.reduceLT, Int.reduceAdd, Int.reduceSub, Int.reduceToNat, Nat.reduceMul, hvn]
  refine w_loop (fun m s => ∃ (i : Nat) (c : Int) (L : List Int), m + i = n ∧ s.t 0 = .sv (0, 0) off (n + 1) ∧ s.t 1 = .one (.dt (natD v)) ∧ s.t 7 = .one (.dt (natD v)) ∧ s.t 8 = .one (.dt (.lit (.int .i64 n))) ∧ s.t 9 = .one (.dt (.lit (.int .i64 i))) ∧ s.t 4 = .one (.dt (.lit (.int .u64 c))) ∧ s.v (0, 0) = some (u32s L) ∧ s.f (0, 0) = false ∧ L.length = l.length ∧ Lim L ∧ 0 ≤ c ∧ c ≤ 1 ∧ val (L.take off) = val (l.take off) ∧ L.drop (off + n + 1) = l.drop (off + n + 1) ∧ (∀ k, off + i ≤ k → L.getD k 0 = l.getD k 0) ∧ val (L.take (off + i)) = val (l.take (off + i)) + bp off * (val (v.take i) - c * bp i)) n ⟨0, 0, l, rfl, ?_, ?_, ?_, ?_, ?_, ?_, ?_, ?_, rfl, hl, Int.le_refl _, by decide, rfl, rfl, fun _ _ => rfl, by simp [val_nil]⟩ ?_
  · simp (maxSteps := 1000000) (disch := first | omega | (simp only [LL]; omega)) only [W, V, TY, CC, reduceIte, Nat.reduceEqDiff, Nat.reduceAdd, Nat.reduceLeDiff, Nat.reduceLT, Int.reduceLE, Int.reduceLT, Int.reduceAdd, Int.reduceSub, Int.reduceToNat, Nat.reduceMul]
  · simp (maxSteps := 1000000) (disch := first | omega | (simp only [LL]; omega)) only [W, V, TY, CC, reduceIte, Nat.reduceEqDiff, Nat.reduceAdd, Nat.reduceLeDiff, Nat.reduceLT, Int.reduceLE, Int.reduceLT, Int.reduceAdd, Int.reduceSub, Int.reduceToNat, Nat.reduceMul]
  · simp (maxSteps := 1000000) (disch := first | omega | (simp only [LL]; omega)) only [W, V, TY, CC, reduceIte, Nat.reduceEqDiff, Nat.reduceAdd, Nat.reduceLeDiff, Nat.reduceLT, Int.reduceLE, Int.reduceLT, Int.reduceAdd, Int.reduceSub, Int.reduceToNat, Nat.reduceMul]
  · simp (maxSteps := 1000000) (disch := first | omega | (simp only [LL]; omega)) only [W, V, TY, CC, reduceIte, Nat.reduceEqDiff, Nat.reduceAdd, Nat.reduceLeDiff, Nat.reduceLT, Int.reduceLE, Int.reduceLT, Int.reduceAdd, Int.reduceSub, Int.reduceToNat, Nat.reduceMul, hvn]
  · simp (maxSteps := 1000000) (disch := first | omega | (simp only [LL]; omega)) only [W, V, TY, CC, reduceIte, Nat.reduceEqDiff, Nat.reduceAdd, Nat.reduceLeDiff, Nat.reduceLT, Int.reduceLE, Int.reduceLT, Int.reduceAdd, Int.reduceSub, Int.reduceToNat, Nat.reduceMul]
  · simp (maxSteps := 1000000) (disch := first | omega | (simp only [LL]; omega)) only [W, V, TY, CC, reduceIte, Nat.reduceEqDiff, Nat.reduceAdd, Nat.reduceLeDiff, Nat.reduceLT, Int.reduceLE, Int.reduceLT, Int.reduceAdd, Int.reduceSub, Int.reduceToNat, Nat.reduceMul]
  · simp (maxSteps := 1000000) (disch := first | omega | (simp only [LL]; omega)) only [W, V, TY, CC, reduceIte, Nat.reduceEqDiff, Nat.reduceAdd, Nat.reduceLeDiff, Nat.reduceLT, Int.reduceLE, Int.reduceLT, Int.reduceAdd, Int.reduceSub, Int.reduceToNat, Nat.reduceMul]
  · simp (maxSteps := 1000000) (disch := first | omega | (simp only [LL]; omega)) only [W, V, TY, CC, reduceIte, Nat.reduceEqDiff, Nat.reduceAdd, Nat.reduceLeDiff, Nat.reduceLT, Int.reduceLE, Int.reduceLT, Int.reduceAdd, Int.reduceSub, Int.reduceToNat, Nat.reduceMul]
  intro m s _ ⟨i, c, L, e, t0, t1, t7, t8, t9, t4, v0, f0, hL, lL, c0, c1, D1, D2, D3, D4⟩
  simp (maxSteps := 1000000) (disch := first | omega | (simp only [LL]; omega)) only [W, V, TY, CC, reduceIte, Nat.reduceEqDiff, Nat.reduceAdd, Nat.reduceLeDiff, Nat.reduceLT, Int.reduceLE, Int.reduceLT, Int.reduceAdd, Int.reduceSub, Int.reduceToNat, Nat.reduceMul, t8, t9]
  refine c_split (fun hi => ?_) (fun hi => ?_)
  · have hx := hlv.getD i
    have hu := lL.getD (off + i)
    have hUl := D3 (off + i) (Nat.le_refl _)
    obtain ⟨S, hS⟩ : ∃ S, S = c + (L.getD (off + i) 0 + v.getD i 0) := ⟨_, rfl⟩
    simp (maxSteps := 1000000) (disch := first | omega | (simp only [LL]; omega)) only [W, V, TY, CC, reduceIte, Nat.reduceEqDiff, Nat.reduceAdd, Nat.reduceLeDiff, Nat.reduceLT, Int.reduceLE, Int.reduceLT, Int.reduceAdd, Int.reduceSub, Int.reduceToNat, Nat.reduceMul, t0, t1, t7, t8, t9, t4, v0, f0, shr_32, ← hS, and_m32 (n := S) (by omega) (by omega), wu32 (n := S % 4294967296) (by omega) (by omega)]
    refine ⟨by omega, by omega, by omega, m - 1, by omega, i + 1, S / 4294967296, _, by omega, rfl, rfl, rfl, by simp [hL], lL.set _ (by omega) (by omega), by omega, by omega, ?_, ?_, fun k hk => ?_, ?_⟩
    · rw [List.take_set_of_le (by omega)]; exact D1
    · rw [List.drop_set_of_lt (by omega)]; exact D2
    · rw [Limbs.getD_set_ne (by omega)]; exact D3 k (by omega)
    · rw [show off + (i + 1) = off + i + 1 by omega, take_set_succ (by omega), val_snoc, List.length_take, Nat.min_eq_left (by omega), D4, val_take' l (off + i), val_take' v i, bp_succ, bp_add]
      have e2 : S = S % 4294967296 + 4294967296 * (S / 4294967296) := by omega
      generalize S % 4294967296 = x0 at *
      generalize S / 4294967296 = x1 at *
      have e3 : x0 = c + (l.getD (off + i) 0 + v.getD i 0) - 4294967296 * x1 := by omega
      rw [e3]
      generalize l.getD (off + i) 0 = U at *
      generalize v.getD i 0 = x at *
      generalize bp off = A at *
      generalize bp i = B at *
      grind
  · have hin : i = n := by omega
    subst hin
    have hu := lL.getD (off + i)
    have hUl := D3 (off + i) (Nat.le_refl _)
    obtain ⟨S, hS⟩ : ∃ S, S = L.getD (off + i) 0 + c := ⟨_, rfl⟩
    simp (maxSteps := 1000000) (disch := first | omega | (simp only [LL]; omega)) only [W, V, TY, CC, reduceIte, Nat.reduceEqDiff, Nat.reduceAdd, Nat.reduceLeDiff, Nat.reduceLT, Int.reduceLE, Int.reduceLT, Int.reduceAdd, Int.reduceSub, Int.reduceToNat, Nat.reduceMul, t0, t1, t7, t8, t9, t4, v0, f0, hvn, wu32 (n := c) (by omega) (by omega), ← hS, IntKind.wrap_u32]
    refine ⟨by omega, by omega, by omega, ?_⟩
    rw [List.take_of_length_le (by omega : v.length ≤ i)] at D4
    have hpre : val ((L.set (off + i) (S % 4294967296)).take (off + i + 1)) = val (l.take (off + i + 1)) + bp off * (val v - S / 4294967296 * bp (i + 1)) := by
      rw [take_set_succ (by omega), val_snoc, List.length_take, Nat.min_eq_left (by omega), D4, val_take' l (off + i), bp_succ, bp_add]
      have e3 : S % 4294967296 = l.getD (off + i) 0 + c - 4294967296 * (S / 4294967296) := by omega
      rw [e3]
      generalize S / 4294967296 = x1 at *
      grind
    have hres := add_end (n := i) hl (lL.set (off + i) (x := S % 4294967296) (by omega) (by omega)) (by simp [hL]) (by rw [List.take_set_of_le (by omega)]; exact D1) (by rw [List.drop_set_of_lt (by omega)]; exact D2) hpre (by omega) (by omega) (val_nonneg hlv)
    refine f_nrmw _ _ _ _ ?_
    simp (maxSteps := 1000000) (disch := first | omega | (simp only [LL]; omega)) only [W, V, TY, CC, reduceIte, Nat.reduceEqDiff, Nat.reduceAdd, Nat.reduceLeDiff, Nat.reduceLT, Int.reduceLE, Int.reduceLT, Int.reduceAdd, Int.reduceSub, Int.reduceToNat, Nat.reduceMul, hres]
end Go.Proofs.YtljmgdepldpmdaaGreatDoor.E

set_option linter.unusedSimpArgs false
set_option linter.unusedVariables false
set_option maxHeartbeats 2000000
namespace Go.Proofs.YtljmgdepldpmdaaGreatDoor.E
open Go.RowKit Limbs
theorem bl_uniq {n k : Nat} (h1 : 2 ^ k ≤ n) (h2 : n < 2 ^ (k + 1)) : bl n = k + 1 := by
  have h3 := bl_le h2
  by_cases h : bl n ≤ k
  · have h4 := bl_lt n
    have h5 : 2 ^ bl n ≤ 2 ^ k := Nat.pow_le_pow_right (by omega) h
    omega
  · omega
theorem shr_k {x : Int} (k : Nat) (hk : k ≤ 32) : shr .u32 x (k : Int) = x / 2 ^ k := by
  unfold shr
  rw [Int.toNat_natCast, show min k IntKind.u32.bits = k from Nat.min_eq_left hk, Int.fdiv_eq_ediv_of_nonneg _ (Int.pow_nonneg (by decide))]
def len8 (i : Nat) : Nat := if i < 1 then 0 else if i < 2 then 1 else if i < 4 then 2 else if i < 8 then 3 else if i < 16 then 4 else if i < 32 then 5 else if i < 64 then 6 else if i < 128 then 7 else 8
theorem len8_bl {i : Nat} (h : i < 256) : bl i = len8 i := by
  unfold len8
  split
  · rw [show i = 0 by omega, bl_zero]
  split
  · exact bl_uniq (k := 0) (by omega) (by omega)
  split
  · exact bl_uniq (k := 1) (by omega) (by omega)
  split
  · exact bl_uniq (k := 2) (by omega) (by omega)
  split
  · exact bl_uniq (k := 3) (by omega) (by omega)
  split
  · exact bl_uniq (k := 4) (by omega) (by omega)
  split
  · exact bl_uniq (k := 5) (by omega) (by omega)
  split
  · exact bl_uniq (k := 6) (by omega) (by omega)
  · exact bl_uniq (k := 7) (by omega) (by omega)
/-- the table of the lengths of bytes -/
theorem sb_len (b : ByteArray) (hb : b.data.toList.map UInt8.toNat = (List.range 256).map len8) {i : Nat} (h : i < 256) : sbyte b i = bl i ∧ b.size = 256 := by
  have hs : b.data.toList.length = 256 := by
    have := congrArg List.length hb
    simpa using this
  have hsz : b.size = 256 := by simpa using hs
  refine ⟨?_, hsz⟩
  rw [len8_bl h]
  unfold sbyte
  have hlt : i < b.size := by omega
  have h1 : (b.data.toList.map UInt8.toNat)[i]? = some (len8 i) := by rw [hb]; simp [h]
  rw [Int.toNat_natCast]
  have h2 : b[i]? = some b[i] := by simp [hlt]
  rw [h2]
  have h3 : b.data.toList[i]? = some b[i] := by
    rw [Array.getElem?_toList]
    exact Array.getElem?_eq_getElem (by simpa using hlt)
  rw [List.getElem?_map, h3] at h1
  simp at h1
  simp [h1]
/-- math/bits.Len32 -/
def b136 : AF := ⟨19, 1, [.tmp 2],
  (.seq (.reg [
    ⟨some 2, .assign (.const (.int .i64 0)), none⟩])
  (.seq (.seq (.reg [
    ⟨some 3, .move (.tmp 0), none⟩,
    ⟨some 4, .binOp .geq 103 (.tmp 3) (.const (.int .u32 65536)) 103, none⟩])
  (.cond (.tmp 4)
    (.seq (.reg [
      ⟨some 5, .move (.tmp 0), none⟩,
      ⟨some 6, .binOp .shr 103 (.tmp 5) (.const (.int .u64 16)) 113, none⟩,
      ⟨some 0, .assign (.tmp 6), none⟩])
    (.reg [
      ⟨some 2, .assign (.const (.int .i64 16)), none⟩]))
    .skip))
  (.seq (.seq (.reg [
    ⟨some 7, .move (.tmp 0), none⟩,
    ⟨some 8, .binOp .geq 103 (.tmp 7) (.const (.int .u32 256)) 103, none⟩])
  (.cond (.tmp 8)
    (.seq (.reg [
      ⟨some 9, .move (.tmp 0), none⟩,
      ⟨some 10, .binOp .shr 103 (.tmp 9) (.const (.int .u64 8)) 113, none⟩,
      ⟨some 0, .assign (.tmp 10), none⟩])
    (.reg [
      ⟨some 11, .move (.tmp 2), none⟩,
      ⟨some 12, .binOp .add 3 (.tmp 11) (.const (.int .i64 8)) 3, none⟩,
      ⟨some 2, .assign (.tmp 12), none⟩]))
    .skip))
  (.seq (.reg [
    ⟨some 13, .move (.tmp 2), none⟩,
    ⟨some 14, .move (.tmp 0), none⟩,
    ⟨some 15, .convert 103 5 (.tmp 14), none⟩,
    ⟨some 16, .index 9 (.const (.string ⟨#[0, 1, 2, 2, 3, 3, 3, 3, 4, 4, 4, 4, 4, 4, 4, 4, 5, 5, 5, 5, 5, 5, 5, 5, 5, 5, 5, 5, 5, 5, 5, 5, 6, 6, 6, 6, 6, 6, 6, 6, 6, 6, 6, 6, 6, 6, 6, 6, 6, 6, 6, 6, 6, 6, 6, 6, 6, 6, 6, 6, 6, 6, 6, 6, 7, 7, 7, 7, 7, 7, 7, 7, 7, 7, 7, 7, 7, 7, 7, 7, 7, 7, 7, 7, 7, 7, 7, 7, 7, 7, 7, 7, 7, 7, 7, 7, 7, 7, 7, 7, 7, 7, 7, 7, 7, 7, 7, 7, 7, 7, 7, 7, 7, 7, 7, 7, 7, 7, 7, 7, 7, 7, 7, 7, 7, 7, 7, 7, 8, 8, 8, 8, 8, 8, 8, 8, 8, 8, 8, 8, 8, 8, 8, 8, 8, 8, 8, 8, 8, 8, 8, 8, 8, 8, 8, 8, 8, 8, 8, 8, 8, 8, 8, 8, 8, 8, 8, 8, 8, 8, 8, 8, 8, 8, 8, 8, 8, 8, 8, 8, 8, 8, 8, 8, 8, 8, 8, 8, 8, 8, 8, 8, 8, 8, 8, 8, 8, 8, 8, 8, 8, 8, 8, 8, 8, 8, 8, 8, 8, 8, 8, 8, 8, 8, 8, 8, 8, 8, 8, 8, 8, 8, 8, 8, 8, 8, 8, 8, 8, 8, 8, 8, 8, 8, 8, 8, 8, 8, 8, 8, 8, 8, 8, 8, 8, 8, 8, 8, 8, 8, 8, 8, 8, 8, 8, 8]⟩)) (.tmp 15), none⟩,
    ⟨some 17, .convert 5 3 (.tmp 16), none⟩,
    ⟨some 18, .binOp .add 3 (.tmp 13) (.tmp 17) 3, none⟩,
    ⟨some 2, .assign (.tmp 18), none⟩])
  .ret))))⟩
theorem c136 : fcomp Tryz.prog 136 = ⟨b136.n, b136.np, b136.res, b136.body.bare⟩ := by kernel_rfl
theorem k136 : fok Tryz.prog 136 = true := by kernel_rfl
set_option maxRecDepth 100000 in
theorem bits_Len32 (x : Nat) (h : x < 4294967296) : AFun Tryz.prog 136 [.one (.lit (.int .u32 x))] [.one (.lit (.int .i64 (bl x : Nat)))] := by
  refine afun_intro mo_ _ _ c136 k136 _ _ rfl (by decide) ?_
  unfold b136
  simp (maxSteps := 1000000) (disch := first | omega | (simp only [LL]; omega)) only [W, V, TY, CC, reduceIte, Nat.reduceEqDiff, Nat.reduceAdd, Nat.reduceLeDiff, Nat.reduceLT, Int.reduceLE, Int.reduceLT, Int.reduceAdd, Int.reduceSub, Int.reduceToNat, Nat.reduceMul]
  have e16 : shr .u32 (x : Int) 16 = ((x / 65536 : Nat) : Int) := by have := shr_k (x := (x : Int)) 16 (by omega); simpa using this
  have e8 : ∀ y : Nat, shr .u32 (y : Int) 8 = ((y / 256 : Nat) : Int) := fun y => by have := shr_k (x := (y : Int)) 8 (by omega); simpa using this
  have w8 : ∀ y : Nat, y < 256 → IntKind.u8.wrap (y : Int) = (y : Int) := fun y hy => by rw [IntKind.wrap_u8]; omega
  refine c_split (fun h1 => ?_) (fun h1 => ?_)
  · have s1 := bl_shift 16 x (by show x / 65536 ≠ 0; omega)
    rw [show (2 : Nat) ^ 16 = 65536 from rfl] at s1
    simp (maxSteps := 1000000) (disch := first | omega | (simp only [LL]; omega)) only [W, V, TY, CC, reduceIte, Nat.reduceEqDiff, Nat.reduceAdd, Nat.reduceLeDiff, Nat.reduceLT, Int.reduceLE, Int.reduceLT, Int.reduceAdd, Int.reduceSub, Int.reduceToNat, Nat.reduceMul, e16]
    generalize hy : x / 65536 = y at *
    have hy1 : y < 65536 := by omega
    refine c_split (fun h2 => ?_) (fun h2 => ?_)
    · have s2 := bl_shift 8 y (by show y / 256 ≠ 0; omega)
      rw [show (2 : Nat) ^ 8 = 256 from rfl] at s2
      simp (maxSteps := 1000000) (disch := first | omega | (simp only [LL]; omega)) only [W, V, TY, CC, reduceIte, Nat.reduceEqDiff, Nat.reduceAdd, Nat.reduceLeDiff, Nat.reduceLT, Int.reduceLE, Int.reduceLT, Int.reduceAdd, Int.reduceSub, Int.reduceToNat, Nat.reduceMul, e8, w8 (y / 256) (by omega)]
      have hb := bl_le (n := y / 256) (m := 8) (by omega)
      refine ⟨⟨by omega, ?_⟩, f_ret _ _ _ ?_⟩
      · show ((y / 256 : Nat) : Int) < ((256 : Nat) : Int)
        omega
      rw [(sb_len (i := y / 256) _ ?hb (by omega)).1]
      case hb => rfl
      simp (maxSteps := 1000000) (disch := first | omega | (simp only [LL]; omega)) only [W, V, TY, CC, reduceIte, Nat.reduceEqDiff, Nat.reduceAdd, Nat.reduceLeDiff, Nat.reduceLT, Int.reduceLE, Int.reduceLT, Int.reduceAdd, Int.reduceSub, Int.reduceToNat, Nat.reduceMul]
      rw [show (24 : Int) + (bl (y / 256) : Nat) = (bl x : Nat) by omega]
    · simp (maxSteps := 1000000) (disch := first | omega | (simp only [LL]; omega)) only [W, V, TY, CC, reduceIte, Nat.reduceEqDiff, Nat.reduceAdd, Nat.reduceLeDiff, Nat.reduceLT, Int.reduceLE, Int.reduceLT, Int.reduceAdd, Int.reduceSub, Int.reduceToNat, Nat.reduceMul, w8 y (by omega)]
      have hb := bl_le (n := y) (m := 8) (by omega)
      refine ⟨⟨by omega, ?_⟩, f_ret _ _ _ ?_⟩
      · show ((y : Nat) : Int) < ((256 : Nat) : Int)
        omega
      rw [(sb_len (i := y) _ ?hb (by omega)).1]
      case hb => rfl
      simp (maxSteps := 1000000) (disch := first | omega | (simp only [LL]; omega)) only [W, V, TY, CC, reduceIte, Nat.reduceEqDiff, Nat.reduceAdd, Nat.reduceLeDiff, Nat.reduceLT, Int.reduceLE, Int.reduceLT, Int.reduceAdd, Int.reduceSub, Int.reduceToNat, Nat.reduceMul]
      rw [show (16 : Int) + (bl y : Nat) = (bl x : Nat) by omega]
  · simp (maxSteps := 1000000) (disch := first | omega | (simp only [LL]; omega)) only [W, V, TY, CC, reduceIte, Nat.reduceEqDiff, Nat.reduceAdd, Nat.reduceLeDiff, Nat.reduceLT, Int.reduceLE, Int.reduceLT, Int.reduceAdd, Int.reduceSub, Int.reduceToNat, Nat.reduceMul]
    refine c_split (fun h2 => ?_) (fun h2 => ?_)
    · have s2 := bl_shift 8 x (by show x / 256 ≠ 0; omega)
      rw [show (2 : Nat) ^ 8 = 256 from rfl] at s2
      simp (maxSteps := 1000000) (disch := first | omega | (simp only [LL]; omega)) only [W, V, TY, CC, reduceIte, Nat.reduceEqDiff, Nat.reduceAdd, Nat.reduceLeDiff, Nat.reduceLT, Int.reduceLE, Int.reduceLT, Int.reduceAdd, Int.reduceSub, Int.reduceToNat, Nat.reduceMul, e8, w8 (x / 256) (by omega)]
      have hb := bl_le (n := x / 256) (m := 8) (by omega)
      refine ⟨⟨by omega, ?_⟩, f_ret _ _ _ ?_⟩
      · show ((x / 256 : Nat) : Int) < ((256 : Nat) : Int)
        omega
      rw [(sb_len (i := x / 256) _ ?hb (by omega)).1]
      case hb => rfl
      simp (maxSteps := 1000000) (disch := first | omega | (simp only [LL]; omega)) only [W, V, TY, CC, reduceIte, Nat.reduceEqDiff, Nat.reduceAdd, Nat.reduceLeDiff, Nat.reduceLT, Int.reduceLE, Int.reduceLT, Int.reduceAdd, Int.reduceSub, Int.reduceToNat, Nat.reduceMul]
      rw [show (8 : Int) + (bl (x / 256) : Nat) = (bl x : Nat) by omega]
    · simp (maxSteps := 1000000) (disch := first | omega | (simp only [LL]; omega)) only [W, V, TY, CC, reduceIte, Nat.reduceEqDiff, Nat.reduceAdd, Nat.reduceLeDiff, Nat.reduceLT, Int.reduceLE, Int.reduceLT, Int.reduceAdd, Int.reduceSub, Int.reduceToNat, Nat.reduceMul, w8 x (by omega)]
      have hb := bl_le (n := x) (m := 8) (by omega)
      refine ⟨⟨by omega, ?_⟩, f_ret _ _ _ ?_⟩
      · show ((x : Nat) : Int) < ((256 : Nat) : Int)
        omega
      rw [(sb_len (i := x) _ ?hb (by omega)).1]
      case hb => rfl
      simp (maxSteps := 1000000) (disch := first | omega | (simp only [LL]; omega)) only [W, V, TY, CC, reduceIte, Nat.reduceEqDiff, Nat.reduceAdd, Nat.reduceLeDiff, Nat.reduceLT, Int.reduceLE, Int.reduceLT, Int.reduceAdd, Int.reduceSub, Int.reduceToNat, Nat.reduceMul, Int.zero_add]
/-- math/bits.LeadingZeros32 -/
def b137 : AF := ⟨6, 1, [.tmp 2],
  (.seq (.reg [
    ⟨some 2, .assign (.const (.int .i64 0)), none⟩])
  (.seq (.reg [
    ⟨some 3, .move (.tmp 0), none⟩,
    ⟨some 4, .call ⟨(.value (.func 136)), #[(.tmp 3)], #[103]⟩, none⟩,
    ⟨some 5, .binOp .sub 3 (.const (.int .i64 32)) (.tmp 4) 3, none⟩,
    ⟨some 2, .assign (.tmp 5), none⟩])
  .ret))⟩
theorem c137 : fcomp Tryz.prog 137 = ⟨b137.n, b137.np, b137.res, b137.body.bare⟩ := by kernel_rfl
theorem k137 : fok Tryz.prog 137 = true := by kernel_rfl
theorem bits_LZ32 (x : Nat) (h : x < 4294967296) : AFun Tryz.prog 137 [.one (.lit (.int .u32 x))] [.one (.lit (.int .i64 (32 - bl x : Nat)))] := by
  refine afun_intro mo_ _ _ c137 k137 _ _ rfl (by decide) ?_
  unfold b137
  have hb := bl_le (n := x) (m := 32) (by omega)
  simp (maxSteps := 1000000) (disch := first | omega | (simp only [LL]; omega)) only [W, V, TY, CC, reduceIte, Nat.reduceEqDiff, Nat.reduceAdd, Nat.reduceLeDiff, Nat.reduceLT, Int.reduceLE, Int.reduceLT, Int.reduceAdd, Int.reduceSub, Int.reduceToNat, Nat.reduceMul]
  refine a_call _ _ (bits_Len32 x h) (by simp (maxSteps := 1000000) (disch := first | omega | (simp only [LL]; omega)) only [W, V, TY, CC, reduceIte, Nat.reduceEqDiff, Nat.reduceAdd, Nat.reduceLeDiff, Nat.reduceLT, Int.reduceLE, Int.reduceLT, Int.reduceAdd, Int.reduceSub, Int.reduceToNat, Nat.reduceMul]) ?_
  simp (maxSteps := 1000000) (disch := first | omega | (simp only [LL]; omega)) only [W, V, TY, CC, reduceIte, Nat.reduceEqDiff, Nat.reduceAdd, Nat.reduceLeDiff, Nat.reduceLT, Int.reduceLE, Int.reduceLT, Int.reduceAdd, Int.reduceSub, Int.reduceToNat, Nat.reduceMul]
  refine f_ret _ _ _ ?_
  have e : (32 : Int) - (bl x : Nat) = ((32 - bl x : Nat) : Int) := by omega
  simp (maxSteps := 1000000) (disch := first | omega | (simp only [LL]; omega)) only [W, V, TY, CC, reduceIte, Nat.reduceEqDiff, Nat.reduceAdd, Nat.reduceLeDiff, Nat.reduceLT, Int.reduceLE, Int.reduceLT, Int.reduceAdd, Int.reduceSub, Int.reduceToNat, Nat.reduceMul, e]
/-- examboard/nat.Bits -/
def b114 : AF := ⟨21, 1, [.tmp 2],
  (.seq (.reg [
    ⟨some 2, .assign (.const (.int .i64 0)), none⟩])
  (.seq (.reg [
    ⟨some 4, .move (.tmp 0), none⟩,
    ⟨some 5, .call ⟨(.value (.func 121)), #[(.tmp 4)], #[23]⟩, none⟩,
    ⟨some 3, .assign (.tmp 5), none⟩])
  (.seq (.seq (.reg [
    ⟨some 6, .move (.tmp 3), none⟩,
    ⟨some 7, .call ⟨(.builtin .len), #[(.tmp 6)], #[23]⟩, none⟩,
    ⟨some 8, .binOp .eql 3 (.tmp 7) (.const (.int .i64 0)) 3, none⟩])
  (.cond (.tmp 8)
    (.seq (.reg [
      ⟨some 2, .assign (.const (.int .i64 0)), none⟩])
    .ret)
    .skip))
  (.seq (.reg [
    ⟨some 9, .move (.tmp 3), none⟩,
    ⟨some 10, .call ⟨(.builtin .len), #[(.tmp 9)], #[23]⟩, none⟩,
    ⟨some 11, .binOp .sub 3 (.tmp 10) (.const (.int .i64 1)) 3, none⟩,
    ⟨some 12, .binOp .mul 3 (.const (.int .i64 32)) (.tmp 11) 3, none⟩,
    ⟨some 13, .move (.tmp 3), none⟩,
    ⟨some 14, .move (.tmp 3), none⟩,
    ⟨some 15, .call ⟨(.builtin .len), #[(.tmp 14)], #[23]⟩, none⟩,
    ⟨some 16, .binOp .sub 3 (.tmp 15) (.const (.int .i64 1)) 3, none⟩,
    ⟨some 17, .indexAddr 23 (.tmp 13) (.tmp 16), none⟩,
    ⟨some 18, .load 103 (.tmp 17), none⟩,
    ⟨some 19, .call ⟨(.value (.func 136)), #[(.tmp 18)], #[103]⟩, none⟩,
    ⟨some 20, .binOp .add 3 (.tmp 12) (.tmp 19) 3, none⟩,
    ⟨some 2, .assign (.tmp 20), none⟩])
  .ret))))⟩
theorem c114 : fcomp Tryz.prog 114 = ⟨b114.n, b114.np, b114.res, b114.body.bare⟩ := by kernel_rfl
theorem k114 : fok Tryz.prog 114 = true := by kernel_rfl
theorem nat_Bits (a : List Int) (ha : Lim a) (la : a.length < 8796093022208) : AFun Tryz.prog 114 [.one (natD a)] [.one (.lit (.int .i64 (bl (nv a) : Nat)))] := by
  refine afun_intro mo_ _ _ c114 k114 _ _ rfl (by decide) ?_
  unfold b114
  have h1 := tr_len ha
  have n1 : Nrm (tr a) := nl_nrm _
  have l1 := tr_lim a
  have v1 : nv (tr a) = nv a := by unfold nv; rw [val_tr ha]
  rw [← v1]
  simp (maxSteps := 1000000) (disch := first | omega | (simp only [LL]; omega)) only [W, V, TY, CC, reduceIte, Nat.reduceEqDiff, Nat.reduceAdd, Nat.reduceLeDiff, Nat.reduceLT, Int.reduceLE, Int.reduceLT, Int.reduceAdd, Int.reduceSub, Int.reduceToNat, Nat.reduceMul]
  refine a_call _ _ (nat_trim a ha (by omega)) rfl ?_
  simp (maxSteps := 1000000) (disch := first | omega | (simp only [LL]; omega)) only [W, V, TY, CC, reduceIte, Nat.reduceEqDiff, Nat.reduceAdd, Nat.reduceLeDiff, Nat.reduceLT, Int.reduceLE, Int.reduceLT, Int.reduceAdd, Int.reduceSub, Int.reduceToNat, Nat.reduceMul]
  generalize tr a = x at *
  refine c_split (fun hl => ?_) (fun hl => ?_)
  · simp (maxSteps := 1000000) (disch := first | omega | (simp only [LL]; omega)) only [W, V, TY, CC, reduceIte, Nat.reduceEqDiff, Nat.reduceAdd, Nat.reduceLeDiff, Nat.reduceLT, Int.reduceLE, Int.reduceLT, Int.reduceAdd, Int.reduceSub, Int.reduceToNat, Nat.reduceMul]
    refine f_ret _ _ _ ?_
    have hx : x = [] := List.eq_nil_of_length_eq_zero (by omega)
    have hb : bl (nv x) = 0 := by rw [hx]; exact bl_zero
    simp (maxSteps := 1000000) (disch := first | omega | (simp only [LL]; omega)) only [W, V, TY, CC, reduceIte, Nat.reduceEqDiff, Nat.reduceAdd, Nat.reduceLeDiff, Nat.reduceLT, Int.reduceLE, Int.reduceLT, Int.reduceAdd, Int.reduceSub, Int.reduceToNat, Nat.reduceMul, hb]
  · have hne : x ≠ [] := by intro e; rw [e] at hl; simp at hl
    obtain ⟨hb, ht⟩ := bl_nv l1 n1 hne
    have htl := l1.getD (x.length - 1)
    obtain ⟨t, ht2⟩ : ∃ t : Nat, x.getD (x.length - 1) 0 = (t : Int) := ⟨(x.getD (x.length - 1) 0).toNat, by omega⟩
    rw [ht2, Int.toNat_natCast] at hb
    have hb2 := bl_le (n := t) (m := 32) (by omega)
    have hlen : 0 < x.length := List.length_pos_iff.2 hne
    simp (maxSteps := 1000000) (disch := first | omega | (simp only [LL]; omega)) only [W, V, TY, CC, reduceIte, Nat.reduceEqDiff, Nat.reduceAdd, Nat.reduceLeDiff, Nat.reduceLT, Int.reduceLE, Int.reduceLT, Int.reduceAdd, Int.reduceSub, Int.reduceToNat, Nat.reduceMul, ht2]
    refine a_call _ _ (bits_Len32 t (by omega)) (by simp (maxSteps := 1000000) (disch := first | omega | (simp only [LL]; omega)) only [W, V, TY, CC, reduceIte, Nat.reduceEqDiff, Nat.reduceAdd, Nat.reduceLeDiff, Nat.reduceLT, Int.reduceLE, Int.reduceLT, Int.reduceAdd, Int.reduceSub, Int.reduceToNat, Nat.reduceMul]) ?_
    simp (maxSteps := 1000000) (disch := first | omega | (simp only [LL]; omega)) only [W, V, TY, CC, reduceIte, Nat.reduceEqDiff, Nat.reduceAdd, Nat.reduceLeDiff, Nat.reduceLT, Int.reduceLE, Int.reduceLT, Int.reduceAdd, Int.reduceSub, Int.reduceToNat, Nat.reduceMul]
    refine f_ret _ _ _ ?_
    have e : 32 * ((x.length : Int) - 1) + (bl t : Nat) = (bl (nv x) : Nat) := by omega
    simp (maxSteps := 1000000) (disch := first | omega | (simp only [LL]; omega)) only [W, V, TY, CC, reduceIte, Nat.reduceEqDiff, Nat.reduceAdd, Nat.reduceLeDiff, Nat.reduceLT, Int.reduceLE, Int.reduceLT, Int.reduceAdd, Int.reduceSub, Int.reduceToNat, Nat.reduceMul, e]
end Go.Proofs.YtljmgdepldpmdaaGreatDoor.E

set_option linter.unusedSimpArgs false
set_option linter.unusedVariables false
set_option maxHeartbeats 2000000
namespace Go.Proofs.YtljmgdepldpmdaaGreatDoor.E
open Go.RowKit Limbs
theorem kn_top {V n2 : Nat} (hV0 : V < bn (n2 + 2)) (hV1 : bn (n2 + 2) ≤ 2 * V) : 2147483648 ≤ V / bn (n2 + 1) ∧ V / bn (n2 + 1) < 4294967296 ∧ 4294967296 ≤ V / bn n2 := by
  have h1 : bn (n2 + 2) = bn (n2 + 1) * 4294967296 := bn_succ _
  have h2 : bn (n2 + 1) = bn n2 * 4294967296 := bn_succ _
  have p := bn_pos n2
  refine ⟨(Nat.le_div_iff_mul_le (bn_pos _)).2 (by omega), Nat.div_lt_of_lt_mul (by omega), (Nat.le_div_iff_mul_le p).2 (by omega)⟩
theorem kn_lt {A V j n2 : Nat} (hV0 : V < bn (n2 + 2)) (hA : A < V * bn (j + 1)) : A < bn (j + n2 + 3) := by
  have h1 : V * bn (j + 1) ≤ bn (n2 + 2) * bn (j + 1) := Nat.mul_le_mul_right _ (by omega)
  rw [← bn_add] at h1
  have h2 : n2 + 2 + (j + 1) = j + n2 + 3 := by omega
  rw [h2] at h1
  omega
theorem kn_head {A V j n2 : Nat} (hA : A < V * bn (j + 1)) : A / bn (j + n2 + 1) ≤ V / bn n2 := by
  have h1 : A / bn (j + 1) < V := Nat.div_lt_of_lt_mul (by rw [Nat.mul_comm]; exact hA)
  have h2 : A / bn (j + n2 + 1) = A / bn (j + 1) / bn n2 := by rw [Nat.div_div_eq_div_mul, ← bn_add]; congr 2; omega
  rw [h2]
  exact Nat.div_le_div_right (by omega)
theorem kn_digit {A V j n2 : Nat} (hV0 : V < bn (n2 + 2)) (hV1 : bn (n2 + 2) ≤ 2 * V) (hA : A < V * bn (j + 1)) (g : Nat) (hg : g = gs (A / bn (j + n2)) (V / bn n2)) :
    g < 4294967296 ∧ (g * V ≤ A / bn j → bn j * (g * V) ≤ A ∧ A - bn j * (g * V) < V * bn j) ∧ (A / bn j < g * V → 0 < g ∧ (g - 1) * V ≤ A / bn j ∧ bn j * ((g - 1) * V) ≤ A ∧ A - bn j * ((g - 1) * V) < V * bn j) := by
  have pj := bn_pos j
  have pn := bn_pos n2
  obtain ⟨t1, t2, t3⟩ := kn_top hV0 hV1
  have hw : A / bn j < V * 4294967296 := Nat.div_lt_of_lt_mul (by rw [bn_succ, ← Nat.mul_assoc] at hA; rw [Nat.mul_comm (bn j), Nat.mul_right_comm]; exact hA)
  have hH : A / bn (j + n2) = A / bn j / bn n2 := by rw [Nat.div_div_eq_div_mul, ← bn_add]
  rw [hH] at hg
  have hdm := Nat.div_add_mod A (bn j)
  have hmr := Nat.mod_lt A (show bn j > 0 from pj)
  generalize A / bn j = w at *
  have d1 := Nat.div_add_mod w (bn n2)
  have d2 := Nat.div_add_mod V (bn n2)
  obtain ⟨c1, c2⟩ := digit (w := w) (W := V / bn n2) (V := V) (H := w / bn n2) (M := bn n2) (ur := w % bn n2) (vr := V % bn n2) pn (by rw [Nat.mul_comm]; omega) (Nat.mod_lt _ pn) (by rw [Nat.mul_comm]; omega) (Nat.mod_lt _ pn) t3 hw g hg
  have hVp : 0 < V := by
    rcases Nat.eq_zero_or_pos V with h | h
    · rw [h] at t3; simp at t3
    · exact h
  have fin : ∀ q, w / V = q → q * V ≤ w ∧ bn j * (q * V) ≤ A ∧ A - bn j * (q * V) < V * bn j := by
    intro q hq
    have e1 := Nat.div_add_mod w V
    have e2 := Nat.mod_lt w hVp
    rw [hq] at e1
    have e3 : q * V = V * q := Nat.mul_comm _ _
    have e4 : bn j * (q * V) ≤ bn j * w := Nat.mul_le_mul_left _ (by omega)
    have e5 : A - bn j * (q * V) = bn j * (w % V) + A % bn j := by
      have : bn j * w = bn j * (q * V) + bn j * (w % V) := by rw [← Nat.mul_add]; congr 1; omega
      omega
    have e6 : bn j * (w % V + 1) ≤ bn j * V := Nat.mul_le_mul_left _ e2
    rw [Nat.mul_add] at e6
    refine ⟨by omega, by omega, ?_⟩
    rw [e5, Nat.mul_comm V]
    omega
  refine ⟨by rw [hg]; unfold gs; omega, fun h => ?_, fun h => ?_⟩
  · obtain ⟨_, f2, f3⟩ := fin g (c1 h)
    exact ⟨f2, f3⟩
  · obtain ⟨c3, c4⟩ := c2 h
    obtain ⟨f1, f2, f3⟩ := fin (g - 1) c3
    exact ⟨c4, f1, f2, f3⟩
/-- what the two writers leave, by numbers -/
theorem subL_num {A V j n m g : Nat} (hm : j + n + 1 ≤ m) (hA : A < bn (j + n + 1)) : win (lim m A) j n = ((A / bn j : Nat) : Int) ∧ (g * V ≤ A / bn j → bn j * (g * V) ≤ A → subL (lim m A) j n (g * V : Nat) = lim m (A - bn j * (g * V))) ∧ (A / bn j < g * V → bn j * (g * V) ≤ A + bn (j + n + 1) → subL (lim m A) j n (g * V : Nat) = lim m (A + bn (j + n + 1) - bn j * (g * V))) := by
  have hw : win (lim m A) j n = ((A / bn j : Nat) : Int) := lim_win (by omega) (by rwa [← Nat.add_assoc])
  have hAm : A < bn m := Nat.lt_of_lt_of_le hA (by unfold bn; exact Nat.pow_le_pow_right (by omega) hm)
  have e : ((bn j * (g * V) : Nat) : Int) = bp j * ((g * V : Nat) : Int) := by rw [Int.natCast_mul, bn_bp]
  have e2 := bn_bp (j + n + 1)
  refine ⟨hw, fun h1 h2 => ?_, fun h1 h2 => ?_⟩
  · unfold subL
    rw [lim_len, hw, if_neg (by omega), val_lim m A hAm, ← e]
    congr 1
    omega
  · unfold subL
    rw [lim_len, hw, if_pos (by omega), val_lim m A hAm, ← e, ← e2]
    congr 1
    omega
theorem addL_num {A V j n m : Nat} (hm : j + n + 1 ≤ m) (hA : A < bn (j + n + 1)) (h1 : bn (n + 1) ≤ A / bn j + V) (h2 : bn (j + n + 1) ≤ A + bn j * V) : addL (lim m A) j n (V : Nat) = lim m (A + bn j * V - bn (j + n + 1)) := by
  have hw : win (lim m A) j n = ((A / bn j : Nat) : Int) := lim_win (by omega) (by rwa [← Nat.add_assoc])
  have hAm : A < bn m := Nat.lt_of_lt_of_le hA (by unfold bn; exact Nat.pow_le_pow_right (by omega) hm)
  have e : ((bn j * V : Nat) : Int) = bp j * (V : Int) := by rw [Int.natCast_mul, bn_bp]
  have e2 := bn_bp (j + n + 1)
  have e3 := bn_bp (n + 1)
  have hc : bp (n + 1) ≤ ((A / bn j : Nat) : Int) + (V : Int) := by rw [← e3]; omega
  unfold addL
  rw [lim_len, hw, if_pos hc, val_lim m A hAm, ← e, ← e2]
  clear hc e3 e2 e hw hAm h1
  congr 1
  generalize bn j * V = p at *
  generalize bn (j + n + 1) = q at *
  omega
theorem neg_num {A V j n m g : Nat} (hm : j + n + 1 ≤ m) (hV : V < bn n) (hA : A < bn (j + n + 1)) (h : A / bn j < g * V) (g0 : 0 < g) (e2 : bn j * ((g - 1) * V) ≤ A) :
    subL (lim m A) j n (g * V : Nat) = lim m (A + bn (j + n + 1) - bn j * (g * V)) ∧ addL (lim m (A + bn (j + n + 1) - bn j * (g * V))) j n (V : Nat) = lim m (A - bn j * ((g - 1) * V)) := by
  have pj := bn_pos j
  have e3 : bn j * (g * V) = bn j * ((g - 1) * V) + bn j * V := by
    rw [← Nat.mul_add]
    congr 1
    obtain ⟨q, rfl⟩ : ∃ q, g = q + 1 := ⟨g - 1, by omega⟩
    rw [Nat.add_mul, Nat.add_sub_cancel, Nat.one_mul]
  have e4 : bn j * V ≤ bn (j + n) := by rw [bn_add]; exact Nat.mul_le_mul_left _ (by omega)
  have e5 : bn (j + n + 1) = bn j * bn (n + 1) := by rw [Nat.add_assoc, bn_add]
  have e6 : bn (j + n + 1) = bn (j + n) * 4294967296 := bn_succ _
  have e7 : A < bn j * (g * V) := by
    have := Nat.lt_mul_of_div_lt h pj
    rwa [Nat.mul_comm] at this
  obtain ⟨_, _, w3⟩ := subL_num (A := A) (V := V) (g := g) hm hA
  refine ⟨w3 h (by omega), ?_⟩
  have h2 : bn (j + n + 1) ≤ A + bn (j + n + 1) - bn j * (g * V) + bn j * V := by omega
  have h1 : bn (n + 1) ≤ (A + bn (j + n + 1) - bn j * (g * V)) / bn j + V := by
    have : bn (n + 1) - V ≤ (A + bn (j + n + 1) - bn j * (g * V)) / bn j := by
      refine (Nat.le_div_iff_mul_le pj).2 ?_
      rw [Nat.sub_mul, Nat.mul_comm (bn (n + 1)), ← e5, Nat.mul_comm V]
      omega
    omega
  rw [addL_num hm (by omega) h1 h2]
  congr 1
  omega
end Go.Proofs.YtljmgdepldpmdaaGreatDoor.E
