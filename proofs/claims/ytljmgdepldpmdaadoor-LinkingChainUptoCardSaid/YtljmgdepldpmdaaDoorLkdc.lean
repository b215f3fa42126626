/- An abstract interpreter over data, and contracts of the program's functions, part 3; no condition. -/
import Derived.Test.YtljmgdepldpmdaaDoorLkdb
set_option linter.unusedSimpArgs false
set_option linter.unusedVariables false
set_option maxHeartbeats 2000000
namespace Go.Proofs.YtljmgdepldpmdaaDoor.E
open Go.RowKit Limbs
def b50_4 : AC :=
  (.seq (.reg [
    ⟨some 25, .move (.tmp 5), none⟩,
    ⟨some 26, .call ⟨(.builtin .len), #[(.tmp 25)], #[23]⟩, none⟩,
    ⟨some 27, .move (.tmp 6), none⟩,
    ⟨some 28, .call ⟨(.builtin .len), #[(.tmp 27)], #[23]⟩, none⟩,
    ⟨some 29, .binOp .add 3 (.tmp 26) (.tmp 28) 3, none⟩,
    ⟨some 30, .makeSlice 23 (.tmp 29) (.tmp 29), none⟩,
    ⟨some 7, .assign (.tmp 30), none⟩])
  (.seq (.seq (.reg [
    ⟨some 31, .move (.tmp 5), none⟩,
    ⟨some 32, .call ⟨(.builtin .len), #[(.tmp 31)], #[23]⟩, none⟩,
    ⟨some 33, .move (.const (.int .i64 0)), none⟩])
  (.block 0 (.loop (.seq (.reg [
    ⟨some 34, .binOp .lss 3 (.tmp 33) (.tmp 32) 3, none⟩])
  (.seq (.cond (.tmp 34)
    .skip
    (.exit 0))
  (.seq (.block 1 (.seq (.reg [
    ⟨some 35, .move (.tmp 33), none⟩,
    ⟨some 36, .indexAddr 23 (.tmp 31) (.tmp 33), none⟩,
    ⟨some 37, .load 113 (.tmp 36), none⟩,
    ⟨some 8, .assign (.tmp 35), none⟩,
    ⟨some 9, .assign (.tmp 37), none⟩])
  (.seq (.reg [
    ⟨some 10, .assign (.const (.int .u64 0)), none⟩])
  (.seq (.seq (.reg [
    ⟨some 38, .move (.tmp 6), none⟩,
    ⟨some 39, .call ⟨(.builtin .len), #[(.tmp 38)], #[23]⟩, none⟩,
    ⟨some 40, .move (.const (.int .i64 0)), none⟩])
  (.block 2 (.loop (.seq (.reg [
    ⟨some 41, .binOp .lss 3 (.tmp 40) (.tmp 39) 3, none⟩])
  (.seq (.cond (.tmp 41)
    .skip
    (.exit 2))
  (.seq (.block 3 (.seq (.reg [
    ⟨some 42, .move (.tmp 40), none⟩,
    ⟨some 43, .indexAddr 23 (.tmp 38) (.tmp 40), none⟩,
    ⟨some 44, .load 113 (.tmp 43), none⟩,
    ⟨some 11, .assign (.tmp 42), none⟩,
    ⟨some 12, .assign (.tmp 44), none⟩])
  (.seq (.reg [
    ⟨some 45, .move (.tmp 10), none⟩,
    ⟨some 46, .move (.tmp 9), none⟩,
    ⟨some 47, .convert 113 99 (.tmp 46), none⟩,
    ⟨some 48, .move (.tmp 12), none⟩,
    ⟨some 49, .convert 113 99 (.tmp 48), none⟩,
    ⟨some 50, .binOp .mul 99 (.tmp 47) (.tmp 49) 99, none⟩,
    ⟨some 51, .move (.tmp 7), none⟩,
    ⟨some 52, .move (.tmp 8), none⟩,
    ⟨some 53, .move (.tmp 11), none⟩,
    ⟨some 54, .binOp .add 3 (.tmp 52) (.tmp 53) 3, none⟩,
    ⟨some 55, .indexAddr 23 (.tmp 51) (.tmp 54), none⟩,
    ⟨some 56, .load 113 (.tmp 55), none⟩,
    ⟨some 57, .convert 113 99 (.tmp 56), none⟩,
    ⟨some 58, .binOp .add 99 (.tmp 50) (.tmp 57) 99, none⟩,
    ⟨some 59, .binOp .add 99 (.tmp 45) (.tmp 58) 99, none⟩,
    ⟨some 10, .assign (.tmp 59), none⟩])
  (.seq (.reg [
    ⟨some 60, .move (.tmp 7), none⟩,
    ⟨some 61, .move (.tmp 8), none⟩,
    ⟨some 62, .move (.tmp 11), none⟩,
    ⟨some 63, .binOp .add 3 (.tmp 61) (.tmp 62) 3, none⟩,
    ⟨some 64, .move (.tmp 10), none⟩,
    ⟨some 65, .binOp .and 99 (.tmp 64) (.const (.int .u64 4294967295)) 99, none⟩,
    ⟨some 66, .convert 99 113 (.tmp 65), none⟩,
    ⟨some 67, .indexAddr 23 (.tmp 60) (.tmp 63), none⟩,
    ⟨none, .store 113 (.tmp 67) (.tmp 66), none⟩])
  (.reg [
    ⟨some 68, .move (.tmp 10), none⟩,
    ⟨some 69, .binOp .shr 99 (.tmp 68) (.const (.int .u64 32)) 114, none⟩,
    ⟨some 10, .assign (.tmp 69), none⟩])))))
  (.reg [
    ⟨some 70, .binOp .add 3 (.tmp 40) (.const (.int .i64 1)) 3, none⟩,
    ⟨some 40, .move (.tmp 70), none⟩])))))))
  (.reg [
    ⟨some 71, .move (.tmp 7), none⟩,
    ⟨some 72, .move (.tmp 8), none⟩,
    ⟨some 73, .move (.tmp 6), none⟩,
    ⟨some 74, .call ⟨(.builtin .len), #[(.tmp 73)], #[23]⟩, none⟩,
    ⟨some 75, .binOp .add 3 (.tmp 72) (.tmp 74) 3, none⟩,
    ⟨some 76, .move (.tmp 10), none⟩,
    ⟨some 77, .convert 99 113 (.tmp 76), none⟩,
    ⟨some 78, .indexAddr 23 (.tmp 71) (.tmp 75), none⟩,
    ⟨none, .store 113 (.tmp 78) (.tmp 77), none⟩])))))
  (.reg [
    ⟨some 79, .binOp .add 3 (.tmp 33) (.const (.int .i64 1)) 3, none⟩,
    ⟨some 33, .move (.tmp 79), none⟩])))))))
  (.seq (.seq (.gh [.frz 7])
  (.reg [
    ⟨some 80, .move (.tmp 7), none⟩,
    ⟨some 81, .call ⟨(.value (.func 82)), #[(.tmp 80)], #[23]⟩, none⟩,
    ⟨some 4, .assign (.tmp 81), none⟩]))
  .ret)))
/-- examboard/nat.Mul -/
def b50 : AF := ⟨82, 2, [.tmp 4],
  (.seq (.reg [
    ⟨some 4, .assign (.const (.slice none 0 0)), none⟩])
  (.seq (.reg [
    ⟨some 13, .move (.tmp 0), none⟩,
    ⟨some 14, .call ⟨(.value (.func 82)), #[(.tmp 13)], #[23]⟩, none⟩,
    ⟨some 15, .move (.tmp 1), none⟩,
    ⟨some 16, .call ⟨(.value (.func 82)), #[(.tmp 15)], #[23]⟩, none⟩,
    ⟨some 5, .assign (.tmp 14), none⟩,
    ⟨some 6, .assign (.tmp 16), none⟩])
  (.seq (.seq (.reg [
    ⟨some 17, .move (.tmp 5), none⟩,
    ⟨some 18, .call ⟨(.builtin .len), #[(.tmp 17)], #[23]⟩, none⟩,
    ⟨some 19, .binOp .eql 3 (.tmp 18) (.const (.int .i64 0)) 3, none⟩,
    ⟨some 20, .move (.tmp 19), none⟩,
    ⟨some 21, .move (.tmp 6), some (20, false)⟩,
    ⟨some 22, .call ⟨(.builtin .len), #[(.tmp 21)], #[23]⟩, some (20, false)⟩,
    ⟨some 23, .binOp .eql 3 (.tmp 22) (.const (.int .i64 0)) 3, some (20, false)⟩,
    ⟨some 24, .pick (.tmp 20) (.const (.bool true)) (.tmp 23), none⟩])
  (.cond (.tmp 24)
    (.seq (.reg [
      ⟨some 4, .assign (.const (.slice none 0 0)), none⟩])
    .ret)
    .skip))
  b50_4)))⟩
theorem c50 : fcomp Tryd.prog 50 = ⟨b50.n, b50.np, b50.res, b50.body.bare⟩ := by kernel_rfl
theorem k50 : fok Tryd.prog 50 = true := by kernel_rfl
theorem nat_Mul_rest (x y : List Int) (l1 : Lim x) (l2 : Lim y) (hx : x.length < 4398046511104) (hy : y.length < 4398046511104) (s : AS) (t5 : s.t 5 = .one (.dt (natD x))) (t6 : s.t 6 = .one (.dt (natD y))) (g30 : s.g 30 = 0) :
    awp Tryd.prog b50_4 (fend Tryd.prog [.tmp 4] [.one (natD (nl (nv x * nv y)))]) s := by
  unfold b50_4
  simp (maxSteps:=1000000) (disch:=first | omega | (simp only [LL];omega)) only [W,V,TY,CC,reduceIte,Nat.reduceEqDiff,Nat.reduceAdd,Nat.reduceLeDiff,Nat.reduceLT,Int.reduceLE,Int.reduceLT,Int.reduceAdd,Int.reduceSub,Int.reduceToNat,Nat.reduceMul,t5,t6,g30]
  refine w_loop (fun n s => ∃ (i : Nat) (D : List Int), n + i = x.length ∧ s.t 6 = .one (.dt (natD y)) ∧ s.t 31 = .one (.dt (natD x)) ∧ s.t 32 = .one (.dt (.lit (.int .i64 x.length))) ∧ s.t 33 = .one (.dt (.lit (.int .i64 i))) ∧ s.t 7 = .one (.row (30, 0) 0) ∧ s.r (30, 0) = some ⟨113, 1, x.length + y.length, natC D, 0, true⟩ ∧ D.length = x.length + y.length ∧ Lim D ∧ (∀ j, i + y.length ≤ j → D.getD j 0 = 0) ∧ val D = val (x.take i) * val y) x.length ⟨0, List.replicate (x.length + y.length) 0, rfl, ?_, ?_, ?_, ?_, ?_, ?_, by simp, Lim.replicate _, fun j _ => ?_, by rw [val_replicate, List.take_zero, val_nil, Int.zero_mul]⟩ ?_
  · simp (maxSteps:=1000000) (disch:=first | omega | (simp only [LL];omega)) only [W,V,TY,CC,reduceIte,Nat.reduceEqDiff,Nat.reduceAdd,Nat.reduceLeDiff,Nat.reduceLT,Int.reduceLE,Int.reduceLT,Int.reduceAdd,Int.reduceSub,Int.reduceToNat,Nat.reduceMul,t5,t6,g30]
  · simp (maxSteps:=1000000) (disch:=first | omega | (simp only [LL];omega)) only [W,V,TY,CC,reduceIte,Nat.reduceEqDiff,Nat.reduceAdd,Nat.reduceLeDiff,Nat.reduceLT,Int.reduceLE,Int.reduceLT,Int.reduceAdd,Int.reduceSub,Int.reduceToNat,Nat.reduceMul,t5,t6,g30]
  · simp (maxSteps:=1000000) (disch:=first | omega | (simp only [LL];omega)) only [W,V,TY,CC,reduceIte,Nat.reduceEqDiff,Nat.reduceAdd,Nat.reduceLeDiff,Nat.reduceLT,Int.reduceLE,Int.reduceLT,Int.reduceAdd,Int.reduceSub,Int.reduceToNat,Nat.reduceMul,t5,t6,g30]
  · simp (maxSteps:=1000000) (disch:=first | omega | (simp only [LL];omega)) only [W,V,TY,CC,reduceIte,Nat.reduceEqDiff,Nat.reduceAdd,Nat.reduceLeDiff,Nat.reduceLT,Int.reduceLE,Int.reduceLT,Int.reduceAdd,Int.reduceSub,Int.reduceToNat,Nat.reduceMul,t5,t6,g30]
  · simp (maxSteps:=1000000) (disch:=first | omega | (simp only [LL];omega)) only [W,V,TY,CC,reduceIte,Nat.reduceEqDiff,Nat.reduceAdd,Nat.reduceLeDiff,Nat.reduceLT,Int.reduceLE,Int.reduceLT,Int.reduceAdd,Int.reduceSub,Int.reduceToNat,Nat.reduceMul,t5,t6,g30]
  · simp (maxSteps:=1000000) (disch:=first | omega | (simp only [LL];omega)) only [W,V,TY,CC,reduceIte,Nat.reduceEqDiff,Nat.reduceAdd,Nat.reduceLeDiff,Nat.reduceLT,Int.reduceLE,Int.reduceLT,Int.reduceAdd,Int.reduceSub,Int.reduceToNat,Nat.reduceMul,t5,t6,g30]
  · rw [List.getD_eq_getElem?_getD, List.getElem?_replicate]; split <;> rfl
  clear t5 t6 g30
  intro n s _ ⟨i, D0, e, t6, t31, t32, t33, t7, r7, hD, lD, hz, hv⟩
  simp (maxSteps:=1000000) (disch:=first | omega | (simp only [LL];omega)) only [W,V,TY,CC,reduceIte,Nat.reduceEqDiff,Nat.reduceAdd,Nat.reduceLeDiff,Nat.reduceLT,Int.reduceLE,Int.reduceLT,Int.reduceAdd,Int.reduceSub,Int.reduceToNat,Nat.reduceMul,t6,t31,t32,t33,t7]
  refine c_split (fun hi => ?_) (fun hi => ?_)
  · have hp := l1.getD i
    simp (maxSteps:=1000000) (disch:=first | omega | (simp only [LL];omega)) only [W,V,TY,CC,reduceIte,Nat.reduceEqDiff,Nat.reduceAdd,Nat.reduceLeDiff,Nat.reduceLT,Int.reduceLE,Int.reduceLT,Int.reduceAdd,Int.reduceSub,Int.reduceToNat,Nat.reduceMul,t6,t31,t32,t33,t7]
    refine w_loop (fun m s => ∃ (k : Nat) (D : List Int) (c : Int), m + k = y.length ∧ s.t 6 = .one (.dt (natD y)) ∧ s.t 31 = .one (.dt (natD x)) ∧ s.t 32 = .one (.dt (.lit (.int .i64 x.length))) ∧ s.t 33 = .one (.dt (.lit (.int .i64 i))) ∧ s.t 7 = .one (.row (30, 0) 0) ∧ s.r (30, 0) = some ⟨113, 1, x.length + y.length, natC D, 0, true⟩ ∧ s.t 8 = .one (.dt (.lit (.int .i64 i))) ∧ s.t 9 = .one (.dt (.lit (.int .u32 (x.getD i 0)))) ∧ s.t 38 = .one (.dt (natD y)) ∧ s.t 39 = .one (.dt (.lit (.int .i64 y.length))) ∧ s.t 40 = .one (.dt (.lit (.int .i64 k))) ∧ s.t 10 = .one (.dt (.lit (.int .u64 c))) ∧ D.length = x.length + y.length ∧ Lim D ∧ (∀ j, i + y.length ≤ j → D.getD j 0 = 0) ∧ 0 ≤ c ∧ c < 4294967296 ∧ val D + bp (i + k) * c = val D0 + bp i * (x.getD i 0 * val (y.take k))) y.length ⟨0, D0, 0, rfl, ?_, ?_, ?_, ?_, ?_, ?_, ?_, ?_, ?_, ?_, ?_, ?_, hD, lD, hz, by omega, by omega, by simp [val]⟩ ?_
    · simp (maxSteps:=1000000) (disch:=first | omega | (simp only [LL];omega)) only [W,V,TY,CC,reduceIte,Nat.reduceEqDiff,Nat.reduceAdd,Nat.reduceLeDiff,Nat.reduceLT,Int.reduceLE,Int.reduceLT,Int.reduceAdd,Int.reduceSub,Int.reduceToNat,Nat.reduceMul,t6,t31,t32,t33,t7,r7]
    · simp (maxSteps:=1000000) (disch:=first | omega | (simp only [LL];omega)) only [W,V,TY,CC,reduceIte,Nat.reduceEqDiff,Nat.reduceAdd,Nat.reduceLeDiff,Nat.reduceLT,Int.reduceLE,Int.reduceLT,Int.reduceAdd,Int.reduceSub,Int.reduceToNat,Nat.reduceMul,t6,t31,t32,t33,t7,r7]
    · simp (maxSteps:=1000000) (disch:=first | omega | (simp only [LL];omega)) only [W,V,TY,CC,reduceIte,Nat.reduceEqDiff,Nat.reduceAdd,Nat.reduceLeDiff,Nat.reduceLT,Int.reduceLE,Int.reduceLT,Int.reduceAdd,Int.reduceSub,Int.reduceToNat,Nat.reduceMul,t6,t31,t32,t33,t7,r7]
    · simp (maxSteps:=1000000) (disch:=first | omega | (simp only [LL];omega)) only [W,V,TY,CC,reduceIte,Nat.reduceEqDiff,Nat.reduceAdd,Nat.reduceLeDiff,Nat.reduceLT,Int.reduceLE,Int.reduceLT,Int.reduceAdd,Int.reduceSub,Int.reduceToNat,Nat.reduceMul,t6,t31,t32,t33,t7,r7]
    · simp (maxSteps:=1000000) (disch:=first | omega | (simp only [LL];omega)) only [W,V,TY,CC,reduceIte,Nat.reduceEqDiff,Nat.reduceAdd,Nat.reduceLeDiff,Nat.reduceLT,Int.reduceLE,Int.reduceLT,Int.reduceAdd,Int.reduceSub,Int.reduceToNat,Nat.reduceMul,t6,t31,t32,t33,t7,r7]
    · simp (maxSteps:=1000000) (disch:=first | omega | (simp only [LL];omega)) only [W,V,TY,CC,reduceIte,Nat.reduceEqDiff,Nat.reduceAdd,Nat.reduceLeDiff,Nat.reduceLT,Int.reduceLE,Int.reduceLT,Int.reduceAdd,Int.reduceSub,Int.reduceToNat,Nat.reduceMul,t6,t31,t32,t33,t7,r7]
    · simp (maxSteps:=1000000) (disch:=first | omega | (simp only [LL];omega)) only [W,V,TY,CC,reduceIte,Nat.reduceEqDiff,Nat.reduceAdd,Nat.reduceLeDiff,Nat.reduceLT,Int.reduceLE,Int.reduceLT,Int.reduceAdd,Int.reduceSub,Int.reduceToNat,Nat.reduceMul,t6,t31,t32,t33,t7,r7]
    · simp (maxSteps:=1000000) (disch:=first | omega | (simp only [LL];omega)) only [W,V,TY,CC,reduceIte,Nat.reduceEqDiff,Nat.reduceAdd,Nat.reduceLeDiff,Nat.reduceLT,Int.reduceLE,Int.reduceLT,Int.reduceAdd,Int.reduceSub,Int.reduceToNat,Nat.reduceMul,t6,t31,t32,t33,t7,r7]
    · simp (maxSteps:=1000000) (disch:=first | omega | (simp only [LL];omega)) only [W,V,TY,CC,reduceIte,Nat.reduceEqDiff,Nat.reduceAdd,Nat.reduceLeDiff,Nat.reduceLT,Int.reduceLE,Int.reduceLT,Int.reduceAdd,Int.reduceSub,Int.reduceToNat,Nat.reduceMul,t6,t31,t32,t33,t7,r7]
    · simp (maxSteps:=1000000) (disch:=first | omega | (simp only [LL];omega)) only [W,V,TY,CC,reduceIte,Nat.reduceEqDiff,Nat.reduceAdd,Nat.reduceLeDiff,Nat.reduceLT,Int.reduceLE,Int.reduceLT,Int.reduceAdd,Int.reduceSub,Int.reduceToNat,Nat.reduceMul,t6,t31,t32,t33,t7,r7]
    · simp (maxSteps:=1000000) (disch:=first | omega | (simp only [LL];omega)) only [W,V,TY,CC,reduceIte,Nat.reduceEqDiff,Nat.reduceAdd,Nat.reduceLeDiff,Nat.reduceLT,Int.reduceLE,Int.reduceLT,Int.reduceAdd,Int.reduceSub,Int.reduceToNat,Nat.reduceMul,t6,t31,t32,t33,t7,r7]
    · simp (maxSteps:=1000000) (disch:=first | omega | (simp only [LL];omega)) only [W,V,TY,CC,reduceIte,Nat.reduceEqDiff,Nat.reduceAdd,Nat.reduceLeDiff,Nat.reduceLT,Int.reduceLE,Int.reduceLT,Int.reduceAdd,Int.reduceSub,Int.reduceToNat,Nat.reduceMul,t6,t31,t32,t33,t7,r7]
    clear t6 t31 t32 t33 t7 r7 hD lD hz
    intro m s _ ⟨k, D, c, em, t6, t31, t32, t33, t7, r7, t8, t9, t38, t39, t40, t10, hD, lD, hz, c0, c1, hw⟩
    simp (maxSteps:=1000000) (disch:=first | omega | (simp only [LL];omega)) only [W,V,TY,CC,reduceIte,Nat.reduceEqDiff,Nat.reduceAdd,Nat.reduceLeDiff,Nat.reduceLT,Int.reduceLE,Int.reduceLT,Int.reduceAdd,Int.reduceSub,Int.reduceToNat,Nat.reduceMul,t6,t31,t32,t33,t7,t8,t9,t38,t39,t40,t10]
    refine c_split (fun hk => ?_) (fun hk => ?_)
    · have hq := l2.getD k
      have hd := lD.getD (i + k)
      obtain ⟨b0, b1⟩ := mul_bound hp.1 hp.2 hq.1 hq.2
      simp (maxSteps:=1000000) (disch:=first | omega | (simp only [LL];omega)) only [W,V,TY,CC,reduceIte,Nat.reduceEqDiff,Nat.reduceAdd,Nat.reduceLeDiff,Nat.reduceLT,Int.reduceLE,Int.reduceLT,Int.reduceAdd,Int.reduceSub,Int.reduceToNat,Nat.reduceMul,t6,t31,t32,t33,t7,r7,t8,t9,t38,t39,t40,t10]
      refine ⟨⟨by omega, by omega⟩, ⟨by omega, by omega⟩, by omega, m - 1, by omega, k + 1, D.set (i + k) ((c + (x.getD i 0 * y.getD k 0 + D.getD (i + k) 0)) % 4294967296), (c + (x.getD i 0 * y.getD k 0 + D.getD (i + k) 0)) / 4294967296, by omega, rfl, rfl, rfl, by simp [hD], lD.set _ (by omega) (by omega), fun j hj => by rw [Limbs.getD_set_ne (by omega)]; exact hz j hj, by omega, by omega, ?_⟩
      rw [val_set_getD (by omega), val_take_getD (show k < y.length by omega), show i + (k + 1) = i + k + 1 from rfl, bp_succ]
      have hb := bp_add i k
      have ht := Int.emod_add_mul_ediv (c + (x.getD i 0 * y.getD k 0 + D.getD (i + k) 0)) 4294967296
      generalize (c + (x.getD i 0 * y.getD k 0 + D.getD (i + k) 0)) % 4294967296 = r at *
      generalize (c + (x.getD i 0 * y.getD k 0 + D.getD (i + k) 0)) / 4294967296 = q at *
      generalize x.getD i 0 = xi at *
      generalize y.getD k 0 = yk at *
      generalize D.getD (i + k) 0 = dk at *
      clear t6 t31 t32 t33 t7 r7 t8 t9 t38 t39 t40 t10 hz lD l1 l2 hv
      grind
    · simp (maxSteps:=1000000) (disch:=first | omega | (simp only [LL];omega)) only [W,V,TY,CC,reduceIte,Nat.reduceEqDiff,Nat.reduceAdd,Nat.reduceLeDiff,Nat.reduceLT,Int.reduceLE,Int.reduceLT,Int.reduceAdd,Int.reduceSub,Int.reduceToNat,Nat.reduceMul,t6,t31,t32,t33,t7,r7,t8,t9,t38,t39,t40,t10]
      have hk' : k = y.length := by omega
      rw [hk', List.take_of_length_le (Nat.le_refl _)] at hw
      refine ⟨⟨by omega, by omega⟩, by omega, n - 1, by omega, i + 1, D.set (i + y.length) c, by omega, rfl, rfl, by simp [hD], lD.set _ c0 c1, fun j hj => by rw [Limbs.getD_set_ne (by omega)]; exact hz j (by omega), ?_⟩
      rw [val_set_getD (by omega), hz _ (Nat.le_refl _), val_take_getD (show i < x.length by omega)]
      generalize x.getD i 0 = xi at *
      clear t6 t31 t32 t33 t7 r7 t8 t9 t38 t39 t40 t10 hz lD l1 l2
      grind
  · simp (maxSteps:=1000000) (disch:=first | omega | (simp only [LL];omega)) only [W,V,TY,CC,reduceIte,Nat.reduceEqDiff,Nat.reduceAdd,Nat.reduceLeDiff,Nat.reduceLT,Int.reduceLE,Int.reduceLT,Int.reduceAdd,Int.reduceSub,Int.reduceToNat,Nat.reduceMul,t6,t31,t32,t33,t7,r7]
    refine a_call _ _ (nat_trim D0 lD (by omega)) (by simp (maxSteps:=1000000) (disch:=first | omega | (simp only [LL];omega)) only [W,V,TY,CC,reduceIte,Nat.reduceEqDiff,Nat.reduceAdd,Nat.reduceLeDiff,Nat.reduceLT,Int.reduceLE,Int.reduceLT,Int.reduceAdd,Int.reduceSub,Int.reduceToNat,Nat.reduceMul,t6,t31,t32,t33,t7,r7]) ?_
    simp (maxSteps:=1000000) (disch:=first | omega | (simp only [LL];omega)) only [W,V,TY,CC,reduceIte,Nat.reduceEqDiff,Nat.reduceAdd,Nat.reduceLeDiff,Nat.reduceLT,Int.reduceLE,Int.reduceLT,Int.reduceAdd,Int.reduceSub,Int.reduceToNat,Nat.reduceMul]
    refine f_ret _ _ _ ?_
    rw [List.take_of_length_le (by omega)] at hv
    have hres : tr D0 = nl (nv x * nv y) := by unfold tr; congr 1; have h1 := nv_eq lD; have h2 := nv_eq l1; have h3 := nv_eq l2; rw [hv, ← h2, ← h3, ← Int.natCast_mul] at h1; omega
    simp (maxSteps:=1000000) (disch:=first | omega | (simp only [LL];omega)) only [W,V,TY,CC,reduceIte,Nat.reduceEqDiff,Nat.reduceAdd,Nat.reduceLeDiff,Nat.reduceLT,Int.reduceLE,Int.reduceLT,Int.reduceAdd,Int.reduceSub,Int.reduceToNat,Nat.reduceMul,hres]
theorem nat_Mul (a b : List Int) (ha : Lim a) (hb : Lim b) (la : a.length < 4398046511104) (lb : b.length < 4398046511104) : AFun Tryd.prog 50 [.one (natD a), .one (natD b)] [.one (natD (nl (nv a * nv b)))] := by
  refine afun_intro mo_ _ _ c50 k50 _ _ rfl (by decide) ?_
  unfold b50
  have h1 := tr_len ha
  have h2 := tr_len hb
  have l1 := tr_lim a
  have l2 := tr_lim b
  have v1 : nv (tr a) = nv a := by unfold nv; rw [val_tr ha]
  have v2 : nv (tr b) = nv b := by unfold nv; rw [val_tr hb]
  rw [← v1, ← v2]
  simp (maxSteps:=1000000) (disch:=first | omega | (simp only [LL];omega)) only [W,V,TY,CC,reduceIte,Nat.reduceEqDiff,Nat.reduceAdd,Nat.reduceLeDiff,Nat.reduceLT,Int.reduceLE,Int.reduceLT,Int.reduceAdd,Int.reduceSub,Int.reduceToNat,Nat.reduceMul]
  refine a_call _ _ (nat_trim a ha (by omega)) rfl ?_
  simp (maxSteps:=1000000) (disch:=first | omega | (simp only [LL];omega)) only [W,V,TY,CC,reduceIte,Nat.reduceEqDiff,Nat.reduceAdd,Nat.reduceLeDiff,Nat.reduceLT,Int.reduceLE,Int.reduceLT,Int.reduceAdd,Int.reduceSub,Int.reduceToNat,Nat.reduceMul]
  refine a_call _ _ (nat_trim b hb (by omega)) rfl ?_
  simp (maxSteps:=1000000) (disch:=first | omega | (simp only [LL];omega)) only [W,V,TY,CC,reduceIte,Nat.reduceEqDiff,Nat.reduceAdd,Nat.reduceLeDiff,Nat.reduceLT,Int.reduceLE,Int.reduceLT,Int.reduceAdd,Int.reduceSub,Int.reduceToNat,Nat.reduceMul]
  generalize tr a = x at *
  generalize tr b = y at *
  by_cases hx : (x.length : Int) = 0
  · simp (maxSteps:=1000000) (disch:=first | omega | (simp only [LL];omega)) only [W,V,TY,CC,reduceIte,Nat.reduceEqDiff,Nat.reduceAdd,Nat.reduceLeDiff,Nat.reduceLT,Int.reduceLE,Int.reduceLT,Int.reduceAdd,Int.reduceSub,Int.reduceToNat,Nat.reduceMul,hx]
    refine f_ret _ _ _ ?_
    have hx0 : x = [] := List.eq_nil_of_length_eq_zero (by omega)
    have hres : nl (nv x * nv y) = [] := by rw [hx0, show nv [] = 0 from rfl, Nat.zero_mul, nl_zero]
    simp (maxSteps:=1000000) (disch:=first | omega | (simp only [LL];omega)) only [W,V,TY,CC,reduceIte,Nat.reduceEqDiff,Nat.reduceAdd,Nat.reduceLeDiff,Nat.reduceLT,Int.reduceLE,Int.reduceLT,Int.reduceAdd,Int.reduceSub,Int.reduceToNat,Nat.reduceMul,hres]
    rfl
  · by_cases hy : (y.length : Int) = 0
    · simp (maxSteps:=1000000) (disch:=first | omega | (simp only [LL];omega)) only [W,V,TY,CC,reduceIte,Nat.reduceEqDiff,Nat.reduceAdd,Nat.reduceLeDiff,Nat.reduceLT,Int.reduceLE,Int.reduceLT,Int.reduceAdd,Int.reduceSub,Int.reduceToNat,Nat.reduceMul,hx,hy]
      refine f_ret _ _ _ ?_
      have hy0 : y = [] := List.eq_nil_of_length_eq_zero (by omega)
      have hres : nl (nv x * nv y) = [] := by rw [hy0, show nv [] = 0 from rfl, Nat.mul_zero, nl_zero]
      simp (maxSteps:=1000000) (disch:=first | omega | (simp only [LL];omega)) only [W,V,TY,CC,reduceIte,Nat.reduceEqDiff,Nat.reduceAdd,Nat.reduceLeDiff,Nat.reduceLT,Int.reduceLE,Int.reduceLT,Int.reduceAdd,Int.reduceSub,Int.reduceToNat,Nat.reduceMul,hres]
      rfl
    · simp (maxSteps:=1000000) (disch:=first | omega | (simp only [LL];omega)) only [W,V,TY,CC,reduceIte,Nat.reduceEqDiff,Nat.reduceAdd,Nat.reduceLeDiff,Nat.reduceLT,Int.reduceLE,Int.reduceLT,Int.reduceAdd,Int.reduceSub,Int.reduceToNat,Nat.reduceMul,hx,hy]
      refine nat_Mul_rest x y l1 l2 (by omega) (by omega) _ ?_ ?_ ?_
      · simp (maxSteps:=1000000) (disch:=first | omega | (simp only [LL];omega)) only [W,V,TY,CC,reduceIte,Nat.reduceEqDiff,Nat.reduceAdd,Nat.reduceLeDiff,Nat.reduceLT,Int.reduceLE,Int.reduceLT,Int.reduceAdd,Int.reduceSub,Int.reduceToNat,Nat.reduceMul]
      · simp (maxSteps:=1000000) (disch:=first | omega | (simp only [LL];omega)) only [W,V,TY,CC,reduceIte,Nat.reduceEqDiff,Nat.reduceAdd,Nat.reduceLeDiff,Nat.reduceLT,Int.reduceLE,Int.reduceLT,Int.reduceAdd,Int.reduceSub,Int.reduceToNat,Nat.reduceMul]
      · simp (maxSteps:=1000000) (disch:=first | omega | (simp only [LL];omega)) only [W,V,TY,CC,reduceIte,Nat.reduceEqDiff,Nat.reduceAdd,Nat.reduceLeDiff,Nat.reduceLT,Int.reduceLE,Int.reduceLT,Int.reduceAdd,Int.reduceSub,Int.reduceToNat,Nat.reduceMul]
end Go.Proofs.YtljmgdepldpmdaaDoor.E

set_option linter.unusedSimpArgs false
set_option linter.unusedVariables false
set_option maxHeartbeats 2000000
namespace Go.Proofs.YtljmgdepldpmdaaDoor.E
open Go.RowKit Limbs
end Go.Proofs.YtljmgdepldpmdaaDoor.E

set_option linter.unusedSimpArgs false
set_option linter.unusedVariables false
set_option maxHeartbeats 2000000
namespace Go.Proofs.YtljmgdepldpmdaaDoor.E
open Go.RowKit Limbs
end Go.Proofs.YtljmgdepldpmdaaDoor.E

set_option linter.unusedSimpArgs false
set_option linter.unusedVariables false
set_option maxHeartbeats 2000000
namespace Go.Proofs.YtljmgdepldpmdaaDoor.E
open Go.RowKit Limbs
end Go.Proofs.YtljmgdepldpmdaaDoor.E

set_option linter.unusedSimpArgs false
set_option linter.unusedVariables false
set_option maxHeartbeats 2000000
namespace Go.Proofs.YtljmgdepldpmdaaDoor.E
open Go.RowKit Limbs
end Go.Proofs.YtljmgdepldpmdaaDoor.E

set_option linter.unusedSimpArgs false
set_option linter.unusedVariables false
set_option maxHeartbeats 2000000
namespace Go.Proofs.YtljmgdepldpmdaaDoor.E
open Go.RowKit Limbs
theorem div_bound {r a d : Int} (h0 : 0 ≤ r) (h1 : r < d) (h2 : 0 ≤ a) (h3 : a < 4294967296) : 0 ≤ (r * 4294967296 + a) / d ∧ (r * 4294967296 + a) / d < 4294967296 ∧ 0 ≤ (r * 4294967296 + a) % d ∧ (r * 4294967296 + a) % d < d ∧ d * ((r * 4294967296 + a) / d) + (r * 4294967296 + a) % d = r * 4294967296 + a := by
  have hd : 0 < d := by omega
  refine ⟨Int.ediv_nonneg (by omega) (by omega), Int.ediv_lt_of_lt_mul hd ?_, Int.emod_nonneg _ (by omega), Int.emod_lt_of_pos _ hd, Int.mul_ediv_add_emod _ _⟩
  have := Int.mul_le_mul_of_nonneg_right (show r + 1 ≤ d by omega) (show (0 : Int) ≤ 4294967296 by omega)
  rw [Int.mul_comm 4294967296 d]
  omega
theorem drop_set_eq {l : List Int} {j : Nat} (h : j < l.length) (q : Int) : (l.set j q).drop j = q :: l.drop (j + 1) := by
  rw [List.drop_eq_getElem_cons (by simpa using h), List.getElem_set_self, List.drop_set_of_lt (by omega)]
/-- examboard/nat.divSmall -/
def b88 : AF := ⟨43, 2, [.tmp 4, .tmp 5],
  (.seq (.reg [
    ⟨some 4, .assign (.const (.slice none 0 0)), none⟩,
    ⟨some 5, .assign (.const (.int .u32 0)), none⟩])
  (.seq (.reg [
    ⟨some 9, .move (.tmp 0), none⟩,
    ⟨some 10, .call ⟨(.builtin .len), #[(.tmp 9)], #[23]⟩, none⟩,
    ⟨some 11, .makeSlice 23 (.tmp 10) (.tmp 10), none⟩,
    ⟨some 6, .assign (.tmp 11), none⟩])
  (.seq (.reg [
    ⟨some 7, .assign (.const (.int .u64 0)), none⟩])
  (.seq (.seq (.reg [
    ⟨some 12, .move (.tmp 0), none⟩,
    ⟨some 13, .call ⟨(.builtin .len), #[(.tmp 12)], #[23]⟩, none⟩,
    ⟨some 14, .binOp .sub 3 (.tmp 13) (.const (.int .i64 1)) 3, none⟩,
    ⟨some 8, .assign (.tmp 14), none⟩])
  (.block 0 (.loop (.seq (.seq (.reg [
    ⟨some 15, .move (.tmp 8), none⟩,
    ⟨some 16, .binOp .geq 3 (.tmp 15) (.const (.int .i64 0)) 3, none⟩])
  (.cond (.tmp 16)
    .skip
    (.exit 0)))
  (.seq (.block 1 (.seq (.reg [
    ⟨some 19, .move (.tmp 7), none⟩,
    ⟨some 20, .binOp .shl 99 (.tmp 19) (.const (.int .u64 32)) 114, none⟩,
    ⟨some 21, .move (.tmp 0), none⟩,
    ⟨some 22, .move (.tmp 8), none⟩,
    ⟨some 23, .indexAddr 23 (.tmp 21) (.tmp 22), none⟩,
    ⟨some 24, .load 113 (.tmp 23), none⟩,
    ⟨some 25, .convert 113 99 (.tmp 24), none⟩,
    ⟨some 26, .binOp .or 99 (.tmp 20) (.tmp 25) 99, none⟩,
    ⟨some 7, .assign (.tmp 26), none⟩])
  (.seq (.reg [
    ⟨some 27, .move (.tmp 6), none⟩,
    ⟨some 28, .move (.tmp 8), none⟩,
    ⟨some 29, .move (.tmp 7), none⟩,
    ⟨some 30, .move (.tmp 1), none⟩,
    ⟨some 31, .convert 113 99 (.tmp 30), none⟩,
    ⟨some 32, .binOp .quo 99 (.tmp 29) (.tmp 31) 99, none⟩,
    ⟨some 33, .convert 99 113 (.tmp 32), none⟩,
    ⟨some 34, .indexAddr 23 (.tmp 27) (.tmp 28), none⟩,
    ⟨none, .store 113 (.tmp 34) (.tmp 33), none⟩])
  (.reg [
    ⟨some 35, .move (.tmp 7), none⟩,
    ⟨some 36, .move (.tmp 1), none⟩,
    ⟨some 37, .convert 113 99 (.tmp 36), none⟩,
    ⟨some 38, .binOp .rem 99 (.tmp 35) (.tmp 37) 99, none⟩,
    ⟨some 7, .assign (.tmp 38), none⟩]))))
  (.reg [
    ⟨some 17, .move (.tmp 8), none⟩,
    ⟨some 18, .binOp .sub 3 (.tmp 17) (.const (.int .i64 1)) 3, none⟩,
    ⟨some 8, .assign (.tmp 18), none⟩]))))))
  (.seq (.seq (.gh [.frz 6])
  (.reg [
    ⟨some 39, .move (.tmp 6), none⟩,
    ⟨some 40, .call ⟨(.value (.func 82)), #[(.tmp 39)], #[23]⟩, none⟩,
    ⟨some 41, .move (.tmp 7), none⟩,
    ⟨some 42, .convert 99 113 (.tmp 41), none⟩,
    ⟨some 4, .assign (.tmp 40), none⟩,
    ⟨some 5, .assign (.tmp 42), none⟩]))
  .ret)))))⟩
theorem c88 : fcomp Tryd.prog 88 = ⟨b88.n, b88.np, b88.res, b88.body.bare⟩ := by kernel_rfl
theorem k88 : fok Tryd.prog 88 = true := by kernel_rfl
theorem nat_divSmall (a : List Int) (d : Int) (ha : Lim a) (la : a.length < 8796093022208) (d0 : 0 < d) (d1 : d < 4294967296) : AFun Tryd.prog 88 [.one (natD a), .one (.lit (.int .u32 d))] [.one (natD (nl (nv a / d.toNat))), .one (.lit (.int .u32 (nv a % d.toNat : Nat)))] := by
  refine afun_intro mo_ _ _ c88 k88 _ _ rfl (by decide) ?_
  unfold b88
  simp (maxSteps:=1000000) (disch:=first | omega | (simp only [LL];omega)) only [W,V,TY,CC,reduceIte,Nat.reduceEqDiff,Nat.reduceAdd,Nat.reduceLeDiff,Nat.reduceLT,Int.reduceLE,Int.reduceLT,Int.reduceAdd,Int.reduceSub,Int.reduceToNat,Nat.reduceMul]
  refine w_loop (fun n s => ∃ (i : Nat) (D : List Int) (r : Int), n = i ∧ i ≤ a.length ∧ s.t 0 = .one (.dt (natD a)) ∧ s.t 1 = .one (.dt (.lit (.int .u32 d))) ∧ s.t 8 = .one (.dt (.lit (.int .i64 (i - 1)))) ∧ s.t 6 = .one (.row (11, 0) 0) ∧ s.r (11, 0) = some ⟨113, 1, a.length, natC D, 0, true⟩ ∧ s.t 7 = .one (.dt (.lit (.int .u64 r))) ∧ D.length = a.length ∧ Lim D ∧ 0 ≤ r ∧ r < d ∧ val (a.drop i) = d * val (D.drop i) + r) a.length ⟨a.length, List.replicate a.length 0, 0, rfl, Nat.le_refl _, ?_, ?_, ?_, ?_, ?_, ?_, by simp, Lim.replicate _, by omega, by omega, by rw [List.drop_of_length_le (Nat.le_refl _), List.drop_of_length_le (by simp)]; simp [val]⟩ ?_
  · simp (maxSteps:=1000000) (disch:=first | omega | (simp only [LL];omega)) only [W,V,TY,CC,reduceIte,Nat.reduceEqDiff,Nat.reduceAdd,Nat.reduceLeDiff,Nat.reduceLT,Int.reduceLE,Int.reduceLT,Int.reduceAdd,Int.reduceSub,Int.reduceToNat,Nat.reduceMul]
  · simp (maxSteps:=1000000) (disch:=first | omega | (simp only [LL];omega)) only [W,V,TY,CC,reduceIte,Nat.reduceEqDiff,Nat.reduceAdd,Nat.reduceLeDiff,Nat.reduceLT,Int.reduceLE,Int.reduceLT,Int.reduceAdd,Int.reduceSub,Int.reduceToNat,Nat.reduceMul]
  · simp (maxSteps:=1000000) (disch:=first | omega | (simp only [LL];omega)) only [W,V,TY,CC,reduceIte,Nat.reduceEqDiff,Nat.reduceAdd,Nat.reduceLeDiff,Nat.reduceLT,Int.reduceLE,Int.reduceLT,Int.reduceAdd,Int.reduceSub,Int.reduceToNat,Nat.reduceMul]
  · simp (maxSteps:=1000000) (disch:=first | omega | (simp only [LL];omega)) only [W,V,TY,CC,reduceIte,Nat.reduceEqDiff,Nat.reduceAdd,Nat.reduceLeDiff,Nat.reduceLT,Int.reduceLE,Int.reduceLT,Int.reduceAdd,Int.reduceSub,Int.reduceToNat,Nat.reduceMul]
  · simp (maxSteps:=1000000) (disch:=first | omega | (simp only [LL];omega)) only [W,V,TY,CC,reduceIte,Nat.reduceEqDiff,Nat.reduceAdd,Nat.reduceLeDiff,Nat.reduceLT,Int.reduceLE,Int.reduceLT,Int.reduceAdd,Int.reduceSub,Int.reduceToNat,Nat.reduceMul]
  · simp (maxSteps:=1000000) (disch:=first | omega | (simp only [LL];omega)) only [W,V,TY,CC,reduceIte,Nat.reduceEqDiff,Nat.reduceAdd,Nat.reduceLeDiff,Nat.reduceLT,Int.reduceLE,Int.reduceLT,Int.reduceAdd,Int.reduceSub,Int.reduceToNat,Nat.reduceMul]
  intro n s _ ⟨i, D, r, e, hi, t0, t1, t8, t6, r6, t7, hD, lD, r0, r1, hv⟩
  simp (maxSteps:=1000000) (disch:=first | omega | (simp only [LL];omega)) only [W,V,TY,CC,reduceIte,Nat.reduceEqDiff,Nat.reduceAdd,Nat.reduceLeDiff,Nat.reduceLT,Int.reduceLE,Int.reduceLT,Int.reduceAdd,Int.reduceSub,Int.reduceToNat,Nat.reduceMul,t0,t1,t8,t6,t7]
  refine c_split (fun hc => ?_) (fun hc => ?_)
  · obtain ⟨j, rfl⟩ : ∃ j, i = j + 1 := ⟨i - 1, by omega⟩
    have hx := ha.getD j
    obtain ⟨q0, q1, m0, m1, hq⟩ := div_bound r0 r1 hx.1 hx.2
    have hd0 : ¬ d = 0 := by omega
    simp (maxSteps:=1000000) (disch:=first | omega | (simp only [LL];omega)) only [W,V,TY,CC,reduceIte,Nat.reduceEqDiff,Nat.reduceAdd,Nat.reduceLeDiff,Nat.reduceLT,Int.reduceLE,Int.reduceLT,Int.reduceAdd,Int.reduceSub,Int.reduceToNat,Nat.reduceMul,t0,t1,t8,t6,t7,r6,shl_32,or_hi,td_nn,tm_nn,hd0]
    refine ⟨⟨by omega, by omega⟩, by omega, j, by omega, j, D.set j ((r * 4294967296 + a.getD j 0) / d), (r * 4294967296 + a.getD j 0) % d, rfl, by omega, rfl, rfl, rfl, by simp [hD], lD.set j q0 q1, m0, m1, ?_⟩
    rw [drop_set_eq (by omega), val_cons, val_drop' a j, hv]
    generalize (r * 4294967296 + a.getD j 0) / d = q at *
    generalize (r * 4294967296 + a.getD j 0) % d = m at *
    generalize a.getD j 0 = x at *
    clear t0 t1 t8 t6 r6 t7 lD ha
    grind
  · simp (maxSteps:=1000000) (disch:=first | omega | (simp only [LL];omega)) only [W,V,TY,CC,reduceIte,Nat.reduceEqDiff,Nat.reduceAdd,Nat.reduceLeDiff,Nat.reduceLT,Int.reduceLE,Int.reduceLT,Int.reduceAdd,Int.reduceSub,Int.reduceToNat,Nat.reduceMul,t0,t1,t8,t6,t7,r6]
    have h0 : i = 0 := by omega
    rw [h0, List.drop_zero, List.drop_zero] at hv
    refine a_call _ _ (nat_trim D lD (by omega)) (by simp (maxSteps:=1000000) (disch:=first | omega | (simp only [LL];omega)) only [W,V,TY,CC,reduceIte,Nat.reduceEqDiff,Nat.reduceAdd,Nat.reduceLeDiff,Nat.reduceLT,Int.reduceLE,Int.reduceLT,Int.reduceAdd,Int.reduceSub,Int.reduceToNat,Nat.reduceMul,t0,t1,t8,t6,t7,r6]) ?_
    simp (maxSteps:=1000000) (disch:=first | omega | (simp only [LL];omega)) only [W,V,TY,CC,reduceIte,Nat.reduceEqDiff,Nat.reduceAdd,Nat.reduceLeDiff,Nat.reduceLT,Int.reduceLE,Int.reduceLT,Int.reduceAdd,Int.reduceSub,Int.reduceToNat,Nat.reduceMul,t7]
    refine f_ret _ _ _ ?_
    have e1 := nv_eq ha
    have e2 := nv_eq lD
    have ed : ((d.toNat : Nat) : Int) = d := by omega
    have hq : nv a = d.toNat * nv D + r.toNat := by
      have : ((nv a : Nat) : Int) = ((d.toNat * nv D + r.toNat : Nat) : Int) := by
        rw [Int.natCast_add, Int.natCast_mul, ed, e1, e2, hv]; omega
      omega
    have hr : r.toNat < d.toNat := by omega
    have hdiv : nv a / d.toNat = nv D := by rw [hq, Nat.mul_add_div (by omega), Nat.div_eq_of_lt hr, Nat.add_zero]
    have hmod : nv a % d.toNat = r.toNat := by rw [hq, Nat.mul_add_mod, Nat.mod_eq_of_lt hr]
    have hres : tr D = nl (nv D) := rfl
    rw [hdiv, hmod]
    simp (maxSteps:=1000000) (disch:=first | omega | (simp only [LL];omega)) only [W,V,TY,CC,reduceIte,Nat.reduceEqDiff,Nat.reduceAdd,Nat.reduceLeDiff,Nat.reduceLT,Int.reduceLE,Int.reduceLT,Int.reduceAdd,Int.reduceSub,Int.reduceToNat,Nat.reduceMul,hres,t7]
    rw [show ((r.toNat : Nat) : Int) = r by omega]
end Go.Proofs.YtljmgdepldpmdaaDoor.E

set_option linter.unusedSimpArgs false
set_option linter.unusedVariables false
set_option maxHeartbeats 2000000
namespace Go.Proofs.YtljmgdepldpmdaaDoor.E
open Go.RowKit Limbs
end Go.Proofs.YtljmgdepldpmdaaDoor.E

set_option linter.unusedSimpArgs false
set_option linter.unusedVariables false
set_option maxHeartbeats 2000000
namespace Go.Proofs.YtljmgdepldpmdaaDoor.E
open Go.RowKit Limbs
end Go.Proofs.YtljmgdepldpmdaaDoor.E

set_option linter.unusedSimpArgs false
set_option linter.unusedVariables false
set_option maxHeartbeats 2000000
namespace Go.Proofs.YtljmgdepldpmdaaDoor.E
open Go.RowKit Limbs
/-- the number of significant bits -/
def bl (n : Nat) : Nat := if n = 0 then 0 else bl (n / 2) + 1
termination_by n
decreasing_by omega
theorem bl_zero : bl 0 = 0 := by rw [bl]; rfl
theorem bl_pos {n : Nat} (h : n ≠ 0) : bl n = bl (n / 2) + 1 := by rw [bl]; rw [if_neg h]
theorem bl_eq_zero {n : Nat} : bl n = 0 ↔ n = 0 := ⟨fun h => by
  by_cases h0 : n = 0
  · exact h0
  · rw [bl_pos h0] at h; omega, fun h => by rw [h, bl_zero]⟩
theorem bl_shift (k n : Nat) (h : n / 2 ^ k ≠ 0) : bl n = k + bl (n / 2 ^ k) := by
  induction k generalizing n with
  | zero => simp
  | succ k ih =>
    have hn : n ≠ 0 := by intro e; rw [e] at h; simp at h
    have e : n / 2 ^ (k + 1) = n / 2 / 2 ^ k := by rw [Nat.pow_succ, Nat.mul_comm, Nat.div_div_eq_div_mul]
    rw [e] at h ⊢
    rw [bl_pos hn, ih _ h]; omega
theorem bl_lt (n : Nat) : n < 2 ^ bl n := by
  induction n using Nat.strongRecOn with
  | _ n ih =>
    by_cases h : n = 0
    · rw [h]; exact Nat.two_pow_pos _
    · rw [bl_pos h, Nat.pow_succ]
      have := ih (n / 2) (by omega)
      omega
theorem bl_ge {n : Nat} (h : n ≠ 0) : 2 ^ (bl n - 1) ≤ n := by
  induction n using Nat.strongRecOn with
  | _ n ih =>
    rw [bl_pos h]
    by_cases h2 : n / 2 = 0
    · rw [h2, bl_zero]; simp; omega
    · have h3 := ih (n / 2) (by omega) h2
      have h4 : bl (n / 2) ≠ 0 := fun e => h2 (bl_eq_zero.1 e)
      have h5 : bl (n / 2) + 1 - 1 = (bl (n / 2) - 1) + 1 := by omega
      rw [h5, Nat.pow_succ]
      omega
/-- the bits of limbs in normal form -/
theorem bl_nv {l : List Int} (hl : Lim l) (hn : Nrm l) (h : l ≠ []) : bl (nv l) = 32 * (l.length - 1) + bl (l.getD (l.length - 1) 0).toNat ∧ l.getD (l.length - 1) 0 ≠ 0 := by
  have hlen : 0 < l.length := List.length_pos_iff.2 h
  have hi : l.length - 1 < l.length := by omega
  have ht : l.getD (l.length - 1) 0 ≠ 0 := by
    intro e
    apply hn
    rw [List.getLast?_eq_getElem?, List.getElem?_eq_getElem hi]
    rw [Limbs.getD_eq hi] at e
    rw [e]
  have h1 := hl.getD (l.length - 1)
  have h2 := val_take' l (l.length - 1)
  rw [show l.length - 1 + 1 = l.length by omega, List.take_of_length_le (Nat.le_refl _)] at h2
  have h3 := val_take_lt hl (l.length - 1)
  have h4 := val_nonneg (hl.take (l.length - 1))
  have h5 := nv_eq hl
  have hp : bp (l.length - 1) = ((2 ^ (32 * (l.length - 1)) : Nat) : Int) := by
    unfold bp
    rw [Nat.pow_mul]; simp
  generalize l.getD (l.length - 1) 0 = t at *
  have e : nv l / 2 ^ (32 * (l.length - 1)) = t.toNat := by
    have hpp : 0 < 2 ^ (32 * (l.length - 1)) := Nat.two_pow_pos _
    refine Nat.div_eq_of_lt_le ?_ ?_
    · have : ((t.toNat * 2 ^ (32 * (l.length - 1)) : Nat) : Int) ≤ nv l := by
        rw [Int.natCast_mul, ← hp, h5, h2, show ((t.toNat : Nat) : Int) = t by omega, Int.mul_comm]; omega
      omega
    · have : ((nv l : Nat) : Int) < (((t.toNat + 1) * 2 ^ (32 * (l.length - 1)) : Nat) : Int) := by
        rw [Int.natCast_mul, ← hp, h5, h2, show ((t.toNat + 1 : Nat) : Int) = t + 1 by omega, Int.add_mul, Int.mul_comm]; omega
      omega
  refine ⟨?_, ht⟩
  rw [bl_shift (32 * (l.length - 1)) (nv l) (by rw [e]; omega), e]
end Go.Proofs.YtljmgdepldpmdaaDoor.E

set_option linter.unusedSimpArgs false
set_option linter.unusedVariables false
set_option maxHeartbeats 2000000
namespace Go.Proofs.YtljmgdepldpmdaaDoor.E
open Go.RowKit Limbs
end Go.Proofs.YtljmgdepldpmdaaDoor.E

set_option linter.unusedSimpArgs false
set_option linter.unusedVariables false
set_option maxHeartbeats 2000000
namespace Go.Proofs.YtljmgdepldpmdaaDoor.E
open Go.RowKit Limbs
theorem pow_le32 {k : Nat} (hk : k < 32) : 1 ≤ (2 : Int) ^ k ∧ (2 : Int) ^ k ≤ 2147483648 := by
  have h1 : 2 ^ k ≤ 2 ^ 31 := Nat.pow_le_pow_right (by omega) (by omega)
  have h2 : 0 < 2 ^ k := Nat.two_pow_pos k
  have h3 : ((2 ^ k : Nat) : Int) = (2 : Int) ^ k := by simp
  omega
theorem shl_var {x : Int} {k : Nat} (hk : k < 32) (h0 : 0 ≤ x) (h1 : x < 4294967296) : shl .u64 x (k : Int) = x * 2 ^ k := by
  obtain ⟨p0, p1⟩ := pow_le32 hk
  unfold shl
  rw [Int.toNat_natCast, show min k IntKind.u64.bits = k from Nat.min_eq_left (by show k ≤ 64; omega)]
  have a1 := Int.mul_nonneg h0 (show 0 ≤ (2 : Int) ^ k by omega)
  have a2 := Int.mul_le_mul (show x ≤ 4294967295 by omega) p1 (by omega) (by omega)
  rw [wu64 a1 (by omega)]
end Go.Proofs.YtljmgdepldpmdaaDoor.E

set_option linter.unusedSimpArgs false
set_option linter.unusedVariables false
set_option maxHeartbeats 2000000
namespace Go.Proofs.YtljmgdepldpmdaaDoor.E
open Go.RowKit Limbs
/-- what DivMod gives -/
def divR (m n : Nat) : List RV := if n = 0 then [.one (natD []), .one (natD []), .one (.lit (.bool false))] else [.one (natD (nl (m / n))), .one (natD (nl (m % n))), .one (.lit (.bool true))]
theorem bl_le {n m : Nat} (h : n < 2 ^ m) : bl n ≤ m := by
  by_cases hn : n = 0
  · rw [hn, bl_zero]; omega
  · have h2 := bl_ge hn
    by_cases h3 : bl n ≤ m
    · exact h3
    · have : 2 ^ m ≤ 2 ^ (bl n - 1) := Nat.pow_le_pow_right (by omega) (by omega)
      omega
theorem nv_lt_pow {l : List Int} (h : Lim l) : nv l < 2 ^ (32 * l.length) := by
  have := nv_lt h
  rwa [show (4294967296 : Nat) = 2 ^ 32 from rfl, ← Nat.pow_mul] at this
end Go.Proofs.YtljmgdepldpmdaaDoor.E

set_option linter.unusedSimpArgs false
set_option linter.unusedVariables false
set_option maxHeartbeats 2000000
namespace Go.Proofs.YtljmgdepldpmdaaDoor.E
open Go.RowKit Limbs
theorem nl_len_le {n : Nat} {l : List Int} (hl : Lim l) (h : n ≤ nv l) : (nl n).length ≤ l.length := nl_len_iff.2 (Nat.lt_of_le_of_lt h (nv_lt hl))
theorem nl_len0 {n : Nat} : ((nl n).length = 0) = (n = 0) := propext ⟨fun h => nl_eq_nil.1 (List.eq_nil_of_length_eq_zero h), fun h => by rw [h, nl_zero]; rfl⟩
end Go.Proofs.YtljmgdepldpmdaaDoor.E

set_option linter.unusedSimpArgs false
set_option linter.unusedVariables false
set_option maxHeartbeats 2000000
namespace Go.Proofs.YtljmgdepldpmdaaDoor.E
open Go.RowKit Limbs
/-- 2^32 to a power -/
def bn (n : Nat) : Nat := 4294967296 ^ n
theorem bn_zero : bn 0 = 1 := rfl
theorem bn_succ (n : Nat) : bn (n + 1) = bn n * 4294967296 := by unfold bn; exact Nat.pow_succ ..
theorem bn_add (m n : Nat) : bn (m + n) = bn m * bn n := Nat.pow_add ..
theorem bn_pos (n : Nat) : 0 < bn n := Nat.pow_pos (by omega)
theorem bn_bp (n : Nat) : ((bn n : Nat) : Int) = bp n := by unfold bn bp; simp
theorem bn_two (n : Nat) : bn n = 2 ^ (32 * n) := by unfold bn; rw [show (4294967296 : Nat) = 2 ^ 32 from rfl, ← Nat.pow_mul]
/-- the n lowest limbs of a number -/
def lim : Nat → Nat → List Int
  | 0, _ => []
  | n + 1, v => ((v % 4294967296 : Nat) : Int) :: lim n (v / 4294967296)
theorem lim_len : ∀ (n v : Nat), (lim n v).length = n
  | 0, _ => rfl
  | n + 1, v => by simp [lim, lim_len n]
theorem lim_lim : ∀ (n v : Nat), Lim (lim n v)
  | 0, _ => Lim.nil
  | n + 1, v => Lim.cons (by omega) (by omega) (lim_lim n _)
theorem val_lim : ∀ (n v : Nat), v < bn n → val (lim n v) = v
  | 0, v, h => by
    rw [bn_zero] at h
    have : v = 0 := by omega
    rw [this]; rfl
  | n + 1, v, h => by
    rw [bn_succ] at h
    rw [lim, val_cons, val_lim n (v / 4294967296) (by omega)]
    omega
theorem nv_lim {n v : Nat} (h : v < bn n) : nv (lim n v) = v := by unfold nv; rw [val_lim n v h]; omega
theorem eq_lim : ∀ {l : List Int} {n v : Nat}, Lim l → l.length = n → val l = v → l = lim n v
  | [], n, v, _, hn, _ => by rw [← hn]; rfl
  | x :: l, n, v, hl, hn, hv => by
    have hx := hl.head
    have hr := val_nonneg hl.tail
    rw [val_cons] at hv
    obtain ⟨m, rfl⟩ : ∃ m, n = m + 1 := ⟨l.length, by simpa using hn.symm⟩
    rw [lim, ← eq_lim (l := l) (n := m) (v := v / 4294967296) hl.tail (by simpa using hn) (by omega)]
    congr 1
    omega
theorem lim_getD : ∀ (n v i : Nat), i < n → (lim n v).getD i 0 = ((v / bn i % 4294967296 : Nat) : Int)
  | n + 1, v, 0, _ => by simp [lim, bn_zero]
  | n + 1, v, i + 1, h => by
    rw [lim, List.getD_cons_succ, lim_getD n _ i (by omega), bn_succ, Nat.mul_comm, ← Nat.div_div_eq_div_mul]
theorem lim_drop : ∀ (n v i : Nat), i ≤ n → (lim n v).drop i = lim (n - i) (v / bn i)
  | n, v, 0, _ => by simp [bn_zero]
  | n + 1, v, i + 1, h => by
    rw [lim, List.drop_succ_cons, lim_drop n _ i (by omega), bn_succ, Nat.mul_comm, ← Nat.div_div_eq_div_mul, Nat.add_sub_add_right]
theorem lim_take : ∀ (n v i : Nat), i ≤ n → (lim n v).take i = lim i v
  | n, v, 0, _ => by rw [List.take_zero]; rfl
  | n + 1, v, i + 1, h => by rw [lim, List.take_succ_cons, lim_take n _ i (by omega), lim]
/-- the window of a number's limbs -/
theorem lim_win {n v j m : Nat} (h : j + m ≤ n) (hv : v < bn (j + m)) : val (((lim n v).drop j).take m) = ((v / bn j : Nat) : Int) := by
  rw [lim_drop n v j (by omega), lim_take _ _ _ (by omega), val_lim]
  rw [bn_add] at hv
  exact Nat.div_lt_of_lt_mul hv
theorem top3 {v j : Nat} (h : v < bn (j + 3)) : v / bn (j + 2) % 4294967296 * 18446744073709551616 + v / bn (j + 1) % 4294967296 * 4294967296 + v / bn j % 4294967296 = v / bn j := by
  have e2 : v / bn (j + 2) = v / bn j / 4294967296 / 4294967296 := by rw [bn_succ, bn_succ, ← Nat.div_div_eq_div_mul, ← Nat.div_div_eq_div_mul]
  have e1 : v / bn (j + 1) = v / bn j / 4294967296 := by rw [bn_succ, ← Nat.div_div_eq_div_mul]
  have hb : v / bn j < bn 3 := by rw [bn_add] at h; exact Nat.div_lt_of_lt_mul h
  rw [show bn 3 = 79228162514264337593543950336 from rfl] at hb
  rw [e2, e1]
  clear e2 e1 h
  generalize v / bn j = q at *
  omega
theorem top2 {v j : Nat} (h : v < bn (j + 2)) : v / bn (j + 1) % 4294967296 * 4294967296 + v / bn j % 4294967296 = v / bn j := by
  have e1 : v / bn (j + 1) = v / bn j / 4294967296 := by rw [bn_succ, ← Nat.div_div_eq_div_mul]
  have hb : v / bn j < bn 2 := by rw [bn_add] at h; exact Nat.div_lt_of_lt_mul h
  rw [show bn 2 = 18446744073709551616 from rfl] at hb
  rw [e1]
  clear e1 h
  generalize v / bn j = q at *
  omega
/-- the quotient digit of the highest limbs is the right one or one too great -/
theorem digit {w V H W M ur vr : Nat} (hM : 0 < M) (hw : w = H * M + ur) (hur : ur < M) (hV : V = W * M + vr) (hvr : vr < M) (hW : 4294967296 ≤ W) (hwV : w < V * 4294967296) (g : Nat) (hg : g = min 4294967295 (H / W)) :
    (g * V ≤ w → w / V = g) ∧ (w < g * V → w / V = g - 1 ∧ 0 < g) := by
  have hVp : 0 < V := by
    have : 4294967296 * 1 ≤ W * M := Nat.mul_le_mul hW hM
    omega
  have hq1 : w / V ≤ 4294967295 := by
    have := Nat.div_lt_of_lt_mul hwV
    omega
  have hgH : g * W ≤ H := by
    have h1 : g ≤ H / W := by omega
    exact Nat.le_trans (Nat.mul_le_mul_right _ h1) (Nat.div_mul_le_self _ _)
  -- g is not too small
  have hge : w / V ≤ g := by
    by_cases hc : g = 4294967295
    · omega
    · have hgq : g = H / W := by omega
      by_cases h : w / V ≤ g
      · exact h
      · exfalso
        have h1 : H < (g + 1) * W := by rw [hgq]; exact Nat.lt_mul_of_div_lt (by omega) (by omega)
        have h2 : (g + 1) * V ≤ w := Nat.le_trans (Nat.mul_le_mul_right _ (by omega)) (Nat.div_mul_le_self w V)
        have h3 : (H + 1) * M ≤ (g + 1) * W * M := Nat.mul_le_mul_right _ h1
        have h4 : (g + 1) * V = (g + 1) * W * M + (g + 1) * vr := by rw [hV, Nat.mul_add, Nat.mul_assoc]
        rw [Nat.add_mul] at h3
        omega
  -- g is at most one too great
  have hlt : g * V < w + V := by
    have h1 : g * W * M ≤ H * M := Nat.mul_le_mul_right _ hgH
    have h2 : g * V = g * W * M + g * vr := by rw [hV, Nat.mul_add, Nat.mul_assoc]
    have h3 : g * vr ≤ g * M := Nat.mul_le_mul_left _ (by omega)
    have h4 : g * M < 4294967296 * M := Nat.mul_lt_mul_of_pos_right (by omega) hM
    have h5 : 4294967296 * M ≤ W * M := Nat.mul_le_mul_right _ hW
    omega
  constructor
  · intro h
    have : g ≤ w / V := (Nat.le_div_iff_mul_le hVp).2 h
    omega
  · intro h
    have h0 : 0 < g := by
      rcases Nat.eq_zero_or_pos g with h0 | h0
      · rw [h0] at h; omega
      · exact h0
    obtain ⟨k, rfl⟩ : ∃ k, g = k + 1 := ⟨g - 1, by omega⟩
    have h1 : k ≤ w / V := (Nat.le_div_iff_mul_le hVp).2 (by rw [Nat.add_mul] at hlt; omega)
    have h2 : w / V < k + 1 := Nat.div_lt_of_lt_mul (by rw [Nat.mul_comm]; exact h)
    exact ⟨by omega, h0⟩
end Go.Proofs.YtljmgdepldpmdaaDoor.E

set_option linter.unusedSimpArgs false
set_option linter.unusedVariables false
set_option maxHeartbeats 2000000
namespace Go.Proofs.YtljmgdepldpmdaaDoor.E
open Go.RowKit Limbs
theorem or_lo64 {d l : Int} {k : Nat} (hk : k < 32) (h0 : 0 ≤ d) (h1 : d < 2 ^ k) (h2 : 0 ≤ l) (h3 : l < 9223372036854775808) (h4 : l % 2 ^ k = 0) : bits .or .u64 d l = d + l := by
  obtain ⟨p0, p1⟩ := pow_le32 hk
  have := bits_join .u64 64 (by decide) (fun n h1 h2 => wu64 h1 (by simpa using h2)) k l d h2 h4 (by simp; omega) h0 h1 (by simp; omega)
  rw [Int.add_comm d l, ← this]
  unfold bits
  simp only [BitVec.or_comm]
/-- examboard/nat.shiftUp -/
def b92 : AF := ⟨42, 2, [.tmp 4],
  (.seq (.reg [
    ⟨some 4, .assign (.const (.slice none 0 0)), none⟩])
  (.seq (.reg [
    ⟨some 9, .move (.tmp 0), none⟩,
    ⟨some 10, .call ⟨(.builtin .len), #[(.tmp 9)], #[23]⟩, none⟩,
    ⟨some 11, .binOp .add 3 (.tmp 10) (.const (.int .i64 1)) 3, none⟩,
    ⟨some 12, .makeSlice 23 (.tmp 11) (.tmp 11), none⟩,
    ⟨some 5, .assign (.tmp 12), none⟩])
  (.seq (.reg [
    ⟨some 6, .assign (.const (.int .u64 0)), none⟩])
  (.seq (.seq (.reg [
    ⟨some 13, .move (.tmp 0), none⟩,
    ⟨some 14, .call ⟨(.builtin .len), #[(.tmp 13)], #[23]⟩, none⟩,
    ⟨some 15, .move (.const (.int .i64 0)), none⟩])
  (.block 0 (.loop (.seq (.reg [
    ⟨some 16, .binOp .lss 3 (.tmp 15) (.tmp 14) 3, none⟩])
  (.seq (.cond (.tmp 16)
    .skip
    (.exit 0))
  (.seq (.block 1 (.seq (.reg [
    ⟨some 17, .move (.tmp 15), none⟩,
    ⟨some 18, .indexAddr 23 (.tmp 13) (.tmp 15), none⟩,
    ⟨some 19, .load 113 (.tmp 18), none⟩,
    ⟨some 7, .assign (.tmp 17), none⟩,
    ⟨some 8, .assign (.tmp 19), none⟩])
  (.seq (.reg [
    ⟨some 20, .move (.tmp 6), none⟩,
    ⟨some 21, .move (.tmp 8), none⟩,
    ⟨some 22, .convert 113 99 (.tmp 21), none⟩,
    ⟨some 23, .move (.tmp 1), none⟩,
    ⟨some 24, .binOp .shl 99 (.tmp 22) (.tmp 23) 114, none⟩,
    ⟨some 25, .binOp .or 99 (.tmp 20) (.tmp 24) 99, none⟩,
    ⟨some 6, .assign (.tmp 25), none⟩])
  (.seq (.reg [
    ⟨some 26, .move (.tmp 5), none⟩,
    ⟨some 27, .move (.tmp 7), none⟩,
    ⟨some 28, .move (.tmp 6), none⟩,
    ⟨some 29, .binOp .and 99 (.tmp 28) (.const (.int .u64 4294967295)) 99, none⟩,
    ⟨some 30, .convert 99 113 (.tmp 29), none⟩,
    ⟨some 31, .indexAddr 23 (.tmp 26) (.tmp 27), none⟩,
    ⟨none, .store 113 (.tmp 31) (.tmp 30), none⟩])
  (.reg [
    ⟨some 32, .move (.tmp 6), none⟩,
    ⟨some 33, .binOp .shr 99 (.tmp 32) (.const (.int .u64 32)) 114, none⟩,
    ⟨some 6, .assign (.tmp 33), none⟩])))))
  (.reg [
    ⟨some 34, .binOp .add 3 (.tmp 15) (.const (.int .i64 1)) 3, none⟩,
    ⟨some 15, .move (.tmp 34), none⟩])))))))
  (.seq (.reg [
    ⟨some 35, .move (.tmp 5), none⟩,
    ⟨some 36, .move (.tmp 0), none⟩,
    ⟨some 37, .call ⟨(.builtin .len), #[(.tmp 36)], #[23]⟩, none⟩,
    ⟨some 38, .move (.tmp 6), none⟩,
    ⟨some 39, .convert 99 113 (.tmp 38), none⟩,
    ⟨some 40, .indexAddr 23 (.tmp 35) (.tmp 37), none⟩,
    ⟨none, .store 113 (.tmp 40) (.tmp 39), none⟩])
  (.seq (.reg [
    ⟨some 41, .move (.tmp 5), none⟩,
    ⟨some 4, .assign (.tmp 41), none⟩])
  .ret))))))⟩
theorem c92 : fcomp Tryd.prog 92 = ⟨b92.n, b92.np, b92.res, b92.body.bare⟩ := by kernel_rfl
theorem k92 : fok Tryd.prog 92 = true := by kernel_rfl
theorem shiftUp_body (a : List Int) (k : Nat) (ha : Lim a) (la : a.length < 8796093022208) (hk : k < 32) (K : AEx → AS → Prop) (hK : ∀ s, s.t 4 = .one (.row (12, 0) 0) → s.r (12, 0) = some ⟨113, 1, a.length + 1, natC (lim (a.length + 1) (nv a * 2 ^ k)), 0, true⟩ → K .ret s) :
    awp Tryd.prog b92.body K (start [.one (natD a), .one (.lit (.int .u64 k))]) := by
  unfold b92
  obtain ⟨M, hM⟩ : ∃ M, M = a.length + 1 := ⟨_, rfl⟩
  have hMi : (a.length : Int) + 1 = (M : Int) := by omega
  obtain ⟨p0, p1⟩ := pow_le32 hk
  rw [← hM] at hK
  simp (maxSteps:=1000000) (disch:=first | omega | (simp only [LL];omega)) only [W,V,TY,CC,reduceIte,Nat.reduceEqDiff,Nat.reduceAdd,Nat.reduceLeDiff,Nat.reduceLT,Int.reduceLE,Int.reduceLT,Int.reduceAdd,Int.reduceSub,Int.reduceToNat,Nat.reduceMul,hMi]
  refine w_loop (fun m s => ∃ (i : Nat) (c : Int) (D : List Int), m + i = a.length ∧ s.t 0 = .one (.dt (natD a)) ∧ s.t 1 = .one (.dt (.lit (.int .u64 k))) ∧ s.t 13 = .one (.dt (natD a)) ∧ s.t 14 = .one (.dt (.lit (.int .i64 a.length))) ∧ s.t 15 = .one (.dt (.lit (.int .i64 i))) ∧ s.t 6 = .one (.dt (.lit (.int .u64 c))) ∧ s.t 5 = .one (.row (12, 0) 0) ∧ s.r (12, 0) = some ⟨113, 1, M, natC D, 0, true⟩ ∧ D.length = M ∧ Lim D ∧ 0 ≤ c ∧ c < 2 ^ k ∧ val (D.take i) + bp i * c = val (a.take i) * 2 ^ k) a.length ⟨0, 0, List.replicate M 0, rfl, ?_, ?_, ?_, ?_, ?_, ?_, ?_, ?_, by simp, Lim.replicate _, Int.le_refl _, by omega, by simp [val_nil]⟩ ?_
  · simp (maxSteps:=1000000) (disch:=first | omega | (simp only [LL];omega)) only [W,V,TY,CC,reduceIte,Nat.reduceEqDiff,Nat.reduceAdd,Nat.reduceLeDiff,Nat.reduceLT,Int.reduceLE,Int.reduceLT,Int.reduceAdd,Int.reduceSub,Int.reduceToNat,Nat.reduceMul]
  · simp (maxSteps:=1000000) (disch:=first | omega | (simp only [LL];omega)) only [W,V,TY,CC,reduceIte,Nat.reduceEqDiff,Nat.reduceAdd,Nat.reduceLeDiff,Nat.reduceLT,Int.reduceLE,Int.reduceLT,Int.reduceAdd,Int.reduceSub,Int.reduceToNat,Nat.reduceMul]
  · simp (maxSteps:=1000000) (disch:=first | omega | (simp only [LL];omega)) only [W,V,TY,CC,reduceIte,Nat.reduceEqDiff,Nat.reduceAdd,Nat.reduceLeDiff,Nat.reduceLT,Int.reduceLE,Int.reduceLT,Int.reduceAdd,Int.reduceSub,Int.reduceToNat,Nat.reduceMul]
  · simp (maxSteps:=1000000) (disch:=first | omega | (simp only [LL];omega)) only [W,V,TY,CC,reduceIte,Nat.reduceEqDiff,Nat.reduceAdd,Nat.reduceLeDiff,Nat.reduceLT,Int.reduceLE,Int.reduceLT,Int.reduceAdd,Int.reduceSub,Int.reduceToNat,Nat.reduceMul]
  · simp (maxSteps:=1000000) (disch:=first | omega | (simp only [LL];omega)) only [W,V,TY,CC,reduceIte,Nat.reduceEqDiff,Nat.reduceAdd,Nat.reduceLeDiff,Nat.reduceLT,Int.reduceLE,Int.reduceLT,Int.reduceAdd,Int.reduceSub,Int.reduceToNat,Nat.reduceMul]
  · simp (maxSteps:=1000000) (disch:=first | omega | (simp only [LL];omega)) only [W,V,TY,CC,reduceIte,Nat.reduceEqDiff,Nat.reduceAdd,Nat.reduceLeDiff,Nat.reduceLT,Int.reduceLE,Int.reduceLT,Int.reduceAdd,Int.reduceSub,Int.reduceToNat,Nat.reduceMul]
  · simp (maxSteps:=1000000) (disch:=first | omega | (simp only [LL];omega)) only [W,V,TY,CC,reduceIte,Nat.reduceEqDiff,Nat.reduceAdd,Nat.reduceLeDiff,Nat.reduceLT,Int.reduceLE,Int.reduceLT,Int.reduceAdd,Int.reduceSub,Int.reduceToNat,Nat.reduceMul]
  · simp (maxSteps:=1000000) (disch:=first | omega | (simp only [LL];omega)) only [W,V,TY,CC,reduceIte,Nat.reduceEqDiff,Nat.reduceAdd,Nat.reduceLeDiff,Nat.reduceLT,Int.reduceLE,Int.reduceLT,Int.reduceAdd,Int.reduceSub,Int.reduceToNat,Nat.reduceMul,hMi]
  intro m s _ ⟨i, c, D, e, t0, t1, t13, t14, t15, t6, t5, r12, hD, lD, c0, c1, hv⟩
  simp (maxSteps:=1000000) (disch:=first | omega | (simp only [LL];omega)) only [W,V,TY,CC,reduceIte,Nat.reduceEqDiff,Nat.reduceAdd,Nat.reduceLeDiff,Nat.reduceLT,Int.reduceLE,Int.reduceLT,Int.reduceAdd,Int.reduceSub,Int.reduceToNat,Nat.reduceMul,t14,t15]
  refine c_split (fun hi => ?_) (fun hi => ?_)
  · have hx := ha.getD i
    have hs := shl_var (x := a.getD i 0) hk hx.1 hx.2
    have hx0 : 0 ≤ a.getD i 0 * 2 ^ k := Int.mul_nonneg hx.1 (by omega)
    have hx1 : a.getD i 0 * 2 ^ k ≤ 4294967295 * 2 ^ k := Int.mul_le_mul_of_nonneg_right (by omega) (by omega)
    have hx2 : a.getD i 0 * 2 ^ k % 2 ^ k = 0 := Int.mul_emod_left _ _
    generalize hX : a.getD i 0 * 2 ^ k = X at hs hx0 hx1 hx2
    have ho := or_lo64 (d := c) (l := X) hk c0 c1 hx0 (by omega) hx2
    generalize hK2 : (2 : Int) ^ k = K2 at *
    simp (maxSteps:=1000000) (disch:=first | omega | (simp only [LL];omega)) only [W,V,TY,CC,reduceIte,Nat.reduceEqDiff,Nat.reduceAdd,Nat.reduceLeDiff,Nat.reduceLT,Int.reduceLE,Int.reduceLT,Int.reduceAdd,Int.reduceSub,Int.reduceToNat,Nat.reduceMul,t0,t1,t13,t14,t15,t6,t5,r12,hs,ho,and_m32 (n := c + X) (by omega) (by omega), shr_32, wu32 (n := (c + X) % 4294967296) (by omega) (by omega)]
    refine ⟨by omega, by omega, by omega, m - 1, by omega, i + 1, (c + X) / 4294967296, D.set i ((c + X) % 4294967296), by omega, rfl, rfl, rfl, by simp [hD], lD.set _ (by omega) (by omega), by omega, by omega, ?_⟩
    rw [take_set_succ (by omega), val_snoc, List.length_take, Nat.min_eq_left (by omega), val_take' a i, Int.add_mul, Int.mul_assoc, hX, ← hv, bp_succ]
    have e2 : c + X = (c + X) % 4294967296 + 4294967296 * ((c + X) / 4294967296) := by omega
    generalize (c + X) % 4294967296 = x0 at *
    generalize (c + X) / 4294967296 = x1 at *
    grind
  · simp (maxSteps:=1000000) (disch:=first | omega | (simp only [LL];omega)) only [W,V,TY,CC,reduceIte,Nat.reduceEqDiff,Nat.reduceAdd,Nat.reduceLeDiff,Nat.reduceLT,Int.reduceLE,Int.reduceLT,Int.reduceAdd,Int.reduceSub,Int.reduceToNat,Nat.reduceMul,t0,t1,t13,t14,t15,t6,t5,r12,wu32 (n := c) (by omega) (by omega)]
    refine ⟨by omega, by omega, ?_⟩
    have hi' : i = a.length := by omega
    subst hi'
    rw [List.take_length] at hv
    refine hK _ ?_ ?_
    · simp (maxSteps:=1000000) (disch:=first | omega | (simp only [LL];omega)) only [W,V,TY,CC,reduceIte,Nat.reduceEqDiff,Nat.reduceAdd,Nat.reduceLeDiff,Nat.reduceLT,Int.reduceLE,Int.reduceLT,Int.reduceAdd,Int.reduceSub,Int.reduceToNat,Nat.reduceMul,t5]
    · have hfin : D.set a.length c = lim M (nv a * 2 ^ k) := by
        refine eq_lim (lD.set _ c0 (by omega)) (by simp [hD]) ?_
        have e1 := take_set_succ (l := D) (i := a.length) (by omega) c
        rw [List.take_of_length_le (by simp; omega)] at e1
        rw [e1, val_snoc, List.length_take, Nat.min_eq_left (by omega), hv, ← nv_eq ha]
        simp
      simp (maxSteps:=1000000) (disch:=first | omega | (simp only [LL];omega)) only [W,V,TY,CC,reduceIte,Nat.reduceEqDiff,Nat.reduceAdd,Nat.reduceLeDiff,Nat.reduceLT,Int.reduceLE,Int.reduceLT,Int.reduceAdd,Int.reduceSub,Int.reduceToNat,Nat.reduceMul,r12,hfin]
theorem nat_shiftUp (a : List Int) (k : Nat) (ha : Lim a) (la : a.length < 8796093022208) (hk : k < 32) : AFun Tryd.prog 92 [.one (natD a), .one (.lit (.int .u64 k))] [.one (natD (lim (a.length + 1) (nv a * 2 ^ k)))] := by
  refine afun_intro mo_ _ _ c92 k92 _ _ rfl (by decide) (shiftUp_body a k ha la hk _ fun s t4 r12 => ?_)
  refine f_retg _ _ _ [.frz 4] ?_
  unfold b92
  have h := lim_len (a.length + 1) (nv a * 2 ^ k)
  simp (maxSteps:=1000000) (disch:=first | omega | (simp only [LL];omega)) only [W,V,TY,CC,reduceIte,Nat.reduceEqDiff,Nat.reduceAdd,Nat.reduceLeDiff,Nat.reduceLT,Int.reduceLE,Int.reduceLT,Int.reduceAdd,Int.reduceSub,Int.reduceToNat,Nat.reduceMul,t4,r12]
theorem nat_shiftUpO (a : List Int) (k : Nat) (ha : Lim a) (la : a.length < 8796093022208) (hk : k < 32) : OFun Tryd.prog 92 [.one (natD a), .one (.lit (.int .u64 k))] (lim (a.length + 1) (nv a * 2 ^ k)) := by
  refine ofun_intro mo_ _ _ c92 k92 _ _ rfl (by decide) (shiftUp_body a k ha la hk _ fun s t4 r12 => ?_)
  have h := lim_len (a.length + 1) (nv a * 2 ^ k)
  exact f_reto _ _ 4 (12, 0) 0 _ rfl t4 r12 ⟨rfl, rfl, h.symm, natC_map _, fun e => by rw [e] at h; simp at h⟩
end Go.Proofs.YtljmgdepldpmdaaDoor.E

set_option linter.unusedSimpArgs false
set_option linter.unusedVariables false
set_option maxHeartbeats 2000000
namespace Go.Proofs.YtljmgdepldpmdaaDoor.E
open Go.RowKit Limbs
theorem shr_var {x : Int} {k : Nat} (hk : k < 32) : shr .u64 x (k : Int) = x / 2 ^ k := by
  unfold shr
  rw [Int.toNat_natCast, show min k IntKind.u64.bits = k from Nat.min_eq_left (by show k ≤ 64; omega), Int.fdiv_eq_ediv_of_nonneg _ (Int.pow_nonneg (by decide))]
theorem or_hic {r a : Int} (h : 0 ≤ r) (h1 : r < 4294967296) (h2 : 0 ≤ a) (h3 : a < 4294967296) : bits .or .u64 a (r * 4294967296) = r * 4294967296 + a := by
  rw [← or_hi h h1 h2 h3]
  unfold bits
  simp only [BitVec.or_comm]
theorem down_step {x y K T : Int} (hK : 0 < K) (hT : K * T = 4294967296) (hx : 0 ≤ x) (hx1 : x < 4294967296) (hy : 0 ≤ y) (hy1 : y < 4294967296) : ((x + 4294967296 * y) / K % 4294967296) * K = x - x % K + y % K * 4294967296 := by
  have e1 : K * (x / K) + x % K = x := Int.mul_ediv_add_emod x K
  have e2 : K * (y / K) + y % K = y := Int.mul_ediv_add_emod y K
  have r1 := Int.emod_nonneg x (show K ≠ 0 by omega)
  have r2 := Int.emod_lt_of_pos x hK
  have r3 := Int.emod_nonneg y (show K ≠ 0 by omega)
  have r4 := Int.emod_lt_of_pos y hK
  have q1 : 0 ≤ x / K := Int.ediv_nonneg hx (by omega)
  generalize x / K = xq at *
  generalize x % K = xr at *
  generalize y / K = yq at *
  generalize y % K = yr at *
  have q2 : xq < T := by
    refine Int.lt_of_mul_lt_mul_left (a := K) ?_ (by omega)
    omega
  have h1 : x + 4294967296 * y = xr + K * (xq + T * yr + 4294967296 * yq) := by
    rw [← e1, ← e2, ← hT]; grind
  have hTp : 0 ≤ T * yr := Int.mul_nonneg (by omega) r3
  have hTq : T * yr ≤ T * (K - 1) := Int.mul_le_mul_of_nonneg_left (by omega) (by omega)
  have hTK : T * (K - 1) = 4294967296 - T := by rw [← hT]; grind
  rw [h1, Int.add_mul_ediv_left _ _ (by omega), Int.ediv_eq_zero_of_lt r1 r2, Int.zero_add, Int.add_mul_emod_self_left, Int.emod_eq_of_lt (by omega) (by omega), ← e1, ← hT]
  grind
/-- examboard/nat.shiftDown -/
def b96 : AF := ⟨46, 2, [.tmp 4],
  (.seq (.reg [
    ⟨some 4, .assign (.const (.slice none 0 0)), none⟩])
  (.seq (.reg [
    ⟨some 8, .move (.tmp 0), none⟩,
    ⟨some 9, .call ⟨(.builtin .len), #[(.tmp 8)], #[23]⟩, none⟩,
    ⟨some 10, .makeSlice 23 (.tmp 9) (.tmp 9), none⟩,
    ⟨some 5, .assign (.tmp 10), none⟩])
  (.seq (.seq (.reg [
    ⟨some 11, .move (.tmp 0), none⟩,
    ⟨some 12, .call ⟨(.builtin .len), #[(.tmp 11)], #[23]⟩, none⟩,
    ⟨some 13, .move (.const (.int .i64 0)), none⟩])
  (.block 0 (.loop (.seq (.reg [
    ⟨some 14, .binOp .lss 3 (.tmp 13) (.tmp 12) 3, none⟩])
  (.seq (.cond (.tmp 14)
    .skip
    (.exit 0))
  (.seq (.block 1 (.seq (.reg [
    ⟨some 15, .move (.tmp 13), none⟩,
    ⟨some 6, .assign (.tmp 15), none⟩])
  (.seq (.reg [
    ⟨some 16, .move (.tmp 0), none⟩,
    ⟨some 17, .move (.tmp 6), none⟩,
    ⟨some 18, .indexAddr 23 (.tmp 16) (.tmp 17), none⟩,
    ⟨some 19, .load 113 (.tmp 18), none⟩,
    ⟨some 20, .convert 113 99 (.tmp 19), none⟩,
    ⟨some 7, .assign (.tmp 20), none⟩])
  (.seq (.seq (.reg [
    ⟨some 21, .move (.tmp 6), none⟩,
    ⟨some 22, .binOp .add 3 (.tmp 21) (.const (.int .i64 1)) 3, none⟩,
    ⟨some 23, .move (.tmp 0), none⟩,
    ⟨some 24, .call ⟨(.builtin .len), #[(.tmp 23)], #[23]⟩, none⟩,
    ⟨some 25, .binOp .lss 3 (.tmp 22) (.tmp 24) 3, none⟩])
  (.cond (.tmp 25)
    (.reg [
      ⟨some 26, .move (.tmp 7), none⟩,
      ⟨some 27, .move (.tmp 0), none⟩,
      ⟨some 28, .move (.tmp 6), none⟩,
      ⟨some 29, .binOp .add 3 (.tmp 28) (.const (.int .i64 1)) 3, none⟩,
      ⟨some 30, .indexAddr 23 (.tmp 27) (.tmp 29), none⟩,
      ⟨some 31, .load 113 (.tmp 30), none⟩,
      ⟨some 32, .convert 113 99 (.tmp 31), none⟩,
      ⟨some 33, .binOp .shl 99 (.tmp 32) (.const (.int .u64 32)) 114, none⟩,
      ⟨some 34, .binOp .or 99 (.tmp 26) (.tmp 33) 99, none⟩,
      ⟨some 7, .assign (.tmp 34), none⟩])
    .skip))
  (.reg [
    ⟨some 35, .move (.tmp 5), none⟩,
    ⟨some 36, .move (.tmp 6), none⟩,
    ⟨some 37, .move (.tmp 7), none⟩,
    ⟨some 38, .move (.tmp 1), none⟩,
    ⟨some 39, .binOp .shr 99 (.tmp 37) (.tmp 38) 114, none⟩,
    ⟨some 40, .binOp .and 99 (.tmp 39) (.const (.int .u64 4294967295)) 99, none⟩,
    ⟨some 41, .convert 99 113 (.tmp 40), none⟩,
    ⟨some 42, .indexAddr 23 (.tmp 35) (.tmp 36), none⟩,
    ⟨none, .store 113 (.tmp 42) (.tmp 41), none⟩])))))
  (.reg [
    ⟨some 43, .binOp .add 3 (.tmp 13) (.const (.int .i64 1)) 3, none⟩,
    ⟨some 13, .move (.tmp 43), none⟩])))))))
  (.seq (.seq (.gh [.frz 5])
  (.reg [
    ⟨some 44, .move (.tmp 5), none⟩,
    ⟨some 45, .call ⟨(.value (.func 82)), #[(.tmp 44)], #[23]⟩, none⟩,
    ⟨some 4, .assign (.tmp 45), none⟩]))
  .ret))))⟩
theorem c96 : fcomp Tryd.prog 96 = ⟨b96.n, b96.np, b96.res, b96.body.bare⟩ := by kernel_rfl
theorem k96 : fok Tryd.prog 96 = true := by kernel_rfl
theorem nat_shiftDown (a : List Int) (k : Nat) (ha : Lim a) (la : a.length < 8796093022208) (hk : k < 32) : AFun Tryd.prog 96 [.one (natD a), .one (.lit (.int .u64 k))] [.one (natD (nl (nv a / 2 ^ k)))] := by
  refine afun_intro mo_ _ _ c96 k96 _ _ rfl (by decide) ?_
  unfold b96
  obtain ⟨p0, p1⟩ := pow_le32 hk
  have hT : (2 : Int) ^ k * 2 ^ (32 - k) = 4294967296 := by rw [← Int.pow_add, show k + (32 - k) = 32 by omega]; rfl
  simp (maxSteps:=1000000) (disch:=first | omega | (simp only [LL];omega)) only [W,V,TY,CC,reduceIte,Nat.reduceEqDiff,Nat.reduceAdd,Nat.reduceLeDiff,Nat.reduceLT,Int.reduceLE,Int.reduceLT,Int.reduceAdd,Int.reduceSub,Int.reduceToNat,Nat.reduceMul]
  refine w_loop (fun m s => ∃ (i : Nat) (D : List Int), m + i = a.length ∧ s.t 0 = .one (.dt (natD a)) ∧ s.t 1 = .one (.dt (.lit (.int .u64 k))) ∧ s.t 12 = .one (.dt (.lit (.int .i64 a.length))) ∧ s.t 13 = .one (.dt (.lit (.int .i64 i))) ∧ s.t 5 = .one (.row (10, 0) 0) ∧ s.r (10, 0) = some ⟨113, 1, a.length, natC D, 0, true⟩ ∧ D.length = a.length ∧ Lim D ∧ val (D.take i) * 2 ^ k + a.getD 0 0 % 2 ^ k = val (a.take i) + bp i * (a.getD i 0 % 2 ^ k)) a.length ⟨0, List.replicate a.length 0, rfl, ?_, ?_, ?_, ?_, ?_, ?_, by simp, Lim.replicate _, by simp [val_nil, bp_zero]⟩ ?_
  · simp (maxSteps:=1000000) (disch:=first | omega | (simp only [LL];omega)) only [W,V,TY,CC,reduceIte,Nat.reduceEqDiff,Nat.reduceAdd,Nat.reduceLeDiff,Nat.reduceLT,Int.reduceLE,Int.reduceLT,Int.reduceAdd,Int.reduceSub,Int.reduceToNat,Nat.reduceMul]
  · simp (maxSteps:=1000000) (disch:=first | omega | (simp only [LL];omega)) only [W,V,TY,CC,reduceIte,Nat.reduceEqDiff,Nat.reduceAdd,Nat.reduceLeDiff,Nat.reduceLT,Int.reduceLE,Int.reduceLT,Int.reduceAdd,Int.reduceSub,Int.reduceToNat,Nat.reduceMul]
  · simp (maxSteps:=1000000) (disch:=first | omega | (simp only [LL];omega)) only [W,V,TY,CC,reduceIte,Nat.reduceEqDiff,Nat.reduceAdd,Nat.reduceLeDiff,Nat.reduceLT,Int.reduceLE,Int.reduceLT,Int.reduceAdd,Int.reduceSub,Int.reduceToNat,Nat.reduceMul]
  · simp (maxSteps:=1000000) (disch:=first | omega | (simp only [LL];omega)) only [W,V,TY,CC,reduceIte,Nat.reduceEqDiff,Nat.reduceAdd,Nat.reduceLeDiff,Nat.reduceLT,Int.reduceLE,Int.reduceLT,Int.reduceAdd,Int.reduceSub,Int.reduceToNat,Nat.reduceMul]
  · simp (maxSteps:=1000000) (disch:=first | omega | (simp only [LL];omega)) only [W,V,TY,CC,reduceIte,Nat.reduceEqDiff,Nat.reduceAdd,Nat.reduceLeDiff,Nat.reduceLT,Int.reduceLE,Int.reduceLT,Int.reduceAdd,Int.reduceSub,Int.reduceToNat,Nat.reduceMul]
  · simp (maxSteps:=1000000) (disch:=first | omega | (simp only [LL];omega)) only [W,V,TY,CC,reduceIte,Nat.reduceEqDiff,Nat.reduceAdd,Nat.reduceLeDiff,Nat.reduceLT,Int.reduceLE,Int.reduceLT,Int.reduceAdd,Int.reduceSub,Int.reduceToNat,Nat.reduceMul]
  intro m s _ ⟨i, D, e, t0, t1, t12, t13, t5, r10, hD, lD, hv⟩
  simp (maxSteps:=1000000) (disch:=first | omega | (simp only [LL];omega)) only [W,V,TY,CC,reduceIte,Nat.reduceEqDiff,Nat.reduceAdd,Nat.reduceLeDiff,Nat.reduceLT,Int.reduceLE,Int.reduceLT,Int.reduceAdd,Int.reduceSub,Int.reduceToNat,Nat.reduceMul,t12,t13]
  refine c_split (fun hi => ?_) (fun hi => ?_)
  · have hx := ha.getD i
    have hy := ha.getD (i + 1)
    have hst := down_step (T := 2 ^ (32 - k)) (show 0 < (2 : Int) ^ k by omega) hT hx.1 hx.2 hy.1 hy.2
    generalize hK2 : (2 : Int) ^ k = K2 at *
    have hz0 : 0 ≤ (a.getD i 0 + 4294967296 * a.getD (i + 1) 0) / K2 := Int.ediv_nonneg (by omega) (by omega)
    have hz1 : (a.getD i 0 + 4294967296 * a.getD (i + 1) 0) / K2 < 18446744073709551616 := Int.lt_of_le_of_lt (Int.ediv_le_self _ (by omega)) (by omega)
    have fin : ∀ D', D' = D.set i ((a.getD i 0 + 4294967296 * a.getD (i + 1) 0) / K2 % 4294967296) → D'.length = a.length ∧ Lim D' ∧ val (D'.take (i + 1)) * K2 + a.getD 0 0 % K2 = val (a.take (i + 1)) + bp (i + 1) * (a.getD (i + 1) 0 % K2) := fun D' hD' => by
      subst hD'
      refine ⟨by simp [hD], lD.set _ (by omega) (by omega), ?_⟩
      rw [take_set_succ (by omega), val_snoc, List.length_take, Nat.min_eq_left (by omega), val_take' a i, Int.add_mul, Int.mul_assoc, hst, bp_succ]
      grind
    simp (maxSteps:=1000000) (disch:=first | omega | (simp only [LL];omega)) only [W,V,TY,CC,reduceIte,Nat.reduceEqDiff,Nat.reduceAdd,Nat.reduceLeDiff,Nat.reduceLT,Int.reduceLE,Int.reduceLT,Int.reduceAdd,Int.reduceSub,Int.reduceToNat,Nat.reduceMul,t0,t1,t12,t13,t5,r10]
    refine c_split (fun hj => ?_) (fun hj => ?_)
    · simp (maxSteps:=1000000) (disch:=first | omega | (simp only [LL];omega)) only [W,V,TY,CC,reduceIte,Nat.reduceEqDiff,Nat.reduceAdd,Nat.reduceLeDiff,Nat.reduceLT,Int.reduceLE,Int.reduceLT,Int.reduceAdd,Int.reduceSub,Int.reduceToNat,Nat.reduceMul,t0,t1,t12,t13,t5,r10,or_hic hy.1 hy.2 hx.1 hx.2,shr_var hk,hK2,shl_32 hy.1 hy.2]
      rw [show a.getD (i + 1) 0 * 4294967296 + a.getD i 0 = a.getD i 0 + 4294967296 * a.getD (i + 1) 0 by omega]
      simp (maxSteps:=1000000) (disch:=first | omega | (simp only [LL];omega)) only [W,V,TY,CC,reduceIte,Nat.reduceEqDiff,Nat.reduceAdd,Nat.reduceLeDiff,Nat.reduceLT,Int.reduceLE,Int.reduceLT,Int.reduceAdd,Int.reduceSub,Int.reduceToNat,Nat.reduceMul,t0,t1,t12,t13,t5,r10,and_m32 hz0 hz1]
      obtain ⟨f1, f2, f3⟩ := fin _ rfl
      exact ⟨by omega, by omega, by omega, m - 1, by omega, i + 1, _, by omega, rfl, rfl, f1, f2, f3⟩
    · have h0 : a.getD (i + 1) 0 = 0 := Limbs.getD_over (by omega)
      rw [h0, Int.mul_zero, Int.add_zero] at hz0 hz1
      simp (maxSteps:=1000000) (disch:=first | omega | (simp only [LL];omega)) only [W,V,TY,CC,reduceIte,Nat.reduceEqDiff,Nat.reduceAdd,Nat.reduceLeDiff,Nat.reduceLT,Int.reduceLE,Int.reduceLT,Int.reduceAdd,Int.reduceSub,Int.reduceToNat,Nat.reduceMul,t0,t1,t12,t13,t5,r10,shr_var hk,hK2,and_m32 hz0 hz1]
      rw [h0, Int.mul_zero, Int.add_zero] at fin
      obtain ⟨f1, f2, f3⟩ := fin _ rfl
      rw [← h0] at f3
      exact ⟨by omega, by omega, by omega, m - 1, by omega, i + 1, _, by omega, rfl, rfl, f1, f2, by rw [h0] at f3 ⊢; exact f3⟩
  · simp (maxSteps:=1000000) (disch:=first | omega | (simp only [LL];omega)) only [W,V,TY,CC,reduceIte,Nat.reduceEqDiff,Nat.reduceAdd,Nat.reduceLeDiff,Nat.reduceLT,Int.reduceLE,Int.reduceLT,Int.reduceAdd,Int.reduceSub,Int.reduceToNat,Nat.reduceMul,t12,t13]
    refine a_call _ _ (nat_trim D lD (by omega)) (by simp (maxSteps:=1000000) (disch:=first | omega | (simp only [LL];omega)) only [W,V,TY,CC,reduceIte,Nat.reduceEqDiff,Nat.reduceAdd,Nat.reduceLeDiff,Nat.reduceLT,Int.reduceLE,Int.reduceLT,Int.reduceAdd,Int.reduceSub,Int.reduceToNat,Nat.reduceMul,t0,t1,t12,t13,t5,r10]) ?_
    simp (maxSteps:=1000000) (disch:=first | omega | (simp only [LL];omega)) only [W,V,TY,CC,reduceIte,Nat.reduceEqDiff,Nat.reduceAdd,Nat.reduceLeDiff,Nat.reduceLT,Int.reduceLE,Int.reduceLT,Int.reduceAdd,Int.reduceSub,Int.reduceToNat,Nat.reduceMul]
    refine f_ret _ _ _ ?_
    have hi' : i = a.length := by omega
    subst hi'
    rw [List.take_of_length_le (by omega), List.take_length, Limbs.getD_over (Nat.le_refl _), Int.zero_emod, Int.mul_zero, Int.add_zero, ← nv_eq ha, ← nv_eq lD] at hv
    have hres : tr D = nl (nv a / 2 ^ k) := by
      unfold tr
      congr 1
      have h0 := Int.emod_nonneg (a.getD 0 0) (show (2 : Int) ^ k ≠ 0 by omega)
      have h1 := Int.emod_lt_of_pos (a.getD 0 0) (show 0 < (2 : Int) ^ k by omega)
      have hr : nv a = nv D * 2 ^ k + (a.getD 0 0 % 2 ^ k).toNat := by
        have : ((nv D * 2 ^ k : Nat) : Int) = (nv D : Int) * 2 ^ k := by simp
        omega
      have hlt : (a.getD 0 0 % 2 ^ k).toNat < 2 ^ k := by
        have : ((2 ^ k : Nat) : Int) = (2 : Int) ^ k := by simp
        omega
      rw [hr, Nat.add_comm, Nat.add_mul_div_right _ _ (Nat.two_pow_pos _), Nat.div_eq_of_lt hlt, Nat.zero_add]
    simp (maxSteps:=1000000) (disch:=first | omega | (simp only [LL];omega)) only [W,V,TY,CC,reduceIte,Nat.reduceEqDiff,Nat.reduceAdd,Nat.reduceLeDiff,Nat.reduceLT,Int.reduceLE,Int.reduceLT,Int.reduceAdd,Int.reduceSub,Int.reduceToNat,Nat.reduceMul,hres]
end Go.Proofs.YtljmgdepldpmdaaDoor.E

set_option linter.unusedSimpArgs false
set_option linter.unusedVariables false
set_option maxHeartbeats 2000000
namespace Go.Proofs.YtljmgdepldpmdaaDoor.E
open Go.RowKit Limbs
/-- what guess gives -/
def gs (H W : Nat) : Nat := min 4294967295 (H / W)
theorem gs_eq {H W d : Nat} (hW : 0 < W) (h1 : d ≤ 4294967295) (h2 : d * W ≤ H) (h3 : 4294967295 ≤ d ∨ H < (d + 1) * W) : gs H W = d := by
  unfold gs
  have h4 : d ≤ H / W := (Nat.le_div_iff_mul_le hW).2 h2
  rcases h3 with h3 | h3
  · omega
  · have := Nat.div_lt_of_lt_mul (by rw [Nat.mul_comm]; exact h3 : H < W * (d + 1))
    omega
/-- examboard/nat.guess -/
def b93 : AF := ⟨51, 5, [.tmp 10],
  (.seq (.reg [
    ⟨some 10, .assign (.const (.int .u64 0)), none⟩])
  (.seq (.reg [
    ⟨some 14, .move (.tmp 0), none⟩,
    ⟨some 15, .convert 113 99 (.tmp 14), none⟩,
    ⟨some 16, .binOp .shl 99 (.tmp 15) (.const (.int .u64 32)) 114, none⟩,
    ⟨some 17, .move (.tmp 1), none⟩,
    ⟨some 18, .convert 113 99 (.tmp 17), none⟩,
    ⟨some 19, .binOp .or 99 (.tmp 16) (.tmp 18) 99, none⟩,
    ⟨some 11, .assign (.tmp 19), none⟩])
  (.seq (.reg [
    ⟨some 20, .move (.tmp 11), none⟩,
    ⟨some 21, .move (.tmp 3), none⟩,
    ⟨some 22, .convert 113 99 (.tmp 21), none⟩,
    ⟨some 23, .binOp .quo 99 (.tmp 20) (.tmp 22) 99, none⟩,
    ⟨some 12, .assign (.tmp 23), none⟩])
  (.seq (.reg [
    ⟨some 24, .move (.tmp 11), none⟩,
    ⟨some 25, .move (.tmp 3), none⟩,
    ⟨some 26, .convert 113 99 (.tmp 25), none⟩,
    ⟨some 27, .binOp .rem 99 (.tmp 24) (.tmp 26) 99, none⟩,
    ⟨some 13, .assign (.tmp 27), none⟩])
  (.seq (.block 0 (.loop (.seq (.seq (.reg [
    ⟨some 28, .move (.tmp 12), none⟩,
    ⟨some 29, .binOp .gtr 99 (.tmp 28) (.const (.int .u64 4294967295)) 99, none⟩,
    ⟨some 30, .move (.tmp 29), none⟩,
    ⟨some 31, .move (.tmp 12), some (30, false)⟩,
    ⟨some 32, .move (.tmp 4), some (30, false)⟩,
    ⟨some 33, .convert 113 99 (.tmp 32), some (30, false)⟩,
    ⟨some 34, .binOp .mul 99 (.tmp 31) (.tmp 33) 99, some (30, false)⟩,
    ⟨some 35, .move (.tmp 13), some (30, false)⟩,
    ⟨some 36, .binOp .shl 99 (.tmp 35) (.const (.int .u64 32)) 114, some (30, false)⟩,
    ⟨some 37, .move (.tmp 2), some (30, false)⟩,
    ⟨some 38, .convert 113 99 (.tmp 37), some (30, false)⟩,
    ⟨some 39, .binOp .or 99 (.tmp 36) (.tmp 38) 99, some (30, false)⟩,
    ⟨some 40, .binOp .gtr 99 (.tmp 34) (.tmp 39) 99, some (30, false)⟩,
    ⟨some 41, .pick (.tmp 30) (.const (.bool true)) (.tmp 40), none⟩])
  (.cond (.tmp 41)
    .skip
    (.exit 0)))
  (.block 1 (.seq (.reg [
    ⟨some 42, .move (.tmp 12), none⟩,
    ⟨some 43, .binOp .sub 99 (.tmp 42) (.const (.int .u64 1)) 99, none⟩,
    ⟨some 12, .assign (.tmp 43), none⟩])
  (.seq (.reg [
    ⟨some 44, .move (.tmp 13), none⟩,
    ⟨some 45, .move (.tmp 3), none⟩,
    ⟨some 46, .convert 113 99 (.tmp 45), none⟩,
    ⟨some 47, .binOp .add 99 (.tmp 44) (.tmp 46) 99, none⟩,
    ⟨some 13, .assign (.tmp 47), none⟩])
  (.seq (.reg [
    ⟨some 48, .move (.tmp 13), none⟩,
    ⟨some 49, .binOp .gtr 99 (.tmp 48) (.const (.int .u64 4294967295)) 99, none⟩])
  (.cond (.tmp 49)
    (.exit 0)
    .skip))))))))
  (.seq (.reg [
    ⟨some 50, .move (.tmp 12), none⟩,
    ⟨some 10, .assign (.tmp 50), none⟩])
  .ret))))))⟩
theorem c93 : fcomp Tryd.prog 93 = ⟨b93.n, b93.np, b93.res, b93.body.bare⟩ := by kernel_rfl
theorem k93 : fok Tryd.prog 93 = true := by kernel_rfl
theorem nat_guess (u2 u1 u0 v1 v0 : Nat) (h2 : u2 < 4294967296) (h1 : u1 < 4294967296) (h0 : u0 < 4294967296) (w1 : v1 < 4294967296) (w0 : v0 < 4294967296) (hv : 2147483648 ≤ v1) (hh : u2 * 4294967296 + u1 ≤ v1 * 4294967296 + v0) :
    AFun Tryd.prog 93 [.one (.lit (.int .u32 u2)), .one (.lit (.int .u32 u1)), .one (.lit (.int .u32 u0)), .one (.lit (.int .u32 v1)), .one (.lit (.int .u32 v0))] [.one (.lit (.int .u64 (gs (u2 * 18446744073709551616 + u1 * 4294967296 + u0) (v1 * 4294967296 + v0) : Nat)))] := by
  refine afun_intro mo_ _ _ c93 k93 _ _ rfl (by decide) ?_
  unfold b93
  simp (maxSteps:=1000000) (disch:=first | omega | (simp only [LL];omega)) only [W,V,TY,CC,reduceIte,Nat.reduceEqDiff,Nat.reduceAdd,Nat.reduceLeDiff,Nat.reduceLT,Int.reduceLE,Int.reduceLT,Int.reduceAdd,Int.reduceSub,Int.reduceToNat,Nat.reduceMul]
  refine ⟨by omega, by omega, ?_⟩
  obtain ⟨hd, hhd⟩ : ∃ hd, hd = u2 * 4294967296 + u1 := ⟨_, rfl⟩
  have e1 : (u2 : Int) * 4294967296 + (u1 : Int) = (hd : Int) := by omega
  have e2 : (hd : Int) / (v1 : Int) = (hd / v1 : Nat) := by simp
  have e3 : (hd : Int) % (v1 : Int) = (hd % v1 : Nat) := by simp
  have hdm := Nat.div_add_mod hd v1
  have hr := Nat.mod_lt hd (show v1 > 0 by omega)
  have hHv : u2 * 18446744073709551616 + u1 * 4294967296 + u0 = hd * 4294967296 + u0 := by omega
  rw [← hhd] at hh
  rw [hHv]
  have hdB : hd < 18446744073709551616 := by omega
  refine w_loop (fun n s => ∃ d r : Nat, n = d ∧ s.t 2 = .one (.dt (.lit (.int .u32 u0))) ∧ s.t 3 = .one (.dt (.lit (.int .u32 v1))) ∧ s.t 4 = .one (.dt (.lit (.int .u32 v0))) ∧ s.t 12 = .one (.dt (.lit (.int .u64 d))) ∧ s.t 13 = .one (.dt (.lit (.int .u64 r))) ∧ hd = v1 * d + r ∧ r < 4294967296 ∧ (4294967295 ≤ d ∨ hd * 4294967296 + u0 < (d + 1) * (v1 * 4294967296 + v0))) (hd / v1) ⟨hd / v1, hd % v1, rfl, ?_, ?_, ?_, ?_, ?_, by omega, by omega, ?_⟩ ?_
  · simp (maxSteps:=1000000) (disch:=first | omega | (simp only [LL];omega)) only [W,V,TY,CC,reduceIte,Nat.reduceEqDiff,Nat.reduceAdd,Nat.reduceLeDiff,Nat.reduceLT,Int.reduceLE,Int.reduceLT,Int.reduceAdd,Int.reduceSub,Int.reduceToNat,Nat.reduceMul]
  · simp (maxSteps:=1000000) (disch:=first | omega | (simp only [LL];omega)) only [W,V,TY,CC,reduceIte,Nat.reduceEqDiff,Nat.reduceAdd,Nat.reduceLeDiff,Nat.reduceLT,Int.reduceLE,Int.reduceLT,Int.reduceAdd,Int.reduceSub,Int.reduceToNat,Nat.reduceMul]
  · simp (maxSteps:=1000000) (disch:=first | omega | (simp only [LL];omega)) only [W,V,TY,CC,reduceIte,Nat.reduceEqDiff,Nat.reduceAdd,Nat.reduceLeDiff,Nat.reduceLT,Int.reduceLE,Int.reduceLT,Int.reduceAdd,Int.reduceSub,Int.reduceToNat,Nat.reduceMul]
  · simp (maxSteps:=1000000) (disch:=first | omega | (simp only [LL];omega)) only [W,V,TY,CC,reduceIte,Nat.reduceEqDiff,Nat.reduceAdd,Nat.reduceLeDiff,Nat.reduceLT,Int.reduceLE,Int.reduceLT,Int.reduceAdd,Int.reduceSub,Int.reduceToNat,Nat.reduceMul,e1,e2]
    rw [wu64 (Int.natCast_nonneg _) (by have := Nat.div_le_self hd v1; omega)]
  · simp (maxSteps:=1000000) (disch:=first | omega | (simp only [LL];omega)) only [W,V,TY,CC,reduceIte,Nat.reduceEqDiff,Nat.reduceAdd,Nat.reduceLeDiff,Nat.reduceLT,Int.reduceLE,Int.reduceLT,Int.reduceAdd,Int.reduceSub,Int.reduceToNat,Nat.reduceMul,e1,e3]
  · right
    have h5 : hd < v1 * (hd / v1 + 1) := by rw [Nat.mul_add]; omega
    have h6 : (hd + 1) * 4294967296 ≤ v1 * (hd / v1 + 1) * 4294967296 := Nat.mul_le_mul_right _ h5
    have h7 : (hd / v1 + 1) * (v1 * 4294967296 + v0) = v1 * (hd / v1 + 1) * 4294967296 + (hd / v1 + 1) * v0 := by grind
    omega
  intro n s _ ⟨d, r, e, t2, t3, t4, t12, t13, hdr, hr, hP⟩
  clear e1 e2 e3 hdm hHv
  have hdd : d ≤ hd := by
    have : 1 * d ≤ v1 * d := Nat.mul_le_mul_right _ (by omega)
    omega
  have hW : 0 < v1 * 4294967296 + v0 := by omega
  -- one less
  have dec : (4294967295 < d ∨ hd * 4294967296 + u0 < d * (v1 * 4294967296 + v0)) → ∃ d', d = d' + 1 ∧ hd = v1 * d' + (r + v1) ∧ (4294967295 ≤ d' ∨ hd * 4294967296 + u0 < (d' + 1) * (v1 * 4294967296 + v0)) ∧ (4294967296 ≤ r + v1 → gs (hd * 4294967296 + u0) (v1 * 4294967296 + v0) = d') := by
    intro hc
    obtain ⟨d', rfl⟩ : ∃ d', d = d' + 1 := ⟨d - 1, by
      rcases Nat.eq_zero_or_pos d with h | h
      · rw [h] at hc; omega
      · omega⟩
    have h1 : hd = v1 * d' + (r + v1) := by rw [Nat.mul_add] at hdr; omega
    have h2 : 4294967295 ≤ d' ∨ hd * 4294967296 + u0 < (d' + 1) * (v1 * 4294967296 + v0) := by
      rcases hc with hc | hc
      · left; omega
      · right; exact hc
    refine ⟨d', rfl, h1, h2, fun hr' => ?_⟩
    have h3 : d' ≤ 4294967295 := by
      rcases Nat.lt_or_ge 4294967295 d' with h | h
      · exfalso
        have : v1 * 4294967296 ≤ v1 * d' := Nat.mul_le_mul_left _ h
        omega
      · exact h
    refine gs_eq hW h3 ?_ h2
    have h4 : d' * (v1 * 4294967296 + v0) = v1 * d' * 4294967296 + d' * v0 := by grind
    have h5 : d' * v0 ≤ 4294967295 * 4294967296 := Nat.mul_le_mul h3 (by omega)
    omega
  simp (maxSteps:=1000000) (disch:=first | omega | (simp only [LL];omega)) only [W,V,TY,CC,reduceIte,Nat.reduceEqDiff,Nat.reduceAdd,Nat.reduceLeDiff,Nat.reduceLT,Int.reduceLE,Int.reduceLT,Int.reduceAdd,Int.reduceSub,Int.reduceToNat,Nat.reduceMul,t2,t3,t4,t12,t13]
  refine g_split (fun h => ?_) (fun h => ?_)
  · obtain ⟨d', hde, hd1, hP1, hex⟩ := dec (.inl (by omega))
    have hd2 : (d : Int) - 1 = (d' : Int) := by omega
    simp (maxSteps:=1000000) (disch:=first | omega | (simp only [LL];omega)) only [W,V,TY,CC,reduceIte,Nat.reduceEqDiff,Nat.reduceAdd,Nat.reduceLeDiff,Nat.reduceLT,Int.reduceLE,Int.reduceLT,Int.reduceAdd,Int.reduceSub,Int.reduceToNat,Nat.reduceMul,t2,t3,t4,t12,t13,h,hd2]
    refine c_split (fun hb => ?_) (fun hb => ?_)
    · simp (maxSteps:=1000000) (disch:=first | omega | (simp only [LL];omega)) only [W,V,TY,CC,reduceIte,Nat.reduceEqDiff,Nat.reduceAdd,Nat.reduceLeDiff,Nat.reduceLT,Int.reduceLE,Int.reduceLT,Int.reduceAdd,Int.reduceSub,Int.reduceToNat,Nat.reduceMul]
      refine f_ret _ _ _ ?_
      have hx := hex (by omega)
      simp (maxSteps:=1000000) (disch:=first | omega | (simp only [LL];omega)) only [W,V,TY,CC,reduceIte,Nat.reduceEqDiff,Nat.reduceAdd,Nat.reduceLeDiff,Nat.reduceLT,Int.reduceLE,Int.reduceLT,Int.reduceAdd,Int.reduceSub,Int.reduceToNat,Nat.reduceMul,hx]
    · simp (maxSteps:=1000000) (disch:=first | omega | (simp only [LL];omega)) only [W,V,TY,CC,reduceIte,Nat.reduceEqDiff,Nat.reduceAdd,Nat.reduceLeDiff,Nat.reduceLT,Int.reduceLE,Int.reduceLT,Int.reduceAdd,Int.reduceSub,Int.reduceToNat,Nat.reduceMul,t2,t3,t4]
      refine ⟨d', by omega, d', r + v1, rfl, rfl, by rw [Int.natCast_add], hd1, by omega, hP1⟩
  · have hm : (d : Int) * (v0 : Int) = ((d * v0 : Nat) : Int) := by simp
    have hm1 : d * v0 ≤ 4294967295 * 4294967295 := Nat.mul_le_mul (by omega) (by omega)
    simp (maxSteps:=1000000) (disch:=first | omega | (simp only [LL];omega)) only [W,V,TY,CC,reduceIte,Nat.reduceEqDiff,Nat.reduceAdd,Nat.reduceLeDiff,Nat.reduceLT,Int.reduceLE,Int.reduceLT,Int.reduceAdd,Int.reduceSub,Int.reduceToNat,Nat.reduceMul,t2,t3,t4,t12,t13,h,hm,wu64 (n := ((d * v0 : Nat) : Int)) (Int.natCast_nonneg _) (by omega)]
    refine c_split (fun hc => ?_) (fun hc => ?_)
    · have h4 : d * (v1 * 4294967296 + v0) = v1 * d * 4294967296 + d * v0 := by grind
      obtain ⟨d', hde, hd1, hP1, hex⟩ := dec (.inr (by omega))
      have hd2 : (d : Int) - 1 = (d' : Int) := by omega
      simp (maxSteps:=1000000) (disch:=first | omega | (simp only [LL];omega)) only [W,V,TY,CC,reduceIte,Nat.reduceEqDiff,Nat.reduceAdd,Nat.reduceLeDiff,Nat.reduceLT,Int.reduceLE,Int.reduceLT,Int.reduceAdd,Int.reduceSub,Int.reduceToNat,Nat.reduceMul,t2,t3,t4,t12,t13,h,hc,hd2]
      refine c_split (fun hb => ?_) (fun hb => ?_)
      · simp (maxSteps:=1000000) (disch:=first | omega | (simp only [LL];omega)) only [W,V,TY,CC,reduceIte,Nat.reduceEqDiff,Nat.reduceAdd,Nat.reduceLeDiff,Nat.reduceLT,Int.reduceLE,Int.reduceLT,Int.reduceAdd,Int.reduceSub,Int.reduceToNat,Nat.reduceMul]
        refine f_ret _ _ _ ?_
        have hx := hex (by omega)
        simp (maxSteps:=1000000) (disch:=first | omega | (simp only [LL];omega)) only [W,V,TY,CC,reduceIte,Nat.reduceEqDiff,Nat.reduceAdd,Nat.reduceLeDiff,Nat.reduceLT,Int.reduceLE,Int.reduceLT,Int.reduceAdd,Int.reduceSub,Int.reduceToNat,Nat.reduceMul,hx]
      · simp (maxSteps:=1000000) (disch:=first | omega | (simp only [LL];omega)) only [W,V,TY,CC,reduceIte,Nat.reduceEqDiff,Nat.reduceAdd,Nat.reduceLeDiff,Nat.reduceLT,Int.reduceLE,Int.reduceLT,Int.reduceAdd,Int.reduceSub,Int.reduceToNat,Nat.reduceMul,t2,t3,t4]
        refine ⟨d', by omega, d', r + v1, rfl, rfl, by rw [Int.natCast_add], hd1, by omega, hP1⟩
    · simp (maxSteps:=1000000) (disch:=first | omega | (simp only [LL];omega)) only [W,V,TY,CC,reduceIte,Nat.reduceEqDiff,Nat.reduceAdd,Nat.reduceLeDiff,Nat.reduceLT,Int.reduceLE,Int.reduceLT,Int.reduceAdd,Int.reduceSub,Int.reduceToNat,Nat.reduceMul,t2,t3,t4,t12,t13,h,hc]
      refine f_ret _ _ _ ?_
      have h4 : d * (v1 * 4294967296 + v0) = v1 * d * 4294967296 + d * v0 := by grind
      have hx := gs_eq hW (d := d) (by omega) (show d * (v1 * 4294967296 + v0) ≤ hd * 4294967296 + u0 by omega) hP
      simp (maxSteps:=1000000) (disch:=first | omega | (simp only [LL];omega)) only [W,V,TY,CC,reduceIte,Nat.reduceEqDiff,Nat.reduceAdd,Nat.reduceLeDiff,Nat.reduceLT,Int.reduceLE,Int.reduceLT,Int.reduceAdd,Int.reduceSub,Int.reduceToNat,Nat.reduceMul,hx]
end Go.Proofs.YtljmgdepldpmdaaDoor.E

set_option linter.unusedSimpArgs false
set_option linter.unusedVariables false
set_option maxHeartbeats 2000000
namespace Go.Proofs.YtljmgdepldpmdaaDoor.E
open Go.RowKit Limbs
theorem shr_63 (n : Int) : shr .u64 n 63 = n / 9223372036854775808 := by
  unfold shr
  rw [show (2 : Int) ^ (min (Int.toNat 63) IntKind.u64.bits) = 9223372036854775808 from rfl, Int.fdiv_eq_ediv_of_nonneg _ (by decide)]
theorem val_win (l : List Int) (a b : Nat) : val (l.take (a + b)) = val (l.take a) + bp a * val ((l.drop a).take b) := by
  by_cases h : a ≤ l.length
  · rw [List.take_add, val_append, List.length_take, Nat.min_eq_left h]
  · rw [List.take_of_length_le (by omega), List.take_of_length_le (by omega), List.drop_of_length_le (by omega), List.take_nil, val_nil]; omega
theorem nv_win_lt {l : List Int} (h : Lim l) (a b : Nat) : 0 ≤ val ((l.drop a).take b) ∧ val ((l.drop a).take b) < bp b := ⟨val_nonneg ((h.drop a).take b), val_take_lt (h.drop a) b⟩
theorem sub_step {U br x : Int} (u0 : 0 ≤ U) (u1 : U < 4294967296) (b0 : 0 ≤ br) (b1 : br ≤ 1) (x0 : 0 ≤ x) (x1 : x < 4294967296) :
    ∃ nb : Int, 0 ≤ nb ∧ nb ≤ 1 ∧ IntKind.u64.wrap (IntKind.u64.wrap (U - br) - x) / 9223372036854775808 = nb ∧ IntKind.u32.wrap (bits .and .u64 (IntKind.u64.wrap (IntKind.u64.wrap (U - br) - x)) 4294967295) = U - br - x + 4294967296 * nb ∧ 0 ≤ U - br - x + 4294967296 * nb ∧ U - br - x + 4294967296 * nb < 4294967296 ∧ IntKind.u64.wrap (IntKind.u64.wrap (U - br) - x) % 4294967296 = U - br - x + 4294967296 * nb := by
  rw [and_m32 (by rw [IntKind.wrap_u64]; omega) (by rw [IntKind.wrap_u64]; omega)]
  rw [IntKind.wrap_u64, IntKind.wrap_u64, IntKind.wrap_u32]
  by_cases h : U - br - x < 0
  · exact ⟨1, by omega, by omega, by omega, by omega, by omega, by omega, by omega⟩
  · exact ⟨0, by omega, by omega, by omega, by omega, by omega, by omega, by omega⟩
/-- the window of n + 1 limbs from off on -/
def win (l : List Int) (off n : Nat) : Int := val ((l.drop off).take (n + 1))
/-- what subtract leaves -/
def subL (l : List Int) (off n : Nat) (p : Int) : List Int := lim l.length (val l - bp off * p + if win l off n < p then bp (off + n + 1) else 0).toNat
theorem sub_end {l T : List Int} {off n : Nat} {p nb : Int} (hl : Lim l) (hT : Lim T) (hTl : T.length = l.length) (D1 : val (T.take off) = val (l.take off)) (D2 : T.drop (off + n + 1) = l.drop (off + n + 1)) (hpre : val (T.take (off + n + 1)) = val (l.take (off + n + 1)) + bp off * (nb * bp (n + 1) - p)) (n0 : 0 ≤ nb) (n1 : nb ≤ 1) (hp : 0 ≤ p) :
    T = subL l off n p ∧ nb = if win l off n < p then 1 else 0 := by
  have hb := bp_pos off
  have h1 := val_win T off (n + 1)
  have h2 := val_win l off (n + 1)
  rw [← Nat.add_assoc] at h1 h2
  rw [hpre, h2, D1] at h1
  have h3 : bp off * val ((T.drop off).take (n + 1)) = bp off * (win l off n + nb * bp (n + 1) - p) := by
    unfold win
    grind
  have hwin := Int.eq_of_mul_eq_mul_left (by omega) h3
  have hw0 := nv_win_lt hT off (n + 1)
  rw [hwin] at hw0
  have hwl := nv_win_lt hl off (n + 1)
  have hwd : win l off n = val ((l.drop off).take (n + 1)) := rfl
  have hnb : nb = if win l off n < p then 1 else 0 := by
    rcases (by omega : nb = 0 ∨ nb = 1) with h | h
    · subst h; rw [if_neg (by omega)]
    · subst h; rw [if_pos (by omega)]
  refine ⟨?_, hnb⟩
  have hval : val T = val l - bp off * p + if win l off n < p then bp (off + n + 1) else 0 := by
    rw [val_split' T (off + n + 1), hpre, D2, val_split' l (off + n + 1), hnb]
    have hb3 : bp (off + n + 1) = bp off * bp (n + 1) := by rw [Nat.add_assoc, bp_add]
    split
    · rw [hb3]; grind
    · grind
  have h0 := val_nonneg hT
  refine eq_lim hT hTl ?_
  rw [hval] at h0 ⊢
  omega
/-- examboard/nat.subtract -/
def b94 : AF := ⟨67, 3, [.tmp 6],
  (.seq (.reg [
    ⟨some 6, .assign (.const (.bool false)), none⟩])
  (.seq (.reg [
    ⟨some 7, .assign (.const (.int .u64 0)), none⟩,
    ⟨some 8, .assign (.const (.int .u64 0)), none⟩])
  (.seq (.seq (.reg [
    ⟨some 13, .move (.tmp 1), none⟩,
    ⟨some 14, .call ⟨(.builtin .len), #[(.tmp 13)], #[23]⟩, none⟩,
    ⟨some 15, .move (.const (.int .i64 0)), none⟩])
  (.block 0 (.loop (.seq (.reg [
    ⟨some 16, .binOp .lss 3 (.tmp 15) (.tmp 14) 3, none⟩])
  (.seq (.cond (.tmp 16)
    .skip
    (.exit 0))
  (.seq (.block 1 (.seq (.reg [
    ⟨some 17, .move (.tmp 15), none⟩,
    ⟨some 18, .indexAddr 23 (.tmp 13) (.tmp 15), none⟩,
    ⟨some 19, .load 113 (.tmp 18), none⟩,
    ⟨some 9, .assign (.tmp 17), none⟩,
    ⟨some 10, .assign (.tmp 19), none⟩])
  (.seq (.reg [
    ⟨some 20, .move (.tmp 8), none⟩,
    ⟨some 21, .move (.tmp 2), none⟩,
    ⟨some 22, .move (.tmp 10), none⟩,
    ⟨some 23, .convert 113 99 (.tmp 22), none⟩,
    ⟨some 24, .binOp .mul 99 (.tmp 21) (.tmp 23) 99, none⟩,
    ⟨some 25, .binOp .add 99 (.tmp 20) (.tmp 24) 99, none⟩,
    ⟨some 8, .assign (.tmp 25), none⟩])
  (.seq (.reg [
    ⟨some 26, .move (.tmp 0), none⟩,
    ⟨some 27, .move (.tmp 9), none⟩,
    ⟨some 28, .indexAddr 23 (.tmp 26) (.tmp 27), none⟩,
    ⟨some 29, .load 113 (.tmp 28), none⟩,
    ⟨some 30, .convert 113 99 (.tmp 29), none⟩,
    ⟨some 31, .move (.tmp 7), none⟩,
    ⟨some 32, .binOp .sub 99 (.tmp 30) (.tmp 31) 99, none⟩,
    ⟨some 33, .move (.tmp 8), none⟩,
    ⟨some 34, .binOp .and 99 (.tmp 33) (.const (.int .u64 4294967295)) 99, none⟩,
    ⟨some 35, .binOp .sub 99 (.tmp 32) (.tmp 34) 99, none⟩,
    ⟨some 11, .assign (.tmp 35), none⟩])
  (.seq (.reg [
    ⟨some 36, .move (.tmp 0), none⟩,
    ⟨some 37, .move (.tmp 9), none⟩,
    ⟨some 38, .move (.tmp 11), none⟩,
    ⟨some 39, .binOp .and 99 (.tmp 38) (.const (.int .u64 4294967295)) 99, none⟩,
    ⟨some 40, .convert 99 113 (.tmp 39), none⟩,
    ⟨some 41, .indexAddr 23 (.tmp 36) (.tmp 37), none⟩,
    ⟨none, .store 113 (.tmp 41) (.tmp 40), none⟩])
  (.seq (.reg [
    ⟨some 42, .move (.tmp 11), none⟩,
    ⟨some 43, .binOp .shr 99 (.tmp 42) (.const (.int .u64 63)) 114, none⟩,
    ⟨some 7, .assign (.tmp 43), none⟩])
  (.reg [
    ⟨some 44, .move (.tmp 8), none⟩,
    ⟨some 45, .binOp .shr 99 (.tmp 44) (.const (.int .u64 32)) 114, none⟩,
    ⟨some 8, .assign (.tmp 45), none⟩])))))))
  (.reg [
    ⟨some 46, .binOp .add 3 (.tmp 15) (.const (.int .i64 1)) 3, none⟩,
    ⟨some 15, .move (.tmp 46), none⟩])))))))
  (.seq (.reg [
    ⟨some 47, .move (.tmp 0), none⟩,
    ⟨some 48, .move (.tmp 1), none⟩,
    ⟨some 49, .call ⟨(.builtin .len), #[(.tmp 48)], #[23]⟩, none⟩,
    ⟨some 50, .indexAddr 23 (.tmp 47) (.tmp 49), none⟩,
    ⟨some 51, .load 113 (.tmp 50), none⟩,
    ⟨some 52, .convert 113 99 (.tmp 51), none⟩,
    ⟨some 53, .move (.tmp 7), none⟩,
    ⟨some 54, .binOp .sub 99 (.tmp 52) (.tmp 53) 99, none⟩,
    ⟨some 55, .move (.tmp 8), none⟩,
    ⟨some 56, .binOp .sub 99 (.tmp 54) (.tmp 55) 99, none⟩,
    ⟨some 12, .assign (.tmp 56), none⟩])
  (.seq (.reg [
    ⟨some 57, .move (.tmp 0), none⟩,
    ⟨some 58, .move (.tmp 1), none⟩,
    ⟨some 59, .call ⟨(.builtin .len), #[(.tmp 58)], #[23]⟩, none⟩,
    ⟨some 60, .move (.tmp 12), none⟩,
    ⟨some 61, .binOp .and 99 (.tmp 60) (.const (.int .u64 4294967295)) 99, none⟩,
    ⟨some 62, .convert 99 113 (.tmp 61), none⟩,
    ⟨some 63, .indexAddr 23 (.tmp 57) (.tmp 59), none⟩,
    ⟨none, .store 113 (.tmp 63) (.tmp 62), none⟩])
  (.seq (.reg [
    ⟨some 64, .move (.tmp 12), none⟩,
    ⟨some 65, .binOp .shr 99 (.tmp 64) (.const (.int .u64 63)) 114, none⟩,
    ⟨some 66, .binOp .eql 99 (.tmp 65) (.const (.int .u64 1)) 99, none⟩,
    ⟨some 6, .assign (.tmp 66), none⟩])
  .ret))))))⟩
theorem c94 : fcomp Tryd.prog 94 = ⟨b94.n, b94.np, b94.res, b94.body.bare⟩ := by kernel_rfl
theorem k94 : fok Tryd.prog 94 = true := by kernel_rfl
theorem nat_subtract (l v : List Int) (off n g : Nat) (hl : Lim l) (hlv : Lim v) (hvn : v.length = n) (hoff : off + n + 1 ≤ l.length) (hn : n < 8796093022208) (hg : g < 4294967296) :
    WFun Tryd.prog 94 l off (n + 1) [.one (natD v), .one (.lit (.int .u64 g))] (subL l off n (g * val v)) [.one (.lit (.bool (decide (win l off n < g * val v))))] := by
  refine wfun_intro mo_ _ _ c94 k94 _ _ _ _ _ _ rfl (by decide) rfl ?_
  unfold b94
  simp (maxSteps:=1000000) (disch:=first | omega | (simp only [LL];omega)) only [W,V,TY,CC,reduceIte,Nat.reduceEqDiff,Nat.reduceAdd,Nat.reduceLeDiff,Nat.reduceLT,Int.reduceLE,Int.reduceLT,Int.reduceAdd,Int.reduceSub,Int.reduceToNat,Nat.reduceMul,hvn]
  refine w_loop (fun m s => ∃ (i : Nat) (br c : Int) (L : List Int), m + i = n ∧ s.t 0 = .sv (0, 0) off (n + 1) ∧ s.t 1 = .one (.dt (natD v)) ∧ s.t 2 = .one (.dt (.lit (.int .u64 g))) ∧ s.t 13 = .one (.dt (natD v)) ∧ s.t 14 = .one (.dt (.lit (.int .i64 n))) ∧ s.t 15 = .one (.dt (.lit (.int .i64 i))) ∧ s.t 7 = .one (.dt (.lit (.int .u64 br))) ∧ s.t 8 = .one (.dt (.lit (.int .u64 c))) ∧ s.v (0, 0) = some (u32s L) ∧ s.f (0, 0) = false ∧ L.length = l.length ∧ Lim L ∧ 0 ≤ c ∧ c < 4294967296 ∧ 0 ≤ br ∧ br ≤ 1 ∧ val (L.take off) = val (l.take off) ∧ L.drop (off + n + 1) = l.drop (off + n + 1) ∧ (∀ k, off + i ≤ k → L.getD k 0 = l.getD k 0) ∧ val (L.take (off + i)) = val (l.take (off + i)) + bp off * ((br + c) * bp i - g * val (v.take i))) n ⟨0, 0, 0, l, rfl, ?_, ?_, ?_, ?_, ?_, ?_, ?_, ?_, ?_, ?_, rfl, hl, Int.le_refl _, by decide, Int.le_refl _, by decide, rfl, rfl, fun _ _ => rfl, by simp [val_nil]⟩ ?_
  · simp (maxSteps:=1000000) (disch:=first | omega | (simp only [LL];omega)) only [W,V,TY,CC,reduceIte,Nat.reduceEqDiff,Nat.reduceAdd,Nat.reduceLeDiff,Nat.reduceLT,Int.reduceLE,Int.reduceLT,Int.reduceAdd,Int.reduceSub,Int.reduceToNat,Nat.reduceMul]
  · simp (maxSteps:=1000000) (disch:=first | omega | (simp only [LL];omega)) only [W,V,TY,CC,reduceIte,Nat.reduceEqDiff,Nat.reduceAdd,Nat.reduceLeDiff,Nat.reduceLT,Int.reduceLE,Int.reduceLT,Int.reduceAdd,Int.reduceSub,Int.reduceToNat,Nat.reduceMul]
  · simp (maxSteps:=1000000) (disch:=first | omega | (simp only [LL];omega)) only [W,V,TY,CC,reduceIte,Nat.reduceEqDiff,Nat.reduceAdd,Nat.reduceLeDiff,Nat.reduceLT,Int.reduceLE,Int.reduceLT,Int.reduceAdd,Int.reduceSub,Int.reduceToNat,Nat.reduceMul]
  · simp (maxSteps:=1000000) (disch:=first | omega | (simp only [LL];omega)) only [W,V,TY,CC,reduceIte,Nat.reduceEqDiff,Nat.reduceAdd,Nat.reduceLeDiff,Nat.reduceLT,Int.reduceLE,Int.reduceLT,Int.reduceAdd,Int.reduceSub,Int.reduceToNat,Nat.reduceMul]
  · simp (maxSteps:=1000000) (disch:=first | omega | (simp only [LL];omega)) only [W,V,TY,CC,reduceIte,Nat.reduceEqDiff,Nat.reduceAdd,Nat.reduceLeDiff,Nat.reduceLT,Int.reduceLE,Int.reduceLT,Int.reduceAdd,Int.reduceSub,Int.reduceToNat,Nat.reduceMul,hvn]
  · simp (maxSteps:=1000000) (disch:=first | omega | (simp only [LL];omega)) only [W,V,TY,CC,reduceIte,Nat.reduceEqDiff,Nat.reduceAdd,Nat.reduceLeDiff,Nat.reduceLT,Int.reduceLE,Int.reduceLT,Int.reduceAdd,Int.reduceSub,Int.reduceToNat,Nat.reduceMul]
  · simp (maxSteps:=1000000) (disch:=first | omega | (simp only [LL];omega)) only [W,V,TY,CC,reduceIte,Nat.reduceEqDiff,Nat.reduceAdd,Nat.reduceLeDiff,Nat.reduceLT,Int.reduceLE,Int.reduceLT,Int.reduceAdd,Int.reduceSub,Int.reduceToNat,Nat.reduceMul]
  · simp (maxSteps:=1000000) (disch:=first | omega | (simp only [LL];omega)) only [W,V,TY,CC,reduceIte,Nat.reduceEqDiff,Nat.reduceAdd,Nat.reduceLeDiff,Nat.reduceLT,Int.reduceLE,Int.reduceLT,Int.reduceAdd,Int.reduceSub,Int.reduceToNat,Nat.reduceMul]
  · simp (maxSteps:=1000000) (disch:=first | omega | (simp only [LL];omega)) only [W,V,TY,CC,reduceIte,Nat.reduceEqDiff,Nat.reduceAdd,Nat.reduceLeDiff,Nat.reduceLT,Int.reduceLE,Int.reduceLT,Int.reduceAdd,Int.reduceSub,Int.reduceToNat,Nat.reduceMul]
  · simp (maxSteps:=1000000) (disch:=first | omega | (simp only [LL];omega)) only [W,V,TY,CC,reduceIte,Nat.reduceEqDiff,Nat.reduceAdd,Nat.reduceLeDiff,Nat.reduceLT,Int.reduceLE,Int.reduceLT,Int.reduceAdd,Int.reduceSub,Int.reduceToNat,Nat.reduceMul]
  intro m s _ ⟨i, br, c, L, e, t0, t1, t2, t13, t14, t15, t7, t8, v0, f0, hL, lL, c0, c1, b0, b1, D1, D2, D3, D4⟩
  simp (maxSteps:=1000000) (disch:=first | omega | (simp only [LL];omega)) only [W,V,TY,CC,reduceIte,Nat.reduceEqDiff,Nat.reduceAdd,Nat.reduceLeDiff,Nat.reduceLT,Int.reduceLE,Int.reduceLT,Int.reduceAdd,Int.reduceSub,Int.reduceToNat,Nat.reduceMul,t14,t15]
  refine c_split (fun hi => ?_) (fun hi => ?_)
  · have hx := hlv.getD i
    have hu := lL.getD (off + i)
    obtain ⟨m1, m2⟩ := mul_bound (p := (g : Int)) (q := v.getD i 0) (by omega) (by omega) hx.1 hx.2
    generalize hC : (g : Int) * v.getD i 0 = C at *
    simp (maxSteps:=1000000) (disch:=first | omega | (simp only [LL];omega)) only [W,V,TY,CC,reduceIte,Nat.reduceEqDiff,Nat.reduceAdd,Nat.reduceLeDiff,Nat.reduceLT,Int.reduceLE,Int.reduceLT,Int.reduceAdd,Int.reduceSub,Int.reduceToNat,Nat.reduceMul,t0,t1,t2,t13,t14,t15,t7,t8,v0,f0,hC,shr_63,shr_32]
    have hUl := D3 (off + i) (Nat.le_refl _)
    obtain ⟨nb, n0, n1, q1, q2, q3, q4, q5⟩ := sub_step (x := (c + C) % 4294967296) hu.1 hu.2 b0 b1 (by omega) (by omega)
    rw [q1, q2]
    refine ⟨by omega, by omega, by omega, m - 1, by omega, i + 1, nb, (c + C) / 4294967296, _, by omega, rfl, rfl, rfl, rfl, by simp [hL], lL.set _ q3 q4, by omega, by omega, n0, n1, ?_, ?_, fun k hk => ?_, ?_⟩
    · rw [List.take_set_of_le (by omega)]; exact D1
    · rw [List.drop_set_of_lt (by omega)]; exact D2
    · rw [Limbs.getD_set_ne (by omega)]; exact D3 k (by omega)
    · rw [show off + (i + 1) = off + i + 1 by omega, take_set_succ (by omega), val_snoc, List.length_take, Nat.min_eq_left (by omega), D4, val_take' l (off + i), val_take' v i, hUl, bp_succ, bp_add]
      have e2 : c + C = (c + C) % 4294967296 + 4294967296 * ((c + C) / 4294967296) := by omega
      generalize (c + C) % 4294967296 = x0 at *
      generalize (c + C) / 4294967296 = x1 at *
      have e3 : C = x0 + 4294967296 * x1 - c := by omega
      rw [← hC] at e3
      clear e2 hC q1 q2
      generalize l.getD (off + i) 0 = U at *
      generalize v.getD i 0 = x at *
      generalize bp off = A at *
      generalize bp i = B at *
      grind
  · simp (maxSteps:=1000000) (disch:=first | omega | (simp only [LL];omega)) only [W,V,TY,CC,reduceIte,Nat.reduceEqDiff,Nat.reduceAdd,Nat.reduceLeDiff,Nat.reduceLT,Int.reduceLE,Int.reduceLT,Int.reduceAdd,Int.reduceSub,Int.reduceToNat,Nat.reduceMul,t0,t1,t2,t13,t14,t15,t7,t8,v0,f0]
    refine ⟨by omega, by omega, by omega, ?_⟩
    have hin : i = n := by omega
    subst hin
    rw [hvn]
    have hu := lL.getD (off + i)
    obtain ⟨nb, n0, n1, q1, q2, q3, q4, q5⟩ := sub_step (x := c) hu.1 hu.2 b0 b1 c0 c1
    have hUl := D3 (off + i) (Nat.le_refl _)
    have hLset : Lim (L.set (off + i) (L.getD (off + i) 0 - br - c + 4294967296 * nb)) := lL.set _ q3 q4
    rw [List.take_of_length_le (by omega : v.length ≤ i)] at D4
    have hpre : val ((L.set (off + i) (L.getD (off + i) 0 - br - c + 4294967296 * nb)).take (off + i + 1)) = val (l.take (off + i + 1)) + bp off * (nb * bp (i + 1) - g * val v) := by
      rw [take_set_succ (by omega), val_snoc, List.length_take, Nat.min_eq_left (by omega), D4, val_take' l (off + i), hUl, bp_succ, bp_add]
      grind
    obtain ⟨hres, hnb⟩ := sub_end (n := i) hl hLset (by simp [hL]) (by rw [List.take_set_of_le (by omega)]; exact D1) (by rw [List.drop_set_of_lt (by omega)]; exact D2) hpre n0 n1 (Int.mul_nonneg (by omega) (val_nonneg hlv))
    have hbool : decide (nb = 1) = decide (win l off i < g * val v) := by
      rw [hnb]; split <;> simp [*]
    clear hpre hnb D1 D2 D3 D4
    refine f_retw _ _ _ _ ?_
    simp (maxSteps:=1000000) (disch:=first | omega | (simp only [LL];omega)) only [W,V,TY,CC,reduceIte,Nat.reduceEqDiff,Nat.reduceAdd,Nat.reduceLeDiff,Nat.reduceLT,Int.reduceLE,Int.reduceLT,Int.reduceAdd,Int.reduceSub,Int.reduceToNat,Nat.reduceMul,q1,q2,q5,hres,hbool,shr_63]
end Go.Proofs.YtljmgdepldpmdaaDoor.E

set_option linter.unusedSimpArgs false
set_option linter.unusedVariables false
set_option maxHeartbeats 2000000
namespace Go.Proofs.YtljmgdepldpmdaaDoor.E
open Go.RowKit Limbs
/-- what addBack leaves -/
def addL (l : List Int) (off n : Nat) (p : Int) : List Int := lim l.length (val l + bp off * p - if bp (n + 1) ≤ win l off n + p then bp (off + n + 1) else 0).toNat
theorem add_end {l T : List Int} {off n : Nat} {p nb : Int} (hl : Lim l) (hT : Lim T) (hTl : T.length = l.length) (D1 : val (T.take off) = val (l.take off)) (D2 : T.drop (off + n + 1) = l.drop (off + n + 1)) (hpre : val (T.take (off + n + 1)) = val (l.take (off + n + 1)) + bp off * (p - nb * bp (n + 1))) (n0 : 0 ≤ nb) (n1 : nb ≤ 1) (hp : 0 ≤ p) :
    T = addL l off n p := by
  have hb := bp_pos off
  have h1 := val_win T off (n + 1)
  have h2 := val_win l off (n + 1)
  rw [← Nat.add_assoc] at h1 h2
  rw [hpre, h2, D1] at h1
  have h3 : bp off * val ((T.drop off).take (n + 1)) = bp off * (win l off n - nb * bp (n + 1) + p) := by
    unfold win
    grind
  have hwin := Int.eq_of_mul_eq_mul_left (by omega) h3
  have hw0 := nv_win_lt hT off (n + 1)
  rw [hwin] at hw0
  have hwl := nv_win_lt hl off (n + 1)
  have hwd : win l off n = val ((l.drop off).take (n + 1)) := rfl
  have hnb : nb = if bp (n + 1) ≤ win l off n + p then 1 else 0 := by
    rcases (by omega : nb = 0 ∨ nb = 1) with h | h
    · subst h; rw [if_neg (by omega)]
    · subst h; rw [if_pos (by omega)]
  have hval : val T = val l + bp off * p - if bp (n + 1) ≤ win l off n + p then bp (off + n + 1) else 0 := by
    rw [val_split' T (off + n + 1), hpre, D2, val_split' l (off + n + 1), hnb]
    have hb3 : bp (off + n + 1) = bp off * bp (n + 1) := by rw [Nat.add_assoc, bp_add]
    split
    · rw [hb3]; grind
    · grind
  have h0 := val_nonneg hT
  refine eq_lim hT hTl ?_
  rw [hval] at h0 ⊢
  omega
/-- examboard/nat.addBack -/
def b95 : AF := ⟨42, 2, [],
  (.seq (.reg [
    ⟨some 4, .assign (.const (.int .u64 0)), none⟩])
  (.seq (.seq (.reg [
    ⟨some 7, .move (.tmp 1), none⟩,
    ⟨some 8, .call ⟨(.builtin .len), #[(.tmp 7)], #[23]⟩, none⟩,
    ⟨some 9, .move (.const (.int .i64 0)), none⟩])
  (.block 0 (.loop (.seq (.reg [
    ⟨some 10, .binOp .lss 3 (.tmp 9) (.tmp 8) 3, none⟩])
  (.seq (.cond (.tmp 10)
    .skip
    (.exit 0))
  (.seq (.block 1 (.seq (.reg [
    ⟨some 11, .move (.tmp 9), none⟩,
    ⟨some 12, .indexAddr 23 (.tmp 7) (.tmp 9), none⟩,
    ⟨some 13, .load 113 (.tmp 12), none⟩,
    ⟨some 5, .assign (.tmp 11), none⟩,
    ⟨some 6, .assign (.tmp 13), none⟩])
  (.seq (.reg [
    ⟨some 14, .move (.tmp 4), none⟩,
    ⟨some 15, .move (.tmp 0), none⟩,
    ⟨some 16, .move (.tmp 5), none⟩,
    ⟨some 17, .indexAddr 23 (.tmp 15) (.tmp 16), none⟩,
    ⟨some 18, .load 113 (.tmp 17), none⟩,
    ⟨some 19, .convert 113 99 (.tmp 18), none⟩,
    ⟨some 20, .move (.tmp 6), none⟩,
    ⟨some 21, .convert 113 99 (.tmp 20), none⟩,
    ⟨some 22, .binOp .add 99 (.tmp 19) (.tmp 21) 99, none⟩,
    ⟨some 23, .binOp .add 99 (.tmp 14) (.tmp 22) 99, none⟩,
    ⟨some 4, .assign (.tmp 23), none⟩])
  (.seq (.reg [
    ⟨some 24, .move (.tmp 0), none⟩,
    ⟨some 25, .move (.tmp 5), none⟩,
    ⟨some 26, .move (.tmp 4), none⟩,
    ⟨some 27, .binOp .and 99 (.tmp 26) (.const (.int .u64 4294967295)) 99, none⟩,
    ⟨some 28, .convert 99 113 (.tmp 27), none⟩,
    ⟨some 29, .indexAddr 23 (.tmp 24) (.tmp 25), none⟩,
    ⟨none, .store 113 (.tmp 29) (.tmp 28), none⟩])
  (.reg [
    ⟨some 30, .move (.tmp 4), none⟩,
    ⟨some 31, .binOp .shr 99 (.tmp 30) (.const (.int .u64 32)) 114, none⟩,
    ⟨some 4, .assign (.tmp 31), none⟩])))))
  (.reg [
    ⟨some 32, .binOp .add 3 (.tmp 9) (.const (.int .i64 1)) 3, none⟩,
    ⟨some 9, .move (.tmp 32), none⟩])))))))
  (.reg [
    ⟨some 33, .move (.tmp 0), none⟩,
    ⟨some 34, .move (.tmp 1), none⟩,
    ⟨some 35, .call ⟨(.builtin .len), #[(.tmp 34)], #[23]⟩, none⟩,
    ⟨some 36, .indexAddr 23 (.tmp 33) (.tmp 35), none⟩,
    ⟨some 37, .load 113 (.tmp 36), none⟩,
    ⟨some 38, .move (.tmp 4), none⟩,
    ⟨some 39, .convert 99 113 (.tmp 38), none⟩,
    ⟨some 40, .binOp .add 113 (.tmp 37) (.tmp 39) 113, none⟩,
    ⟨some 41, .indexAddr 23 (.tmp 33) (.tmp 35), none⟩,
    ⟨none, .store 113 (.tmp 41) (.tmp 40), none⟩])))⟩
theorem c95 : fcomp Tryd.prog 95 = ⟨b95.n, b95.np, b95.res, b95.body.bare⟩ := by kernel_rfl
theorem k95 : fok Tryd.prog 95 = true := by kernel_rfl
theorem nat_addBack (l v : List Int) (off n : Nat) (hl : Lim l) (hlv : Lim v) (hvn : v.length = n) (hoff : off + n + 1 ≤ l.length) (hn : n < 8796093022208) :
    WFun Tryd.prog 95 l off (n + 1) [.one (natD v)] (addL l off n (val v)) [] := by
  refine wfun_intro mo_ _ _ c95 k95 _ _ _ _ _ _ rfl (by decide) rfl ?_
  unfold b95
  simp (maxSteps:=1000000) (disch:=first | omega | (simp only [LL];omega)) only [W,V,TY,CC,reduceIte,Nat.reduceEqDiff,Nat.reduceAdd,Nat.reduceLeDiff,Nat.reduceLT,Int.reduceLE,Int.reduceLT,Int.reduceAdd,Int.reduceSub,Int.reduceToNat,Nat.reduceMul,hvn]
  refine w_loop (fun m s => ∃ (i : Nat) (c : Int) (L : List Int), m + i = n ∧ s.t 0 = .sv (0, 0) off (n + 1) ∧ s.t 1 = .one (.dt (natD v)) ∧ s.t 7 = .one (.dt (natD v)) ∧ s.t 8 = .one (.dt (.lit (.int .i64 n))) ∧ s.t 9 = .one (.dt (.lit (.int .i64 i))) ∧ s.t 4 = .one (.dt (.lit (.int .u64 c))) ∧ s.v (0, 0) = some (u32s L) ∧ s.f (0, 0) = false ∧ L.length = l.length ∧ Lim L ∧ 0 ≤ c ∧ c ≤ 1 ∧ val (L.take off) = val (l.take off) ∧ L.drop (off + n + 1) = l.drop (off + n + 1) ∧ (∀ k, off + i ≤ k → L.getD k 0 = l.getD k 0) ∧ val (L.take (off + i)) = val (l.take (off + i)) + bp off * (val (v.take i) - c * bp i)) n ⟨0, 0, l, rfl, ?_, ?_, ?_, ?_, ?_, ?_, ?_, ?_, rfl, hl, Int.le_refl _, by decide, rfl, rfl, fun _ _ => rfl, by simp [val_nil]⟩ ?_
  · simp (maxSteps:=1000000) (disch:=first | omega | (simp only [LL];omega)) only [W,V,TY,CC,reduceIte,Nat.reduceEqDiff,Nat.reduceAdd,Nat.reduceLeDiff,Nat.reduceLT,Int.reduceLE,Int.reduceLT,Int.reduceAdd,Int.reduceSub,Int.reduceToNat,Nat.reduceMul]
  · simp (maxSteps:=1000000) (disch:=first | omega | (simp only [LL];omega)) only [W,V,TY,CC,reduceIte,Nat.reduceEqDiff,Nat.reduceAdd,Nat.reduceLeDiff,Nat.reduceLT,Int.reduceLE,Int.reduceLT,Int.reduceAdd,Int.reduceSub,Int.reduceToNat,Nat.reduceMul]
  · simp (maxSteps:=1000000) (disch:=first | omega | (simp only [LL];omega)) only [W,V,TY,CC,reduceIte,Nat.reduceEqDiff,Nat.reduceAdd,Nat.reduceLeDiff,Nat.reduceLT,Int.reduceLE,Int.reduceLT,Int.reduceAdd,Int.reduceSub,Int.reduceToNat,Nat.reduceMul]
  · simp (maxSteps:=1000000) (disch:=first | omega | (simp only [LL];omega)) only [W,V,TY,CC,reduceIte,Nat.reduceEqDiff,Nat.reduceAdd,Nat.reduceLeDiff,Nat.reduceLT,Int.reduceLE,Int.reduceLT,Int.reduceAdd,Int.reduceSub,Int.reduceToNat,Nat.reduceMul,hvn]
  · simp (maxSteps:=1000000) (disch:=first | omega | (simp only [LL];omega)) only [W,V,TY,CC,reduceIte,Nat.reduceEqDiff,Nat.reduceAdd,Nat.reduceLeDiff,Nat.reduceLT,Int.reduceLE,Int.reduceLT,Int.reduceAdd,Int.reduceSub,Int.reduceToNat,Nat.reduceMul]
  · simp (maxSteps:=1000000) (disch:=first | omega | (simp only [LL];omega)) only [W,V,TY,CC,reduceIte,Nat.reduceEqDiff,Nat.reduceAdd,Nat.reduceLeDiff,Nat.reduceLT,Int.reduceLE,Int.reduceLT,Int.reduceAdd,Int.reduceSub,Int.reduceToNat,Nat.reduceMul]
  · simp (maxSteps:=1000000) (disch:=first | omega | (simp only [LL];omega)) only [W,V,TY,CC,reduceIte,Nat.reduceEqDiff,Nat.reduceAdd,Nat.reduceLeDiff,Nat.reduceLT,Int.reduceLE,Int.reduceLT,Int.reduceAdd,Int.reduceSub,Int.reduceToNat,Nat.reduceMul]
  · simp (maxSteps:=1000000) (disch:=first | omega | (simp only [LL];omega)) only [W,V,TY,CC,reduceIte,Nat.reduceEqDiff,Nat.reduceAdd,Nat.reduceLeDiff,Nat.reduceLT,Int.reduceLE,Int.reduceLT,Int.reduceAdd,Int.reduceSub,Int.reduceToNat,Nat.reduceMul]
  intro m s _ ⟨i, c, L, e, t0, t1, t7, t8, t9, t4, v0, f0, hL, lL, c0, c1, D1, D2, D3, D4⟩
  simp (maxSteps:=1000000) (disch:=first | omega | (simp only [LL];omega)) only [W,V,TY,CC,reduceIte,Nat.reduceEqDiff,Nat.reduceAdd,Nat.reduceLeDiff,Nat.reduceLT,Int.reduceLE,Int.reduceLT,Int.reduceAdd,Int.reduceSub,Int.reduceToNat,Nat.reduceMul,t8,t9]
  refine c_split (fun hi => ?_) (fun hi => ?_)
  · have hx := hlv.getD i
    have hu := lL.getD (off + i)
    have hUl := D3 (off + i) (Nat.le_refl _)
    obtain ⟨S, hS⟩ : ∃ S, S = c + (L.getD (off + i) 0 + v.getD i 0) := ⟨_, rfl⟩
    simp (maxSteps:=1000000) (disch:=first | omega | (simp only [LL];omega)) only [W,V,TY,CC,reduceIte,Nat.reduceEqDiff,Nat.reduceAdd,Nat.reduceLeDiff,Nat.reduceLT,Int.reduceLE,Int.reduceLT,Int.reduceAdd,Int.reduceSub,Int.reduceToNat,Nat.reduceMul,t0,t1,t7,t8,t9,t4,v0,f0,shr_32,← hS, and_m32 (n := S) (by omega) (by omega), wu32 (n := S % 4294967296) (by omega) (by omega)]
    refine ⟨by omega, by omega, by omega, m - 1, by omega, i + 1, S / 4294967296, _, by omega, rfl, rfl, rfl, by simp [hL], lL.set _ (by omega) (by omega), by omega, by omega, ?_, ?_, fun k hk => ?_, ?_⟩
    · rw [List.take_set_of_le (by omega)]; exact D1
    · rw [List.drop_set_of_lt (by omega)]; exact D2
    · rw [Limbs.getD_set_ne (by omega)]; exact D3 k (by omega)
    · rw [show off + (i + 1) = off + i + 1 by omega, take_set_succ (by omega), val_snoc, List.length_take, Nat.min_eq_left (by omega), D4, val_take' l (off + i), val_take' v i, bp_succ, bp_add]
      have e2 : S = S % 4294967296 + 4294967296 * (S / 4294967296) := by omega
      generalize S % 4294967296 = x0 at *
      generalize S / 4294967296 = x1 at *
      have e3 : x0 = c + (l.getD (off + i) 0 + v.getD i 0) - 4294967296 * x1 := by omega
      rw [e3]
      generalize l.getD (off + i) 0 = U at *
      generalize v.getD i 0 = x at *
      generalize bp off = A at *
      generalize bp i = B at *
      grind
  · have hin : i = n := by omega
    subst hin
    have hu := lL.getD (off + i)
    have hUl := D3 (off + i) (Nat.le_refl _)
    obtain ⟨S, hS⟩ : ∃ S, S = L.getD (off + i) 0 + c := ⟨_, rfl⟩
    simp (maxSteps:=1000000) (disch:=first | omega | (simp only [LL];omega)) only [W,V,TY,CC,reduceIte,Nat.reduceEqDiff,Nat.reduceAdd,Nat.reduceLeDiff,Nat.reduceLT,Int.reduceLE,Int.reduceLT,Int.reduceAdd,Int.reduceSub,Int.reduceToNat,Nat.reduceMul,t0,t1,t7,t8,t9,t4,v0,f0,hvn,wu32 (n := c) (by omega) (by omega), ← hS, IntKind.wrap_u32]
    refine ⟨by omega, by omega, by omega, ?_⟩
    rw [List.take_of_length_le (by omega : v.length ≤ i)] at D4
    have hpre : val ((L.set (off + i) (S % 4294967296)).take (off + i + 1)) = val (l.take (off + i + 1)) + bp off * (val v - S / 4294967296 * bp (i + 1)) := by
      rw [take_set_succ (by omega), val_snoc, List.length_take, Nat.min_eq_left (by omega), D4, val_take' l (off + i), bp_succ, bp_add]
      have e3 : S % 4294967296 = l.getD (off + i) 0 + c - 4294967296 * (S / 4294967296) := by omega
      rw [e3]
      generalize S / 4294967296 = x1 at *
      grind
    have hres := add_end (n := i) hl (lL.set (off + i) (x := S % 4294967296) (by omega) (by omega)) (by simp [hL]) (by rw [List.take_set_of_le (by omega)]; exact D1) (by rw [List.drop_set_of_lt (by omega)]; exact D2) hpre (by omega) (by omega) (val_nonneg hlv)
    refine f_nrmw _ _ _ _ ?_
    simp (maxSteps:=1000000) (disch:=first | omega | (simp only [LL];omega)) only [W,V,TY,CC,reduceIte,Nat.reduceEqDiff,Nat.reduceAdd,Nat.reduceLeDiff,Nat.reduceLT,Int.reduceLE,Int.reduceLT,Int.reduceAdd,Int.reduceSub,Int.reduceToNat,Nat.reduceMul,hres]
end Go.Proofs.YtljmgdepldpmdaaDoor.E

set_option linter.unusedSimpArgs false
set_option linter.unusedVariables false
set_option maxHeartbeats 2000000
namespace Go.Proofs.YtljmgdepldpmdaaDoor.E
open Go.RowKit Limbs
theorem bl_uniq {n k : Nat} (h1 : 2 ^ k ≤ n) (h2 : n < 2 ^ (k + 1)) : bl n = k + 1 := by
  have h3 := bl_le h2
  by_cases h : bl n ≤ k
  · have h4 := bl_lt n
    have h5 : 2 ^ bl n ≤ 2 ^ k := Nat.pow_le_pow_right (by omega) h
    omega
  · omega
theorem shr_k {x : Int} (k : Nat) (hk : k ≤ 32) : shr .u32 x (k : Int) = x / 2 ^ k := by
  unfold shr
  rw [Int.toNat_natCast, show min k IntKind.u32.bits = k from Nat.min_eq_left hk, Int.fdiv_eq_ediv_of_nonneg _ (Int.pow_nonneg (by decide))]
def len8 (i : Nat) : Nat := if i < 1 then 0 else if i < 2 then 1 else if i < 4 then 2 else if i < 8 then 3 else if i < 16 then 4 else if i < 32 then 5 else if i < 64 then 6 else if i < 128 then 7 else 8
theorem len8_bl {i : Nat} (h : i < 256) : bl i = len8 i := by
  unfold len8
  split
  · rw [show i = 0 by omega, bl_zero]
  split
  · exact bl_uniq (k := 0) (by omega) (by omega)
  split
  · exact bl_uniq (k := 1) (by omega) (by omega)
  split
  · exact bl_uniq (k := 2) (by omega) (by omega)
  split
  · exact bl_uniq (k := 3) (by omega) (by omega)
  split
  · exact bl_uniq (k := 4) (by omega) (by omega)
  split
  · exact bl_uniq (k := 5) (by omega) (by omega)
  split
  · exact bl_uniq (k := 6) (by omega) (by omega)
  · exact bl_uniq (k := 7) (by omega) (by omega)
/-- the table of the lengths of bytes -/
theorem sb_len (b : ByteArray) (hb : b.data.toList.map UInt8.toNat = (List.range 256).map len8) {i : Nat} (h : i < 256) : sbyte b i = bl i ∧ b.size = 256 := by
  have hs : b.data.toList.length = 256 := by
    have := congrArg List.length hb
    simpa using this
  have hsz : b.size = 256 := by simpa using hs
  refine ⟨?_, hsz⟩
  rw [len8_bl h]
  unfold sbyte
  have hlt : i < b.size := by omega
  have h1 : (b.data.toList.map UInt8.toNat)[i]? = some (len8 i) := by rw [hb]; simp [h]
  rw [Int.toNat_natCast]
  have h2 : b[i]? = some b[i] := by simp [hlt]
  rw [h2]
  have h3 : b.data.toList[i]? = some b[i] := by
    rw [Array.getElem?_toList]
    exact Array.getElem?_eq_getElem (by simpa using hlt)
  rw [List.getElem?_map, h3] at h1
  simp at h1
  simp [h1]
/-- math/bits.Len32 -/
def b90 : AF := ⟨19, 1, [.tmp 2],
  (.seq (.reg [
    ⟨some 2, .assign (.const (.int .i64 0)), none⟩])
  (.seq (.seq (.reg [
    ⟨some 3, .move (.tmp 0), none⟩,
    ⟨some 4, .binOp .geq 113 (.tmp 3) (.const (.int .u32 65536)) 113, none⟩])
  (.cond (.tmp 4)
    (.seq (.reg [
      ⟨some 5, .move (.tmp 0), none⟩,
      ⟨some 6, .binOp .shr 113 (.tmp 5) (.const (.int .u64 16)) 114, none⟩,
      ⟨some 0, .assign (.tmp 6), none⟩])
    (.reg [
      ⟨some 2, .assign (.const (.int .i64 16)), none⟩]))
    .skip))
  (.seq (.seq (.reg [
    ⟨some 7, .move (.tmp 0), none⟩,
    ⟨some 8, .binOp .geq 113 (.tmp 7) (.const (.int .u32 256)) 113, none⟩])
  (.cond (.tmp 8)
    (.seq (.reg [
      ⟨some 9, .move (.tmp 0), none⟩,
      ⟨some 10, .binOp .shr 113 (.tmp 9) (.const (.int .u64 8)) 114, none⟩,
      ⟨some 0, .assign (.tmp 10), none⟩])
    (.reg [
      ⟨some 11, .move (.tmp 2), none⟩,
      ⟨some 12, .binOp .add 3 (.tmp 11) (.const (.int .i64 8)) 3, none⟩,
      ⟨some 2, .assign (.tmp 12), none⟩]))
    .skip))
  (.seq (.reg [
    ⟨some 13, .move (.tmp 2), none⟩,
    ⟨some 14, .move (.tmp 0), none⟩,
    ⟨some 15, .convert 113 5 (.tmp 14), none⟩,
    ⟨some 16, .index 9 (.const (.string ⟨#[0, 1, 2, 2, 3, 3, 3, 3, 4, 4, 4, 4, 4, 4, 4, 4, 5, 5, 5, 5, 5, 5, 5, 5, 5, 5, 5, 5, 5, 5, 5, 5, 6, 6, 6, 6, 6, 6, 6, 6, 6, 6, 6, 6, 6, 6, 6, 6, 6, 6, 6, 6, 6, 6, 6, 6, 6, 6, 6, 6, 6, 6, 6, 6, 7, 7, 7, 7, 7, 7, 7, 7, 7, 7, 7, 7, 7, 7, 7, 7, 7, 7, 7, 7, 7, 7, 7, 7, 7, 7, 7, 7, 7, 7, 7, 7, 7, 7, 7, 7, 7, 7, 7, 7, 7, 7, 7, 7, 7, 7, 7, 7, 7, 7, 7, 7, 7, 7, 7, 7, 7, 7, 7, 7, 7, 7, 7, 7, 8, 8, 8, 8, 8, 8, 8, 8, 8, 8, 8, 8, 8, 8, 8, 8, 8, 8, 8, 8, 8, 8, 8, 8, 8, 8, 8, 8, 8, 8, 8, 8, 8, 8, 8, 8, 8, 8, 8, 8, 8, 8, 8, 8, 8, 8, 8, 8, 8, 8, 8, 8, 8, 8, 8, 8, 8, 8, 8, 8, 8, 8, 8, 8, 8, 8, 8, 8, 8, 8, 8, 8, 8, 8, 8, 8, 8, 8, 8, 8, 8, 8, 8, 8, 8, 8, 8, 8, 8, 8, 8, 8, 8, 8, 8, 8, 8, 8, 8, 8, 8, 8, 8, 8, 8, 8, 8, 8, 8, 8, 8, 8, 8, 8, 8, 8, 8, 8, 8, 8, 8, 8, 8, 8, 8, 8, 8, 8]⟩)) (.tmp 15), none⟩,
    ⟨some 17, .convert 5 3 (.tmp 16), none⟩,
    ⟨some 18, .binOp .add 3 (.tmp 13) (.tmp 17) 3, none⟩,
    ⟨some 2, .assign (.tmp 18), none⟩])
  .ret))))⟩
theorem c90 : fcomp Tryd.prog 90 = ⟨b90.n, b90.np, b90.res, b90.body.bare⟩ := by kernel_rfl
theorem k90 : fok Tryd.prog 90 = true := by kernel_rfl
set_option maxRecDepth 100000 in
theorem bits_Len32 (x : Nat) (h : x < 4294967296) : AFun Tryd.prog 90 [.one (.lit (.int .u32 x))] [.one (.lit (.int .i64 (bl x : Nat)))] := by
  refine afun_intro mo_ _ _ c90 k90 _ _ rfl (by decide) ?_
  unfold b90
  simp (maxSteps:=1000000) (disch:=first | omega | (simp only [LL];omega)) only [W,V,TY,CC,reduceIte,Nat.reduceEqDiff,Nat.reduceAdd,Nat.reduceLeDiff,Nat.reduceLT,Int.reduceLE,Int.reduceLT,Int.reduceAdd,Int.reduceSub,Int.reduceToNat,Nat.reduceMul]
  have e16 : shr .u32 (x : Int) 16 = ((x / 65536 : Nat) : Int) := by have := shr_k (x := (x : Int)) 16 (by omega); simpa using this
  have e8 : ∀ y : Nat, shr .u32 (y : Int) 8 = ((y / 256 : Nat) : Int) := fun y => by have := shr_k (x := (y : Int)) 8 (by omega); simpa using this
  have w8 : ∀ y : Nat, y < 256 → IntKind.u8.wrap (y : Int) = (y : Int) := fun y hy => by rw [IntKind.wrap_u8]; omega
  refine c_split (fun h1 => ?_) (fun h1 => ?_)
  · have s1 := bl_shift 16 x (by show x / 65536 ≠ 0; omega)
    rw [show (2 : Nat) ^ 16 = 65536 from rfl] at s1
    simp (maxSteps:=1000000) (disch:=first | omega | (simp only [LL];omega)) only [W,V,TY,CC,reduceIte,Nat.reduceEqDiff,Nat.reduceAdd,Nat.reduceLeDiff,Nat.reduceLT,Int.reduceLE,Int.reduceLT,Int.reduceAdd,Int.reduceSub,Int.reduceToNat,Nat.reduceMul,e16]
    generalize hy : x / 65536 = y at *
    have hy1 : y < 65536 := by omega
    refine c_split (fun h2 => ?_) (fun h2 => ?_)
    · have s2 := bl_shift 8 y (by show y / 256 ≠ 0; omega)
      rw [show (2 : Nat) ^ 8 = 256 from rfl] at s2
      simp (maxSteps:=1000000) (disch:=first | omega | (simp only [LL];omega)) only [W,V,TY,CC,reduceIte,Nat.reduceEqDiff,Nat.reduceAdd,Nat.reduceLeDiff,Nat.reduceLT,Int.reduceLE,Int.reduceLT,Int.reduceAdd,Int.reduceSub,Int.reduceToNat,Nat.reduceMul,e8,w8 (y / 256) (by omega)]
      have hb := bl_le (n := y / 256) (m := 8) (by omega)
      refine ⟨⟨by omega, ?_⟩, f_ret _ _ _ ?_⟩
      · show ((y / 256 : Nat) : Int) < ((256 : Nat) : Int)
        omega
      rw [(sb_len (i := y / 256) _ ?hb (by omega)).1]
      case hb => rfl
      simp (maxSteps:=1000000) (disch:=first | omega | (simp only [LL];omega)) only [W,V,TY,CC,reduceIte,Nat.reduceEqDiff,Nat.reduceAdd,Nat.reduceLeDiff,Nat.reduceLT,Int.reduceLE,Int.reduceLT,Int.reduceAdd,Int.reduceSub,Int.reduceToNat,Nat.reduceMul]
      rw [show (24 : Int) + (bl (y / 256) : Nat) = (bl x : Nat) by omega]
    · simp (maxSteps:=1000000) (disch:=first | omega | (simp only [LL];omega)) only [W,V,TY,CC,reduceIte,Nat.reduceEqDiff,Nat.reduceAdd,Nat.reduceLeDiff,Nat.reduceLT,Int.reduceLE,Int.reduceLT,Int.reduceAdd,Int.reduceSub,Int.reduceToNat,Nat.reduceMul,w8 y (by omega)]
      have hb := bl_le (n := y) (m := 8) (by omega)
      refine ⟨⟨by omega, ?_⟩, f_ret _ _ _ ?_⟩
      · show ((y : Nat) : Int) < ((256 : Nat) : Int)
        omega
      rw [(sb_len (i := y) _ ?hb (by omega)).1]
      case hb => rfl
      simp (maxSteps:=1000000) (disch:=first | omega | (simp only [LL];omega)) only [W,V,TY,CC,reduceIte,Nat.reduceEqDiff,Nat.reduceAdd,Nat.reduceLeDiff,Nat.reduceLT,Int.reduceLE,Int.reduceLT,Int.reduceAdd,Int.reduceSub,Int.reduceToNat,Nat.reduceMul]
      rw [show (16 : Int) + (bl y : Nat) = (bl x : Nat) by omega]
  · simp (maxSteps:=1000000) (disch:=first | omega | (simp only [LL];omega)) only [W,V,TY,CC,reduceIte,Nat.reduceEqDiff,Nat.reduceAdd,Nat.reduceLeDiff,Nat.reduceLT,Int.reduceLE,Int.reduceLT,Int.reduceAdd,Int.reduceSub,Int.reduceToNat,Nat.reduceMul]
    refine c_split (fun h2 => ?_) (fun h2 => ?_)
    · have s2 := bl_shift 8 x (by show x / 256 ≠ 0; omega)
      rw [show (2 : Nat) ^ 8 = 256 from rfl] at s2
      simp (maxSteps:=1000000) (disch:=first | omega | (simp only [LL];omega)) only [W,V,TY,CC,reduceIte,Nat.reduceEqDiff,Nat.reduceAdd,Nat.reduceLeDiff,Nat.reduceLT,Int.reduceLE,Int.reduceLT,Int.reduceAdd,Int.reduceSub,Int.reduceToNat,Nat.reduceMul,e8,w8 (x / 256) (by omega)]
      have hb := bl_le (n := x / 256) (m := 8) (by omega)
      refine ⟨⟨by omega, ?_⟩, f_ret _ _ _ ?_⟩
      · show ((x / 256 : Nat) : Int) < ((256 : Nat) : Int)
        omega
      rw [(sb_len (i := x / 256) _ ?hb (by omega)).1]
      case hb => rfl
      simp (maxSteps:=1000000) (disch:=first | omega | (simp only [LL];omega)) only [W,V,TY,CC,reduceIte,Nat.reduceEqDiff,Nat.reduceAdd,Nat.reduceLeDiff,Nat.reduceLT,Int.reduceLE,Int.reduceLT,Int.reduceAdd,Int.reduceSub,Int.reduceToNat,Nat.reduceMul]
      rw [show (8 : Int) + (bl (x / 256) : Nat) = (bl x : Nat) by omega]
    · simp (maxSteps:=1000000) (disch:=first | omega | (simp only [LL];omega)) only [W,V,TY,CC,reduceIte,Nat.reduceEqDiff,Nat.reduceAdd,Nat.reduceLeDiff,Nat.reduceLT,Int.reduceLE,Int.reduceLT,Int.reduceAdd,Int.reduceSub,Int.reduceToNat,Nat.reduceMul,w8 x (by omega)]
      have hb := bl_le (n := x) (m := 8) (by omega)
      refine ⟨⟨by omega, ?_⟩, f_ret _ _ _ ?_⟩
      · show ((x : Nat) : Int) < ((256 : Nat) : Int)
        omega
      rw [(sb_len (i := x) _ ?hb (by omega)).1]
      case hb => rfl
      simp (maxSteps:=1000000) (disch:=first | omega | (simp only [LL];omega)) only [W,V,TY,CC,reduceIte,Nat.reduceEqDiff,Nat.reduceAdd,Nat.reduceLeDiff,Nat.reduceLT,Int.reduceLE,Int.reduceLT,Int.reduceAdd,Int.reduceSub,Int.reduceToNat,Nat.reduceMul,Int.zero_add]
/-- math/bits.LeadingZeros32 -/
def b91 : AF := ⟨6, 1, [.tmp 2],
  (.seq (.reg [
    ⟨some 2, .assign (.const (.int .i64 0)), none⟩])
  (.seq (.reg [
    ⟨some 3, .move (.tmp 0), none⟩,
    ⟨some 4, .call ⟨(.value (.func 90)), #[(.tmp 3)], #[113]⟩, none⟩,
    ⟨some 5, .binOp .sub 3 (.const (.int .i64 32)) (.tmp 4) 3, none⟩,
    ⟨some 2, .assign (.tmp 5), none⟩])
  .ret))⟩
theorem c91 : fcomp Tryd.prog 91 = ⟨b91.n, b91.np, b91.res, b91.body.bare⟩ := by kernel_rfl
theorem k91 : fok Tryd.prog 91 = true := by kernel_rfl
theorem bits_LZ32 (x : Nat) (h : x < 4294967296) : AFun Tryd.prog 91 [.one (.lit (.int .u32 x))] [.one (.lit (.int .i64 (32 - bl x : Nat)))] := by
  refine afun_intro mo_ _ _ c91 k91 _ _ rfl (by decide) ?_
  unfold b91
  have hb := bl_le (n := x) (m := 32) (by omega)
  simp (maxSteps:=1000000) (disch:=first | omega | (simp only [LL];omega)) only [W,V,TY,CC,reduceIte,Nat.reduceEqDiff,Nat.reduceAdd,Nat.reduceLeDiff,Nat.reduceLT,Int.reduceLE,Int.reduceLT,Int.reduceAdd,Int.reduceSub,Int.reduceToNat,Nat.reduceMul]
  refine a_call _ _ (bits_Len32 x h) (by simp (maxSteps:=1000000) (disch:=first | omega | (simp only [LL];omega)) only [W,V,TY,CC,reduceIte,Nat.reduceEqDiff,Nat.reduceAdd,Nat.reduceLeDiff,Nat.reduceLT,Int.reduceLE,Int.reduceLT,Int.reduceAdd,Int.reduceSub,Int.reduceToNat,Nat.reduceMul]) ?_
  simp (maxSteps:=1000000) (disch:=first | omega | (simp only [LL];omega)) only [W,V,TY,CC,reduceIte,Nat.reduceEqDiff,Nat.reduceAdd,Nat.reduceLeDiff,Nat.reduceLT,Int.reduceLE,Int.reduceLT,Int.reduceAdd,Int.reduceSub,Int.reduceToNat,Nat.reduceMul]
  refine f_ret _ _ _ ?_
  have e : (32 : Int) - (bl x : Nat) = ((32 - bl x : Nat) : Int) := by omega
  simp (maxSteps:=1000000) (disch:=first | omega | (simp only [LL];omega)) only [W,V,TY,CC,reduceIte,Nat.reduceEqDiff,Nat.reduceAdd,Nat.reduceLeDiff,Nat.reduceLT,Int.reduceLE,Int.reduceLT,Int.reduceAdd,Int.reduceSub,Int.reduceToNat,Nat.reduceMul,e]
/-- examboard/nat.Bits -/
def b75 : AF := ⟨21, 1, [.tmp 2],
  (.seq (.reg [
    ⟨some 2, .assign (.const (.int .i64 0)), none⟩])
  (.seq (.reg [
    ⟨some 4, .move (.tmp 0), none⟩,
    ⟨some 5, .call ⟨(.value (.func 82)), #[(.tmp 4)], #[23]⟩, none⟩,
    ⟨some 3, .assign (.tmp 5), none⟩])
  (.seq (.seq (.reg [
    ⟨some 6, .move (.tmp 3), none⟩,
    ⟨some 7, .call ⟨(.builtin .len), #[(.tmp 6)], #[23]⟩, none⟩,
    ⟨some 8, .binOp .eql 3 (.tmp 7) (.const (.int .i64 0)) 3, none⟩])
  (.cond (.tmp 8)
    (.seq (.reg [
      ⟨some 2, .assign (.const (.int .i64 0)), none⟩])
    .ret)
    .skip))
  (.seq (.reg [
    ⟨some 9, .move (.tmp 3), none⟩,
    ⟨some 10, .call ⟨(.builtin .len), #[(.tmp 9)], #[23]⟩, none⟩,
    ⟨some 11, .binOp .sub 3 (.tmp 10) (.const (.int .i64 1)) 3, none⟩,
    ⟨some 12, .binOp .mul 3 (.const (.int .i64 32)) (.tmp 11) 3, none⟩,
    ⟨some 13, .move (.tmp 3), none⟩,
    ⟨some 14, .move (.tmp 3), none⟩,
    ⟨some 15, .call ⟨(.builtin .len), #[(.tmp 14)], #[23]⟩, none⟩,
    ⟨some 16, .binOp .sub 3 (.tmp 15) (.const (.int .i64 1)) 3, none⟩,
    ⟨some 17, .indexAddr 23 (.tmp 13) (.tmp 16), none⟩,
    ⟨some 18, .load 113 (.tmp 17), none⟩,
    ⟨some 19, .call ⟨(.value (.func 90)), #[(.tmp 18)], #[113]⟩, none⟩,
    ⟨some 20, .binOp .add 3 (.tmp 12) (.tmp 19) 3, none⟩,
    ⟨some 2, .assign (.tmp 20), none⟩])
  .ret))))⟩
theorem c75 : fcomp Tryd.prog 75 = ⟨b75.n, b75.np, b75.res, b75.body.bare⟩ := by kernel_rfl
theorem k75 : fok Tryd.prog 75 = true := by kernel_rfl
theorem nat_Bits (a : List Int) (ha : Lim a) (la : a.length < 8796093022208) : AFun Tryd.prog 75 [.one (natD a)] [.one (.lit (.int .i64 (bl (nv a) : Nat)))] := by
  refine afun_intro mo_ _ _ c75 k75 _ _ rfl (by decide) ?_
  unfold b75
  have h1 := tr_len ha
  have n1 : Nrm (tr a) := nl_nrm _
  have l1 := tr_lim a
  have v1 : nv (tr a) = nv a := by unfold nv; rw [val_tr ha]
  rw [← v1]
  simp (maxSteps:=1000000) (disch:=first | omega | (simp only [LL];omega)) only [W,V,TY,CC,reduceIte,Nat.reduceEqDiff,Nat.reduceAdd,Nat.reduceLeDiff,Nat.reduceLT,Int.reduceLE,Int.reduceLT,Int.reduceAdd,Int.reduceSub,Int.reduceToNat,Nat.reduceMul]
  refine a_call _ _ (nat_trim a ha (by omega)) rfl ?_
  simp (maxSteps:=1000000) (disch:=first | omega | (simp only [LL];omega)) only [W,V,TY,CC,reduceIte,Nat.reduceEqDiff,Nat.reduceAdd,Nat.reduceLeDiff,Nat.reduceLT,Int.reduceLE,Int.reduceLT,Int.reduceAdd,Int.reduceSub,Int.reduceToNat,Nat.reduceMul]
  generalize tr a = x at *
  refine c_split (fun hl => ?_) (fun hl => ?_)
  · simp (maxSteps:=1000000) (disch:=first | omega | (simp only [LL];omega)) only [W,V,TY,CC,reduceIte,Nat.reduceEqDiff,Nat.reduceAdd,Nat.reduceLeDiff,Nat.reduceLT,Int.reduceLE,Int.reduceLT,Int.reduceAdd,Int.reduceSub,Int.reduceToNat,Nat.reduceMul]
    refine f_ret _ _ _ ?_
    have hx : x = [] := List.eq_nil_of_length_eq_zero (by omega)
    have hb : bl (nv x) = 0 := by rw [hx]; exact bl_zero
    simp (maxSteps:=1000000) (disch:=first | omega | (simp only [LL];omega)) only [W,V,TY,CC,reduceIte,Nat.reduceEqDiff,Nat.reduceAdd,Nat.reduceLeDiff,Nat.reduceLT,Int.reduceLE,Int.reduceLT,Int.reduceAdd,Int.reduceSub,Int.reduceToNat,Nat.reduceMul,hb]
  · have hne : x ≠ [] := by intro e; rw [e] at hl; simp at hl
    obtain ⟨hb, ht⟩ := bl_nv l1 n1 hne
    have htl := l1.getD (x.length - 1)
    obtain ⟨t, ht2⟩ : ∃ t : Nat, x.getD (x.length - 1) 0 = (t : Int) := ⟨(x.getD (x.length - 1) 0).toNat, by omega⟩
    rw [ht2, Int.toNat_natCast] at hb
    have hb2 := bl_le (n := t) (m := 32) (by omega)
    have hlen : 0 < x.length := List.length_pos_iff.2 hne
    simp (maxSteps:=1000000) (disch:=first | omega | (simp only [LL];omega)) only [W,V,TY,CC,reduceIte,Nat.reduceEqDiff,Nat.reduceAdd,Nat.reduceLeDiff,Nat.reduceLT,Int.reduceLE,Int.reduceLT,Int.reduceAdd,Int.reduceSub,Int.reduceToNat,Nat.reduceMul,ht2]
    refine a_call _ _ (bits_Len32 t (by omega)) (by simp (maxSteps:=1000000) (disch:=first | omega | (simp only [LL];omega)) only [W,V,TY,CC,reduceIte,Nat.reduceEqDiff,Nat.reduceAdd,Nat.reduceLeDiff,Nat.reduceLT,Int.reduceLE,Int.reduceLT,Int.reduceAdd,Int.reduceSub,Int.reduceToNat,Nat.reduceMul]) ?_
    simp (maxSteps:=1000000) (disch:=first | omega | (simp only [LL];omega)) only [W,V,TY,CC,reduceIte,Nat.reduceEqDiff,Nat.reduceAdd,Nat.reduceLeDiff,Nat.reduceLT,Int.reduceLE,Int.reduceLT,Int.reduceAdd,Int.reduceSub,Int.reduceToNat,Nat.reduceMul]
    refine f_ret _ _ _ ?_
    have e : 32 * ((x.length : Int) - 1) + (bl t : Nat) = (bl (nv x) : Nat) := by omega
    simp (maxSteps:=1000000) (disch:=first | omega | (simp only [LL];omega)) only [W,V,TY,CC,reduceIte,Nat.reduceEqDiff,Nat.reduceAdd,Nat.reduceLeDiff,Nat.reduceLT,Int.reduceLE,Int.reduceLT,Int.reduceAdd,Int.reduceSub,Int.reduceToNat,Nat.reduceMul,e]
end Go.Proofs.YtljmgdepldpmdaaDoor.E

set_option linter.unusedSimpArgs false
set_option linter.unusedVariables false
set_option maxHeartbeats 2000000
namespace Go.Proofs.YtljmgdepldpmdaaDoor.E
open Go.RowKit Limbs
theorem kn_top {V n2 : Nat} (hV0 : V < bn (n2 + 2)) (hV1 : bn (n2 + 2) ≤ 2 * V) : 2147483648 ≤ V / bn (n2 + 1) ∧ V / bn (n2 + 1) < 4294967296 ∧ 4294967296 ≤ V / bn n2 := by
  have h1 : bn (n2 + 2) = bn (n2 + 1) * 4294967296 := bn_succ _
  have h2 : bn (n2 + 1) = bn n2 * 4294967296 := bn_succ _
  have p := bn_pos n2
  refine ⟨(Nat.le_div_iff_mul_le (bn_pos _)).2 (by omega), Nat.div_lt_of_lt_mul (by omega), (Nat.le_div_iff_mul_le p).2 (by omega)⟩
theorem kn_lt {A V j n2 : Nat} (hV0 : V < bn (n2 + 2)) (hA : A < V * bn (j + 1)) : A < bn (j + n2 + 3) := by
  have h1 : V * bn (j + 1) ≤ bn (n2 + 2) * bn (j + 1) := Nat.mul_le_mul_right _ (by omega)
  rw [← bn_add] at h1
  have h2 : n2 + 2 + (j + 1) = j + n2 + 3 := by omega
  rw [h2] at h1
  omega
theorem kn_head {A V j n2 : Nat} (hA : A < V * bn (j + 1)) : A / bn (j + n2 + 1) ≤ V / bn n2 := by
  have h1 : A / bn (j + 1) < V := Nat.div_lt_of_lt_mul (by rw [Nat.mul_comm]; exact hA)
  have h2 : A / bn (j + n2 + 1) = A / bn (j + 1) / bn n2 := by rw [Nat.div_div_eq_div_mul, ← bn_add]; congr 2; omega
  rw [h2]
  exact Nat.div_le_div_right (by omega)
theorem kn_digit {A V j n2 : Nat} (hV0 : V < bn (n2 + 2)) (hV1 : bn (n2 + 2) ≤ 2 * V) (hA : A < V * bn (j + 1)) (g : Nat) (hg : g = gs (A / bn (j + n2)) (V / bn n2)) :
    g < 4294967296 ∧ (g * V ≤ A / bn j → bn j * (g * V) ≤ A ∧ A - bn j * (g * V) < V * bn j) ∧ (A / bn j < g * V → 0 < g ∧ (g - 1) * V ≤ A / bn j ∧ bn j * ((g - 1) * V) ≤ A ∧ A - bn j * ((g - 1) * V) < V * bn j) := by
  have pj := bn_pos j
  have pn := bn_pos n2
  obtain ⟨t1, t2, t3⟩ := kn_top hV0 hV1
  have hw : A / bn j < V * 4294967296 := Nat.div_lt_of_lt_mul (by rw [bn_succ, ← Nat.mul_assoc] at hA; rw [Nat.mul_comm (bn j), Nat.mul_right_comm]; exact hA)
  have hH : A / bn (j + n2) = A / bn j / bn n2 := by rw [Nat.div_div_eq_div_mul, ← bn_add]
  rw [hH] at hg
  have hdm := Nat.div_add_mod A (bn j)
  have hmr := Nat.mod_lt A (show bn j > 0 from pj)
  generalize A / bn j = w at *
  have d1 := Nat.div_add_mod w (bn n2)
  have d2 := Nat.div_add_mod V (bn n2)
  obtain ⟨c1, c2⟩ := digit (w := w) (W := V / bn n2) (V := V) (H := w / bn n2) (M := bn n2) (ur := w % bn n2) (vr := V % bn n2) pn (by rw [Nat.mul_comm]; omega) (Nat.mod_lt _ pn) (by rw [Nat.mul_comm]; omega) (Nat.mod_lt _ pn) t3 hw g hg
  have hVp : 0 < V := by
    rcases Nat.eq_zero_or_pos V with h | h
    · rw [h] at t3; simp at t3
    · exact h
  have fin : ∀ q, w / V = q → q * V ≤ w ∧ bn j * (q * V) ≤ A ∧ A - bn j * (q * V) < V * bn j := by
    intro q hq
    have e1 := Nat.div_add_mod w V
    have e2 := Nat.mod_lt w hVp
    rw [hq] at e1
    have e3 : q * V = V * q := Nat.mul_comm _ _
    have e4 : bn j * (q * V) ≤ bn j * w := Nat.mul_le_mul_left _ (by omega)
    have e5 : A - bn j * (q * V) = bn j * (w % V) + A % bn j := by
      have : bn j * w = bn j * (q * V) + bn j * (w % V) := by rw [← Nat.mul_add]; congr 1; omega
      omega
    have e6 : bn j * (w % V + 1) ≤ bn j * V := Nat.mul_le_mul_left _ e2
    rw [Nat.mul_add] at e6
    refine ⟨by omega, by omega, ?_⟩
    rw [e5, Nat.mul_comm V]
    omega
  refine ⟨by rw [hg]; unfold gs; omega, fun h => ?_, fun h => ?_⟩
  · obtain ⟨_, f2, f3⟩ := fin g (c1 h)
    exact ⟨f2, f3⟩
  · obtain ⟨c3, c4⟩ := c2 h
    obtain ⟨f1, f2, f3⟩ := fin (g - 1) c3
    exact ⟨c4, f1, f2, f3⟩
/-- what the two writers leave, by numbers -/
theorem subL_num {A V j n m g : Nat} (hm : j + n + 1 ≤ m) (hA : A < bn (j + n + 1)) : win (lim m A) j n = ((A / bn j : Nat) : Int) ∧ (g * V ≤ A / bn j → bn j * (g * V) ≤ A → subL (lim m A) j n (g * V : Nat) = lim m (A - bn j * (g * V))) ∧ (A / bn j < g * V → bn j * (g * V) ≤ A + bn (j + n + 1) → subL (lim m A) j n (g * V : Nat) = lim m (A + bn (j + n + 1) - bn j * (g * V))) := by
  have hw : win (lim m A) j n = ((A / bn j : Nat) : Int) := lim_win (by omega) (by rwa [← Nat.add_assoc])
  have hAm : A < bn m := Nat.lt_of_lt_of_le hA (by unfold bn; exact Nat.pow_le_pow_right (by omega) hm)
  have e : ((bn j * (g * V) : Nat) : Int) = bp j * ((g * V : Nat) : Int) := by rw [Int.natCast_mul, bn_bp]
  have e2 := bn_bp (j + n + 1)
  refine ⟨hw, fun h1 h2 => ?_, fun h1 h2 => ?_⟩
  · unfold subL
    rw [lim_len, hw, if_neg (by omega), val_lim m A hAm, ← e]
    congr 1
    omega
  · unfold subL
    rw [lim_len, hw, if_pos (by omega), val_lim m A hAm, ← e, ← e2]
    congr 1
    omega
theorem addL_num {A V j n m : Nat} (hm : j + n + 1 ≤ m) (hA : A < bn (j + n + 1)) (h1 : bn (n + 1) ≤ A / bn j + V) (h2 : bn (j + n + 1) ≤ A + bn j * V) : addL (lim m A) j n (V : Nat) = lim m (A + bn j * V - bn (j + n + 1)) := by
  have hw : win (lim m A) j n = ((A / bn j : Nat) : Int) := lim_win (by omega) (by rwa [← Nat.add_assoc])
  have hAm : A < bn m := Nat.lt_of_lt_of_le hA (by unfold bn; exact Nat.pow_le_pow_right (by omega) hm)
  have e : ((bn j * V : Nat) : Int) = bp j * (V : Int) := by rw [Int.natCast_mul, bn_bp]
  have e2 := bn_bp (j + n + 1)
  have e3 := bn_bp (n + 1)
  have hc : bp (n + 1) ≤ ((A / bn j : Nat) : Int) + (V : Int) := by rw [← e3]; omega
  unfold addL
  rw [lim_len, hw, if_pos hc, val_lim m A hAm, ← e, ← e2]
  clear hc e3 e2 e hw hAm h1
  congr 1
  generalize bn j * V = p at *
  generalize bn (j + n + 1) = q at *
  omega
theorem neg_num {A V j n m g : Nat} (hm : j + n + 1 ≤ m) (hV : V < bn n) (hA : A < bn (j + n + 1)) (h : A / bn j < g * V) (g0 : 0 < g) (e2 : bn j * ((g - 1) * V) ≤ A) :
    subL (lim m A) j n (g * V : Nat) = lim m (A + bn (j + n + 1) - bn j * (g * V)) ∧ addL (lim m (A + bn (j + n + 1) - bn j * (g * V))) j n (V : Nat) = lim m (A - bn j * ((g - 1) * V)) := by
  have pj := bn_pos j
  have e3 : bn j * (g * V) = bn j * ((g - 1) * V) + bn j * V := by
    rw [← Nat.mul_add]
    congr 1
    obtain ⟨q, rfl⟩ : ∃ q, g = q + 1 := ⟨g - 1, by omega⟩
    rw [Nat.add_mul, Nat.add_sub_cancel, Nat.one_mul]
  have e4 : bn j * V ≤ bn (j + n) := by rw [bn_add]; exact Nat.mul_le_mul_left _ (by omega)
  have e5 : bn (j + n + 1) = bn j * bn (n + 1) := by rw [Nat.add_assoc, bn_add]
  have e6 : bn (j + n + 1) = bn (j + n) * 4294967296 := bn_succ _
  have e7 : A < bn j * (g * V) := by
    have := Nat.lt_mul_of_div_lt h pj
    rwa [Nat.mul_comm] at this
  obtain ⟨_, _, w3⟩ := subL_num (A := A) (V := V) (g := g) hm hA
  refine ⟨w3 h (by omega), ?_⟩
  have h2 : bn (j + n + 1) ≤ A + bn (j + n + 1) - bn j * (g * V) + bn j * V := by omega
  have h1 : bn (n + 1) ≤ (A + bn (j + n + 1) - bn j * (g * V)) / bn j + V := by
    have : bn (n + 1) - V ≤ (A + bn (j + n + 1) - bn j * (g * V)) / bn j := by
      refine (Nat.le_div_iff_mul_le pj).2 ?_
      rw [Nat.sub_mul, Nat.mul_comm (bn (n + 1)), ← e5, Nat.mul_comm V]
      omega
    omega
  rw [addL_num hm (by omega) h1 h2]
  congr 1
  omega
end Go.Proofs.YtljmgdepldpmdaaDoor.E

set_option linter.unusedSimpArgs false
set_option linter.unusedVariables false
set_option maxHeartbeats 2000000
namespace Go.Proofs.YtljmgdepldpmdaaDoor.E
open Go.RowKit Limbs
theorem us_cut0 (l : List Int) (n : Nat) : (natC l).take n = natC (l.take n) := by simp only [natC_map, List.map_take]
theorem kn_start {x y : List Int} (lx : Lim x) (ly : Lim y) (ny : Nrm y) {n2 t : Nat} (hn : y.length = n2 + 2) (ht : y.getD (n2 + 1) 0 = (t : Int)) (hxy : n2 + 2 ≤ x.length) :
    ∃ k, k < 32 ∧ 32 - bl t = k ∧ nv y * 2 ^ k < bn (n2 + 2) ∧ bn (n2 + 2) ≤ 2 * (nv y * 2 ^ k) ∧ nv x * 2 ^ k < nv y * 2 ^ k * bn (x.length - (n2 + 2) + 1) ∧ nv x * 2 ^ k < bn (x.length + 1) ∧ nv y ≠ 0 := by
  have hne : y ≠ [] := by intro e; rw [e] at hn; simp at hn
  obtain ⟨hb, ht0⟩ := bl_nv ly ny hne
  rw [hn, show n2 + 2 - 1 = n2 + 1 by omega, ht, Int.toNat_natCast] at hb
  rw [hn, show n2 + 2 - 1 = n2 + 1 by omega, ht] at ht0
  have htl := ly.getD (n2 + 1)
  rw [ht] at htl
  have b1 := bl_le (n := t) (m := 32) (by omega)
  have b0 : bl t ≠ 0 := fun e => ht0 (by rw [bl_eq_zero.1 e]; rfl)
  have hy0 : nv y ≠ 0 := fun e => by rw [e, bl_zero] at hb; omega
  have h1 := bl_lt (nv y)
  have h2 := bl_ge hy0
  have hx := nv_lt_pow lx
  obtain ⟨k, hk⟩ : ∃ k, 32 - bl t = k := ⟨_, rfl⟩
  have p : 0 < 2 ^ k := Nat.two_pow_pos k
  have e1 : nv y * 2 ^ k < 2 ^ (32 * (n2 + 2)) := by
    have : nv y * 2 ^ k < 2 ^ bl (nv y) * 2 ^ k := Nat.mul_lt_mul_of_pos_right h1 p
    rw [← Nat.pow_add] at this
    exact Nat.lt_of_lt_of_le this (Nat.pow_le_pow_right (by omega) (by omega))
  have e2 : 2 ^ (32 * (n2 + 2)) ≤ 2 * (nv y * 2 ^ k) := by
    have : 2 ^ (bl (nv y) - 1) * 2 ^ k ≤ nv y * 2 ^ k := Nat.mul_le_mul_right _ h2
    rw [← Nat.pow_add] at this
    have h5 : 32 * (n2 + 2) = bl (nv y) - 1 + k + 1 := by omega
    rw [h5, Nat.pow_succ]
    omega
  have hk31 : k ≤ 31 := by omega
  have e3 : nv x * 2 ^ k * 2 < 2 ^ (32 * x.length) * 2 ^ 32 := by
    have h6 : 2 ^ k ≤ 2 ^ 31 := Nat.pow_le_pow_right (by omega) hk31
    have h7 : nv x * 2 ^ k ≤ nv x * 2 ^ 31 := Nat.mul_le_mul_left _ h6
    omega
  refine ⟨k, by omega, hk, by rw [bn_two]; exact e1, by rw [bn_two]; exact e2, ?_, ?_, hy0⟩
  · have h8 : 2 ^ (32 * (n2 + 2)) * bn (x.length - (n2 + 2) + 1) ≤ 2 * (nv y * 2 ^ k) * bn (x.length - (n2 + 2) + 1) := Nat.mul_le_mul_right _ e2
    rw [← bn_two, ← bn_add, show n2 + 2 + (x.length - (n2 + 2) + 1) = x.length + 1 by omega, bn_succ, bn_two, Nat.mul_assoc 2] at h8
    omega
  · rw [bn_succ, bn_two]
    omega
def b79_9 : AC :=
  (.seq (.reg [
    ⟨some 49, .move (.tmp 8), none⟩,
    ⟨some 50, .call ⟨(.builtin .len), #[(.tmp 49)], #[23]⟩, none⟩,
    ⟨some 11, .assign (.tmp 50), none⟩])
  (.seq (.reg [
    ⟨some 51, .move (.tmp 8), none⟩,
    ⟨some 52, .move (.tmp 11), none⟩,
    ⟨some 53, .binOp .sub 3 (.tmp 52) (.const (.int .i64 1)) 3, none⟩,
    ⟨some 54, .indexAddr 23 (.tmp 51) (.tmp 53), none⟩,
    ⟨some 55, .load 113 (.tmp 54), none⟩,
    ⟨some 56, .call ⟨(.value (.func 91)), #[(.tmp 55)], #[113]⟩, none⟩,
    ⟨some 57, .convert 3 114 (.tmp 56), none⟩,
    ⟨some 12, .assign (.tmp 57), none⟩])
  (.seq (.reg [
    ⟨some 58, .move (.tmp 7), none⟩,
    ⟨some 59, .move (.tmp 12), none⟩,
    ⟨some 60, .call ⟨(.value (.func 92)), #[(.tmp 58), (.tmp 59)], #[23, 114]⟩, none⟩,
    ⟨some 13, .assign (.tmp 60), none⟩])
  (.seq (.reg [
    ⟨some 61, .move (.tmp 8), none⟩,
    ⟨some 62, .move (.tmp 12), none⟩,
    ⟨some 63, .call ⟨(.value (.func 92)), #[(.tmp 61), (.tmp 62)], #[23, 114]⟩, none⟩,
    ⟨some 64, .move (.tmp 11), none⟩,
    ⟨some 65, .slice 23 (.tmp 63) none (some (.tmp 64)) none, none⟩,
    ⟨some 14, .assign (.tmp 65), none⟩])
  (.seq (.reg [
    ⟨some 66, .move (.tmp 7), none⟩,
    ⟨some 67, .call ⟨(.builtin .len), #[(.tmp 66)], #[23]⟩, none⟩,
    ⟨some 68, .move (.tmp 11), none⟩,
    ⟨some 69, .binOp .sub 3 (.tmp 67) (.tmp 68) 3, none⟩,
    ⟨some 70, .binOp .add 3 (.tmp 69) (.const (.int .i64 1)) 3, none⟩,
    ⟨some 71, .makeSlice 23 (.tmp 70) (.tmp 70), none⟩,
    ⟨some 15, .assign (.tmp 71), none⟩])
  (.seq (.seq (.reg [
    ⟨some 72, .move (.tmp 7), none⟩,
    ⟨some 73, .call ⟨(.builtin .len), #[(.tmp 72)], #[23]⟩, none⟩,
    ⟨some 74, .move (.tmp 11), none⟩,
    ⟨some 75, .binOp .sub 3 (.tmp 73) (.tmp 74) 3, none⟩,
    ⟨some 16, .assign (.tmp 75), none⟩])
  (.block 1 (.loop (.seq (.seq (.reg [
    ⟨some 76, .move (.tmp 16), none⟩,
    ⟨some 77, .binOp .geq 3 (.tmp 76) (.const (.int .i64 0)) 3, none⟩])
  (.cond (.tmp 77)
    .skip
    (.exit 1)))
  (.seq (.block 2 (.seq (.dreg [
    ⟨some 80, .move (.tmp 13), none⟩,
    ⟨some 81, .move (.tmp 16), none⟩,
    ⟨some 82, .move (.tmp 11), none⟩,
    ⟨some 83, .binOp .add 3 (.tmp 81) (.tmp 82) 3, none⟩,
    ⟨some 84, .indexAddr 23 (.tmp 80) (.tmp 83), none⟩,
    ⟨some 85, .load 113 (.tmp 84), none⟩,
    ⟨some 86, .move (.tmp 13), none⟩,
    ⟨some 87, .move (.tmp 16), none⟩,
    ⟨some 88, .move (.tmp 11), none⟩,
    ⟨some 89, .binOp .add 3 (.tmp 87) (.tmp 88) 3, none⟩,
    ⟨some 90, .binOp .sub 3 (.tmp 89) (.const (.int .i64 1)) 3, none⟩,
    ⟨some 91, .indexAddr 23 (.tmp 86) (.tmp 90), none⟩,
    ⟨some 92, .load 113 (.tmp 91), none⟩,
    ⟨some 93, .move (.tmp 13), none⟩,
    ⟨some 94, .move (.tmp 16), none⟩,
    ⟨some 95, .move (.tmp 11), none⟩,
    ⟨some 96, .binOp .add 3 (.tmp 94) (.tmp 95) 3, none⟩,
    ⟨some 97, .binOp .sub 3 (.tmp 96) (.const (.int .i64 2)) 3, none⟩,
    ⟨some 98, .indexAddr 23 (.tmp 93) (.tmp 97), none⟩,
    ⟨some 99, .load 113 (.tmp 98), none⟩,
    ⟨some 100, .move (.tmp 14), none⟩,
    ⟨some 101, .move (.tmp 11), none⟩,
    ⟨some 102, .binOp .sub 3 (.tmp 101) (.const (.int .i64 1)) 3, none⟩,
    ⟨some 103, .indexAddr 23 (.tmp 100) (.tmp 102), none⟩,
    ⟨some 104, .load 113 (.tmp 103), none⟩,
    ⟨some 105, .move (.tmp 14), none⟩,
    ⟨some 106, .move (.tmp 11), none⟩,
    ⟨some 107, .binOp .sub 3 (.tmp 106) (.const (.int .i64 2)) 3, none⟩,
    ⟨some 108, .indexAddr 23 (.tmp 105) (.tmp 107), none⟩,
    ⟨some 109, .load 113 (.tmp 108), none⟩,
    ⟨some 110, .call ⟨(.value (.func 93)), #[(.tmp 85), (.tmp 92), (.tmp 99), (.tmp 104), (.tmp 109)], #[113, 113, 113, 113, 113]⟩, none⟩,
    ⟨some 17, .assign (.tmp 110), none⟩])
  (.seq (.seq (.reg [
    ⟨some 111, .move (.tmp 13), none⟩,
    ⟨some 112, .move (.tmp 16), none⟩,
    ⟨some 113, .move (.tmp 16), none⟩,
    ⟨some 114, .move (.tmp 11), none⟩,
    ⟨some 115, .binOp .add 3 (.tmp 113) (.tmp 114) 3, none⟩,
    ⟨some 116, .binOp .add 3 (.tmp 115) (.const (.int .i64 1)) 3, none⟩,
    ⟨some 117, .slice 23 (.tmp 111) (some (.tmp 112)) (some (.tmp 116)) none, none⟩,
    ⟨some 118, .move (.tmp 14), none⟩,
    ⟨some 119, .move (.tmp 17), none⟩,
    ⟨some 120, .call ⟨(.value (.func 94)), #[(.tmp 117), (.tmp 118), (.tmp 119)], #[23, 23, 99]⟩, none⟩])
  (.cond (.tmp 120)
    (.seq (.reg [
      ⟨some 121, .move (.tmp 17), none⟩,
      ⟨some 122, .binOp .sub 99 (.tmp 121) (.const (.int .u64 1)) 99, none⟩,
      ⟨some 17, .assign (.tmp 122), none⟩])
    (.reg [
      ⟨some 123, .move (.tmp 13), none⟩,
      ⟨some 124, .move (.tmp 16), none⟩,
      ⟨some 125, .move (.tmp 16), none⟩,
      ⟨some 126, .move (.tmp 11), none⟩,
      ⟨some 127, .binOp .add 3 (.tmp 125) (.tmp 126) 3, none⟩,
      ⟨some 128, .binOp .add 3 (.tmp 127) (.const (.int .i64 1)) 3, none⟩,
      ⟨some 129, .slice 23 (.tmp 123) (some (.tmp 124)) (some (.tmp 128)) none, none⟩,
      ⟨some 130, .move (.tmp 14), none⟩,
      ⟨some 131, .call ⟨(.value (.func 95)), #[(.tmp 129), (.tmp 130)], #[23, 23]⟩, none⟩]))
    .skip))
  (.reg [
    ⟨some 132, .move (.tmp 15), none⟩,
    ⟨some 133, .move (.tmp 16), none⟩,
    ⟨some 134, .move (.tmp 17), none⟩,
    ⟨some 135, .convert 99 113 (.tmp 134), none⟩,
    ⟨some 136, .indexAddr 23 (.tmp 132) (.tmp 133), none⟩,
    ⟨none, .store 113 (.tmp 136) (.tmp 135), none⟩]))))
  (.reg [
    ⟨some 78, .move (.tmp 16), none⟩,
    ⟨some 79, .binOp .sub 3 (.tmp 78) (.const (.int .i64 1)) 3, none⟩,
    ⟨some 16, .assign (.tmp 79), none⟩]))))))
  (.seq (.seq (.gh [.frz 15, .frzv 13])
  (.dreg [
    ⟨some 137, .move (.tmp 15), none⟩,
    ⟨some 138, .call ⟨(.value (.func 82)), #[(.tmp 137)], #[23]⟩, none⟩,
    ⟨some 139, .move (.tmp 13), none⟩,
    ⟨some 140, .move (.tmp 11), none⟩,
    ⟨some 141, .slice 23 (.tmp 139) none (some (.tmp 140)) none, none⟩,
    ⟨some 142, .move (.tmp 12), none⟩,
    ⟨some 143, .call ⟨(.value (.func 96)), #[(.tmp 141), (.tmp 142)], #[23, 114]⟩, none⟩,
    ⟨some 4, .assign (.tmp 138), none⟩,
    ⟨some 5, .assign (.tmp 143), none⟩,
    ⟨some 6, .assign (.const (.bool true)), none⟩]))
  .ret)))))))
/-- examboard/nat.DivMod -/
def b79 : AF := ⟨144, 2, [.tmp 4, .tmp 5, .tmp 6],
  (.seq (.reg [
    ⟨some 4, .assign (.const (.slice none 0 0)), none⟩,
    ⟨some 5, .assign (.const (.slice none 0 0)), none⟩,
    ⟨some 6, .assign (.const (.bool false)), none⟩])
  (.seq (.reg [
    ⟨some 18, .move (.tmp 0), none⟩,
    ⟨some 19, .call ⟨(.value (.func 82)), #[(.tmp 18)], #[23]⟩, none⟩,
    ⟨some 20, .move (.tmp 1), none⟩,
    ⟨some 21, .call ⟨(.value (.func 82)), #[(.tmp 20)], #[23]⟩, none⟩,
    ⟨some 7, .assign (.tmp 19), none⟩,
    ⟨some 8, .assign (.tmp 21), none⟩])
  (.seq (.block 0 (.seq (.reg [
    ⟨some 23, .move (.tmp 8), none⟩,
    ⟨some 24, .call ⟨(.builtin .len), #[(.tmp 23)], #[23]⟩, none⟩,
    ⟨some 25, .binOp .eql 3 (.tmp 24) (.const (.int .i64 0)) 3, none⟩,
    ⟨some 22, .assign (.tmp 25), none⟩])
  (.cond (.tmp 22)
    (.seq (.reg [
      ⟨some 4, .assign (.const (.slice none 0 0)), none⟩,
      ⟨some 5, .assign (.const (.slice none 0 0)), none⟩,
      ⟨some 6, .assign (.const (.bool false)), none⟩])
    .ret)
    (.seq (.reg [
      ⟨some 27, .move (.tmp 7), none⟩,
      ⟨some 28, .move (.tmp 8), none⟩,
      ⟨some 29, .call ⟨(.value (.func 68)), #[(.tmp 27), (.tmp 28)], #[23, 23]⟩, none⟩,
      ⟨some 30, .binOp .lss 3 (.tmp 29) (.const (.int .i64 0)) 3, none⟩,
      ⟨some 26, .assign (.tmp 30), none⟩])
    (.cond (.tmp 26)
      (.seq (.reg [
        ⟨some 31, .move (.tmp 7), none⟩,
        ⟨some 32, .call ⟨(.value (.func 84)), #[(.tmp 31)], #[23]⟩, none⟩,
        ⟨some 4, .assign (.const (.slice none 0 0)), none⟩,
        ⟨some 5, .assign (.tmp 32), none⟩,
        ⟨some 6, .assign (.const (.bool true)), none⟩])
      .ret)
      (.seq (.reg [
        ⟨some 34, .move (.tmp 8), none⟩,
        ⟨some 35, .call ⟨(.builtin .len), #[(.tmp 34)], #[23]⟩, none⟩,
        ⟨some 36, .binOp .eql 3 (.tmp 35) (.const (.int .i64 1)) 3, none⟩,
        ⟨some 33, .assign (.tmp 36), none⟩])
      (.cond (.tmp 33)
        (.seq (.reg [
          ⟨some 38, .move (.tmp 7), none⟩,
          ⟨some 39, .move (.tmp 8), none⟩,
          ⟨some 40, .indexAddr 23 (.tmp 39) (.const (.int .i64 0)), none⟩,
          ⟨some 41, .load 113 (.tmp 40), none⟩,
          ⟨some 42, .call ⟨(.value (.func 88)), #[(.tmp 38), (.tmp 41)], #[23, 113]⟩, none⟩,
          ⟨some 37, .move (.tmp 42), none⟩,
          ⟨some 43, .extract (.tmp 37) 0, none⟩,
          ⟨some 44, .extract (.tmp 37) 1, none⟩,
          ⟨some 9, .assign (.tmp 43), none⟩,
          ⟨some 10, .assign (.tmp 44), none⟩])
        (.seq (.reg [
          ⟨some 45, .move (.tmp 9), none⟩,
          ⟨some 46, .move (.tmp 10), none⟩,
          ⟨some 47, .convert 113 99 (.tmp 46), none⟩,
          ⟨some 48, .call ⟨(.value (.func 69)), #[(.tmp 47)], #[99]⟩, none⟩,
          ⟨some 4, .assign (.tmp 45), none⟩,
          ⟨some 5, .assign (.tmp 48), none⟩,
          ⟨some 6, .assign (.const (.bool true)), none⟩])
        .ret))
        .skip)))))))
  b79_9)))⟩
theorem c79 : fcomp Tryd.prog 79 = ⟨b79.n, b79.np, b79.res, b79.body.bare⟩ := by kernel_rfl
theorem k79 : fok Tryd.prog 79 = true := by kernel_rfl
set_option maxHeartbeats 8000000 in
theorem nat_DivMod_rest (x y : List Int) (lx : Lim x) (ly : Lim y) (nx : Nrm x) (ny : Nrm y) (hx : x.length < 2199023255552) (n2 : Nat) (hn : y.length = n2 + 2) (hxy : n2 + 2 ≤ x.length) (s : AS) (t7 : s.t 7 = .one (.dt (natD x))) (t8 : s.t 8 = .one (.dt (natD y))) (g60 : s.g 60 = 0) (g71 : s.g 71 = 0) (f60 : s.f (60, 0) = false) :
    awp Tryd.prog b79_9 (fend Tryd.prog [.tmp 4, .tmp 5, .tmp 6] (divR (nv x) (nv y))) s := by
  unfold b79_9
  obtain ⟨t, ht⟩ : ∃ t : Nat, y.getD (n2 + 1) 0 = (t : Int) := ⟨(y.getD (n2 + 1) 0).toNat, by have := ly.getD (n2 + 1); omega⟩
  have htl := ly.getD (n2 + 1)
  rw [ht] at htl
  obtain ⟨k, hk, hk2, hV0, hV1, hU0, hU1, hy0⟩ := kn_start lx ly ny hn ht hxy
  obtain ⟨n, hnn⟩ : ∃ n, n = n2 + 2 := ⟨_, rfl⟩
  have hni : (y.length : Int) = (n : Int) := by omega
  have hn1 : ((n : Int) - 1).toNat = n2 + 1 := by omega
  obtain ⟨M0, hM0⟩ : ∃ M0, x.length = n + M0 := ⟨x.length - n, by omega⟩
  have hMi : (x.length : Int) - (n : Int) = (M0 : Int) := by omega
  obtain ⟨M, hM⟩ : ∃ M, M = M0 + 1 := ⟨_, rfl⟩
  have hMi1 : (M0 : Int) + 1 = (M : Int) := by omega
  rw [show x.length - (n2 + 2) + 1 = M by omega] at hU0
  obtain ⟨uN, hU⟩ : ∃ uN, uN = nv x * 2 ^ k := ⟨_, rfl⟩
  obtain ⟨vN, hV⟩ : ∃ vN, vN = nv y * 2 ^ k := ⟨_, rfl⟩
  rw [← hV] at hV0 hV1 hU0
  rw [← hU] at hU0 hU1
  simp (maxSteps:=1000000) (disch:=first | omega | (simp only [LL];omega)) only [W,V,TY,CC,reduceIte,Nat.reduceEqDiff,Nat.reduceAdd,Nat.reduceLeDiff,Nat.reduceLT,Int.reduceLE,Int.reduceLT,Int.reduceAdd,Int.reduceSub,Int.reduceToNat,Nat.reduceMul,t7,t8,hni,hn1,ht]
  refine a_call _ _ (bits_LZ32 t (by omega)) (by simp (maxSteps:=1000000) (disch:=first | omega | (simp only [LL];omega)) only [W,V,TY,CC,reduceIte,Nat.reduceEqDiff,Nat.reduceAdd,Nat.reduceLeDiff,Nat.reduceLT,Int.reduceLE,Int.reduceLT,Int.reduceAdd,Int.reduceSub,Int.reduceToNat,Nat.reduceMul,t7,t8,hni,hn1,ht]) ?_
  rw [hk2]
  simp (maxSteps:=1000000) (disch:=first | omega | (simp only [LL];omega)) only [W,V,TY,CC,reduceIte,Nat.reduceEqDiff,Nat.reduceAdd,Nat.reduceLeDiff,Nat.reduceLT,Int.reduceLE,Int.reduceLT,Int.reduceAdd,Int.reduceSub,Int.reduceToNat,Nat.reduceMul,t7,t8,hni]
  refine a_ocall _ _ (nat_shiftUpO x k lx (by omega) hk) (by simp (maxSteps:=1000000) (disch:=first | omega | (simp only [LL];omega)) only [W,V,TY,CC,reduceIte,Nat.reduceEqDiff,Nat.reduceAdd,Nat.reduceLeDiff,Nat.reduceLT,Int.reduceLE,Int.reduceLT,Int.reduceAdd,Int.reduceSub,Int.reduceToNat,Nat.reduceMul,t7,t8,hni]) ?_
  rw [← hU]
  simp (maxSteps:=1000000) (disch:=first | omega | (simp only [LL];omega)) only [W,V,TY,CC,reduceIte,Nat.reduceEqDiff,Nat.reduceAdd,Nat.reduceLeDiff,Nat.reduceLT,Int.reduceLE,Int.reduceLT,Int.reduceAdd,Int.reduceSub,Int.reduceToNat,Nat.reduceMul,t7,t8,hni,lim_len]
  refine a_call _ _ (nat_shiftUp y k ly (by omega) hk) (by simp (maxSteps:=1000000) (disch:=first | omega | (simp only [LL];omega)) only [W,V,TY,CC,reduceIte,Nat.reduceEqDiff,Nat.reduceAdd,Nat.reduceLeDiff,Nat.reduceLT,Int.reduceLE,Int.reduceLT,Int.reduceAdd,Int.reduceSub,Int.reduceToNat,Nat.reduceMul,t7,t8,hni]) ?_
  rw [← hV, hn]
  simp (maxSteps:=1000000) (disch:=first | omega | (simp only [LL];omega)) only [W,V,TY,CC,reduceIte,Nat.reduceEqDiff,Nat.reduceAdd,Nat.reduceLeDiff,Nat.reduceLT,Int.reduceLE,Int.reduceLT,Int.reduceAdd,Int.reduceSub,Int.reduceToNat,Nat.reduceMul,t7,t8,hni,lim_len]
  refine w_loop (fun m s => ∃ (e A : Nat) (Q : List Int), m = e ∧ s.t 13 = .sv (60, 0) 0 (x.length + 1) ∧ s.t 14 = .one (.dt (natD (lim n vN))) ∧ s.t 11 = .one (.dt (.lit (.int .i64 n))) ∧ s.t 12 = .one (.dt (.lit (.int .u64 k))) ∧ s.t 16 = .one (.dt (.lit (.int .i64 ((e : Int) - 1)))) ∧ s.t 15 = .one (.row (71, 0) 0) ∧ s.r (71, 0) = some ⟨113, 1, M, natC Q, 0, true⟩ ∧ s.v (60, 0) = some (u32s (lim (x.length + 1) A)) ∧ s.f (60, 0) = false ∧ Q.length = M ∧ Lim Q ∧ e ≤ M ∧ A < vN * bn e ∧ uN = A + vN * nv Q ∧ ∀ i, i < e → Q.getD i 0 = 0) M ⟨M, uN, List.replicate M 0, rfl, ?_, ?_, ?_, ?_, ?_, ?_, ?_, ?_, ?_, by simp, Lim.replicate _, Nat.le_refl _, hU0, ?_, fun i _ => ?_⟩ ?_
  · simp (maxSteps:=1000000) (disch:=first | omega | (simp only [LL];omega)) only [W,V,TY,CC,reduceIte,Nat.reduceEqDiff,Nat.reduceAdd,Nat.reduceLeDiff,Nat.reduceLT,Int.reduceLE,Int.reduceLT,Int.reduceAdd,Int.reduceSub,Int.reduceToNat,Nat.reduceMul,g60]
  · simp (maxSteps:=1000000) (disch:=first | omega | (simp only [LL];omega)) only [W,V,TY,CC,reduceIte,Nat.reduceEqDiff,Nat.reduceAdd,Nat.reduceLeDiff,Nat.reduceLT,Int.reduceLE,Int.reduceLT,Int.reduceAdd,Int.reduceSub,Int.reduceToNat,Nat.reduceMul]
    rw [cw_natD _ (by omega) (by omega) (by rw [lim_len]; omega), Int.toNat_natCast, Int.toNat_zero, List.drop_zero, lim_take _ _ _ (by omega)]
  · simp (maxSteps:=1000000) (disch:=first | omega | (simp only [LL];omega)) only [W,V,TY,CC,reduceIte,Nat.reduceEqDiff,Nat.reduceAdd,Nat.reduceLeDiff,Nat.reduceLT,Int.reduceLE,Int.reduceLT,Int.reduceAdd,Int.reduceSub,Int.reduceToNat,Nat.reduceMul]
  · simp (maxSteps:=1000000) (disch:=first | omega | (simp only [LL];omega)) only [W,V,TY,CC,reduceIte,Nat.reduceEqDiff,Nat.reduceAdd,Nat.reduceLeDiff,Nat.reduceLT,Int.reduceLE,Int.reduceLT,Int.reduceAdd,Int.reduceSub,Int.reduceToNat,Nat.reduceMul]
  · simp (maxSteps:=1000000) (disch:=first | omega | (simp only [LL];omega)) only [W,V,TY,CC,reduceIte,Nat.reduceEqDiff,Nat.reduceAdd,Nat.reduceLeDiff,Nat.reduceLT,Int.reduceLE,Int.reduceLT,Int.reduceAdd,Int.reduceSub,Int.reduceToNat,Nat.reduceMul,hMi,← hMi1]
  · simp (maxSteps:=1000000) (disch:=first | omega | (simp only [LL];omega)) only [W,V,TY,CC,reduceIte,Nat.reduceEqDiff,Nat.reduceAdd,Nat.reduceLeDiff,Nat.reduceLT,Int.reduceLE,Int.reduceLT,Int.reduceAdd,Int.reduceSub,Int.reduceToNat,Nat.reduceMul,g71]
  · simp (maxSteps:=1000000) (disch:=first | omega | (simp only [LL];omega)) only [W,V,TY,CC,reduceIte,Nat.reduceEqDiff,Nat.reduceAdd,Nat.reduceLeDiff,Nat.reduceLT,Int.reduceLE,Int.reduceLT,Int.reduceAdd,Int.reduceSub,Int.reduceToNat,Nat.reduceMul,g71,hMi,hMi1]
  · simp (maxSteps:=1000000) (disch:=first | omega | (simp only [LL];omega)) only [W,V,TY,CC,reduceIte,Nat.reduceEqDiff,Nat.reduceAdd,Nat.reduceLeDiff,Nat.reduceLT,Int.reduceLE,Int.reduceLT,Int.reduceAdd,Int.reduceSub,Int.reduceToNat,Nat.reduceMul,g60]
  · simp (maxSteps:=1000000) (disch:=first | omega | (simp only [LL];omega)) only [W,V,TY,CC,reduceIte,Nat.reduceEqDiff,Nat.reduceAdd,Nat.reduceLeDiff,Nat.reduceLT,Int.reduceLE,Int.reduceLT,Int.reduceAdd,Int.reduceSub,Int.reduceToNat,Nat.reduceMul,f60]
  · unfold nv; rw [val_replicate]; simp
  · rw [List.getD_eq_getElem?_getD, List.getElem?_replicate]; split <;> rfl
  clear t7 t8 g60 g71 f60
  intro m s _ ⟨e, A, Q, hme, t13, t14, t11, t12, t16, t15, r71, v60, f60, hQ, lQ, heM, hA, hUA, hz⟩
  simp (maxSteps:=1000000) (disch:=first | omega | (simp only [LL];omega)) only [W,V,TY,CC,reduceIte,Nat.reduceEqDiff,Nat.reduceAdd,Nat.reduceLeDiff,Nat.reduceLT,Int.reduceLE,Int.reduceLT,Int.reduceAdd,Int.reduceSub,Int.reduceToNat,Nat.reduceMul,t16]
  refine c_split (fun he => ?_) (fun he => ?_)
  · obtain ⟨j, rfl⟩ : ∃ j, e = j + 1 := ⟨e - 1, by omega⟩
    have hj1 : ((j + 1 : Nat) : Int) - 1 = (j : Int) := by omega
    rw [hj1] at t16
    have hA3 := kn_lt hV0 hA
    have hhd := kn_head (n2 := n2) hA
    obtain ⟨q1, q2, q3⟩ := kn_top hV0 hV1
    have x0 : ((j : Int) + (n : Int)).toNat = j + n2 + 2 := by omega
    have x1 : ((j : Int) + (n : Int) - 1).toNat = j + n2 + 1 := by omega
    have x2 : ((j : Int) + (n : Int) - 2).toNat = j + n2 := by omega
    have x4 : ((n : Int) - 2).toNat = n2 := by omega
    obtain ⟨aL, haL⟩ : ∃ aL, aL = lim (x.length + 1) A := ⟨_, rfl⟩
    have laL : aL.length = x.length + 1 := by rw [haL, lim_len]
    obtain ⟨vL, hvL⟩ : ∃ vL, vL = lim n vN := ⟨_, rfl⟩
    have lvL : vL.length = n := by rw [hvL, lim_len]
    have y0 := lim_getD (x.length + 1) A (j + n2 + 2) (by omega)
    have y1 := lim_getD (x.length + 1) A (j + n2 + 1) (by omega)
    have y2 := lim_getD (x.length + 1) A (j + n2) (by omega)
    have y3 := lim_getD n vN (n2 + 1) (by omega)
    have y4 := lim_getD n vN n2 (by omega)
    rw [← haL] at y0 y1 y2 v60
    rw [← hvL] at y3 y4 t14
    simp (maxSteps:=1000000) (disch:=first | omega | (simp only [LL];omega)) only [W,V,TY,CC,reduceIte,Nat.reduceEqDiff,Nat.reduceAdd,Nat.reduceLeDiff,Nat.reduceLT,Int.reduceLE,Int.reduceLT,Int.reduceAdd,Int.reduceSub,Int.reduceToNat,Nat.reduceMul,t11,t12,t13,t14,t15,t16,r71,v60,f60,x0,x1,x2,x4,hn1,y0,y1,y2,y3,y4]
    refine ⟨by omega, by omega, by omega, ?_⟩
    have hVn : vN < bn n := by rw [hnn]; exact hV0
    have hAn1 : A < bn (j + n + 1) := by rw [hnn]; exact hA3
    have h3 := top3 (v := A) (j := j + n2) hA3
    have h4 := top2 (v := vN) (j := n2) hV0
    have h5 := top2 (v := A) (j := j + n2 + 1) hA3
    have m1 : ∀ q : Nat, q % 4294967296 < 4294967296 := fun q => Nat.mod_lt _ (by decide)
    refine a_call _ _ (nat_guess (A / bn (j + n2 + 2) % 4294967296) (A / bn (j + n2 + 1) % 4294967296) (A / bn (j + n2) % 4294967296) (vN / bn (n2 + 1) % 4294967296) (vN / bn n2 % 4294967296) (m1 _) (m1 _) (m1 _) (m1 _) (m1 _) (by rw [Nat.mod_eq_of_lt q2]; exact q1) (by rw [h4]; exact Nat.le_trans (Nat.le_of_eq h5) hhd)) (by simp (maxSteps:=1000000) (disch:=first | omega | (simp only [LL];omega)) only [W,V,TY,CC,reduceIte,Nat.reduceEqDiff,Nat.reduceAdd,Nat.reduceLeDiff,Nat.reduceLT,Int.reduceLE,Int.reduceLT,Int.reduceAdd,Int.reduceSub,Int.reduceToNat,Nat.reduceMul,t11,t12,t13,t14,t15,t16]) ?_
    rw [h3, h4]
    obtain ⟨g, hg⟩ : ∃ g, g = gs (A / bn (j + n2)) (vN / bn n2) := ⟨_, rfl⟩
    rw [← hg]
    obtain ⟨gB, dOK, dNeg⟩ := kn_digit hV0 hV1 hA g hg
    clear h3 h4 h5 hhd y0 y1 y2 y3 y4 hg
    have xw : ((j : Int) + (n : Int) + 1).toNat = j + n + 1 := by omega
    have xw2 : j + n + 1 - j = n + 1 := by omega
    simp (maxSteps:=1000000) (disch:=first | omega | (simp only [LL];omega)) only [W,V,TY,CC,reduceIte,Nat.reduceEqDiff,Nat.reduceAdd,Nat.reduceLeDiff,Nat.reduceLT,Int.reduceLE,Int.reduceLT,Int.reduceAdd,Int.reduceSub,Int.reduceToNat,Nat.reduceMul,t11,t12,t13,t14,t15,t16,v60,f60,xw,xw2]
    refine ⟨by omega, ?_⟩
    have hval : val vL = ((vN : Nat) : Int) := by rw [hvL, val_lim _ _ hVn]
    have hmul : (g : Int) * ((vN : Nat) : Int) = ((g * vN : Nat) : Int) := by simp
    have hsub := nat_subtract aL vL j n g (haL ▸ lim_lim _ _) (hvL ▸ lim_lim _ _) lvL (by omega) (by omega) gB
    obtain ⟨w1, w2, _⟩ := subL_num (A := A) (V := vN) (j := j) (n := n) (m := x.length + 1) (g := g) (by omega) hAn1
    rw [← haL] at w1 w2
    rw [hval, hmul, w1] at hsub
    refine a_wcall (a0 := .tmp 117) (xs := [.tmp 118, .tmp 119]) (60, 0) j (n + 1) aL _ _ _ hsub (by simp (maxSteps:=1000000) (disch:=first | omega | (simp only [LL];omega)) only [W,V,TY,CC,reduceIte,Nat.reduceEqDiff,Nat.reduceAdd,Nat.reduceLeDiff,Nat.reduceLT,Int.reduceLE,Int.reduceLT,Int.reduceAdd,Int.reduceSub,Int.reduceToNat,Nat.reduceMul,t11,t12,t13,t14,t15,t16,v60,f60,xw,xw2]) (by simp (maxSteps:=1000000) (disch:=first | omega | (simp only [LL];omega)) only [W,V,TY,CC,reduceIte,Nat.reduceEqDiff,Nat.reduceAdd,Nat.reduceLeDiff,Nat.reduceLT,Int.reduceLE,Int.reduceLT,Int.reduceAdd,Int.reduceSub,Int.reduceToNat,Nat.reduceMul,v60]) (by simp (maxSteps:=1000000) (disch:=first | omega | (simp only [LL];omega)) only [W,V,TY,CC,reduceIte,Nat.reduceEqDiff,Nat.reduceAdd,Nat.reduceLeDiff,Nat.reduceLT,Int.reduceLE,Int.reduceLT,Int.reduceAdd,Int.reduceSub,Int.reduceToNat,Nat.reduceMul,f60]) (by simp (maxSteps:=1000000) (disch:=first | omega | (simp only [LL];omega)) only [W,V,TY,CC,reduceIte,Nat.reduceEqDiff,Nat.reduceAdd,Nat.reduceLeDiff,Nat.reduceLT,Int.reduceLE,Int.reduceLT,Int.reduceAdd,Int.reduceSub,Int.reduceToNat,Nat.reduceMul,t11,t12,t13,t14,t15,t16]) ?_ rfl
    simp (maxSteps:=1000000) (disch:=first | omega | (simp only [LL];omega)) only [W,V,TY,CC,reduceIte,Nat.reduceEqDiff,Nat.reduceAdd,Nat.reduceLeDiff,Nat.reduceLT,Int.reduceLE,Int.reduceLT,Int.reduceAdd,Int.reduceSub,Int.reduceToNat,Nat.reduceMul,t11,t12,t13,t14,t15,t16]
    have fin : ∀ g' : Nat, g' < 4294967296 → bn j * (g' * vN) ≤ A → A - bn j * (g' * vN) < vN * bn j → (Q.set j (g' : Int)).length = M ∧ Lim (Q.set j (g' : Int)) ∧ j ≤ M ∧ A - bn j * (g' * vN) < vN * bn j ∧ uN = A - bn j * (g' * vN) + vN * nv (Q.set j (g' : Int)) ∧ ∀ i, i < j → (Q.set j (g' : Int)).getD i 0 = 0 := by
      intro g' h1 h2 h3
      have lQ' : Lim (Q.set j (g' : Int)) := lQ.set _ (by omega) (by omega)
      refine ⟨by simp [hQ], lQ', by omega, h3, ?_, fun i hi => ?_⟩
      · have e1 := val_set_getD (l := Q) (i := j) (by omega) (g' : Int)
        rw [hz j (by omega), Int.sub_zero, ← bn_bp, ← Int.natCast_mul, ← nv_eq lQ', ← nv_eq lQ] at e1
        have e2 : nv (Q.set j (g' : Int)) = nv Q + bn j * g' := by omega
        have e3 : vN * (nv Q + bn j * g') = vN * nv Q + bn j * (g' * vN) := by grind
        rw [e2, e3]
        omega
      · rw [Limbs.getD_set_ne (by omega)]
        exact hz i (by omega)
    refine c_split (fun hneg => ?_) (fun hneg => ?_)
    · obtain ⟨g0, e1, e2, e3⟩ := dNeg (by omega)
      obtain ⟨r1, r2⟩ := neg_num (m := x.length + 1) (by omega) hVn hAn1 (by omega) g0 e2
      obtain ⟨aM, haM⟩ : ∃ aM, aM = lim (x.length + 1) (A + bn (j + n + 1) - bn j * (g * vN)) := ⟨_, rfl⟩
      have hadd := nat_addBack aM vL j n (haM ▸ lim_lim _ _) (hvL ▸ lim_lim _ _) lvL (by rw [haM, lim_len]; omega) (by omega)
      rw [← haL] at r1
      rw [hval, haM, r2] at hadd
      rw [r1]
      have hgm : (g : Int) - 1 = ((g - 1 : Nat) : Int) := by omega
      simp (maxSteps:=1000000) (disch:=first | omega | (simp only [LL];omega)) only [W,V,TY,CC,reduceIte,Nat.reduceEqDiff,Nat.reduceAdd,Nat.reduceLeDiff,Nat.reduceLT,Int.reduceLE,Int.reduceLT,Int.reduceAdd,Int.reduceSub,Int.reduceToNat,Nat.reduceMul,t11,t12,t13,t14,t15,t16,hgm,xw,xw2]
      refine ⟨by omega, ?_⟩
      refine a_wcall (a0 := .tmp 129) (xs := [.tmp 130]) (60, 0) j (n + 1) _ _ _ _ hadd (by simp (maxSteps:=1000000) (disch:=first | omega | (simp only [LL];omega)) only [W,V,TY,CC,reduceIte,Nat.reduceEqDiff,Nat.reduceAdd,Nat.reduceLeDiff,Nat.reduceLT,Int.reduceLE,Int.reduceLT,Int.reduceAdd,Int.reduceSub,Int.reduceToNat,Nat.reduceMul,t11,t12,t13,t14,t15,t16,v60,f60,xw,xw2]) (by simp (maxSteps:=1000000) (disch:=first | omega | (simp only [LL];omega)) only [W,V,TY,CC,reduceIte,Nat.reduceEqDiff,Nat.reduceAdd,Nat.reduceLeDiff,Nat.reduceLT,Int.reduceLE,Int.reduceLT,Int.reduceAdd,Int.reduceSub,Int.reduceToNat,Nat.reduceMul,v60]) (by simp (maxSteps:=1000000) (disch:=first | omega | (simp only [LL];omega)) only [W,V,TY,CC,reduceIte,Nat.reduceEqDiff,Nat.reduceAdd,Nat.reduceLeDiff,Nat.reduceLT,Int.reduceLE,Int.reduceLT,Int.reduceAdd,Int.reduceSub,Int.reduceToNat,Nat.reduceMul,f60]) (by simp (maxSteps:=1000000) (disch:=first | omega | (simp only [LL];omega)) only [W,V,TY,CC,reduceIte,Nat.reduceEqDiff,Nat.reduceAdd,Nat.reduceLeDiff,Nat.reduceLT,Int.reduceLE,Int.reduceLT,Int.reduceAdd,Int.reduceSub,Int.reduceToNat,Nat.reduceMul,t11,t12,t13,t14,t15,t16]) ?_ rfl
      simp (maxSteps:=1000000) (disch:=first | omega | (simp only [LL];omega)) only [W,V,TY,CC,reduceIte,Nat.reduceEqDiff,Nat.reduceAdd,Nat.reduceLeDiff,Nat.reduceLT,Int.reduceLE,Int.reduceLT,Int.reduceAdd,Int.reduceSub,Int.reduceToNat,Nat.reduceMul,t11,t12,t13,t14,t15,t16,r71,wu32 (n := ((g - 1 : Nat) : Int)) (by omega) (by omega)]
      obtain ⟨f1, f2, f3, f4, f5, f6⟩ := fin (g - 1) (by omega) e2 e3
      exact ⟨by omega, by omega, j, by omega, j, _, _, rfl, by rw [hvL], rfl, rfl, rfl, f60, f1, f2, f3, f4, f5, f6⟩
    · obtain ⟨e2, e3⟩ := dOK (by omega)
      rw [w2 (by omega) e2]
      simp (maxSteps:=1000000) (disch:=first | omega | (simp only [LL];omega)) only [W,V,TY,CC,reduceIte,Nat.reduceEqDiff,Nat.reduceAdd,Nat.reduceLeDiff,Nat.reduceLT,Int.reduceLE,Int.reduceLT,Int.reduceAdd,Int.reduceSub,Int.reduceToNat,Nat.reduceMul,t11,t12,t13,t14,t15,t16,r71,wu32 (n := ((g : Nat) : Int)) (by omega) (by omega)]
      obtain ⟨f1, f2, f3, f4, f5, f6⟩ := fin g gB e2 e3
      exact ⟨by omega, by omega, j, by omega, j, _, _, rfl, by rw [hvL], rfl, rfl, rfl, f60, f1, f2, f3, f4, f5, f6⟩
  · have ul := lim_len (x.length + 1) A
    simp (maxSteps:=1000000) (disch:=first | omega | (simp only [LL];omega)) only [W,V,TY,CC,reduceIte,Nat.reduceEqDiff,Nat.reduceAdd,Nat.reduceLeDiff,Nat.reduceLT,Int.reduceLE,Int.reduceLT,Int.reduceAdd,Int.reduceSub,Int.reduceToNat,Nat.reduceMul,t11,t12,t13,t14,t15,r71,v60,f60]
    refine a_call _ _ (nat_trim Q lQ (by omega)) (by simp (maxSteps:=1000000) (disch:=first | omega | (simp only [LL];omega)) only [W,V,TY,CC,reduceIte,Nat.reduceEqDiff,Nat.reduceAdd,Nat.reduceLeDiff,Nat.reduceLT,Int.reduceLE,Int.reduceLT,Int.reduceAdd,Int.reduceSub,Int.reduceToNat,Nat.reduceMul,t11,t12,t13,t14,t15,r71,v60,f60]) ?_
    simp (maxSteps:=1000000) (disch:=first | omega | (simp only [LL];omega)) only [W,V,TY,CC,reduceIte,Nat.reduceEqDiff,Nat.reduceAdd,Nat.reduceLeDiff,Nat.reduceLT,Int.reduceLE,Int.reduceLT,Int.reduceAdd,Int.reduceSub,Int.reduceToNat,Nat.reduceMul,t11,t12,t13,t14,t15,r71,v60,f60]
    have he0 : e = 0 := by omega
    subst he0
    rw [bn_zero, Nat.mul_one] at hA
    have hAn : A < bn n := by rw [hnn]; omega
    have htk := lim_take (x.length + 1) A n (by omega)
    have hle : n ≤ x.length + 1 := by omega
    have hof : Dt.sl n (natC (lim n A)) = natD (lim n A) := of_natD _ _ (lim_len _ _).symm
    refine ⟨by omega, ?_⟩
    refine a_call _ _ (nat_shiftDown (lim n A) k (lim_lim _ _) (by rw [lim_len]; omega) hk) (by simp (maxSteps:=1000000) (disch:=first | omega | (simp only [LL];omega)) only [W,V,TY,CC,reduceIte,Nat.reduceEqDiff,Nat.reduceAdd,Nat.reduceLeDiff,Nat.reduceLT,Int.reduceLE,Int.reduceLT,Int.reduceAdd,Int.reduceSub,Int.reduceToNat,Nat.reduceMul,t11,t12,t13,t14,t15,r71,v60,f60,us_ds,us_len,us_cut0,ul,htk,hle,hof]) ?_
    simp (maxSteps:=1000000) (disch:=first | omega | (simp only [LL];omega)) only [W,V,TY,CC,reduceIte,Nat.reduceEqDiff,Nat.reduceAdd,Nat.reduceLeDiff,Nat.reduceLT,Int.reduceLE,Int.reduceLT,Int.reduceAdd,Int.reduceSub,Int.reduceToNat,Nat.reduceMul]
    refine f_ret _ _ _ ?_
    have hVp : 0 < 2 ^ k := Nat.two_pow_pos k
    have d1 : nv x / nv y = nv Q := by
      rw [← Nat.mul_div_mul_right (nv x) (nv y) hVp, ← hU, ← hV, hUA, Nat.add_mul_div_left _ _ (by omega), Nat.div_eq_of_lt hA, Nat.zero_add]
    have d2 : nv x % nv y = A / 2 ^ k := by
      have h5 : uN % vN = A := by rw [hUA, Nat.add_mul_mod_self_left, Nat.mod_eq_of_lt hA]
      rw [hU, hV, Nat.mul_mod_mul_right] at h5
      rw [← h5, Nat.mul_div_cancel _ hVp]
    unfold divR
    rw [if_neg hy0, d1, d2, nv_lim hAn]
    simp (maxSteps:=1000000) (disch:=first | omega | (simp only [LL];omega)) only [W,V,TY,CC,reduceIte,Nat.reduceEqDiff,Nat.reduceAdd,Nat.reduceLeDiff,Nat.reduceLT,Int.reduceLE,Int.reduceLT,Int.reduceAdd,Int.reduceSub,Int.reduceToNat,Nat.reduceMul]
    rfl
theorem nat_DivMod (a b : List Int) (ha : Lim a) (hb : Lim b) (la : a.length < 2199023255552) (lb : b.length < 2199023255552) : AFun Tryd.prog 79 [.one (natD a), .one (natD b)] (divR (nv a) (nv b)) := by
  refine afun_intro mo_ _ _ c79 k79 _ _ rfl (by decide) ?_
  unfold b79
  have h1 := tr_len ha
  have h2 := tr_len hb
  have n1 : Nrm (tr a) := nl_nrm _
  have n2 : Nrm (tr b) := nl_nrm _
  have l1 := tr_lim a
  have l2 := tr_lim b
  have v1 : nv (tr a) = nv a := by unfold nv; rw [val_tr ha]
  have v2 : nv (tr b) = nv b := by unfold nv; rw [val_tr hb]
  have t1 : tr a = nl (nv a) := rfl
  rw [← v1, ← v2]
  rw [← v1] at t1
  simp (maxSteps:=1000000) (disch:=first | omega | (simp only [LL];omega)) only [W,V,TY,CC,reduceIte,Nat.reduceEqDiff,Nat.reduceAdd,Nat.reduceLeDiff,Nat.reduceLT,Int.reduceLE,Int.reduceLT,Int.reduceAdd,Int.reduceSub,Int.reduceToNat,Nat.reduceMul]
  refine a_call _ _ (nat_trim a ha (by omega)) rfl ?_
  simp (maxSteps:=1000000) (disch:=first | omega | (simp only [LL];omega)) only [W,V,TY,CC,reduceIte,Nat.reduceEqDiff,Nat.reduceAdd,Nat.reduceLeDiff,Nat.reduceLT,Int.reduceLE,Int.reduceLT,Int.reduceAdd,Int.reduceSub,Int.reduceToNat,Nat.reduceMul]
  refine a_call _ _ (nat_trim b hb (by omega)) (by simp (maxSteps:=1000000) (disch:=first | omega | (simp only [LL];omega)) only [W,V,TY,CC,reduceIte,Nat.reduceEqDiff,Nat.reduceAdd,Nat.reduceLeDiff,Nat.reduceLT,Int.reduceLE,Int.reduceLT,Int.reduceAdd,Int.reduceSub,Int.reduceToNat,Nat.reduceMul]) ?_
  generalize tr b = y at *
  generalize tr a = x at *
  simp (maxSteps:=1000000) (disch:=first | omega | (simp only [LL];omega)) only [W,V,TY,CC,reduceIte,Nat.reduceEqDiff,Nat.reduceAdd,Nat.reduceLeDiff,Nat.reduceLT,Int.reduceLE,Int.reduceLT,Int.reduceAdd,Int.reduceSub,Int.reduceToNat,Nat.reduceMul]
  refine c_split (fun hl => ?_) (fun hl => ?_)
  · have hy : y = [] := List.eq_nil_of_length_eq_zero (by omega)
    have hz : nv y = 0 := by rw [hy]; rfl
    simp (maxSteps:=1000000) (disch:=first | omega | (simp only [LL];omega)) only [W,V,TY,CC,reduceIte,Nat.reduceEqDiff,Nat.reduceAdd,Nat.reduceLeDiff,Nat.reduceLT,Int.reduceLE,Int.reduceLT,Int.reduceAdd,Int.reduceSub,Int.reduceToNat,Nat.reduceMul]
    refine f_ret _ _ _ ?_
    unfold divR
    simp (maxSteps:=1000000) (disch:=first | omega | (simp only [LL];omega)) only [W,V,TY,CC,reduceIte,Nat.reduceEqDiff,Nat.reduceAdd,Nat.reduceLeDiff,Nat.reduceLT,Int.reduceLE,Int.reduceLT,Int.reduceAdd,Int.reduceSub,Int.reduceToNat,Nat.reduceMul,hz]
    rfl
  · have hne : y ≠ [] := by intro e; rw [e] at hl; simp at hl
    have hpos := val_pos l2 n2 hne
    have hvy := nv_eq l2
    have hvx := nv_eq l1
    have hn0 : nv y ≠ 0 := by omega
    simp (maxSteps:=1000000) (disch:=first | omega | (simp only [LL];omega)) only [W,V,TY,CC,reduceIte,Nat.reduceEqDiff,Nat.reduceAdd,Nat.reduceLeDiff,Nat.reduceLT,Int.reduceLE,Int.reduceLT,Int.reduceAdd,Int.reduceSub,Int.reduceToNat,Nat.reduceMul]
    refine a_call _ _ (nat_Cmp x y l1 l2 (by omega) (by omega)) (by simp (maxSteps:=1000000) (disch:=first | omega | (simp only [LL];omega)) only [W,V,TY,CC,reduceIte,Nat.reduceEqDiff,Nat.reduceAdd,Nat.reduceLeDiff,Nat.reduceLT,Int.reduceLE,Int.reduceLT,Int.reduceAdd,Int.reduceSub,Int.reduceToNat,Nat.reduceMul]) ?_
    simp (maxSteps:=1000000) (disch:=first | omega | (simp only [LL];omega)) only [W,V,TY,CC,reduceIte,Nat.reduceEqDiff,Nat.reduceAdd,Nat.reduceLeDiff,Nat.reduceLT,Int.reduceLE,Int.reduceLT,Int.reduceAdd,Int.reduceSub,Int.reduceToNat,Nat.reduceMul]
    refine c_split (fun hc => ?_) (fun hc => ?_)
    · have hlt : nv x < nv y := by
        unfold cmpZ at hc
        split at hc
        · omega
        · split at hc <;> omega
      simp (maxSteps:=1000000) (disch:=first | omega | (simp only [LL];omega)) only [W,V,TY,CC,reduceIte,Nat.reduceEqDiff,Nat.reduceAdd,Nat.reduceLeDiff,Nat.reduceLT,Int.reduceLE,Int.reduceLT,Int.reduceAdd,Int.reduceSub,Int.reduceToNat,Nat.reduceMul]
      refine a_call _ _ (nat_Norm x l1 (by omega)) (by simp (maxSteps:=1000000) (disch:=first | omega | (simp only [LL];omega)) only [W,V,TY,CC,reduceIte,Nat.reduceEqDiff,Nat.reduceAdd,Nat.reduceLeDiff,Nat.reduceLT,Int.reduceLE,Int.reduceLT,Int.reduceAdd,Int.reduceSub,Int.reduceToNat,Nat.reduceMul]) ?_
      simp (maxSteps:=1000000) (disch:=first | omega | (simp only [LL];omega)) only [W,V,TY,CC,reduceIte,Nat.reduceEqDiff,Nat.reduceAdd,Nat.reduceLeDiff,Nat.reduceLT,Int.reduceLE,Int.reduceLT,Int.reduceAdd,Int.reduceSub,Int.reduceToNat,Nat.reduceMul]
      refine f_ret _ _ _ ?_
      unfold divR
      rw [if_neg hn0, Nat.div_eq_of_lt hlt, Nat.mod_eq_of_lt hlt, nl_zero, t1, tr_nl, nv_nl]
      simp (maxSteps:=1000000) (disch:=first | omega | (simp only [LL];omega)) only [W,V,TY,CC,reduceIte,Nat.reduceEqDiff,Nat.reduceAdd,Nat.reduceLeDiff,Nat.reduceLT,Int.reduceLE,Int.reduceLT,Int.reduceAdd,Int.reduceSub,Int.reduceToNat,Nat.reduceMul]
      rfl
    · have hle : nv y ≤ nv x := by
        unfold cmpZ at hc
        split at hc
        · omega
        · omega
      simp (maxSteps:=1000000) (disch:=first | omega | (simp only [LL];omega)) only [W,V,TY,CC,reduceIte,Nat.reduceEqDiff,Nat.reduceAdd,Nat.reduceLeDiff,Nat.reduceLT,Int.reduceLE,Int.reduceLT,Int.reduceAdd,Int.reduceSub,Int.reduceToNat,Nat.reduceMul]
      refine c_split (fun hl1 => ?_) (fun hl1 => ?_)
      · obtain ⟨d, rfl⟩ : ∃ d, y = [d] := List.length_eq_one_iff.1 (by omega)
        have hd := l2.head
        rw [val_one] at hpos
        have hnd : nv [d] = d.toNat := by unfold nv; rw [val_one]
        simp (maxSteps:=1000000) (disch:=first | omega | (simp only [LL];omega)) only [W,V,TY,CC,reduceIte,Nat.reduceEqDiff,Nat.reduceAdd,Nat.reduceLeDiff,Nat.reduceLT,Int.reduceLE,Int.reduceLT,Int.reduceAdd,Int.reduceSub,Int.reduceToNat,Nat.reduceMul,List.getD_cons_zero]
        refine a_call _ _ (nat_divSmall x d l1 (by omega) hpos hd.2) (by simp (maxSteps:=1000000) (disch:=first | omega | (simp only [LL];omega)) only [W,V,TY,CC,reduceIte,Nat.reduceEqDiff,Nat.reduceAdd,Nat.reduceLeDiff,Nat.reduceLT,Int.reduceLE,Int.reduceLT,Int.reduceAdd,Int.reduceSub,Int.reduceToNat,Nat.reduceMul]) ?_
        simp (maxSteps:=1000000) (disch:=first | omega | (simp only [LL];omega)) only [W,V,TY,CC,reduceIte,Nat.reduceEqDiff,Nat.reduceAdd,Nat.reduceLeDiff,Nat.reduceLT,Int.reduceLE,Int.reduceLT,Int.reduceAdd,Int.reduceSub,Int.reduceToNat,Nat.reduceMul]
        have hrem : nv x % d.toNat < d.toNat := Nat.mod_lt _ (by omega)
        rw [wu64 (n := ((nv x % d.toNat : Nat) : Int)) (by omega) (by omega)]
        refine a_call _ _ (nat_Of (nv x % d.toNat : Nat) (by omega) (by omega)) (by simp (maxSteps:=1000000) (disch:=first | omega | (simp only [LL];omega)) only [W,V,TY,CC,reduceIte,Nat.reduceEqDiff,Nat.reduceAdd,Nat.reduceLeDiff,Nat.reduceLT,Int.reduceLE,Int.reduceLT,Int.reduceAdd,Int.reduceSub,Int.reduceToNat,Nat.reduceMul]) ?_
        simp (maxSteps:=1000000) (disch:=first | omega | (simp only [LL];omega)) only [W,V,TY,CC,reduceIte,Nat.reduceEqDiff,Nat.reduceAdd,Nat.reduceLeDiff,Nat.reduceLT,Int.reduceLE,Int.reduceLT,Int.reduceAdd,Int.reduceSub,Int.reduceToNat,Nat.reduceMul]
        refine f_ret _ _ _ ?_
        unfold divR
        rw [if_neg hn0, hnd]
        simp (maxSteps:=1000000) (disch:=first | omega | (simp only [LL];omega)) only [W,V,TY,CC,reduceIte,Nat.reduceEqDiff,Nat.reduceAdd,Nat.reduceLeDiff,Nat.reduceLT,Int.reduceLE,Int.reduceLT,Int.reduceAdd,Int.reduceSub,Int.reduceToNat,Nat.reduceMul]
      · obtain ⟨m, hm⟩ : ∃ m, y.length = m + 2 := ⟨y.length - 2, by omega⟩
        have hxy : m + 2 ≤ x.length := by
          rcases Nat.lt_or_ge x.length (m + 2) with h | h
          · have := lt_of_len l1 l2 n2 (by omega : x.length < y.length)
            omega
          · exact h
        simp (maxSteps:=1000000) (disch:=first | omega | (simp only [LL];omega)) only [W,V,TY,CC,reduceIte,Nat.reduceEqDiff,Nat.reduceAdd,Nat.reduceLeDiff,Nat.reduceLT,Int.reduceLE,Int.reduceLT,Int.reduceAdd,Int.reduceSub,Int.reduceToNat,Nat.reduceMul]
        refine nat_DivMod_rest x y l1 l2 n1 n2 (by omega) m hm hxy _ ?_ ?_ ?_ ?_ ?_
        · simp (maxSteps:=1000000) (disch:=first | omega | (simp only [LL];omega)) only [W,V,TY,CC,reduceIte,Nat.reduceEqDiff,Nat.reduceAdd,Nat.reduceLeDiff,Nat.reduceLT,Int.reduceLE,Int.reduceLT,Int.reduceAdd,Int.reduceSub,Int.reduceToNat,Nat.reduceMul]
        · simp (maxSteps:=1000000) (disch:=first | omega | (simp only [LL];omega)) only [W,V,TY,CC,reduceIte,Nat.reduceEqDiff,Nat.reduceAdd,Nat.reduceLeDiff,Nat.reduceLT,Int.reduceLE,Int.reduceLT,Int.reduceAdd,Int.reduceSub,Int.reduceToNat,Nat.reduceMul]
        · simp (maxSteps:=1000000) (disch:=first | omega | (simp only [LL];omega)) only [W,V,TY,CC,reduceIte,Nat.reduceEqDiff,Nat.reduceAdd,Nat.reduceLeDiff,Nat.reduceLT,Int.reduceLE,Int.reduceLT,Int.reduceAdd,Int.reduceSub,Int.reduceToNat,Nat.reduceMul]
        · simp (maxSteps:=1000000) (disch:=first | omega | (simp only [LL];omega)) only [W,V,TY,CC,reduceIte,Nat.reduceEqDiff,Nat.reduceAdd,Nat.reduceLeDiff,Nat.reduceLT,Int.reduceLE,Int.reduceLT,Int.reduceAdd,Int.reduceSub,Int.reduceToNat,Nat.reduceMul]
        · simp (maxSteps:=1000000) (disch:=first | omega | (simp only [LL];omega)) only [W,V,TY,CC,reduceIte,Nat.reduceEqDiff,Nat.reduceAdd,Nat.reduceLeDiff,Nat.reduceLT,Int.reduceLE,Int.reduceLT,Int.reduceAdd,Int.reduceSub,Int.reduceToNat,Nat.reduceMul]
end Go.Proofs.YtljmgdepldpmdaaDoor.E

set_option linter.unusedSimpArgs false
set_option linter.unusedVariables false
set_option maxHeartbeats 2000000
namespace Go.Proofs.YtljmgdepldpmdaaDoor.E
open Go.RowKit Limbs
/-- examboard/nat.Gcd -/
def b77 : AF := ⟨27, 2, [.tmp 4],
  (.seq (.reg [
    ⟨some 4, .assign (.const (.slice none 0 0)), none⟩])
  (.seq (.reg [
    ⟨some 10, .move (.tmp 0), none⟩,
    ⟨some 11, .call ⟨(.value (.func 84)), #[(.tmp 10)], #[23]⟩, none⟩,
    ⟨some 12, .move (.tmp 1), none⟩,
    ⟨some 13, .call ⟨(.value (.func 84)), #[(.tmp 12)], #[23]⟩, none⟩,
    ⟨some 5, .assign (.tmp 11), none⟩,
    ⟨some 6, .assign (.tmp 13), none⟩])
  (.seq (.block 0 (.loop (.seq (.seq (.reg [
    ⟨some 14, .move (.tmp 6), none⟩,
    ⟨some 15, .call ⟨(.builtin .len), #[(.tmp 14)], #[23]⟩, none⟩,
    ⟨some 16, .binOp .gtr 3 (.tmp 15) (.const (.int .i64 0)) 3, none⟩])
  (.cond (.tmp 16)
    .skip
    (.exit 0)))
  (.block 1 (.seq (.reg [
    ⟨some 18, .move (.tmp 5), none⟩,
    ⟨some 19, .move (.tmp 6), none⟩,
    ⟨some 20, .call ⟨(.value (.func 79)), #[(.tmp 18), (.tmp 19)], #[23, 23]⟩, none⟩,
    ⟨some 17, .move (.tmp 20), none⟩,
    ⟨some 21, .extract (.tmp 17) 0, none⟩,
    ⟨some 22, .extract (.tmp 17) 1, none⟩,
    ⟨some 23, .extract (.tmp 17) 2, none⟩,
    ⟨some 7, .assign (.tmp 21), none⟩,
    ⟨some 8, .assign (.tmp 22), none⟩,
    ⟨some 9, .assign (.tmp 23), none⟩])
  (.reg [
    ⟨some 24, .move (.tmp 6), none⟩,
    ⟨some 25, .move (.tmp 8), none⟩,
    ⟨some 5, .assign (.tmp 24), none⟩,
    ⟨some 6, .assign (.tmp 25), none⟩]))))))
  (.seq (.reg [
    ⟨some 26, .move (.tmp 5), none⟩,
    ⟨some 4, .assign (.tmp 26), none⟩])
  .ret))))⟩
theorem c77 : fcomp Tryd.prog 77 = ⟨b77.n, b77.np, b77.res, b77.body.bare⟩ := by kernel_rfl
theorem k77 : fok Tryd.prog 77 = true := by kernel_rfl
theorem nat_Gcd (a b : List Int) (ha : Lim a) (hb : Lim b) (la : a.length < 2199023255552) (lb : b.length < 2199023255552) : AFun Tryd.prog 77 [.one (natD a), .one (natD b)] [.one (natD (nl (Nat.gcd (nv a) (nv b))))] := by
  refine afun_intro mo_ _ _ c77 k77 _ _ rfl (by decide) ?_
  unfold b77
  simp (maxSteps:=1000000) (disch:=first | omega | (simp only [LL];omega)) only [W,V,TY,CC,reduceIte,Nat.reduceEqDiff,Nat.reduceAdd,Nat.reduceLeDiff,Nat.reduceLT,Int.reduceLE,Int.reduceLT,Int.reduceAdd,Int.reduceSub,Int.reduceToNat,Nat.reduceMul]
  refine a_call _ _ (nat_Norm a ha (by omega)) rfl ?_
  simp (maxSteps:=1000000) (disch:=first | omega | (simp only [LL];omega)) only [W,V,TY,CC,reduceIte,Nat.reduceEqDiff,Nat.reduceAdd,Nat.reduceLeDiff,Nat.reduceLT,Int.reduceLE,Int.reduceLT,Int.reduceAdd,Int.reduceSub,Int.reduceToNat,Nat.reduceMul]
  refine a_call _ _ (nat_Norm b hb (by omega)) (by simp (maxSteps:=1000000) (disch:=first | omega | (simp only [LL];omega)) only [W,V,TY,CC,reduceIte,Nat.reduceEqDiff,Nat.reduceAdd,Nat.reduceLeDiff,Nat.reduceLT,Int.reduceLE,Int.reduceLT,Int.reduceAdd,Int.reduceSub,Int.reduceToNat,Nat.reduceMul]) ?_
  simp (maxSteps:=1000000) (disch:=first | omega | (simp only [LL];omega)) only [W,V,TY,CC,reduceIte,Nat.reduceEqDiff,Nat.reduceAdd,Nat.reduceLeDiff,Nat.reduceLT,Int.reduceLE,Int.reduceLT,Int.reduceAdd,Int.reduceSub,Int.reduceToNat,Nat.reduceMul]
  refine w_loop (fun n s => ∃ (x y : Nat), n = y ∧ s.t 5 = .one (.dt (natD (nl x))) ∧ s.t 6 = .one (.dt (natD (nl y))) ∧ Nat.gcd x y = Nat.gcd (nv a) (nv b) ∧ (nl x).length < 2199023255552 ∧ (nl y).length < 2199023255552) (nv b) ⟨nv a, nv b, rfl, ?_, ?_, rfl, ?_, ?_⟩ ?_
  · simp (maxSteps:=1000000) (disch:=first | omega | (simp only [LL];omega)) only [W,V,TY,CC,reduceIte,Nat.reduceEqDiff,Nat.reduceAdd,Nat.reduceLeDiff,Nat.reduceLT,Int.reduceLE,Int.reduceLT,Int.reduceAdd,Int.reduceSub,Int.reduceToNat,Nat.reduceMul]; rfl
  · simp (maxSteps:=1000000) (disch:=first | omega | (simp only [LL];omega)) only [W,V,TY,CC,reduceIte,Nat.reduceEqDiff,Nat.reduceAdd,Nat.reduceLeDiff,Nat.reduceLT,Int.reduceLE,Int.reduceLT,Int.reduceAdd,Int.reduceSub,Int.reduceToNat,Nat.reduceMul]; rfl
  · exact Nat.lt_of_le_of_lt (nl_len_le ha (Nat.le_refl _)) la
  · exact Nat.lt_of_le_of_lt (nl_len_le hb (Nat.le_refl _)) lb
  intro n s _ ⟨x, y, e, t5, t6, hg, lx, ly⟩
  simp (maxSteps:=1000000) (disch:=first | omega | (simp only [LL];omega)) only [W,V,TY,CC,reduceIte,Nat.reduceEqDiff,Nat.reduceAdd,Nat.reduceLeDiff,Nat.reduceLT,Int.reduceLE,Int.reduceLT,Int.reduceAdd,Int.reduceSub,Int.reduceToNat,Nat.reduceMul,t5,t6]
  refine c_split (fun hi => ?_) (fun hi => ?_)
  · have hy : y ≠ 0 := by intro h; rw [h, nl_zero] at hi; simp at hi
    simp (maxSteps:=1000000) (disch:=first | omega | (simp only [LL];omega)) only [W,V,TY,CC,reduceIte,Nat.reduceEqDiff,Nat.reduceAdd,Nat.reduceLeDiff,Nat.reduceLT,Int.reduceLE,Int.reduceLT,Int.reduceAdd,Int.reduceSub,Int.reduceToNat,Nat.reduceMul,t5,t6]
    refine a_call _ _ (nat_DivMod (nl x) (nl y) (nl_lim _) (nl_lim _) lx ly) (by simp (maxSteps:=1000000) (disch:=first | omega | (simp only [LL];omega)) only [W,V,TY,CC,reduceIte,Nat.reduceEqDiff,Nat.reduceAdd,Nat.reduceLeDiff,Nat.reduceLT,Int.reduceLE,Int.reduceLT,Int.reduceAdd,Int.reduceSub,Int.reduceToNat,Nat.reduceMul,t5,t6]) ?_
    unfold divR
    rw [nv_nl, nv_nl, if_neg hy]
    simp (maxSteps:=1000000) (disch:=first | omega | (simp only [LL];omega)) only [W,V,TY,CC,reduceIte,Nat.reduceEqDiff,Nat.reduceAdd,Nat.reduceLeDiff,Nat.reduceLT,Int.reduceLE,Int.reduceLT,Int.reduceAdd,Int.reduceSub,Int.reduceToNat,Nat.reduceMul,t5,t6]
    have hm : x % y < y := Nat.mod_lt _ (by omega)
    refine ⟨x % y, by omega, y, x % y, rfl, rfl, rfl, ?_, ly, ?_⟩
    · rw [← hg, Nat.gcd_comm x y, Nat.gcd_rec y x, Nat.gcd_comm]
    · refine Nat.lt_of_le_of_lt (nl_len_le (nl_lim y) ?_) ly
      rw [nv_nl]; omega
  · simp (maxSteps:=1000000) (disch:=first | omega | (simp only [LL];omega)) only [W,V,TY,CC,reduceIte,Nat.reduceEqDiff,Nat.reduceAdd,Nat.reduceLeDiff,Nat.reduceLT,Int.reduceLE,Int.reduceLT,Int.reduceAdd,Int.reduceSub,Int.reduceToNat,Nat.reduceMul,t5,t6]
    refine f_ret _ _ _ ?_
    have hy : y = 0 := by
      have : (nl y).length = 0 := by omega
      rwa [nl_len0] at this
    rw [hy, Nat.gcd_zero_right] at hg
    simp (maxSteps:=1000000) (disch:=first | omega | (simp only [LL];omega)) only [W,V,TY,CC,reduceIte,Nat.reduceEqDiff,Nat.reduceAdd,Nat.reduceLeDiff,Nat.reduceLT,Int.reduceLE,Int.reduceLT,Int.reduceAdd,Int.reduceSub,Int.reduceToNat,Nat.reduceMul,hg]
end Go.Proofs.YtljmgdepldpmdaaDoor.E

set_option linter.unusedSimpArgs false
set_option linter.unusedVariables false
set_option maxHeartbeats 2000000
namespace Go.Proofs.YtljmgdepldpmdaaDoor.E
open Go.RowKit Limbs
/-- an integer, in normal form, as cells -/
def intC (z : Int) : List Dt := [.lit (.bool (decide (z < 0))), natD (nl z.natAbs)]
/-- the value of cells -/
def iv (n : Bool) (m : List Int) : Int := if n = true then -(nv m : Int) else nv m
theorem iv_abs (n : Bool) (m : List Int) : (iv n m).natAbs = nv m := by unfold iv; split <;> omega
theorem iv_nl (z : Int) : iv (decide (z < 0)) (nl z.natAbs) = z := by
  unfold iv
  rw [nv_nl]
  by_cases h : z < 0
  · rw [if_pos (by simpa using h)]; omega
  · rw [if_neg (by simpa using h)]; omega
theorem mk_false (m : List Int) : intC (iv false m) = [.lit (.bool false), natD (tr m)] := by
  unfold intC iv
  simp only [Bool.false_eq_true, if_false, Int.natAbs_natCast]
  rw [show decide ((nv m : Int) < 0) = false from decide_eq_false (by omega)]
  rfl
theorem mk_true (m : List Int) : intC (iv true m) = [.lit (.bool (decide (0 < ((tr m).length : Int)))), natD (tr m)] := by
  unfold intC iv
  simp only [if_true, Int.natAbs_neg, Int.natAbs_natCast]
  have h := nl_len0 (n := nv m)
  rw [show decide (-(nv m : Int) < 0) = decide (0 < ((tr m).length : Int)) from decide_eq_decide.2 ⟨fun h1 => by
    have : (nl (nv m)).length ≠ 0 := fun e => by rw [h] at e; omega
    show 0 < (((nl (nv m)).length : Nat) : Int)
    omega, fun h1 => by
    have h2 : 0 < (((nl (nv m)).length : Nat) : Int) := h1
    have : nv m ≠ 0 := fun e => by rw [← h] at e; omega
    omega⟩]
  rfl
/-- examboard/integer.Make -/
def b56 : AF := ⟨16, 2, [.cell 4 25],
  (.seq (.reg [
    ⟨some 4, .alloc 25, none⟩])
  (.seq (.reg [
    ⟨some 6, .move (.tmp 1), none⟩,
    ⟨some 7, .call ⟨(.value (.func 84)), #[(.tmp 6)], #[23]⟩, none⟩,
    ⟨some 5, .assign (.tmp 7), none⟩])
  (.seq (.reg [
    ⟨some 8, .move (.tmp 0), none⟩,
    ⟨some 9, .move (.tmp 8), none⟩,
    ⟨some 10, .move (.tmp 5), some (9, true)⟩,
    ⟨some 11, .call ⟨(.builtin .len), #[(.tmp 10)], #[23]⟩, some (9, true)⟩,
    ⟨some 12, .binOp .gtr 3 (.tmp 11) (.const (.int .i64 0)) 3, some (9, true)⟩,
    ⟨some 13, .pick (.tmp 9) (.tmp 12) (.const (.bool false)), none⟩,
    ⟨some 14, .move (.tmp 5), none⟩,
    ⟨some 15, .build 25 #[(0, (.tmp 13)), (1, (.tmp 14))], none⟩,
    ⟨none, .store 25 (.tmp 4) (.tmp 15), none⟩])
  .ret)))⟩
theorem c56 : fcomp Tryd.prog 56 = ⟨b56.n, b56.np, b56.res, b56.body.bare⟩ := by kernel_rfl
theorem k56 : fok Tryd.prog 56 = true := by kernel_rfl
theorem int_Make (n : Bool) (m : List Int) (hm : Lim m) (lm : m.length < 2199023255552) : AFun Tryd.prog 56 [.one (.lit (.bool n)), .one (natD m)] [.agg (intC (iv n m))] := by
  refine afun_intro mo_ _ _ c56 k56 _ _ rfl (by decide) ?_
  unfold b56
  simp (maxSteps:=1000000) (disch:=first | omega | (simp only [LL];omega)) only [W,V,TY,CC,reduceIte,Nat.reduceEqDiff,Nat.reduceAdd,Nat.reduceLeDiff,Nat.reduceLT,Int.reduceLE,Int.reduceLT,Int.reduceAdd,Int.reduceSub,Int.reduceToNat,Nat.reduceMul]
  refine a_call _ _ (nat_Norm m hm (by omega)) (by simp (maxSteps:=1000000) (disch:=first | omega | (simp only [LL];omega)) only [W,V,TY,CC,reduceIte,Nat.reduceEqDiff,Nat.reduceAdd,Nat.reduceLeDiff,Nat.reduceLT,Int.reduceLE,Int.reduceLT,Int.reduceAdd,Int.reduceSub,Int.reduceToNat,Nat.reduceMul]) ?_
  simp (maxSteps:=1000000) (disch:=first | omega | (simp only [LL];omega)) only [W,V,TY,CC,reduceIte,Nat.reduceEqDiff,Nat.reduceAdd,Nat.reduceLeDiff,Nat.reduceLT,Int.reduceLE,Int.reduceLT,Int.reduceAdd,Int.reduceSub,Int.reduceToNat,Nat.reduceMul]
  cases n
  · simp (maxSteps:=1000000) (disch:=first | omega | (simp only [LL];omega)) only [W,V,TY,CC,reduceIte,Nat.reduceEqDiff,Nat.reduceAdd,Nat.reduceLeDiff,Nat.reduceLT,Int.reduceLE,Int.reduceLT,Int.reduceAdd,Int.reduceSub,Int.reduceToNat,Nat.reduceMul,g_ft]
    refine f_ret _ _ _ ?_
    simp (maxSteps:=1000000) (disch:=first | omega | (simp only [LL];omega)) only [W,V,TY,CC,reduceIte,Nat.reduceEqDiff,Nat.reduceAdd,Nat.reduceLeDiff,Nat.reduceLT,Int.reduceLE,Int.reduceLT,Int.reduceAdd,Int.reduceSub,Int.reduceToNat,Nat.reduceMul,mk_false]
  · simp (maxSteps:=1000000) (disch:=first | omega | (simp only [LL];omega)) only [W,V,TY,CC,reduceIte,Nat.reduceEqDiff,Nat.reduceAdd,Nat.reduceLeDiff,Nat.reduceLT,Int.reduceLE,Int.reduceLT,Int.reduceAdd,Int.reduceSub,Int.reduceToNat,Nat.reduceMul,g_tt]
    refine f_ret _ _ _ ?_
    simp (maxSteps:=1000000) (disch:=first | omega | (simp only [LL];omega)) only [W,V,TY,CC,reduceIte,Nat.reduceEqDiff,Nat.reduceAdd,Nat.reduceLeDiff,Nat.reduceLT,Int.reduceLE,Int.reduceLT,Int.reduceAdd,Int.reduceSub,Int.reduceToNat,Nat.reduceMul,mk_true]
/-- the sign of a number -/
def sgn (z : Int) : Int := if z < 0 then -1 else if z = 0 then 0 else 1
/-- examboard/integer.Sign -/
def b53 : AF := ⟨11, 1, [.tmp 2],
  (.seq (.reg [
    ⟨some 1, .box 25 (.tmp 0), none⟩,
    ⟨some 2, .assign (.const (.int .i64 0)), none⟩])
  (.seq (.block 0 (.seq (.reg [
    ⟨some 4, .fieldAddr 25 (.tmp 1) 1, none⟩,
    ⟨some 5, .load 23 (.tmp 4), none⟩,
    ⟨some 6, .call ⟨(.value (.func 75)), #[(.tmp 5)], #[23]⟩, none⟩,
    ⟨some 7, .binOp .eql 3 (.tmp 6) (.const (.int .i64 0)) 3, none⟩,
    ⟨some 3, .assign (.tmp 7), none⟩])
  (.cond (.tmp 3)
    (.seq (.reg [
      ⟨some 2, .assign (.const (.int .i64 0)), none⟩])
    .ret)
    (.seq (.reg [
      ⟨some 9, .fieldAddr 25 (.tmp 1) 0, none⟩,
      ⟨some 10, .load 4 (.tmp 9), none⟩,
      ⟨some 8, .assign (.tmp 10), none⟩])
    (.cond (.tmp 8)
      (.seq (.reg [
        ⟨some 2, .assign (.const (.int .i64 (-1))), none⟩])
      .ret)
      .skip)))))
  (.seq (.reg [
    ⟨some 2, .assign (.const (.int .i64 1)), none⟩])
  .ret)))⟩
theorem c53 : fcomp Tryd.prog 53 = ⟨b53.n, b53.np, b53.res, b53.body.bare⟩ := by kernel_rfl
theorem k53 : fok Tryd.prog 53 = true := by kernel_rfl
theorem int_Sign (n : Bool) (m : List Int) (hm : Lim m) (lm : m.length < 2199023255552) : AFun Tryd.prog 53 [.agg [.lit (.bool n), natD m]] [.one (.lit (.int .i64 (sgn (iv n m))))] := by
  refine afun_intro mo_ _ _ c53 k53 _ _ rfl (by decide) ?_
  unfold b53
  simp (maxSteps:=1000000) (disch:=first | omega | (simp only [LL];omega)) only [W,V,TY,CC,reduceIte,Nat.reduceEqDiff,Nat.reduceAdd,Nat.reduceLeDiff,Nat.reduceLT,Int.reduceLE,Int.reduceLT,Int.reduceAdd,Int.reduceSub,Int.reduceToNat,Nat.reduceMul]
  refine a_call _ _ (nat_Bits m hm (by omega)) (by simp (maxSteps:=1000000) (disch:=first | omega | (simp only [LL];omega)) only [W,V,TY,CC,reduceIte,Nat.reduceEqDiff,Nat.reduceAdd,Nat.reduceLeDiff,Nat.reduceLT,Int.reduceLE,Int.reduceLT,Int.reduceAdd,Int.reduceSub,Int.reduceToNat,Nat.reduceMul]) ?_
  simp (maxSteps:=1000000) (disch:=first | omega | (simp only [LL];omega)) only [W,V,TY,CC,reduceIte,Nat.reduceEqDiff,Nat.reduceAdd,Nat.reduceLeDiff,Nat.reduceLT,Int.reduceLE,Int.reduceLT,Int.reduceAdd,Int.reduceSub,Int.reduceToNat,Nat.reduceMul]
  refine c_split (fun h => ?_) (fun h => ?_)
  · have h0 : nv m = 0 := bl_eq_zero.1 (by omega)
    have hs : sgn (iv n m) = 0 := by unfold iv sgn; rw [h0]; split <;> rfl
    simp (maxSteps:=1000000) (disch:=first | omega | (simp only [LL];omega)) only [W,V,TY,CC,reduceIte,Nat.reduceEqDiff,Nat.reduceAdd,Nat.reduceLeDiff,Nat.reduceLT,Int.reduceLE,Int.reduceLT,Int.reduceAdd,Int.reduceSub,Int.reduceToNat,Nat.reduceMul]
    refine f_ret _ _ _ ?_
    simp (maxSteps:=1000000) (disch:=first | omega | (simp only [LL];omega)) only [W,V,TY,CC,reduceIte,Nat.reduceEqDiff,Nat.reduceAdd,Nat.reduceLeDiff,Nat.reduceLT,Int.reduceLE,Int.reduceLT,Int.reduceAdd,Int.reduceSub,Int.reduceToNat,Nat.reduceMul,hs]
  · have h0 : nv m ≠ 0 := fun e => h (by rw [e, bl_zero]; rfl)
    cases n
    · have hs : sgn (iv false m) = 1 := by
        have e : iv false m = (nv m : Int) := rfl
        unfold sgn
        rw [e, if_neg (by omega), if_neg (by omega)]
      simp (maxSteps:=1000000) (disch:=first | omega | (simp only [LL];omega)) only [W,V,TY,CC,reduceIte,Nat.reduceEqDiff,Nat.reduceAdd,Nat.reduceLeDiff,Nat.reduceLT,Int.reduceLE,Int.reduceLT,Int.reduceAdd,Int.reduceSub,Int.reduceToNat,Nat.reduceMul]
      refine f_ret _ _ _ ?_
      simp (maxSteps:=1000000) (disch:=first | omega | (simp only [LL];omega)) only [W,V,TY,CC,reduceIte,Nat.reduceEqDiff,Nat.reduceAdd,Nat.reduceLeDiff,Nat.reduceLT,Int.reduceLE,Int.reduceLT,Int.reduceAdd,Int.reduceSub,Int.reduceToNat,Nat.reduceMul,hs]
    · have hs : sgn (iv true m) = -1 := by
        have e : iv true m = -(nv m : Int) := rfl
        unfold sgn
        rw [e, if_pos (by omega)]
      simp (maxSteps:=1000000) (disch:=first | omega | (simp only [LL];omega)) only [W,V,TY,CC,reduceIte,Nat.reduceEqDiff,Nat.reduceAdd,Nat.reduceLeDiff,Nat.reduceLT,Int.reduceLE,Int.reduceLT,Int.reduceAdd,Int.reduceSub,Int.reduceToNat,Nat.reduceMul]
      refine f_ret _ _ _ ?_
      simp (maxSteps:=1000000) (disch:=first | omega | (simp only [LL];omega)) only [W,V,TY,CC,reduceIte,Nat.reduceEqDiff,Nat.reduceAdd,Nat.reduceLeDiff,Nat.reduceLT,Int.reduceLE,Int.reduceLT,Int.reduceAdd,Int.reduceSub,Int.reduceToNat,Nat.reduceMul,hs]
theorem iv_not (n : Bool) (m : List Int) : iv (!n) m = -iv n m := by unfold iv; cases n <;> simp
/-- examboard/integer.Neg -/
def b83 : AF := ⟨9, 1, [.cell 2 25],
  (.seq (.reg [
    ⟨some 1, .box 25 (.tmp 0), none⟩,
    ⟨some 2, .alloc 25, none⟩])
  (.seq (.reg [
    ⟨some 3, .fieldAddr 25 (.tmp 1) 0, none⟩,
    ⟨some 4, .load 4 (.tmp 3), none⟩,
    ⟨some 5, .unOp .not 4 (.tmp 4), none⟩,
    ⟨some 6, .fieldAddr 25 (.tmp 1) 1, none⟩,
    ⟨some 7, .load 23 (.tmp 6), none⟩,
    ⟨some 8, .call ⟨(.value (.func 56)), #[(.tmp 5), (.tmp 7)], #[4, 23]⟩, none⟩,
    ⟨none, .store 25 (.tmp 2) (.tmp 8), none⟩])
  .ret))⟩
theorem c83 : fcomp Tryd.prog 83 = ⟨b83.n, b83.np, b83.res, b83.body.bare⟩ := by kernel_rfl
theorem k83 : fok Tryd.prog 83 = true := by kernel_rfl
theorem int_Neg (n : Bool) (m : List Int) (hm : Lim m) (lm : m.length < 2199023255552) : AFun Tryd.prog 83 [.agg [.lit (.bool n), natD m]] [.agg (intC (-iv n m))] := by
  refine afun_intro mo_ _ _ c83 k83 _ _ rfl (by decide) ?_
  unfold b83
  rw [← iv_not]
  have hu : unV .not (.one (.dt (.lit (.bool n)))) = .one (.dt (.lit (.bool (!n)))) := rfl
  simp (maxSteps:=1000000) (disch:=first | omega | (simp only [LL];omega)) only [W,V,TY,CC,reduceIte,Nat.reduceEqDiff,Nat.reduceAdd,Nat.reduceLeDiff,Nat.reduceLT,Int.reduceLE,Int.reduceLT,Int.reduceAdd,Int.reduceSub,Int.reduceToNat,Nat.reduceMul,hu]
  refine a_call _ _ (int_Make (!n) m hm lm) (by simp (maxSteps:=1000000) (disch:=first | omega | (simp only [LL];omega)) only [W,V,TY,CC,reduceIte,Nat.reduceEqDiff,Nat.reduceAdd,Nat.reduceLeDiff,Nat.reduceLT,Int.reduceLE,Int.reduceLT,Int.reduceAdd,Int.reduceSub,Int.reduceToNat,Nat.reduceMul]) ?_
  simp (maxSteps:=1000000) (disch:=first | omega | (simp only [LL];omega)) only [W,V,TY,CC,reduceIte,Nat.reduceEqDiff,Nat.reduceAdd,Nat.reduceLeDiff,Nat.reduceLT,Int.reduceLE,Int.reduceLT,Int.reduceAdd,Int.reduceSub,Int.reduceToNat,Nat.reduceMul,intC]
  refine f_ret _ _ _ ?_
  simp (maxSteps:=1000000) (disch:=first | omega | (simp only [LL];omega)) only [W,V,TY,CC,reduceIte,Nat.reduceEqDiff,Nat.reduceAdd,Nat.reduceLeDiff,Nat.reduceLT,Int.reduceLE,Int.reduceLT,Int.reduceAdd,Int.reduceSub,Int.reduceToNat,Nat.reduceMul,intC]
end Go.Proofs.YtljmgdepldpmdaaDoor.E

set_option linter.unusedSimpArgs false
set_option linter.unusedVariables false
set_option maxHeartbeats 2000000
namespace Go.Proofs.YtljmgdepldpmdaaDoor.E
open Go.RowKit Limbs
theorem iv_mul (a b : Bool) (m k : List Int) : iv (a != b) (nl (nv m * nv k)) = iv a m * iv b k := by
  unfold iv
  rw [nv_nl]
  cases a <;> cases b <;> simp <;> grind
/-- examboard/integer.Mul -/
def b49 : AF := ⟨16, 2, [.cell 4 25],
  (.seq (.reg [
    ⟨some 2, .box 25 (.tmp 0), none⟩,
    ⟨some 3, .box 25 (.tmp 1), none⟩,
    ⟨some 4, .alloc 25, none⟩])
  (.seq (.dreg [
    ⟨some 5, .fieldAddr 25 (.tmp 2) 0, none⟩,
    ⟨some 6, .load 4 (.tmp 5), none⟩,
    ⟨some 7, .fieldAddr 25 (.tmp 3) 0, none⟩,
    ⟨some 8, .load 4 (.tmp 7), none⟩,
    ⟨some 9, .binOp .neq 4 (.tmp 6) (.tmp 8) 4, none⟩,
    ⟨some 10, .fieldAddr 25 (.tmp 2) 1, none⟩,
    ⟨some 11, .load 23 (.tmp 10), none⟩,
    ⟨some 12, .fieldAddr 25 (.tmp 3) 1, none⟩,
    ⟨some 13, .load 23 (.tmp 12), none⟩,
    ⟨some 14, .call ⟨(.value (.func 50)), #[(.tmp 11), (.tmp 13)], #[23, 23]⟩, none⟩,
    ⟨some 15, .call ⟨(.value (.func 56)), #[(.tmp 9), (.tmp 14)], #[4, 23]⟩, none⟩,
    ⟨none, .store 25 (.tmp 4) (.tmp 15), none⟩])
  .ret))⟩
theorem c49 : fcomp Tryd.prog 49 = ⟨b49.n, b49.np, b49.res, b49.body.bare⟩ := by kernel_rfl
theorem k49 : fok Tryd.prog 49 = true := by kernel_rfl
theorem int_Mul (a b : Bool) (m k : List Int) (hm : Lim m) (hk : Lim k) (lm : m.length < 549755813888) (lk : k.length < 549755813888) : AFun Tryd.prog 49 [.agg [.lit (.bool a), natD m], .agg [.lit (.bool b), natD k]] [.agg (intC (iv a m * iv b k))] := by
  refine afun_intro mo_ _ _ c49 k49 _ _ rfl (by decide) ?_
  unfold b49
  rw [← iv_mul]
  have hlen : (nl (nv m * nv k)).length ≤ m.length + k.length := by
    refine nl_len ?_
    rw [Nat.pow_add]
    exact Nat.mul_lt_mul'' (nv_lt hm) (nv_lt hk)
  simp (maxSteps:=1000000) (disch:=first | omega | (simp only [LL];omega)) only [W,V,TY,CC,reduceIte,Nat.reduceEqDiff,Nat.reduceAdd,Nat.reduceLeDiff,Nat.reduceLT,Int.reduceLE,Int.reduceLT,Int.reduceAdd,Int.reduceSub,Int.reduceToNat,Nat.reduceMul]
  refine a_call _ _ (nat_Mul m k hm hk (by omega) (by omega)) (by simp (maxSteps:=1000000) (disch:=first | omega | (simp only [LL];omega)) only [W,V,TY,CC,reduceIte,Nat.reduceEqDiff,Nat.reduceAdd,Nat.reduceLeDiff,Nat.reduceLT,Int.reduceLE,Int.reduceLT,Int.reduceAdd,Int.reduceSub,Int.reduceToNat,Nat.reduceMul]) ?_
  simp (maxSteps:=1000000) (disch:=first | omega | (simp only [LL];omega)) only [W,V,TY,CC,reduceIte,Nat.reduceEqDiff,Nat.reduceAdd,Nat.reduceLeDiff,Nat.reduceLT,Int.reduceLE,Int.reduceLT,Int.reduceAdd,Int.reduceSub,Int.reduceToNat,Nat.reduceMul]
  refine a_call _ _ (int_Make (!(a == b)) (nl (nv m * nv k)) (nl_lim _) (by omega)) (by simp (maxSteps:=1000000) (disch:=first | omega | (simp only [LL];omega)) only [W,V,TY,CC,reduceIte,Nat.reduceEqDiff,Nat.reduceAdd,Nat.reduceLeDiff,Nat.reduceLT,Int.reduceLE,Int.reduceLT,Int.reduceAdd,Int.reduceSub,Int.reduceToNat,Nat.reduceMul]) ?_
  simp (maxSteps:=1000000) (disch:=first | omega | (simp only [LL];omega)) only [W,V,TY,CC,reduceIte,Nat.reduceEqDiff,Nat.reduceAdd,Nat.reduceLeDiff,Nat.reduceLT,Int.reduceLE,Int.reduceLT,Int.reduceAdd,Int.reduceSub,Int.reduceToNat,Nat.reduceMul,intC]
  refine f_ret _ _ _ ?_
  simp (maxSteps:=1000000) (disch:=first | omega | (simp only [LL];omega)) only [W,V,TY,CC,reduceIte,Nat.reduceEqDiff,Nat.reduceAdd,Nat.reduceLeDiff,Nat.reduceLT,Int.reduceLE,Int.reduceLT,Int.reduceAdd,Int.reduceSub,Int.reduceToNat,Nat.reduceMul,intC]
  rfl
theorem add_same (a : Bool) (m k : List Int) : iv a (nl (nv m + nv k)) = iv a m + iv a k := by
  unfold iv
  rw [nv_nl]
  cases a <;> simp <;> omega
theorem add_left (a : Bool) (m k : List Int) (h : nv k ≤ nv m) : iv a (nl (nv m - nv k)) = iv a m + iv (!a) k := by
  unfold iv
  rw [nv_nl]
  cases a <;> simp <;> omega
theorem add_right (a : Bool) (m k : List Int) (h : nv m ≤ nv k) : iv (!a) (nl (nv k - nv m)) = iv a m + iv (!a) k := by
  unfold iv
  rw [nv_nl]
  cases a <;> simp <;> omega
/-- examboard/integer.Add -/
def b48 : AF := ⟨47, 2, [.cell 4 25],
  (.seq (.reg [
    ⟨some 2, .box 25 (.tmp 0), none⟩,
    ⟨some 3, .box 25 (.tmp 1), none⟩,
    ⟨some 4, .alloc 25, none⟩])
  (.seq (.seq (.reg [
    ⟨some 9, .fieldAddr 25 (.tmp 2) 0, none⟩,
    ⟨some 10, .load 4 (.tmp 9), none⟩,
    ⟨some 11, .fieldAddr 25 (.tmp 3) 0, none⟩,
    ⟨some 12, .load 4 (.tmp 11), none⟩,
    ⟨some 13, .binOp .eql 4 (.tmp 10) (.tmp 12) 4, none⟩])
  (.cond (.tmp 13)
    (.seq (.dreg [
      ⟨some 14, .fieldAddr 25 (.tmp 2) 0, none⟩,
      ⟨some 15, .load 4 (.tmp 14), none⟩,
      ⟨some 16, .fieldAddr 25 (.tmp 2) 1, none⟩,
      ⟨some 17, .load 23 (.tmp 16), none⟩,
      ⟨some 18, .fieldAddr 25 (.tmp 3) 1, none⟩,
      ⟨some 19, .load 23 (.tmp 18), none⟩,
      ⟨some 20, .call ⟨(.value (.func 80)), #[(.tmp 17), (.tmp 19)], #[23, 23]⟩, none⟩,
      ⟨some 21, .call ⟨(.value (.func 56)), #[(.tmp 15), (.tmp 20)], #[4, 23]⟩, none⟩,
      ⟨none, .store 25 (.tmp 4) (.tmp 21), none⟩])
    .ret)
    .skip))
  (.seq (.seq (.reg [
    ⟨some 23, .fieldAddr 25 (.tmp 2) 1, none⟩,
    ⟨some 24, .load 23 (.tmp 23), none⟩,
    ⟨some 25, .fieldAddr 25 (.tmp 3) 1, none⟩,
    ⟨some 26, .load 23 (.tmp 25), none⟩,
    ⟨some 27, .call ⟨(.value (.func 81)), #[(.tmp 24), (.tmp 26)], #[23, 23]⟩, none⟩,
    ⟨some 22, .move (.tmp 27), none⟩,
    ⟨some 28, .extract (.tmp 22) 0, none⟩,
    ⟨some 29, .extract (.tmp 22) 1, none⟩,
    ⟨some 5, .assign (.tmp 28), none⟩,
    ⟨some 6, .assign (.tmp 29), none⟩])
  (.seq (.reg [
    ⟨some 30, .move (.tmp 6), none⟩])
  (.cond (.tmp 30)
    (.seq (.reg [
      ⟨some 31, .fieldAddr 25 (.tmp 2) 0, none⟩,
      ⟨some 32, .load 4 (.tmp 31), none⟩,
      ⟨some 33, .move (.tmp 5), none⟩,
      ⟨some 34, .call ⟨(.value (.func 56)), #[(.tmp 32), (.tmp 33)], #[4, 23]⟩, none⟩,
      ⟨none, .store 25 (.tmp 4) (.tmp 34), none⟩])
    .ret)
    .skip)))
  (.seq (.reg [
    ⟨some 36, .fieldAddr 25 (.tmp 3) 1, none⟩,
    ⟨some 37, .load 23 (.tmp 36), none⟩,
    ⟨some 38, .fieldAddr 25 (.tmp 2) 1, none⟩,
    ⟨some 39, .load 23 (.tmp 38), none⟩,
    ⟨some 40, .call ⟨(.value (.func 81)), #[(.tmp 37), (.tmp 39)], #[23, 23]⟩, none⟩,
    ⟨some 35, .move (.tmp 40), none⟩,
    ⟨some 41, .extract (.tmp 35) 0, none⟩,
    ⟨some 42, .extract (.tmp 35) 1, none⟩,
    ⟨some 7, .assign (.tmp 41), none⟩,
    ⟨some 8, .assign (.tmp 42), none⟩])
  (.seq (.reg [
    ⟨some 43, .fieldAddr 25 (.tmp 3) 0, none⟩,
    ⟨some 44, .load 4 (.tmp 43), none⟩,
    ⟨some 45, .move (.tmp 7), none⟩,
    ⟨some 46, .call ⟨(.value (.func 56)), #[(.tmp 44), (.tmp 45)], #[4, 23]⟩, none⟩,
    ⟨none, .store 25 (.tmp 4) (.tmp 46), none⟩])
  .ret)))))⟩
theorem c48 : fcomp Tryd.prog 48 = ⟨b48.n, b48.np, b48.res, b48.body.bare⟩ := by kernel_rfl
theorem k48 : fok Tryd.prog 48 = true := by kernel_rfl
theorem int_Add (a b : Bool) (m k : List Int) (hm : Lim m) (hk : Lim k) (lm : m.length < 549755813888) (lk : k.length < 549755813888) : AFun Tryd.prog 48 [.agg [.lit (.bool a), natD m], .agg [.lit (.bool b), natD k]] [.agg (intC (iv a m + iv b k))] := by
  refine afun_intro mo_ _ _ c48 k48 _ _ rfl (by decide) ?_
  unfold b48
  have hab : (nl (nv m + nv k)).length ≤ max m.length k.length + 1 := by
    refine nl_len ?_
    have h1 := nv_lt hm
    have h2 := nv_lt hk
    have h3 : 4294967296 ^ m.length ≤ 4294967296 ^ max m.length k.length := Nat.pow_le_pow_right (by decide) (by omega)
    have h4 : 4294967296 ^ k.length ≤ 4294967296 ^ max m.length k.length := Nat.pow_le_pow_right (by decide) (by omega)
    rw [Nat.pow_succ]
    omega
  simp (maxSteps:=1000000) (disch:=first | omega | (simp only [LL];omega)) only [W,V,TY,CC,reduceIte,Nat.reduceEqDiff,Nat.reduceAdd,Nat.reduceLeDiff,Nat.reduceLT,Int.reduceLE,Int.reduceLT,Int.reduceAdd,Int.reduceSub,Int.reduceToNat,Nat.reduceMul]
  refine c_splitb (fun h => ?_) (fun h => ?_)
  · have hb : a = b := by simpa using h
    subst hb
    simp (maxSteps:=1000000) (disch:=first | omega | (simp only [LL];omega)) only [W,V,TY,CC,reduceIte,Nat.reduceEqDiff,Nat.reduceAdd,Nat.reduceLeDiff,Nat.reduceLT,Int.reduceLE,Int.reduceLT,Int.reduceAdd,Int.reduceSub,Int.reduceToNat,Nat.reduceMul]
    refine a_call _ _ (nat_Add m k hm hk (by omega) (by omega)) (by simp (maxSteps:=1000000) (disch:=first | omega | (simp only [LL];omega)) only [W,V,TY,CC,reduceIte,Nat.reduceEqDiff,Nat.reduceAdd,Nat.reduceLeDiff,Nat.reduceLT,Int.reduceLE,Int.reduceLT,Int.reduceAdd,Int.reduceSub,Int.reduceToNat,Nat.reduceMul]) ?_
    simp (maxSteps:=1000000) (disch:=first | omega | (simp only [LL];omega)) only [W,V,TY,CC,reduceIte,Nat.reduceEqDiff,Nat.reduceAdd,Nat.reduceLeDiff,Nat.reduceLT,Int.reduceLE,Int.reduceLT,Int.reduceAdd,Int.reduceSub,Int.reduceToNat,Nat.reduceMul]
    refine a_call _ _ (int_Make a (nl (nv m + nv k)) (nl_lim _) (by omega)) (by simp (maxSteps:=1000000) (disch:=first | omega | (simp only [LL];omega)) only [W,V,TY,CC,reduceIte,Nat.reduceEqDiff,Nat.reduceAdd,Nat.reduceLeDiff,Nat.reduceLT,Int.reduceLE,Int.reduceLT,Int.reduceAdd,Int.reduceSub,Int.reduceToNat,Nat.reduceMul]) ?_
    simp (maxSteps:=1000000) (disch:=first | omega | (simp only [LL];omega)) only [W,V,TY,CC,reduceIte,Nat.reduceEqDiff,Nat.reduceAdd,Nat.reduceLeDiff,Nat.reduceLT,Int.reduceLE,Int.reduceLT,Int.reduceAdd,Int.reduceSub,Int.reduceToNat,Nat.reduceMul,intC]
    refine f_ret _ _ _ ?_
    simp (maxSteps:=1000000) (disch:=first | omega | (simp only [LL];omega)) only [W,V,TY,CC,reduceIte,Nat.reduceEqDiff,Nat.reduceAdd,Nat.reduceLeDiff,Nat.reduceLT,Int.reduceLE,Int.reduceLT,Int.reduceAdd,Int.reduceSub,Int.reduceToNat,Nat.reduceMul,intC,add_same]
  · have hb : b = !a := by cases a <;> cases b <;> simp at h ⊢
    subst hb
    simp (maxSteps:=1000000) (disch:=first | omega | (simp only [LL];omega)) only [W,V,TY,CC,reduceIte,Nat.reduceEqDiff,Nat.reduceAdd,Nat.reduceLeDiff,Nat.reduceLT,Int.reduceLE,Int.reduceLT,Int.reduceAdd,Int.reduceSub,Int.reduceToNat,Nat.reduceMul]
    refine a_call _ _ (nat_Sub m k hm hk (by omega) (by omega)) (by simp (maxSteps:=1000000) (disch:=first | omega | (simp only [LL];omega)) only [W,V,TY,CC,reduceIte,Nat.reduceEqDiff,Nat.reduceAdd,Nat.reduceLeDiff,Nat.reduceLT,Int.reduceLE,Int.reduceLT,Int.reduceAdd,Int.reduceSub,Int.reduceToNat,Nat.reduceMul]) ?_
    unfold subR
    by_cases hle : nv k ≤ nv m
    · rw [if_pos hle]
      simp (maxSteps:=1000000) (disch:=first | omega | (simp only [LL];omega)) only [W,V,TY,CC,reduceIte,Nat.reduceEqDiff,Nat.reduceAdd,Nat.reduceLeDiff,Nat.reduceLT,Int.reduceLE,Int.reduceLT,Int.reduceAdd,Int.reduceSub,Int.reduceToNat,Nat.reduceMul]
      refine a_call _ _ (int_Make a (nl (nv m - nv k)) (nl_lim _) (by have := nl_len_le hm (show nv m - nv k ≤ nv m by omega); omega)) (by simp (maxSteps:=1000000) (disch:=first | omega | (simp only [LL];omega)) only [W,V,TY,CC,reduceIte,Nat.reduceEqDiff,Nat.reduceAdd,Nat.reduceLeDiff,Nat.reduceLT,Int.reduceLE,Int.reduceLT,Int.reduceAdd,Int.reduceSub,Int.reduceToNat,Nat.reduceMul]) ?_
      simp (maxSteps:=1000000) (disch:=first | omega | (simp only [LL];omega)) only [W,V,TY,CC,reduceIte,Nat.reduceEqDiff,Nat.reduceAdd,Nat.reduceLeDiff,Nat.reduceLT,Int.reduceLE,Int.reduceLT,Int.reduceAdd,Int.reduceSub,Int.reduceToNat,Nat.reduceMul,intC]
      refine f_ret _ _ _ ?_
      simp (maxSteps:=1000000) (disch:=first | omega | (simp only [LL];omega)) only [W,V,TY,CC,reduceIte,Nat.reduceEqDiff,Nat.reduceAdd,Nat.reduceLeDiff,Nat.reduceLT,Int.reduceLE,Int.reduceLT,Int.reduceAdd,Int.reduceSub,Int.reduceToNat,Nat.reduceMul,intC,add_left a m k hle]
    · rw [if_neg hle]
      simp (maxSteps:=1000000) (disch:=first | omega | (simp only [LL];omega)) only [W,V,TY,CC,reduceIte,Nat.reduceEqDiff,Nat.reduceAdd,Nat.reduceLeDiff,Nat.reduceLT,Int.reduceLE,Int.reduceLT,Int.reduceAdd,Int.reduceSub,Int.reduceToNat,Nat.reduceMul]
      refine a_call _ _ (nat_Sub k m hk hm (by omega) (by omega)) (by simp (maxSteps:=1000000) (disch:=first | omega | (simp only [LL];omega)) only [W,V,TY,CC,reduceIte,Nat.reduceEqDiff,Nat.reduceAdd,Nat.reduceLeDiff,Nat.reduceLT,Int.reduceLE,Int.reduceLT,Int.reduceAdd,Int.reduceSub,Int.reduceToNat,Nat.reduceMul]) ?_
      unfold subR
      rw [if_pos (by omega)]
      simp (maxSteps:=1000000) (disch:=first | omega | (simp only [LL];omega)) only [W,V,TY,CC,reduceIte,Nat.reduceEqDiff,Nat.reduceAdd,Nat.reduceLeDiff,Nat.reduceLT,Int.reduceLE,Int.reduceLT,Int.reduceAdd,Int.reduceSub,Int.reduceToNat,Nat.reduceMul]
      refine a_call _ _ (int_Make (!a) (nl (nv k - nv m)) (nl_lim _) (by have := nl_len_le hk (show nv k - nv m ≤ nv k by omega); omega)) (by simp (maxSteps:=1000000) (disch:=first | omega | (simp only [LL];omega)) only [W,V,TY,CC,reduceIte,Nat.reduceEqDiff,Nat.reduceAdd,Nat.reduceLeDiff,Nat.reduceLT,Int.reduceLE,Int.reduceLT,Int.reduceAdd,Int.reduceSub,Int.reduceToNat,Nat.reduceMul]) ?_
      simp (maxSteps:=1000000) (disch:=first | omega | (simp only [LL];omega)) only [W,V,TY,CC,reduceIte,Nat.reduceEqDiff,Nat.reduceAdd,Nat.reduceLeDiff,Nat.reduceLT,Int.reduceLE,Int.reduceLT,Int.reduceAdd,Int.reduceSub,Int.reduceToNat,Nat.reduceMul,intC]
      refine f_ret _ _ _ ?_
      simp (maxSteps:=1000000) (disch:=first | omega | (simp only [LL];omega)) only [W,V,TY,CC,reduceIte,Nat.reduceEqDiff,Nat.reduceAdd,Nat.reduceLeDiff,Nat.reduceLT,Int.reduceLE,Int.reduceLT,Int.reduceAdd,Int.reduceSub,Int.reduceToNat,Nat.reduceMul,intC,add_right a m k (by omega)]
theorem cmp_nn {a b : Bool} {m k : List Int} (hm : Lim m) (hk : Lim k) (h1 : 0 ≤ iv a m) (h2 : 0 ≤ iv b k) : cmpZ (val m) (val k) = cmpZ (iv a m) (iv b k) := by
  have := iv_abs a m
  have := iv_abs b k
  rw [← nv_eq hm, ← nv_eq hk, show iv a m = nv m by omega, show iv b k = nv k by omega]
theorem cmp_np {a b : Bool} {m k : List Int} (hm : Lim m) (hk : Lim k) (h1 : iv a m < 0) (h2 : iv b k < 0) : cmpZ (val k) (val m) = cmpZ (iv a m) (iv b k) := by
  have := iv_abs a m
  have := iv_abs b k
  rw [← nv_eq hm, ← nv_eq hk, show iv a m = -(nv m : Int) by omega, show iv b k = -(nv k : Int) by omega]
  unfold cmpZ
  repeat' split
  all_goals omega
theorem sgn_cases (z : Int) : (z < 0 ∧ sgn z = -1) ∨ (z = 0 ∧ sgn z = 0) ∨ (0 < z ∧ sgn z = 1) := by
  unfold sgn
  split
  · left; omega
  · split <;> omega
/-- examboard/integer.Cmp -/
def b54 : AF := ⟨32, 2, [.tmp 4],
  (.seq (.reg [
    ⟨some 2, .box 25 (.tmp 0), none⟩,
    ⟨some 3, .box 25 (.tmp 1), none⟩,
    ⟨some 4, .assign (.const (.int .i64 0)), none⟩])
  (.seq (.dreg [
    ⟨some 7, .load 25 (.tmp 2), none⟩,
    ⟨some 8, .call ⟨(.value (.func 53)), #[(.tmp 7)], #[25]⟩, none⟩,
    ⟨some 9, .load 25 (.tmp 3), none⟩,
    ⟨some 10, .call ⟨(.value (.func 53)), #[(.tmp 9)], #[25]⟩, none⟩,
    ⟨some 5, .assign (.tmp 8), none⟩,
    ⟨some 6, .assign (.tmp 10), none⟩])
  (.seq (.block 0 (.seq (.reg [
    ⟨some 12, .move (.tmp 5), none⟩,
    ⟨some 13, .move (.tmp 6), none⟩,
    ⟨some 14, .binOp .lss 3 (.tmp 12) (.tmp 13) 3, none⟩,
    ⟨some 11, .assign (.tmp 14), none⟩])
  (.cond (.tmp 11)
    (.seq (.reg [
      ⟨some 4, .assign (.const (.int .i64 (-1))), none⟩])
    .ret)
    (.seq (.reg [
      ⟨some 16, .move (.tmp 5), none⟩,
      ⟨some 17, .move (.tmp 6), none⟩,
      ⟨some 18, .binOp .gtr 3 (.tmp 16) (.tmp 17) 3, none⟩,
      ⟨some 15, .assign (.tmp 18), none⟩])
    (.cond (.tmp 15)
      (.seq (.reg [
        ⟨some 4, .assign (.const (.int .i64 1)), none⟩])
      .ret)
      (.seq (.reg [
        ⟨some 20, .move (.tmp 5), none⟩,
        ⟨some 21, .binOp .lss 3 (.tmp 20) (.const (.int .i64 0)) 3, none⟩,
        ⟨some 19, .assign (.tmp 21), none⟩])
      (.cond (.tmp 19)
        (.seq (.reg [
          ⟨some 22, .fieldAddr 25 (.tmp 3) 1, none⟩,
          ⟨some 23, .load 23 (.tmp 22), none⟩,
          ⟨some 24, .fieldAddr 25 (.tmp 2) 1, none⟩,
          ⟨some 25, .load 23 (.tmp 24), none⟩,
          ⟨some 26, .call ⟨(.value (.func 68)), #[(.tmp 23), (.tmp 25)], #[23, 23]⟩, none⟩,
          ⟨some 4, .assign (.tmp 26), none⟩])
        .ret)
        .skip)))))))
  (.seq (.reg [
    ⟨some 27, .fieldAddr 25 (.tmp 2) 1, none⟩,
    ⟨some 28, .load 23 (.tmp 27), none⟩,
    ⟨some 29, .fieldAddr 25 (.tmp 3) 1, none⟩,
    ⟨some 30, .load 23 (.tmp 29), none⟩,
    ⟨some 31, .call ⟨(.value (.func 68)), #[(.tmp 28), (.tmp 30)], #[23, 23]⟩, none⟩,
    ⟨some 4, .assign (.tmp 31), none⟩])
  .ret))))⟩
theorem c54 : fcomp Tryd.prog 54 = ⟨b54.n, b54.np, b54.res, b54.body.bare⟩ := by kernel_rfl
theorem k54 : fok Tryd.prog 54 = true := by kernel_rfl
theorem int_Cmp (a b : Bool) (m k : List Int) (hm : Lim m) (hk : Lim k) (lm : m.length < 2199023255552) (lk : k.length < 2199023255552) : AFun Tryd.prog 54 [.agg [.lit (.bool a), natD m], .agg [.lit (.bool b), natD k]] [.one (.lit (.int .i64 (cmpZ (iv a m) (iv b k))))] := by
  refine afun_intro mo_ _ _ c54 k54 _ _ rfl (by decide) ?_
  unfold b54
  simp (maxSteps:=1000000) (disch:=first | omega | (simp only [LL];omega)) only [W,V,TY,CC,reduceIte,Nat.reduceEqDiff,Nat.reduceAdd,Nat.reduceLeDiff,Nat.reduceLT,Int.reduceLE,Int.reduceLT,Int.reduceAdd,Int.reduceSub,Int.reduceToNat,Nat.reduceMul]
  refine a_call _ _ (int_Sign a m hm lm) (by simp (maxSteps:=1000000) (disch:=first | omega | (simp only [LL];omega)) only [W,V,TY,CC,reduceIte,Nat.reduceEqDiff,Nat.reduceAdd,Nat.reduceLeDiff,Nat.reduceLT,Int.reduceLE,Int.reduceLT,Int.reduceAdd,Int.reduceSub,Int.reduceToNat,Nat.reduceMul]) ?_
  simp (maxSteps:=1000000) (disch:=first | omega | (simp only [LL];omega)) only [W,V,TY,CC,reduceIte,Nat.reduceEqDiff,Nat.reduceAdd,Nat.reduceLeDiff,Nat.reduceLT,Int.reduceLE,Int.reduceLT,Int.reduceAdd,Int.reduceSub,Int.reduceToNat,Nat.reduceMul]
  refine a_call _ _ (int_Sign b k hk lk) (by simp (maxSteps:=1000000) (disch:=first | omega | (simp only [LL];omega)) only [W,V,TY,CC,reduceIte,Nat.reduceEqDiff,Nat.reduceAdd,Nat.reduceLeDiff,Nat.reduceLT,Int.reduceLE,Int.reduceLT,Int.reduceAdd,Int.reduceSub,Int.reduceToNat,Nat.reduceMul]) ?_
  simp (maxSteps:=1000000) (disch:=first | omega | (simp only [LL];omega)) only [W,V,TY,CC,reduceIte,Nat.reduceEqDiff,Nat.reduceAdd,Nat.reduceLeDiff,Nat.reduceLT,Int.reduceLE,Int.reduceLT,Int.reduceAdd,Int.reduceSub,Int.reduceToNat,Nat.reduceMul]
  have s1 := sgn_cases (iv a m)
  have s2 := sgn_cases (iv b k)
  refine c_split (fun h => ?_) (fun h => ?_)
  · have hc : cmpZ (iv a m) (iv b k) = -1 := by unfold cmpZ; rw [if_pos (by omega)]
    simp (maxSteps:=1000000) (disch:=first | omega | (simp only [LL];omega)) only [W,V,TY,CC,reduceIte,Nat.reduceEqDiff,Nat.reduceAdd,Nat.reduceLeDiff,Nat.reduceLT,Int.reduceLE,Int.reduceLT,Int.reduceAdd,Int.reduceSub,Int.reduceToNat,Nat.reduceMul]
    refine f_ret _ _ _ ?_
    simp (maxSteps:=1000000) (disch:=first | omega | (simp only [LL];omega)) only [W,V,TY,CC,reduceIte,Nat.reduceEqDiff,Nat.reduceAdd,Nat.reduceLeDiff,Nat.reduceLT,Int.reduceLE,Int.reduceLT,Int.reduceAdd,Int.reduceSub,Int.reduceToNat,Nat.reduceMul,hc]
  · simp (maxSteps:=1000000) (disch:=first | omega | (simp only [LL];omega)) only [W,V,TY,CC,reduceIte,Nat.reduceEqDiff,Nat.reduceAdd,Nat.reduceLeDiff,Nat.reduceLT,Int.reduceLE,Int.reduceLT,Int.reduceAdd,Int.reduceSub,Int.reduceToNat,Nat.reduceMul]
    refine c_split (fun h1 => ?_) (fun h1 => ?_)
    · have hc : cmpZ (iv a m) (iv b k) = 1 := by unfold cmpZ; rw [if_neg (by omega), if_pos (by omega)]
      simp (maxSteps:=1000000) (disch:=first | omega | (simp only [LL];omega)) only [W,V,TY,CC,reduceIte,Nat.reduceEqDiff,Nat.reduceAdd,Nat.reduceLeDiff,Nat.reduceLT,Int.reduceLE,Int.reduceLT,Int.reduceAdd,Int.reduceSub,Int.reduceToNat,Nat.reduceMul]
      refine f_ret _ _ _ ?_
      simp (maxSteps:=1000000) (disch:=first | omega | (simp only [LL];omega)) only [W,V,TY,CC,reduceIte,Nat.reduceEqDiff,Nat.reduceAdd,Nat.reduceLeDiff,Nat.reduceLT,Int.reduceLE,Int.reduceLT,Int.reduceAdd,Int.reduceSub,Int.reduceToNat,Nat.reduceMul,hc]
    · simp (maxSteps:=1000000) (disch:=first | omega | (simp only [LL];omega)) only [W,V,TY,CC,reduceIte,Nat.reduceEqDiff,Nat.reduceAdd,Nat.reduceLeDiff,Nat.reduceLT,Int.reduceLE,Int.reduceLT,Int.reduceAdd,Int.reduceSub,Int.reduceToNat,Nat.reduceMul]
      refine c_split (fun h2 => ?_) (fun h2 => ?_)
      · simp (maxSteps:=1000000) (disch:=first | omega | (simp only [LL];omega)) only [W,V,TY,CC,reduceIte,Nat.reduceEqDiff,Nat.reduceAdd,Nat.reduceLeDiff,Nat.reduceLT,Int.reduceLE,Int.reduceLT,Int.reduceAdd,Int.reduceSub,Int.reduceToNat,Nat.reduceMul]
        refine a_call _ _ (nat_Cmp k m hk hm (by omega) (by omega)) (by simp (maxSteps:=1000000) (disch:=first | omega | (simp only [LL];omega)) only [W,V,TY,CC,reduceIte,Nat.reduceEqDiff,Nat.reduceAdd,Nat.reduceLeDiff,Nat.reduceLT,Int.reduceLE,Int.reduceLT,Int.reduceAdd,Int.reduceSub,Int.reduceToNat,Nat.reduceMul]) ?_
        rw [cmp_np (a := a) (b := b) hm hk (by omega) (by omega)]
        simp (maxSteps:=1000000) (disch:=first | omega | (simp only [LL];omega)) only [W,V,TY,CC,reduceIte,Nat.reduceEqDiff,Nat.reduceAdd,Nat.reduceLeDiff,Nat.reduceLT,Int.reduceLE,Int.reduceLT,Int.reduceAdd,Int.reduceSub,Int.reduceToNat,Nat.reduceMul]
        refine f_ret _ _ _ ?_
        simp (maxSteps:=1000000) (disch:=first | omega | (simp only [LL];omega)) only [W,V,TY,CC,reduceIte,Nat.reduceEqDiff,Nat.reduceAdd,Nat.reduceLeDiff,Nat.reduceLT,Int.reduceLE,Int.reduceLT,Int.reduceAdd,Int.reduceSub,Int.reduceToNat,Nat.reduceMul]
      · simp (maxSteps:=1000000) (disch:=first | omega | (simp only [LL];omega)) only [W,V,TY,CC,reduceIte,Nat.reduceEqDiff,Nat.reduceAdd,Nat.reduceLeDiff,Nat.reduceLT,Int.reduceLE,Int.reduceLT,Int.reduceAdd,Int.reduceSub,Int.reduceToNat,Nat.reduceMul]
        refine a_call _ _ (nat_Cmp m k hm hk (by omega) (by omega)) (by simp (maxSteps:=1000000) (disch:=first | omega | (simp only [LL];omega)) only [W,V,TY,CC,reduceIte,Nat.reduceEqDiff,Nat.reduceAdd,Nat.reduceLeDiff,Nat.reduceLT,Int.reduceLE,Int.reduceLT,Int.reduceAdd,Int.reduceSub,Int.reduceToNat,Nat.reduceMul]) ?_
        rw [cmp_nn (a := a) (b := b) hm hk (by omega) (by omega)]
        simp (maxSteps:=1000000) (disch:=first | omega | (simp only [LL];omega)) only [W,V,TY,CC,reduceIte,Nat.reduceEqDiff,Nat.reduceAdd,Nat.reduceLeDiff,Nat.reduceLT,Int.reduceLE,Int.reduceLT,Int.reduceAdd,Int.reduceSub,Int.reduceToNat,Nat.reduceMul]
        refine f_ret _ _ _ ?_
        simp (maxSteps:=1000000) (disch:=first | omega | (simp only [LL];omega)) only [W,V,TY,CC,reduceIte,Nat.reduceEqDiff,Nat.reduceAdd,Nat.reduceLeDiff,Nat.reduceLT,Int.reduceLE,Int.reduceLT,Int.reduceAdd,Int.reduceSub,Int.reduceToNat,Nat.reduceMul]
theorem of_neg {z : Int} (h : z < 0) : intC z = [.lit (.bool true), natD (nl z.natAbs)] := by unfold intC; rw [decide_eq_true h]
theorem of_nn {z : Int} (h : ¬ z < 0) : intC z = [.lit (.bool false), natD (nl z.natAbs)] := by unfold intC; rw [decide_eq_false h]
/-- examboard/integer.Of -/
def b74 : AF := ⟨16, 1, [.cell 2 25],
  (.seq (.reg [
    ⟨some 2, .alloc 25, none⟩])
  (.seq (.seq (.reg [
    ⟨some 3, .move (.tmp 0), none⟩,
    ⟨some 4, .binOp .lss 2 (.tmp 3) (.const (.int .i64 0)) 2, none⟩])
  (.cond (.tmp 4)
    (.seq (.reg [
      ⟨some 5, .move (.tmp 0), none⟩,
      ⟨some 6, .binOp .add 2 (.tmp 5) (.const (.int .i64 1)) 2, none⟩,
      ⟨some 7, .unOp .neg 2 (.tmp 6), none⟩,
      ⟨some 8, .convert 2 99 (.tmp 7), none⟩,
      ⟨some 9, .binOp .add 99 (.tmp 8) (.const (.int .u64 1)) 99, none⟩,
      ⟨some 10, .call ⟨(.value (.func 69)), #[(.tmp 9)], #[99]⟩, none⟩,
      ⟨some 11, .build 25 #[(0, (.const (.bool true))), (1, (.tmp 10))], none⟩,
      ⟨none, .store 25 (.tmp 2) (.tmp 11), none⟩])
    .ret)
    .skip))
  (.seq (.reg [
    ⟨some 12, .move (.tmp 0), none⟩,
    ⟨some 13, .convert 2 99 (.tmp 12), none⟩,
    ⟨some 14, .call ⟨(.value (.func 69)), #[(.tmp 13)], #[99]⟩, none⟩,
    ⟨some 15, .build 25 #[(1, (.tmp 14))], none⟩,
    ⟨none, .store 25 (.tmp 2) (.tmp 15), none⟩])
  .ret)))⟩
theorem c74 : fcomp Tryd.prog 74 = ⟨b74.n, b74.np, b74.res, b74.body.bare⟩ := by kernel_rfl
theorem k74 : fok Tryd.prog 74 = true := by kernel_rfl
theorem int_Of (z : Int) (h0 : -9223372036854775808 ≤ z) (h1 : z < 9223372036854775808) : AFun Tryd.prog 74 [.one (.lit (.int .i64 z))] [.agg (intC z)] := by
  refine afun_intro mo_ _ _ c74 k74 _ _ rfl (by decide) ?_
  unfold b74
  simp (maxSteps:=1000000) (disch:=first | omega | (simp only [LL];omega)) only [W,V,TY,CC,reduceIte,Nat.reduceEqDiff,Nat.reduceAdd,Nat.reduceLeDiff,Nat.reduceLT,Int.reduceLE,Int.reduceLT,Int.reduceAdd,Int.reduceSub,Int.reduceToNat,Nat.reduceMul]
  refine c_split (fun h => ?_) (fun h => ?_)
  · have e1 : 0 - (z + 1) + 1 = (z.natAbs : Int) := by omega
    simp (maxSteps:=1000000) (disch:=first | omega | (simp only [LL];omega)) only [W,V,TY,CC,reduceIte,Nat.reduceEqDiff,Nat.reduceAdd,Nat.reduceLeDiff,Nat.reduceLT,Int.reduceLE,Int.reduceLT,Int.reduceAdd,Int.reduceSub,Int.reduceToNat,Nat.reduceMul,wi64 (n := z + 1) (by omega) (by omega), wi64 (n := 0 - (z + 1)) (by omega) (by omega), wu64 (n := 0 - (z + 1)) (by omega) (by omega), e1]
    refine a_call _ _ (nat_Of (z.natAbs : Int) (by omega) (by omega)) (by simp (maxSteps:=1000000) (disch:=first | omega | (simp only [LL];omega)) only [W,V,TY,CC,reduceIte,Nat.reduceEqDiff,Nat.reduceAdd,Nat.reduceLeDiff,Nat.reduceLT,Int.reduceLE,Int.reduceLT,Int.reduceAdd,Int.reduceSub,Int.reduceToNat,Nat.reduceMul]) ?_
    simp (maxSteps:=1000000) (disch:=first | omega | (simp only [LL];omega)) only [W,V,TY,CC,reduceIte,Nat.reduceEqDiff,Nat.reduceAdd,Nat.reduceLeDiff,Nat.reduceLT,Int.reduceLE,Int.reduceLT,Int.reduceAdd,Int.reduceSub,Int.reduceToNat,Nat.reduceMul]
    refine f_ret _ _ _ ?_
    simp (maxSteps:=1000000) (disch:=first | omega | (simp only [LL];omega)) only [W,V,TY,CC,reduceIte,Nat.reduceEqDiff,Nat.reduceAdd,Nat.reduceLeDiff,Nat.reduceLT,Int.reduceLE,Int.reduceLT,Int.reduceAdd,Int.reduceSub,Int.reduceToNat,Nat.reduceMul,of_neg h]
  · have e1 : z = (z.natAbs : Int) := by omega
    simp (maxSteps:=1000000) (disch:=first | omega | (simp only [LL];omega)) only [W,V,TY,CC,reduceIte,Nat.reduceEqDiff,Nat.reduceAdd,Nat.reduceLeDiff,Nat.reduceLT,Int.reduceLE,Int.reduceLT,Int.reduceAdd,Int.reduceSub,Int.reduceToNat,Nat.reduceMul]
    refine a_call _ _ (nat_Of z (by omega) (by omega)) (by simp (maxSteps:=1000000) (disch:=first | omega | (simp only [LL];omega)) only [W,V,TY,CC,reduceIte,Nat.reduceEqDiff,Nat.reduceAdd,Nat.reduceLeDiff,Nat.reduceLT,Int.reduceLE,Int.reduceLT,Int.reduceAdd,Int.reduceSub,Int.reduceToNat,Nat.reduceMul]) ?_
    have e2 : z.toNat = z.natAbs := by omega
    simp (maxSteps:=1000000) (disch:=first | omega | (simp only [LL];omega)) only [W,V,TY,CC,reduceIte,Nat.reduceEqDiff,Nat.reduceAdd,Nat.reduceLeDiff,Nat.reduceLT,Int.reduceLE,Int.reduceLT,Int.reduceAdd,Int.reduceSub,Int.reduceToNat,Nat.reduceMul,e2]
    refine f_ret _ _ _ ?_
    simp (maxSteps:=1000000) (disch:=first | omega | (simp only [LL];omega)) only [W,V,TY,CC,reduceIte,Nat.reduceEqDiff,Nat.reduceAdd,Nat.reduceLeDiff,Nat.reduceLT,Int.reduceLE,Int.reduceLT,Int.reduceAdd,Int.reduceSub,Int.reduceToNat,Nat.reduceMul,of_nn h]
/-- examboard/integer.Sub -/
def b51 : AF := ⟨9, 2, [.cell 4 25],
  (.seq (.reg [
    ⟨some 2, .box 25 (.tmp 0), none⟩,
    ⟨some 3, .box 25 (.tmp 1), none⟩,
    ⟨some 4, .alloc 25, none⟩])
  (.seq (.dreg [
    ⟨some 5, .load 25 (.tmp 2), none⟩,
    ⟨some 6, .load 25 (.tmp 3), none⟩,
    ⟨some 7, .call ⟨(.value (.func 83)), #[(.tmp 6)], #[25]⟩, none⟩,
    ⟨some 8, .call ⟨(.value (.func 48)), #[(.tmp 5), (.tmp 7)], #[25, 25]⟩, none⟩,
    ⟨none, .store 25 (.tmp 4) (.tmp 8), none⟩])
  .ret))⟩
theorem c51 : fcomp Tryd.prog 51 = ⟨b51.n, b51.np, b51.res, b51.body.bare⟩ := by kernel_rfl
theorem k51 : fok Tryd.prog 51 = true := by kernel_rfl
theorem int_Sub (a b : Bool) (m k : List Int) (hm : Lim m) (hk : Lim k) (lm : m.length < 549755813888) (lk : k.length < 549755813888) : AFun Tryd.prog 51 [.agg [.lit (.bool a), natD m], .agg [.lit (.bool b), natD k]] [.agg (intC (iv a m - iv b k))] := by
  refine afun_intro mo_ _ _ c51 k51 _ _ rfl (by decide) ?_
  unfold b51
  have hl : (nl (-iv b k).natAbs).length ≤ k.length := nl_len_le hk (by rw [Int.natAbs_neg, iv_abs]; exact Nat.le_refl _)
  simp (maxSteps:=1000000) (disch:=first | omega | (simp only [LL];omega)) only [W,V,TY,CC,reduceIte,Nat.reduceEqDiff,Nat.reduceAdd,Nat.reduceLeDiff,Nat.reduceLT,Int.reduceLE,Int.reduceLT,Int.reduceAdd,Int.reduceSub,Int.reduceToNat,Nat.reduceMul]
  refine a_call _ _ (int_Neg b k hk (by omega)) (by simp (maxSteps:=1000000) (disch:=first | omega | (simp only [LL];omega)) only [W,V,TY,CC,reduceIte,Nat.reduceEqDiff,Nat.reduceAdd,Nat.reduceLeDiff,Nat.reduceLT,Int.reduceLE,Int.reduceLT,Int.reduceAdd,Int.reduceSub,Int.reduceToNat,Nat.reduceMul]) ?_
  simp (maxSteps:=1000000) (disch:=first | omega | (simp only [LL];omega)) only [W,V,TY,CC,reduceIte,Nat.reduceEqDiff,Nat.reduceAdd,Nat.reduceLeDiff,Nat.reduceLT,Int.reduceLE,Int.reduceLT,Int.reduceAdd,Int.reduceSub,Int.reduceToNat,Nat.reduceMul,intC]
  refine a_call _ _ (int_Add a (decide (-iv b k < 0)) m (nl (-iv b k).natAbs) hm (nl_lim _) lm (by omega)) (by simp (maxSteps:=1000000) (disch:=first | omega | (simp only [LL];omega)) only [W,V,TY,CC,reduceIte,Nat.reduceEqDiff,Nat.reduceAdd,Nat.reduceLeDiff,Nat.reduceLT,Int.reduceLE,Int.reduceLT,Int.reduceAdd,Int.reduceSub,Int.reduceToNat,Nat.reduceMul]) ?_
  rw [iv_nl]
  simp (maxSteps:=1000000) (disch:=first | omega | (simp only [LL];omega)) only [W,V,TY,CC,reduceIte,Nat.reduceEqDiff,Nat.reduceAdd,Nat.reduceLeDiff,Nat.reduceLT,Int.reduceLE,Int.reduceLT,Int.reduceAdd,Int.reduceSub,Int.reduceToNat,Nat.reduceMul,intC]
  refine f_ret _ _ _ ?_
  simp (maxSteps:=1000000) (disch:=first | omega | (simp only [LL];omega)) only [W,V,TY,CC,reduceIte,Nat.reduceEqDiff,Nat.reduceAdd,Nat.reduceLeDiff,Nat.reduceLT,Int.reduceLE,Int.reduceLT,Int.reduceAdd,Int.reduceSub,Int.reduceToNat,Nat.reduceMul,intC,← Int.sub_eq_add_neg]
end Go.Proofs.YtljmgdepldpmdaaDoor.E

set_option linter.unusedSimpArgs false
set_option linter.unusedVariables false
set_option maxHeartbeats 2000000
namespace Go.Proofs.YtljmgdepldpmdaaDoor.E
open Go.RowKit Limbs
end Go.Proofs.YtljmgdepldpmdaaDoor.E

set_option linter.unusedSimpArgs false
set_option linter.unusedVariables false
set_option maxHeartbeats 2000000
namespace Go.Proofs.YtljmgdepldpmdaaDoor.E
open Go.RowKit Limbs
/-- a rational number, in lowest terms, as cells -/
def ratC (q : Rat) : List Dt := [.lit (.bool (decide (q.num < 0))), natD (nl q.num.natAbs), natD (nl q.den)]
/-- the value of cells -/
def rv (n : Bool) (m d : List Int) : Rat := mkRat (iv n m) (nv d)
theorem rv_ratC (q : Rat) : rv (decide (q.num < 0)) (nl q.num.natAbs) (nl q.den) = q := by
  unfold rv
  rw [iv_nl, nv_nl, Rat.mkRat_self]
theorem ratC_eq (q : Rat) (z : Int) (d : Nat) (h1 : q.num = z) (h2 : q.den = d) : ratC q = [.lit (.bool (decide (z < 0))), natD (nl z.natAbs), natD (nl d)] := by unfold ratC; rw [h1, h2]
theorem ratC_zero : ratC 0 = [.lit (.bool false), .sl 0 [], natD (nl 1)] := by
  unfold ratC
  rw [Rat.zero_num, Rat.zero_den]
  rw [show (0 : Int).natAbs = 0 from rfl, nl_zero]
  rfl
/-- a number divided by the greatest common divisor -/
theorem iv_div (n : Bool) (m : List Int) {g : Nat} (hg : g ∣ nv m) : iv n (nl (nv m / g)) = iv n m / (g : Int) := by
  unfold iv
  rw [nv_nl]
  have hd : (g : Int) ∣ (nv m : Int) := by exact_mod_cast hg
  cases n
  · simp
  · simp only [if_true]
    rw [Int.neg_ediv_of_dvd hd]
    simp
theorem low_num (n : Bool) (m d : List Int) (h : nv d ≠ 0) : (rv n m d).num = iv n (nl (nv m / Nat.gcd (nv m) (nv d))) ∧ (rv n m d).den = nv d / Nat.gcd (nv m) (nv d) := by
  unfold rv
  rw [Rat.num_mkRat, Rat.den_mkRat, if_neg h, if_neg h, iv_abs, Nat.gcd_comm (nv d), iv_div _ _ (Nat.gcd_dvd_left _ _)]
  exact ⟨rfl, rfl⟩
theorem rv_zero (n : Bool) (m d : List Int) (h : nv d = 0 ∨ nv m = 0) : rv n m d = 0 := by
  unfold rv
  rcases h with h | h
  · rw [h, Rat.mkRat_zero]
  · have : iv n m = 0 := by have := iv_abs n m; omega
    rw [this, Rat.zero_mkRat]
/-- examboard/ratio.zero -/
def b78 : AF := ⟨3, 0, [.cell 0 27],
  (.seq (.reg [
    ⟨some 0, .alloc 27, none⟩])
  (.seq (.reg [
    ⟨some 1, .call ⟨(.value (.func 69)), #[(.const (.int .u64 1))], #[99]⟩, none⟩,
    ⟨some 2, .build 27 #[(1, (.tmp 1))], none⟩,
    ⟨none, .store 27 (.tmp 0) (.tmp 2), none⟩])
  .ret))⟩
theorem c78 : fcomp Tryd.prog 78 = ⟨b78.n, b78.np, b78.res, b78.body.bare⟩ := by kernel_rfl
theorem k78 : fok Tryd.prog 78 = true := by kernel_rfl
theorem rat_zero : AFun Tryd.prog 78 [] [.agg (ratC 0)] := by
  refine afun_intro mo_ _ _ c78 k78 _ _ rfl (by decide) ?_
  unfold b78
  simp (maxSteps:=1000000) (disch:=first | omega | (simp only [LL];omega)) only [W,V,TY,CC,reduceIte,Nat.reduceEqDiff,Nat.reduceAdd,Nat.reduceLeDiff,Nat.reduceLT,Int.reduceLE,Int.reduceLT,Int.reduceAdd,Int.reduceSub,Int.reduceToNat,Nat.reduceMul]
  refine a_call _ _ (nat_Of 1 (by decide) (by decide)) (by simp (maxSteps:=1000000) (disch:=first | omega | (simp only [LL];omega)) only [W,V,TY,CC,reduceIte,Nat.reduceEqDiff,Nat.reduceAdd,Nat.reduceLeDiff,Nat.reduceLT,Int.reduceLE,Int.reduceLT,Int.reduceAdd,Int.reduceSub,Int.reduceToNat,Nat.reduceMul]) ?_
  simp (maxSteps:=1000000) (disch:=first | omega | (simp only [LL];omega)) only [W,V,TY,CC,reduceIte,Nat.reduceEqDiff,Nat.reduceAdd,Nat.reduceLeDiff,Nat.reduceLT,Int.reduceLE,Int.reduceLT,Int.reduceAdd,Int.reduceSub,Int.reduceToNat,Nat.reduceMul]
  refine f_ret _ _ _ ?_
  simp (maxSteps:=1000000) (disch:=first | omega | (simp only [LL];omega)) only [W,V,TY,CC,reduceIte,Nat.reduceEqDiff,Nat.reduceAdd,Nat.reduceLeDiff,Nat.reduceLT,Int.reduceLE,Int.reduceLT,Int.reduceAdd,Int.reduceSub,Int.reduceToNat,Nat.reduceMul,ratC_zero]
/-- examboard/ratio.whole -/
def b76 : AF := ⟨5, 1, [.cell 2 25],
  (.seq (.reg [
    ⟨some 2, .alloc 25, none⟩])
  (.seq (.reg [
    ⟨some 3, .move (.tmp 0), none⟩,
    ⟨some 4, .call ⟨(.value (.func 56)), #[(.const (.bool false)), (.tmp 3)], #[4, 23]⟩, none⟩,
    ⟨none, .store 25 (.tmp 2) (.tmp 4), none⟩])
  .ret))⟩
theorem c76 : fcomp Tryd.prog 76 = ⟨b76.n, b76.np, b76.res, b76.body.bare⟩ := by kernel_rfl
theorem k76 : fok Tryd.prog 76 = true := by kernel_rfl
theorem rat_whole (m : List Int) (hm : Lim m) (lm : m.length < 2199023255552) : AFun Tryd.prog 76 [.one (natD m)] [.agg (intC (nv m : Int))] := by
  refine afun_intro mo_ _ _ c76 k76 _ _ rfl (by decide) ?_
  unfold b76
  simp (maxSteps:=1000000) (disch:=first | omega | (simp only [LL];omega)) only [W,V,TY,CC,reduceIte,Nat.reduceEqDiff,Nat.reduceAdd,Nat.reduceLeDiff,Nat.reduceLT,Int.reduceLE,Int.reduceLT,Int.reduceAdd,Int.reduceSub,Int.reduceToNat,Nat.reduceMul]
  refine a_call _ _ (int_Make false m hm lm) (by simp (maxSteps:=1000000) (disch:=first | omega | (simp only [LL];omega)) only [W,V,TY,CC,reduceIte,Nat.reduceEqDiff,Nat.reduceAdd,Nat.reduceLeDiff,Nat.reduceLT,Int.reduceLE,Int.reduceLT,Int.reduceAdd,Int.reduceSub,Int.reduceToNat,Nat.reduceMul]) ?_
  rw [show iv false m = (nv m : Int) from rfl]
  simp (maxSteps:=1000000) (disch:=first | omega | (simp only [LL];omega)) only [W,V,TY,CC,reduceIte,Nat.reduceEqDiff,Nat.reduceAdd,Nat.reduceLeDiff,Nat.reduceLT,Int.reduceLE,Int.reduceLT,Int.reduceAdd,Int.reduceSub,Int.reduceToNat,Nat.reduceMul,intC]
  refine f_ret _ _ _ ?_
  simp (maxSteps:=1000000) (disch:=first | omega | (simp only [LL];omega)) only [W,V,TY,CC,reduceIte,Nat.reduceEqDiff,Nat.reduceAdd,Nat.reduceLeDiff,Nat.reduceLT,Int.reduceLE,Int.reduceLT,Int.reduceAdd,Int.reduceSub,Int.reduceToNat,Nat.reduceMul,intC]
/-- examboard/ratio.lowest -/
def b47 : AF := ⟨47, 2, [.cell 4 27],
  (.seq (.reg [
    ⟨some 2, .box 25 (.tmp 0), none⟩,
    ⟨some 4, .alloc 27, none⟩])
  (.seq (.reg [
    ⟨some 12, .fieldAddr 25 (.tmp 2) 1, none⟩,
    ⟨some 13, .load 23 (.tmp 12), none⟩,
    ⟨some 14, .move (.tmp 1), none⟩,
    ⟨some 15, .call ⟨(.value (.func 77)), #[(.tmp 13), (.tmp 14)], #[23, 23]⟩, none⟩,
    ⟨some 5, .assign (.tmp 15), none⟩])
  (.seq (.seq (.reg [
    ⟨some 16, .move (.tmp 1), none⟩,
    ⟨some 17, .call ⟨(.value (.func 75)), #[(.tmp 16)], #[23]⟩, none⟩,
    ⟨some 18, .binOp .eql 3 (.tmp 17) (.const (.int .i64 0)) 3, none⟩,
    ⟨some 19, .move (.tmp 18), none⟩,
    ⟨some 20, .fieldAddr 25 (.tmp 2) 1, some (19, false)⟩,
    ⟨some 21, .load 23 (.tmp 20), some (19, false)⟩,
    ⟨some 22, .call ⟨(.value (.func 75)), #[(.tmp 21)], #[23]⟩, some (19, false)⟩,
    ⟨some 23, .binOp .eql 3 (.tmp 22) (.const (.int .i64 0)) 3, some (19, false)⟩,
    ⟨some 24, .pick (.tmp 19) (.const (.bool true)) (.tmp 23), none⟩])
  (.cond (.tmp 24)
    (.seq (.reg [
      ⟨some 25, .call ⟨(.value (.func 78)), #[], #[]⟩, none⟩,
      ⟨none, .store 27 (.tmp 4) (.tmp 25), none⟩])
    .ret)
    .skip))
  (.seq (.reg [
    ⟨some 27, .fieldAddr 25 (.tmp 2) 1, none⟩,
    ⟨some 28, .load 23 (.tmp 27), none⟩,
    ⟨some 29, .move (.tmp 5), none⟩,
    ⟨some 30, .call ⟨(.value (.func 79)), #[(.tmp 28), (.tmp 29)], #[23, 23]⟩, none⟩,
    ⟨some 26, .move (.tmp 30), none⟩,
    ⟨some 31, .extract (.tmp 26) 0, none⟩,
    ⟨some 32, .extract (.tmp 26) 1, none⟩,
    ⟨some 33, .extract (.tmp 26) 2, none⟩,
    ⟨some 6, .assign (.tmp 31), none⟩,
    ⟨some 7, .assign (.tmp 32), none⟩,
    ⟨some 8, .assign (.tmp 33), none⟩])
  (.seq (.reg [
    ⟨some 35, .move (.tmp 1), none⟩,
    ⟨some 36, .move (.tmp 5), none⟩,
    ⟨some 37, .call ⟨(.value (.func 79)), #[(.tmp 35), (.tmp 36)], #[23, 23]⟩, none⟩,
    ⟨some 34, .move (.tmp 37), none⟩,
    ⟨some 38, .extract (.tmp 34) 0, none⟩,
    ⟨some 39, .extract (.tmp 34) 1, none⟩,
    ⟨some 40, .extract (.tmp 34) 2, none⟩,
    ⟨some 9, .assign (.tmp 38), none⟩,
    ⟨some 10, .assign (.tmp 39), none⟩,
    ⟨some 11, .assign (.tmp 40), none⟩])
  (.seq (.reg [
    ⟨some 41, .fieldAddr 25 (.tmp 2) 0, none⟩,
    ⟨some 42, .load 4 (.tmp 41), none⟩,
    ⟨some 43, .move (.tmp 6), none⟩,
    ⟨some 44, .call ⟨(.value (.func 56)), #[(.tmp 42), (.tmp 43)], #[4, 23]⟩, none⟩,
    ⟨some 45, .move (.tmp 9), none⟩,
    ⟨some 46, .build 27 #[(0, (.tmp 44)), (1, (.tmp 45))], none⟩,
    ⟨none, .store 27 (.tmp 4) (.tmp 46), none⟩])
  .ret))))))⟩
theorem c47 : fcomp Tryd.prog 47 = ⟨b47.n, b47.np, b47.res, b47.body.bare⟩ := by kernel_rfl
theorem k47 : fok Tryd.prog 47 = true := by kernel_rfl
theorem rat_lowest (n : Bool) (m d : List Int) (hm : Lim m) (hd : Lim d) (lm : m.length < 2199023255552) (ld : d.length < 2199023255552) : AFun Tryd.prog 47 [.agg [.lit (.bool n), natD m], .one (natD d)] [.agg (ratC (rv n m d))] := by
  refine afun_intro mo_ _ _ c47 k47 _ _ rfl (by decide) ?_
  unfold b47
  simp (maxSteps:=1000000) (disch:=first | omega | (simp only [LL];omega)) only [W,V,TY,CC,reduceIte,Nat.reduceEqDiff,Nat.reduceAdd,Nat.reduceLeDiff,Nat.reduceLT,Int.reduceLE,Int.reduceLT,Int.reduceAdd,Int.reduceSub,Int.reduceToNat,Nat.reduceMul]
  refine a_call _ _ (nat_Gcd m d hm hd lm ld) (by simp (maxSteps:=1000000) (disch:=first | omega | (simp only [LL];omega)) only [W,V,TY,CC,reduceIte,Nat.reduceEqDiff,Nat.reduceAdd,Nat.reduceLeDiff,Nat.reduceLT,Int.reduceLE,Int.reduceLT,Int.reduceAdd,Int.reduceSub,Int.reduceToNat,Nat.reduceMul]) ?_
  simp (maxSteps:=1000000) (disch:=first | omega | (simp only [LL];omega)) only [W,V,TY,CC,reduceIte,Nat.reduceEqDiff,Nat.reduceAdd,Nat.reduceLeDiff,Nat.reduceLT,Int.reduceLE,Int.reduceLT,Int.reduceAdd,Int.reduceSub,Int.reduceToNat,Nat.reduceMul]
  refine a_call _ _ (nat_Bits d hd (by omega)) (by simp (maxSteps:=1000000) (disch:=first | omega | (simp only [LL];omega)) only [W,V,TY,CC,reduceIte,Nat.reduceEqDiff,Nat.reduceAdd,Nat.reduceLeDiff,Nat.reduceLT,Int.reduceLE,Int.reduceLT,Int.reduceAdd,Int.reduceSub,Int.reduceToNat,Nat.reduceMul]) ?_
  simp (maxSteps:=1000000) (disch:=first | omega | (simp only [LL];omega)) only [W,V,TY,CC,reduceIte,Nat.reduceEqDiff,Nat.reduceAdd,Nat.reduceLeDiff,Nat.reduceLT,Int.reduceLE,Int.reduceLT,Int.reduceAdd,Int.reduceSub,Int.reduceToNat,Nat.reduceMul]
  refine g_split (fun h => ?_) (fun h => ?_)
  · have h0 : nv d = 0 := bl_eq_zero.1 (by omega)
    rw [rv_zero n m d (.inl h0)]
    simp (maxSteps:=1000000) (disch:=first | omega | (simp only [LL];omega)) only [W,V,TY,CC,reduceIte,Nat.reduceEqDiff,Nat.reduceAdd,Nat.reduceLeDiff,Nat.reduceLT,Int.reduceLE,Int.reduceLT,Int.reduceAdd,Int.reduceSub,Int.reduceToNat,Nat.reduceMul,h]
    refine a_call _ _ rat_zero (by simp (maxSteps:=1000000) (disch:=first | omega | (simp only [LL];omega)) only [W,V,TY,CC,reduceIte,Nat.reduceEqDiff,Nat.reduceAdd,Nat.reduceLeDiff,Nat.reduceLT,Int.reduceLE,Int.reduceLT,Int.reduceAdd,Int.reduceSub,Int.reduceToNat,Nat.reduceMul]) ?_
    simp (maxSteps:=1000000) (disch:=first | omega | (simp only [LL];omega)) only [W,V,TY,CC,reduceIte,Nat.reduceEqDiff,Nat.reduceAdd,Nat.reduceLeDiff,Nat.reduceLT,Int.reduceLE,Int.reduceLT,Int.reduceAdd,Int.reduceSub,Int.reduceToNat,Nat.reduceMul,ratC_zero]
    refine f_ret _ _ _ ?_
    simp (maxSteps:=1000000) (disch:=first | omega | (simp only [LL];omega)) only [W,V,TY,CC,reduceIte,Nat.reduceEqDiff,Nat.reduceAdd,Nat.reduceLeDiff,Nat.reduceLT,Int.reduceLE,Int.reduceLT,Int.reduceAdd,Int.reduceSub,Int.reduceToNat,Nat.reduceMul,ratC_zero]
  · have h0 : nv d ≠ 0 := fun e => h (by rw [e, bl_zero]; rfl)
    simp (maxSteps:=1000000) (disch:=first | omega | (simp only [LL];omega)) only [W,V,TY,CC,reduceIte,Nat.reduceEqDiff,Nat.reduceAdd,Nat.reduceLeDiff,Nat.reduceLT,Int.reduceLE,Int.reduceLT,Int.reduceAdd,Int.reduceSub,Int.reduceToNat,Nat.reduceMul,h]
    refine a_call _ _ (nat_Bits m hm (by omega)) (by simp (maxSteps:=1000000) (disch:=first | omega | (simp only [LL];omega)) only [W,V,TY,CC,reduceIte,Nat.reduceEqDiff,Nat.reduceAdd,Nat.reduceLeDiff,Nat.reduceLT,Int.reduceLE,Int.reduceLT,Int.reduceAdd,Int.reduceSub,Int.reduceToNat,Nat.reduceMul]) ?_
    simp (maxSteps:=1000000) (disch:=first | omega | (simp only [LL];omega)) only [W,V,TY,CC,reduceIte,Nat.reduceEqDiff,Nat.reduceAdd,Nat.reduceLeDiff,Nat.reduceLT,Int.reduceLE,Int.reduceLT,Int.reduceAdd,Int.reduceSub,Int.reduceToNat,Nat.reduceMul,h]
    refine c_split (fun h1 => ?_) (fun h1 => ?_)
    · have h2 : nv m = 0 := bl_eq_zero.1 (by omega)
      rw [rv_zero n m d (.inr h2)]
      simp (maxSteps:=1000000) (disch:=first | omega | (simp only [LL];omega)) only [W,V,TY,CC,reduceIte,Nat.reduceEqDiff,Nat.reduceAdd,Nat.reduceLeDiff,Nat.reduceLT,Int.reduceLE,Int.reduceLT,Int.reduceAdd,Int.reduceSub,Int.reduceToNat,Nat.reduceMul]
      refine a_call _ _ rat_zero (by simp (maxSteps:=1000000) (disch:=first | omega | (simp only [LL];omega)) only [W,V,TY,CC,reduceIte,Nat.reduceEqDiff,Nat.reduceAdd,Nat.reduceLeDiff,Nat.reduceLT,Int.reduceLE,Int.reduceLT,Int.reduceAdd,Int.reduceSub,Int.reduceToNat,Nat.reduceMul]) ?_
      simp (maxSteps:=1000000) (disch:=first | omega | (simp only [LL];omega)) only [W,V,TY,CC,reduceIte,Nat.reduceEqDiff,Nat.reduceAdd,Nat.reduceLeDiff,Nat.reduceLT,Int.reduceLE,Int.reduceLT,Int.reduceAdd,Int.reduceSub,Int.reduceToNat,Nat.reduceMul,ratC_zero]
      refine f_ret _ _ _ ?_
      simp (maxSteps:=1000000) (disch:=first | omega | (simp only [LL];omega)) only [W,V,TY,CC,reduceIte,Nat.reduceEqDiff,Nat.reduceAdd,Nat.reduceLeDiff,Nat.reduceLT,Int.reduceLE,Int.reduceLT,Int.reduceAdd,Int.reduceSub,Int.reduceToNat,Nat.reduceMul,ratC_zero]
    · have h2 : nv m ≠ 0 := fun e => h1 (by rw [e, bl_zero]; rfl)
      obtain ⟨e1, e2⟩ := low_num n m d h0
      have hgm := Nat.gcd_dvd_left (nv m) (nv d)
      have hgd := Nat.gcd_dvd_right (nv m) (nv d)
      have hg0 : Nat.gcd (nv m) (nv d) ≠ 0 := fun e => h0 (Nat.eq_zero_of_gcd_eq_zero_right e)
      have hgle := Nat.le_of_dvd (Nat.pos_of_ne_zero h0) hgd
      have hR := ratC_eq (rv n m d) _ _ e1 e2
      generalize Nat.gcd (nv m) (nv d) = g at *
      have lg := nl_len_le hd hgle
      have lq := nl_len_le hm (Nat.div_le_self (nv m) g)
      simp (maxSteps:=1000000) (disch:=first | omega | (simp only [LL];omega)) only [W,V,TY,CC,reduceIte,Nat.reduceEqDiff,Nat.reduceAdd,Nat.reduceLeDiff,Nat.reduceLT,Int.reduceLE,Int.reduceLT,Int.reduceAdd,Int.reduceSub,Int.reduceToNat,Nat.reduceMul]
      refine a_call _ _ (nat_DivMod m (nl g) hm (nl_lim _) lm (by omega)) (by simp (maxSteps:=1000000) (disch:=first | omega | (simp only [LL];omega)) only [W,V,TY,CC,reduceIte,Nat.reduceEqDiff,Nat.reduceAdd,Nat.reduceLeDiff,Nat.reduceLT,Int.reduceLE,Int.reduceLT,Int.reduceAdd,Int.reduceSub,Int.reduceToNat,Nat.reduceMul]) ?_
      unfold divR
      rw [nv_nl, if_neg hg0]
      simp (maxSteps:=1000000) (disch:=first | omega | (simp only [LL];omega)) only [W,V,TY,CC,reduceIte,Nat.reduceEqDiff,Nat.reduceAdd,Nat.reduceLeDiff,Nat.reduceLT,Int.reduceLE,Int.reduceLT,Int.reduceAdd,Int.reduceSub,Int.reduceToNat,Nat.reduceMul]
      refine a_call _ _ (nat_DivMod d (nl g) hd (nl_lim _) ld (by omega)) (by simp (maxSteps:=1000000) (disch:=first | omega | (simp only [LL];omega)) only [W,V,TY,CC,reduceIte,Nat.reduceEqDiff,Nat.reduceAdd,Nat.reduceLeDiff,Nat.reduceLT,Int.reduceLE,Int.reduceLT,Int.reduceAdd,Int.reduceSub,Int.reduceToNat,Nat.reduceMul]) ?_
      unfold divR
      rw [nv_nl, if_neg hg0]
      simp (maxSteps:=1000000) (disch:=first | omega | (simp only [LL];omega)) only [W,V,TY,CC,reduceIte,Nat.reduceEqDiff,Nat.reduceAdd,Nat.reduceLeDiff,Nat.reduceLT,Int.reduceLE,Int.reduceLT,Int.reduceAdd,Int.reduceSub,Int.reduceToNat,Nat.reduceMul]
      refine a_call _ _ (int_Make n (nl (nv m / g)) (nl_lim _) (by omega)) (by simp (maxSteps:=1000000) (disch:=first | omega | (simp only [LL];omega)) only [W,V,TY,CC,reduceIte,Nat.reduceEqDiff,Nat.reduceAdd,Nat.reduceLeDiff,Nat.reduceLT,Int.reduceLE,Int.reduceLT,Int.reduceAdd,Int.reduceSub,Int.reduceToNat,Nat.reduceMul]) ?_
      simp (maxSteps:=1000000) (disch:=first | omega | (simp only [LL];omega)) only [W,V,TY,CC,reduceIte,Nat.reduceEqDiff,Nat.reduceAdd,Nat.reduceLeDiff,Nat.reduceLT,Int.reduceLE,Int.reduceLT,Int.reduceAdd,Int.reduceSub,Int.reduceToNat,Nat.reduceMul,intC]
      refine f_ret _ _ _ ?_
      simp (maxSteps:=1000000) (disch:=first | omega | (simp only [LL];omega)) only [W,V,TY,CC,reduceIte,Nat.reduceEqDiff,Nat.reduceAdd,Nat.reduceLeDiff,Nat.reduceLT,Int.reduceLE,Int.reduceLT,Int.reduceAdd,Int.reduceSub,Int.reduceToNat,Nat.reduceMul,hR]
end Go.Proofs.YtljmgdepldpmdaaDoor.E

set_option linter.unusedSimpArgs false
set_option linter.unusedVariables false
set_option maxHeartbeats 2000000
namespace Go.Proofs.YtljmgdepldpmdaaDoor.E
open Go.RowKit Limbs
/-! ### sizes -/
/-- the number of limbs -/
def zl (z : Int) : Nat := (nl z.natAbs).length
theorem zl_le {z : Int} {k : Nat} (h : z.natAbs < bn k) : zl z ≤ k := nl_len h
theorem zl_lt (z : Int) : z.natAbs < bn (zl z) := (nl_len_iff (n := z.natAbs) (m := zl z)).1 (Nat.le_refl _)
theorem zl_mul (x y : Int) : zl (x * y) ≤ zl x + zl y := by
  refine zl_le ?_
  rw [Int.natAbs_mul, bn_add]
  exact Nat.mul_lt_mul'' (zl_lt x) (zl_lt y)
theorem bn_mono {m n : Nat} (h : m ≤ n) : bn m ≤ bn n := by unfold bn; exact Nat.pow_le_pow_right (by decide) h
theorem zl_add (x y : Int) : zl (x + y) ≤ max (zl x) (zl y) + 1 := by
  refine zl_le ?_
  have h1 := Nat.lt_of_lt_of_le (zl_lt x) (bn_mono (Nat.le_max_left (zl x) (zl y)))
  have h2 := Nat.lt_of_lt_of_le (zl_lt y) (bn_mono (Nat.le_max_right (zl x) (zl y)))
  rw [bn_succ]
  omega
theorem zl_neg (x : Int) : zl (-x) = zl x := by unfold zl; rw [Int.natAbs_neg]
theorem zl_sub (x y : Int) : zl (x - y) ≤ max (zl x) (zl y) + 1 := by
  have := zl_add x (-y)
  rwa [zl_neg, ← Int.sub_eq_add_neg] at this
theorem zl_iv {n : Bool} {m : List Int} (hm : Lim m) : zl (iv n m) ≤ m.length := by unfold zl; exact nl_len_le hm (by rw [iv_abs]; exact Nat.le_refl _)
theorem zl_nat (k : Nat) : zl (k : Int) = (nl k).length := rfl
theorem zl_nv {d : List Int} (hd : Lim d) : zl ((nv d : Nat) : Int) ≤ d.length := by rw [zl_nat]; exact nl_len_le hd (Nat.le_refl _)
/-! ### parts -/
def pN (n : Bool) (d : List Int) : Bool := if nv d = 0 then false else n
def pM (m d : List Int) : List Int := if nv d = 0 then [] else m
def pD (d : List Int) : Nat := if nv d = 0 then 1 else nv d
theorem pD_pos (d : List Int) : 0 < pD d := by unfold pD; split <;> omega
theorem pM_lim {m : List Int} (hm : Lim m) (d : List Int) : Lim (pM m d) := by unfold pM; split; exact Lim.nil; exact hm
theorem pM_len (m d : List Int) : (pM m d).length ≤ m.length := by unfold pM; split <;> simp
theorem pD_len {d : List Int} (hd : Lim d) : zl (pD d : Int) ≤ d.length + 1 := by
  unfold pD
  split
  · refine Nat.le_trans (zl_le (k := 1) ?_) (by omega)
    show 1 < bn 1
    decide
  · exact Nat.le_succ_of_le (zl_nv hd)
theorem rv_parts (n : Bool) (m d : List Int) : mkRat (iv (pN n d) (pM m d)) (pD d) = rv n m d := by
  unfold pN pM pD rv
  by_cases h : nv d = 0
  · rw [if_pos h, if_pos h, if_pos h, h, Rat.mkRat_zero]
    rw [show iv false [] = 0 from rfl, Rat.zero_mkRat]
  · rw [if_neg h, if_neg h, if_neg h]
/-- examboard/ratio.parts -/
def b46 : AF := ⟨16, 1, [.cell 2 25, .cell 3 25],
  (.seq (.reg [
    ⟨some 1, .box 27 (.tmp 0), none⟩,
    ⟨some 2, .alloc 25, none⟩,
    ⟨some 3, .alloc 25, none⟩])
  (.seq (.seq (.reg [
    ⟨some 4, .fieldAddr 27 (.tmp 1) 1, none⟩,
    ⟨some 5, .load 23 (.tmp 4), none⟩,
    ⟨some 6, .call ⟨(.value (.func 75)), #[(.tmp 5)], #[23]⟩, none⟩,
    ⟨some 7, .binOp .eql 3 (.tmp 6) (.const (.int .i64 0)) 3, none⟩])
  (.cond (.tmp 7)
    (.seq (.reg [
      ⟨some 8, .build 25 #[], none⟩,
      ⟨some 9, .call ⟨(.value (.func 69)), #[(.const (.int .u64 1))], #[99]⟩, none⟩,
      ⟨some 10, .call ⟨(.value (.func 76)), #[(.tmp 9)], #[23]⟩, none⟩,
      ⟨none, .store 25 (.tmp 2) (.tmp 8), none⟩,
      ⟨none, .store 25 (.tmp 3) (.tmp 10), none⟩])
    .ret)
    .skip))
  (.seq (.dreg [
    ⟨some 11, .fieldAddr 27 (.tmp 1) 0, none⟩,
    ⟨some 12, .load 25 (.tmp 11), none⟩,
    ⟨some 13, .fieldAddr 27 (.tmp 1) 1, none⟩,
    ⟨some 14, .load 23 (.tmp 13), none⟩,
    ⟨some 15, .call ⟨(.value (.func 76)), #[(.tmp 14)], #[23]⟩, none⟩,
    ⟨none, .store 25 (.tmp 2) (.tmp 12), none⟩,
    ⟨none, .store 25 (.tmp 3) (.tmp 15), none⟩])
  .ret)))⟩
theorem c46 : fcomp Tryd.prog 46 = ⟨b46.n, b46.np, b46.res, b46.body.bare⟩ := by kernel_rfl
theorem k46 : fok Tryd.prog 46 = true := by kernel_rfl
theorem rat_parts (n : Bool) (m d : List Int) (hm : Lim m) (hd : Lim d) (lm : m.length < 549755813888) (ld : d.length < 549755813888) : AFun Tryd.prog 46 [.agg [.lit (.bool n), natD m, natD d]] [.agg [.lit (.bool (pN n d)), natD (pM m d)], .agg (intC (pD d : Int))] := by
  refine afun_intro mo_ _ _ c46 k46 _ _ rfl (by decide) ?_
  unfold b46
  simp (maxSteps:=1000000) (disch:=first | omega | (simp only [LL];omega)) only [W,V,TY,CC,reduceIte,Nat.reduceEqDiff,Nat.reduceAdd,Nat.reduceLeDiff,Nat.reduceLT,Int.reduceLE,Int.reduceLT,Int.reduceAdd,Int.reduceSub,Int.reduceToNat,Nat.reduceMul]
  refine a_call _ _ (nat_Bits d hd (by omega)) (by simp (maxSteps:=1000000) (disch:=first | omega | (simp only [LL];omega)) only [W,V,TY,CC,reduceIte,Nat.reduceEqDiff,Nat.reduceAdd,Nat.reduceLeDiff,Nat.reduceLT,Int.reduceLE,Int.reduceLT,Int.reduceAdd,Int.reduceSub,Int.reduceToNat,Nat.reduceMul]) ?_
  simp (maxSteps:=1000000) (disch:=first | omega | (simp only [LL];omega)) only [W,V,TY,CC,reduceIte,Nat.reduceEqDiff,Nat.reduceAdd,Nat.reduceLeDiff,Nat.reduceLT,Int.reduceLE,Int.reduceLT,Int.reduceAdd,Int.reduceSub,Int.reduceToNat,Nat.reduceMul]
  refine c_split (fun h => ?_) (fun h => ?_)
  · have h0 : nv d = 0 := bl_eq_zero.1 (by omega)
    have l1 : (nl 1).length ≤ 1 := nl_len (by decide)
    have e1 : ((nv (nl (Int.toNat 1)) : Nat) : Int) = 1 := by rw [nv_nl]; rfl
    unfold pN pM pD
    rw [if_pos h0, if_pos h0, if_pos h0]
    simp (maxSteps:=1000000) (disch:=first | omega | (simp only [LL];omega)) only [W,V,TY,CC,reduceIte,Nat.reduceEqDiff,Nat.reduceAdd,Nat.reduceLeDiff,Nat.reduceLT,Int.reduceLE,Int.reduceLT,Int.reduceAdd,Int.reduceSub,Int.reduceToNat,Nat.reduceMul]
    refine a_call _ _ (nat_Of 1 (by decide) (by decide)) (by simp (maxSteps:=1000000) (disch:=first | omega | (simp only [LL];omega)) only [W,V,TY,CC,reduceIte,Nat.reduceEqDiff,Nat.reduceAdd,Nat.reduceLeDiff,Nat.reduceLT,Int.reduceLE,Int.reduceLT,Int.reduceAdd,Int.reduceSub,Int.reduceToNat,Nat.reduceMul]) ?_
    simp (maxSteps:=1000000) (disch:=first | omega | (simp only [LL];omega)) only [W,V,TY,CC,reduceIte,Nat.reduceEqDiff,Nat.reduceAdd,Nat.reduceLeDiff,Nat.reduceLT,Int.reduceLE,Int.reduceLT,Int.reduceAdd,Int.reduceSub,Int.reduceToNat,Nat.reduceMul]
    refine a_call _ _ (rat_whole (nl (Int.toNat 1)) (nl_lim _) (Nat.lt_of_le_of_lt l1 (by omega))) (by simp (maxSteps:=1000000) (disch:=first | omega | (simp only [LL];omega)) only [W,V,TY,CC,reduceIte,Nat.reduceEqDiff,Nat.reduceAdd,Nat.reduceLeDiff,Nat.reduceLT,Int.reduceLE,Int.reduceLT,Int.reduceAdd,Int.reduceSub,Int.reduceToNat,Nat.reduceMul]) ?_
    rw [e1]
    simp (maxSteps:=1000000) (disch:=first | omega | (simp only [LL];omega)) only [W,V,TY,CC,reduceIte,Nat.reduceEqDiff,Nat.reduceAdd,Nat.reduceLeDiff,Nat.reduceLT,Int.reduceLE,Int.reduceLT,Int.reduceAdd,Int.reduceSub,Int.reduceToNat,Nat.reduceMul,intC]
    refine f_ret _ _ _ ?_
    simp (maxSteps:=1000000) (disch:=first | omega | (simp only [LL];omega)) only [W,V,TY,CC,reduceIte,Nat.reduceEqDiff,Nat.reduceAdd,Nat.reduceLeDiff,Nat.reduceLT,Int.reduceLE,Int.reduceLT,Int.reduceAdd,Int.reduceSub,Int.reduceToNat,Nat.reduceMul,intC]
    rfl
  · have h0 : nv d ≠ 0 := fun e => h (by rw [e, bl_zero]; rfl)
    unfold pN pM pD
    rw [if_neg h0, if_neg h0, if_neg h0]
    simp (maxSteps:=1000000) (disch:=first | omega | (simp only [LL];omega)) only [W,V,TY,CC,reduceIte,Nat.reduceEqDiff,Nat.reduceAdd,Nat.reduceLeDiff,Nat.reduceLT,Int.reduceLE,Int.reduceLT,Int.reduceAdd,Int.reduceSub,Int.reduceToNat,Nat.reduceMul]
    refine a_call _ _ (rat_whole d hd (by omega)) (by simp (maxSteps:=1000000) (disch:=first | omega | (simp only [LL];omega)) only [W,V,TY,CC,reduceIte,Nat.reduceEqDiff,Nat.reduceAdd,Nat.reduceLeDiff,Nat.reduceLT,Int.reduceLE,Int.reduceLT,Int.reduceAdd,Int.reduceSub,Int.reduceToNat,Nat.reduceMul]) ?_
    simp (maxSteps:=1000000) (disch:=first | omega | (simp only [LL];omega)) only [W,V,TY,CC,reduceIte,Nat.reduceEqDiff,Nat.reduceAdd,Nat.reduceLeDiff,Nat.reduceLT,Int.reduceLE,Int.reduceLT,Int.reduceAdd,Int.reduceSub,Int.reduceToNat,Nat.reduceMul,intC]
    refine f_ret _ _ _ ?_
    simp (maxSteps:=1000000) (disch:=first | omega | (simp only [LL];omega)) only [W,V,TY,CC,reduceIte,Nat.reduceEqDiff,Nat.reduceAdd,Nat.reduceLeDiff,Nat.reduceLT,Int.reduceLE,Int.reduceLT,Int.reduceAdd,Int.reduceSub,Int.reduceToNat,Nat.reduceMul,intC]
theorem rv_make (a b : Bool) (m k : List Int) : rv (a != b) m k = Rat.divInt (iv a m) (iv b k) := by
  unfold rv
  rw [← Rat.divInt_ofNat]
  cases b
  · rw [show iv false k = ((nv k : Nat) : Int) from rfl]
    cases a <;> rfl
  · rw [show iv true k = -((nv k : Nat) : Int) from rfl, Rat.divInt_neg']
    have : iv (a != true) m = -iv a m := by cases a <;> simp [iv]
    rw [this]
theorem iv_zero {b : Bool} {k : List Int} : iv b k = 0 ↔ nv k = 0 := by have := iv_abs b k; omega
/-- examboard/ratio.Make -/
def b73 : AF := ⟨22, 2, [.cell 4 27, .tmp 5],
  (.seq (.reg [
    ⟨some 2, .box 25 (.tmp 0), none⟩,
    ⟨some 3, .box 25 (.tmp 1), none⟩,
    ⟨some 4, .alloc 27, none⟩,
    ⟨some 5, .assign (.const (.bool false)), none⟩])
  (.seq (.seq (.reg [
    ⟨some 6, .fieldAddr 25 (.tmp 3) 1, none⟩,
    ⟨some 7, .load 23 (.tmp 6), none⟩,
    ⟨some 8, .call ⟨(.value (.func 75)), #[(.tmp 7)], #[23]⟩, none⟩,
    ⟨some 9, .binOp .eql 3 (.tmp 8) (.const (.int .i64 0)) 3, none⟩])
  (.cond (.tmp 9)
    (.seq (.reg [
      ⟨some 10, .call ⟨(.value (.func 78)), #[], #[]⟩, none⟩,
      ⟨none, .store 27 (.tmp 4) (.tmp 10), none⟩,
      ⟨some 5, .assign (.const (.bool false)), none⟩])
    .ret)
    .skip))
  (.seq (.reg [
    ⟨some 11, .fieldAddr 25 (.tmp 2) 0, none⟩,
    ⟨some 12, .load 4 (.tmp 11), none⟩,
    ⟨some 13, .fieldAddr 25 (.tmp 3) 0, none⟩,
    ⟨some 14, .load 4 (.tmp 13), none⟩,
    ⟨some 15, .binOp .neq 4 (.tmp 12) (.tmp 14) 4, none⟩,
    ⟨some 16, .fieldAddr 25 (.tmp 2) 1, none⟩,
    ⟨some 17, .load 23 (.tmp 16), none⟩,
    ⟨some 18, .build 25 #[(0, (.tmp 15)), (1, (.tmp 17))], none⟩,
    ⟨some 19, .fieldAddr 25 (.tmp 3) 1, none⟩,
    ⟨some 20, .load 23 (.tmp 19), none⟩,
    ⟨some 21, .call ⟨(.value (.func 47)), #[(.tmp 18), (.tmp 20)], #[25, 23]⟩, none⟩,
    ⟨none, .store 27 (.tmp 4) (.tmp 21), none⟩,
    ⟨some 5, .assign (.const (.bool true)), none⟩])
  .ret)))⟩
theorem c73 : fcomp Tryd.prog 73 = ⟨b73.n, b73.np, b73.res, b73.body.bare⟩ := by kernel_rfl
theorem k73 : fok Tryd.prog 73 = true := by kernel_rfl
theorem rat_Make (a b : Bool) (m k : List Int) (hm : Lim m) (hk : Lim k) (lm : m.length < 2199023255552) (lk : k.length < 2199023255552) : AFun Tryd.prog 73 [.agg [.lit (.bool a), natD m], .agg [.lit (.bool b), natD k]] [.agg (ratC (Rat.divInt (iv a m) (iv b k))), .one (.lit (.bool (decide (iv b k ≠ 0))))] := by
  refine afun_intro mo_ _ _ c73 k73 _ _ rfl (by decide) ?_
  unfold b73
  rw [← rv_make]
  simp (maxSteps:=1000000) (disch:=first | omega | (simp only [LL];omega)) only [W,V,TY,CC,reduceIte,Nat.reduceEqDiff,Nat.reduceAdd,Nat.reduceLeDiff,Nat.reduceLT,Int.reduceLE,Int.reduceLT,Int.reduceAdd,Int.reduceSub,Int.reduceToNat,Nat.reduceMul]
  refine a_call _ _ (nat_Bits k hk (by omega)) (by simp (maxSteps:=1000000) (disch:=first | omega | (simp only [LL];omega)) only [W,V,TY,CC,reduceIte,Nat.reduceEqDiff,Nat.reduceAdd,Nat.reduceLeDiff,Nat.reduceLT,Int.reduceLE,Int.reduceLT,Int.reduceAdd,Int.reduceSub,Int.reduceToNat,Nat.reduceMul]) ?_
  simp (maxSteps:=1000000) (disch:=first | omega | (simp only [LL];omega)) only [W,V,TY,CC,reduceIte,Nat.reduceEqDiff,Nat.reduceAdd,Nat.reduceLeDiff,Nat.reduceLT,Int.reduceLE,Int.reduceLT,Int.reduceAdd,Int.reduceSub,Int.reduceToNat,Nat.reduceMul]
  refine c_split (fun h => ?_) (fun h => ?_)
  · have h0 : nv k = 0 := bl_eq_zero.1 (by omega)
    rw [rv_zero _ m k (.inl h0), show decide (iv b k ≠ 0) = false from decide_eq_false (fun e => e (iv_zero.2 h0))]
    simp (maxSteps:=1000000) (disch:=first | omega | (simp only [LL];omega)) only [W,V,TY,CC,reduceIte,Nat.reduceEqDiff,Nat.reduceAdd,Nat.reduceLeDiff,Nat.reduceLT,Int.reduceLE,Int.reduceLT,Int.reduceAdd,Int.reduceSub,Int.reduceToNat,Nat.reduceMul]
    refine a_call _ _ rat_zero (by simp (maxSteps:=1000000) (disch:=first | omega | (simp only [LL];omega)) only [W,V,TY,CC,reduceIte,Nat.reduceEqDiff,Nat.reduceAdd,Nat.reduceLeDiff,Nat.reduceLT,Int.reduceLE,Int.reduceLT,Int.reduceAdd,Int.reduceSub,Int.reduceToNat,Nat.reduceMul]) ?_
    simp (maxSteps:=1000000) (disch:=first | omega | (simp only [LL];omega)) only [W,V,TY,CC,reduceIte,Nat.reduceEqDiff,Nat.reduceAdd,Nat.reduceLeDiff,Nat.reduceLT,Int.reduceLE,Int.reduceLT,Int.reduceAdd,Int.reduceSub,Int.reduceToNat,Nat.reduceMul,ratC_zero]
    refine f_ret _ _ _ ?_
    simp (maxSteps:=1000000) (disch:=first | omega | (simp only [LL];omega)) only [W,V,TY,CC,reduceIte,Nat.reduceEqDiff,Nat.reduceAdd,Nat.reduceLeDiff,Nat.reduceLT,Int.reduceLE,Int.reduceLT,Int.reduceAdd,Int.reduceSub,Int.reduceToNat,Nat.reduceMul,ratC_zero]
  · have h0 : nv k ≠ 0 := fun e => h (by rw [e, bl_zero]; rfl)
    rw [show decide (iv b k ≠ 0) = true from decide_eq_true (fun e => h0 (iv_zero.1 e))]
    simp (maxSteps:=1000000) (disch:=first | omega | (simp only [LL];omega)) only [W,V,TY,CC,reduceIte,Nat.reduceEqDiff,Nat.reduceAdd,Nat.reduceLeDiff,Nat.reduceLT,Int.reduceLE,Int.reduceLT,Int.reduceAdd,Int.reduceSub,Int.reduceToNat,Nat.reduceMul]
    refine a_call _ _ (rat_lowest (!(a == b)) m k hm hk lm lk) (by simp (maxSteps:=1000000) (disch:=first | omega | (simp only [LL];omega)) only [W,V,TY,CC,reduceIte,Nat.reduceEqDiff,Nat.reduceAdd,Nat.reduceLeDiff,Nat.reduceLT,Int.reduceLE,Int.reduceLT,Int.reduceAdd,Int.reduceSub,Int.reduceToNat,Nat.reduceMul]) ?_
    rw [show (!(a == b)) = (a != b) from rfl]
    simp (maxSteps:=1000000) (disch:=first | omega | (simp only [LL];omega)) only [W,V,TY,CC,reduceIte,Nat.reduceEqDiff,Nat.reduceAdd,Nat.reduceLeDiff,Nat.reduceLT,Int.reduceLE,Int.reduceLT,Int.reduceAdd,Int.reduceSub,Int.reduceToNat,Nat.reduceMul,ratC]
    refine f_ret _ _ _ ?_
    simp (maxSteps:=1000000) (disch:=first | omega | (simp only [LL];omega)) only [W,V,TY,CC,reduceIte,Nat.reduceEqDiff,Nat.reduceAdd,Nat.reduceLeDiff,Nat.reduceLT,Int.reduceLE,Int.reduceLT,Int.reduceAdd,Int.reduceSub,Int.reduceToNat,Nat.reduceMul,ratC]
/-- examboard/ratio.Of -/
def b44 : AF := ⟨13, 2, [.cell 4 27, .tmp 5],
  (.seq (.reg [
    ⟨some 4, .alloc 27, none⟩,
    ⟨some 5, .assign (.const (.bool false)), none⟩])
  (.seq (.reg [
    ⟨some 6, .move (.tmp 0), none⟩,
    ⟨some 7, .call ⟨(.value (.func 74)), #[(.tmp 6)], #[2]⟩, none⟩,
    ⟨some 8, .move (.tmp 1), none⟩,
    ⟨some 9, .call ⟨(.value (.func 74)), #[(.tmp 8)], #[2]⟩, none⟩,
    ⟨some 10, .call ⟨(.value (.func 73)), #[(.tmp 7), (.tmp 9)], #[25, 25]⟩, none⟩,
    ⟨some 11, .extract (.tmp 10) 0, none⟩,
    ⟨some 12, .extract (.tmp 10) 1, none⟩,
    ⟨none, .store 27 (.tmp 4) (.tmp 11), none⟩,
    ⟨some 5, .assign (.tmp 12), none⟩])
  .ret))⟩
theorem c44 : fcomp Tryd.prog 44 = ⟨b44.n, b44.np, b44.res, b44.body.bare⟩ := by kernel_rfl
theorem k44 : fok Tryd.prog 44 = true := by kernel_rfl
theorem rat_Of (x y : Int) (x0 : -9223372036854775808 ≤ x) (x1 : x < 9223372036854775808) (y0 : -9223372036854775808 ≤ y) (y1 : y < 9223372036854775808) : AFun Tryd.prog 44 [.one (.lit (.int .i64 x)), .one (.lit (.int .i64 y))] [.agg (ratC (Rat.divInt x y)), .one (.lit (.bool (decide (y ≠ 0))))] := by
  refine afun_intro mo_ _ _ c44 k44 _ _ rfl (by decide) ?_
  unfold b44
  have lx : (nl x.natAbs).length ≤ 2 := nl_len (by omega)
  have ly : (nl y.natAbs).length ≤ 2 := nl_len (by omega)
  simp (maxSteps:=1000000) (disch:=first | omega | (simp only [LL];omega)) only [W,V,TY,CC,reduceIte,Nat.reduceEqDiff,Nat.reduceAdd,Nat.reduceLeDiff,Nat.reduceLT,Int.reduceLE,Int.reduceLT,Int.reduceAdd,Int.reduceSub,Int.reduceToNat,Nat.reduceMul]
  refine a_call _ _ (int_Of x x0 x1) (by simp (maxSteps:=1000000) (disch:=first | omega | (simp only [LL];omega)) only [W,V,TY,CC,reduceIte,Nat.reduceEqDiff,Nat.reduceAdd,Nat.reduceLeDiff,Nat.reduceLT,Int.reduceLE,Int.reduceLT,Int.reduceAdd,Int.reduceSub,Int.reduceToNat,Nat.reduceMul]) ?_
  simp (maxSteps:=1000000) (disch:=first | omega | (simp only [LL];omega)) only [W,V,TY,CC,reduceIte,Nat.reduceEqDiff,Nat.reduceAdd,Nat.reduceLeDiff,Nat.reduceLT,Int.reduceLE,Int.reduceLT,Int.reduceAdd,Int.reduceSub,Int.reduceToNat,Nat.reduceMul,intC]
  refine a_call _ _ (int_Of y y0 y1) (by simp (maxSteps:=1000000) (disch:=first | omega | (simp only [LL];omega)) only [W,V,TY,CC,reduceIte,Nat.reduceEqDiff,Nat.reduceAdd,Nat.reduceLeDiff,Nat.reduceLT,Int.reduceLE,Int.reduceLT,Int.reduceAdd,Int.reduceSub,Int.reduceToNat,Nat.reduceMul]) ?_
  simp (maxSteps:=1000000) (disch:=first | omega | (simp only [LL];omega)) only [W,V,TY,CC,reduceIte,Nat.reduceEqDiff,Nat.reduceAdd,Nat.reduceLeDiff,Nat.reduceLT,Int.reduceLE,Int.reduceLT,Int.reduceAdd,Int.reduceSub,Int.reduceToNat,Nat.reduceMul,intC]
  refine a_call _ _ (rat_Make (decide (x < 0)) (decide (y < 0)) (nl x.natAbs) (nl y.natAbs) (nl_lim _) (nl_lim _) (by omega) (by omega)) (by simp (maxSteps:=1000000) (disch:=first | omega | (simp only [LL];omega)) only [W,V,TY,CC,reduceIte,Nat.reduceEqDiff,Nat.reduceAdd,Nat.reduceLeDiff,Nat.reduceLT,Int.reduceLE,Int.reduceLT,Int.reduceAdd,Int.reduceSub,Int.reduceToNat,Nat.reduceMul]) ?_
  rw [iv_nl, iv_nl]
  simp (maxSteps:=1000000) (disch:=first | omega | (simp only [LL];omega)) only [W,V,TY,CC,reduceIte,Nat.reduceEqDiff,Nat.reduceAdd,Nat.reduceLeDiff,Nat.reduceLT,Int.reduceLE,Int.reduceLT,Int.reduceAdd,Int.reduceSub,Int.reduceToNat,Nat.reduceMul,ratC]
  refine f_ret _ _ _ ?_
  simp (maxSteps:=1000000) (disch:=first | omega | (simp only [LL];omega)) only [W,V,TY,CC,reduceIte,Nat.reduceEqDiff,Nat.reduceAdd,Nat.reduceLeDiff,Nat.reduceLT,Int.reduceLE,Int.reduceLT,Int.reduceAdd,Int.reduceSub,Int.reduceToNat,Nat.reduceMul,ratC]
end Go.Proofs.YtljmgdepldpmdaaDoor.E

set_option linter.unusedSimpArgs false
set_option linter.unusedVariables false
set_option maxHeartbeats 2000000
namespace Go.Proofs.YtljmgdepldpmdaaDoor.E
open Go.RowKit Limbs
theorem mk_sub (a b : Int) {d e : Nat} (hd : 0 < d) (he : 0 < e) : mkRat a d - mkRat b e = mkRat (a * e - b * d) (d * e) := by
  rw [← Rat.divInt_ofNat, ← Rat.divInt_ofNat, Rat.divInt_sub_divInt _ _ (by omega) (by omega), ← Int.natCast_mul, Rat.divInt_ofNat]
theorem mk_nn (a : Int) {d : Nat} (hd : 0 < d) : 0 ≤ mkRat a d ↔ 0 ≤ a := by
  rw [← Rat.divInt_ofNat]
  exact Rat.divInt_nonneg_iff_of_pos_right (by omega)
theorem mk_le (a b : Int) {d e : Nat} (hd : 0 < d) (he : 0 < e) : mkRat a d ≤ mkRat b e ↔ a * e ≤ b * d := by
  rw [Rat.le_iff_sub_nonneg, mk_sub b a he hd, mk_nn _ (Nat.mul_pos he hd)]
  omega
theorem mk_lt (a b : Int) {d e : Nat} (hd : 0 < d) (he : 0 < e) : mkRat a d < mkRat b e ↔ a * e < b * d := by
  rw [← Rat.not_le, mk_le b a he hd]
  omega
/-- -1, 0 or 1 -/
def cmpQ (p q : Rat) : Int := if p < q then -1 else if q < p then 1 else 0
theorem cmp_mk (a b : Int) {d e : Nat} (hd : 0 < d) (he : 0 < e) : cmpZ (a * e) (b * d) = cmpQ (mkRat a d) (mkRat b e) := by
  unfold cmpZ cmpQ
  simp only [mk_lt a b hd he, mk_lt b a he hd]
theorem intC_nat (k : Nat) : intC (k : Int) = [.lit (.bool false), natD (nl k)] := of_nn (by omega)
theorem iv_nat (k : Nat) : iv false (nl k) = (k : Int) := by unfold iv; rw [nv_nl]; rfl
/-- examboard/ratio.Cmp -/
def b23 : AF := ⟨26, 2, [.tmp 4],
  (.seq (.reg [
    ⟨some 2, .box 27 (.tmp 0), none⟩,
    ⟨some 3, .box 27 (.tmp 1), none⟩,
    ⟨some 4, .assign (.const (.int .i64 0)), none⟩])
  (.seq (.reg [
    ⟨some 10, .load 27 (.tmp 2), none⟩,
    ⟨some 11, .call ⟨(.value (.func 46)), #[(.tmp 10)], #[27]⟩, none⟩,
    ⟨some 9, .move (.tmp 11), none⟩,
    ⟨some 12, .extract (.tmp 9) 0, none⟩,
    ⟨some 13, .extract (.tmp 9) 1, none⟩,
    ⟨some 5, .alloc 25, none⟩,
    ⟨some 6, .alloc 25, none⟩,
    ⟨none, .store 25 (.tmp 5) (.tmp 12), none⟩,
    ⟨none, .store 25 (.tmp 6) (.tmp 13), none⟩])
  (.seq (.reg [
    ⟨some 15, .load 27 (.tmp 3), none⟩,
    ⟨some 16, .call ⟨(.value (.func 46)), #[(.tmp 15)], #[27]⟩, none⟩,
    ⟨some 14, .move (.tmp 16), none⟩,
    ⟨some 17, .extract (.tmp 14) 0, none⟩,
    ⟨some 18, .extract (.tmp 14) 1, none⟩,
    ⟨some 7, .alloc 25, none⟩,
    ⟨some 8, .alloc 25, none⟩,
    ⟨none, .store 25 (.tmp 7) (.tmp 17), none⟩,
    ⟨none, .store 25 (.tmp 8) (.tmp 18), none⟩])
  (.seq (.dreg [
    ⟨some 19, .load 25 (.tmp 5), none⟩,
    ⟨some 20, .load 25 (.tmp 8), none⟩,
    ⟨some 21, .call ⟨(.value (.func 49)), #[(.tmp 19), (.tmp 20)], #[25, 25]⟩, none⟩,
    ⟨some 22, .load 25 (.tmp 7), none⟩,
    ⟨some 23, .load 25 (.tmp 6), none⟩,
    ⟨some 24, .call ⟨(.value (.func 49)), #[(.tmp 22), (.tmp 23)], #[25, 25]⟩, none⟩,
    ⟨some 25, .call ⟨(.value (.func 54)), #[(.tmp 21), (.tmp 24)], #[25, 25]⟩, none⟩,
    ⟨some 4, .assign (.tmp 25), none⟩])
  .ret))))⟩
theorem c23 : fcomp Tryd.prog 23 = ⟨b23.n, b23.np, b23.res, b23.body.bare⟩ := by kernel_rfl
theorem k23 : fok Tryd.prog 23 = true := by kernel_rfl
theorem rat_Cmp (n : Bool) (m d : List Int) (n' : Bool) (m' d' : List Int) (hm : Lim m) (hd : Lim d) (hm' : Lim m') (hd' : Lim d') (lm : m.length < 68719476736) (ld : d.length < 68719476736) (lm' : m'.length < 68719476736) (ld' : d'.length < 68719476736) :
    AFun Tryd.prog 23 [.agg [.lit (.bool n), natD m, natD d], .agg [.lit (.bool n'), natD m', natD d']] [.one (.lit (.int .i64 (cmpQ (rv n m d) (rv n' m' d'))))] := by
  refine afun_intro mo_ _ _ c23 k23 _ _ rfl (by decide) ?_
  unfold b23
  rw [← rv_parts n m d, ← rv_parts n' m' d', ← cmp_mk _ _ (pD_pos d) (pD_pos d')]
  have k1 := pM_len m d
  have k2 := pM_len m' d'
  have k3 := pD_len hd
  have k4 := pD_len hd'
  have k5 := zl_iv (n := pN n d) (pM_lim hm d)
  have k6 := zl_iv (n := pN n' d') (pM_lim hm' d')
  have k7 := zl_mul (iv (pN n d) (pM m d)) (pD d' : Int)
  have k8 := zl_mul (iv (pN n' d') (pM m' d')) (pD d : Int)
  have k9 := zl_nat (pD d)
  have k10 := zl_nat (pD d')
  generalize hX : iv (pN n d) (pM m d) * (pD d' : Int) = X at *
  generalize hY : iv (pN n' d') (pM m' d') * (pD d : Int) = Y at *
  simp (maxSteps:=1000000) (disch:=first | omega | (simp only [LL];omega)) only [W,V,TY,CC,reduceIte,Nat.reduceEqDiff,Nat.reduceAdd,Nat.reduceLeDiff,Nat.reduceLT,Int.reduceLE,Int.reduceLT,Int.reduceAdd,Int.reduceSub,Int.reduceToNat,Nat.reduceMul]
  refine a_call _ _ (rat_parts n m d hm hd (by omega) (by omega)) (by simp (maxSteps:=1000000) (disch:=first | omega | (simp only [LL];omega)) only [W,V,TY,CC,reduceIte,Nat.reduceEqDiff,Nat.reduceAdd,Nat.reduceLeDiff,Nat.reduceLT,Int.reduceLE,Int.reduceLT,Int.reduceAdd,Int.reduceSub,Int.reduceToNat,Nat.reduceMul]) ?_
  simp (maxSteps:=1000000) (disch:=first | omega | (simp only [LL];omega)) only [W,V,TY,CC,reduceIte,Nat.reduceEqDiff,Nat.reduceAdd,Nat.reduceLeDiff,Nat.reduceLT,Int.reduceLE,Int.reduceLT,Int.reduceAdd,Int.reduceSub,Int.reduceToNat,Nat.reduceMul,intC_nat]
  refine a_call _ _ (rat_parts n' m' d' hm' hd' (by omega) (by omega)) (by simp (maxSteps:=1000000) (disch:=first | omega | (simp only [LL];omega)) only [W,V,TY,CC,reduceIte,Nat.reduceEqDiff,Nat.reduceAdd,Nat.reduceLeDiff,Nat.reduceLT,Int.reduceLE,Int.reduceLT,Int.reduceAdd,Int.reduceSub,Int.reduceToNat,Nat.reduceMul]) ?_
  simp (maxSteps:=1000000) (disch:=first | omega | (simp only [LL];omega)) only [W,V,TY,CC,reduceIte,Nat.reduceEqDiff,Nat.reduceAdd,Nat.reduceLeDiff,Nat.reduceLT,Int.reduceLE,Int.reduceLT,Int.reduceAdd,Int.reduceSub,Int.reduceToNat,Nat.reduceMul,intC_nat]
  refine a_call _ _ (int_Mul (pN n d) false (pM m d) (nl (pD d')) (pM_lim hm d) (nl_lim _) (by omega) (by omega)) (by simp (maxSteps:=1000000) (disch:=first | omega | (simp only [LL];omega)) only [W,V,TY,CC,reduceIte,Nat.reduceEqDiff,Nat.reduceAdd,Nat.reduceLeDiff,Nat.reduceLT,Int.reduceLE,Int.reduceLT,Int.reduceAdd,Int.reduceSub,Int.reduceToNat,Nat.reduceMul]) ?_
  rw [iv_nat, hX]
  simp (maxSteps:=1000000) (disch:=first | omega | (simp only [LL];omega)) only [W,V,TY,CC,reduceIte,Nat.reduceEqDiff,Nat.reduceAdd,Nat.reduceLeDiff,Nat.reduceLT,Int.reduceLE,Int.reduceLT,Int.reduceAdd,Int.reduceSub,Int.reduceToNat,Nat.reduceMul,intC]
  refine a_call _ _ (int_Mul (pN n' d') false (pM m' d') (nl (pD d)) (pM_lim hm' d') (nl_lim _) (by omega) (by omega)) (by simp (maxSteps:=1000000) (disch:=first | omega | (simp only [LL];omega)) only [W,V,TY,CC,reduceIte,Nat.reduceEqDiff,Nat.reduceAdd,Nat.reduceLeDiff,Nat.reduceLT,Int.reduceLE,Int.reduceLT,Int.reduceAdd,Int.reduceSub,Int.reduceToNat,Nat.reduceMul]) ?_
  rw [iv_nat, hY]
  simp (maxSteps:=1000000) (disch:=first | omega | (simp only [LL];omega)) only [W,V,TY,CC,reduceIte,Nat.reduceEqDiff,Nat.reduceAdd,Nat.reduceLeDiff,Nat.reduceLT,Int.reduceLE,Int.reduceLT,Int.reduceAdd,Int.reduceSub,Int.reduceToNat,Nat.reduceMul,intC]
  refine a_call _ _ (int_Cmp (decide (X < 0)) (decide (Y < 0)) (nl X.natAbs) (nl Y.natAbs) (nl_lim _) (nl_lim _) (show zl X < _ by omega) (show zl Y < _ by omega)) (by simp (maxSteps:=1000000) (disch:=first | omega | (simp only [LL];omega)) only [W,V,TY,CC,reduceIte,Nat.reduceEqDiff,Nat.reduceAdd,Nat.reduceLeDiff,Nat.reduceLT,Int.reduceLE,Int.reduceLT,Int.reduceAdd,Int.reduceSub,Int.reduceToNat,Nat.reduceMul]) ?_
  rw [iv_nl, iv_nl]
  simp (maxSteps:=1000000) (disch:=first | omega | (simp only [LL];omega)) only [W,V,TY,CC,reduceIte,Nat.reduceEqDiff,Nat.reduceAdd,Nat.reduceLeDiff,Nat.reduceLT,Int.reduceLE,Int.reduceLT,Int.reduceAdd,Int.reduceSub,Int.reduceToNat,Nat.reduceMul]
  refine f_ret _ _ _ ?_
  simp (maxSteps:=1000000) (disch:=first | omega | (simp only [LL];omega)) only [W,V,TY,CC,reduceIte,Nat.reduceEqDiff,Nat.reduceAdd,Nat.reduceLeDiff,Nat.reduceLT,Int.reduceLE,Int.reduceLT,Int.reduceAdd,Int.reduceSub,Int.reduceToNat,Nat.reduceMul]
/-- examboard/ratio.Sub -/
def b16 : AF := ⟨32, 2, [.cell 4 27],
  (.seq (.reg [
    ⟨some 2, .box 27 (.tmp 0), none⟩,
    ⟨some 3, .box 27 (.tmp 1), none⟩,
    ⟨some 4, .alloc 27, none⟩])
  (.seq (.reg [
    ⟨some 10, .load 27 (.tmp 2), none⟩,
    ⟨some 11, .call ⟨(.value (.func 46)), #[(.tmp 10)], #[27]⟩, none⟩,
    ⟨some 9, .move (.tmp 11), none⟩,
    ⟨some 12, .extract (.tmp 9) 0, none⟩,
    ⟨some 13, .extract (.tmp 9) 1, none⟩,
    ⟨some 5, .alloc 25, none⟩,
    ⟨some 6, .alloc 25, none⟩,
    ⟨none, .store 25 (.tmp 5) (.tmp 12), none⟩,
    ⟨none, .store 25 (.tmp 6) (.tmp 13), none⟩])
  (.seq (.reg [
    ⟨some 15, .load 27 (.tmp 3), none⟩,
    ⟨some 16, .call ⟨(.value (.func 46)), #[(.tmp 15)], #[27]⟩, none⟩,
    ⟨some 14, .move (.tmp 16), none⟩,
    ⟨some 17, .extract (.tmp 14) 0, none⟩,
    ⟨some 18, .extract (.tmp 14) 1, none⟩,
    ⟨some 7, .alloc 25, none⟩,
    ⟨some 8, .alloc 25, none⟩,
    ⟨none, .store 25 (.tmp 7) (.tmp 17), none⟩,
    ⟨none, .store 25 (.tmp 8) (.tmp 18), none⟩])
  (.seq (.dreg [
    ⟨some 19, .load 25 (.tmp 5), none⟩,
    ⟨some 20, .load 25 (.tmp 8), none⟩,
    ⟨some 21, .call ⟨(.value (.func 49)), #[(.tmp 19), (.tmp 20)], #[25, 25]⟩, none⟩,
    ⟨some 22, .load 25 (.tmp 7), none⟩,
    ⟨some 23, .load 25 (.tmp 6), none⟩,
    ⟨some 24, .call ⟨(.value (.func 49)), #[(.tmp 22), (.tmp 23)], #[25, 25]⟩, none⟩,
    ⟨some 25, .call ⟨(.value (.func 51)), #[(.tmp 21), (.tmp 24)], #[25, 25]⟩, none⟩,
    ⟨some 26, .fieldAddr 25 (.tmp 6) 1, none⟩,
    ⟨some 27, .load 23 (.tmp 26), none⟩,
    ⟨some 28, .fieldAddr 25 (.tmp 8) 1, none⟩,
    ⟨some 29, .load 23 (.tmp 28), none⟩,
    ⟨some 30, .call ⟨(.value (.func 50)), #[(.tmp 27), (.tmp 29)], #[23, 23]⟩, none⟩,
    ⟨some 31, .call ⟨(.value (.func 47)), #[(.tmp 25), (.tmp 30)], #[25, 23]⟩, none⟩,
    ⟨none, .store 27 (.tmp 4) (.tmp 31), none⟩])
  .ret))))⟩
theorem c16 : fcomp Tryd.prog 16 = ⟨b16.n, b16.np, b16.res, b16.body.bare⟩ := by kernel_rfl
theorem k16 : fok Tryd.prog 16 = true := by kernel_rfl
theorem rat_Sub (n : Bool) (m d : List Int) (n' : Bool) (m' d' : List Int) (hm : Lim m) (hd : Lim d) (hm' : Lim m') (hd' : Lim d') (lm : m.length < 68719476736) (ld : d.length < 68719476736) (lm' : m'.length < 68719476736) (ld' : d'.length < 68719476736) :
    AFun Tryd.prog 16 [.agg [.lit (.bool n), natD m, natD d], .agg [.lit (.bool n'), natD m', natD d']] [.agg (ratC (rv n m d - rv n' m' d'))] := by
  refine afun_intro mo_ _ _ c16 k16 _ _ rfl (by decide) ?_
  unfold b16
  rw [← rv_parts n m d, ← rv_parts n' m' d', mk_sub _ _ (pD_pos d) (pD_pos d')]
  have k1 := pM_len m d
  have k2 := pM_len m' d'
  have k3 := pD_len hd
  have k4 := pD_len hd'
  have k5 := zl_iv (n := pN n d) (pM_lim hm d)
  have k6 := zl_iv (n := pN n' d') (pM_lim hm' d')
  have k7 := zl_mul (iv (pN n d) (pM m d)) (pD d' : Int)
  have k8 := zl_mul (iv (pN n' d') (pM m' d')) (pD d : Int)
  have k9 := zl_nat (pD d)
  have k10 := zl_nat (pD d')
  have k11 := zl_mul (pD d : Int) (pD d' : Int)
  rw [← Int.natCast_mul] at k11
  have k12 := zl_nat (pD d * pD d')
  generalize hX : iv (pN n d) (pM m d) * (pD d' : Int) = X at *
  generalize hY : iv (pN n' d') (pM m' d') * (pD d : Int) = Y at *
  have k13 := zl_sub X Y
  simp (maxSteps:=1000000) (disch:=first | omega | (simp only [LL];omega)) only [W,V,TY,CC,reduceIte,Nat.reduceEqDiff,Nat.reduceAdd,Nat.reduceLeDiff,Nat.reduceLT,Int.reduceLE,Int.reduceLT,Int.reduceAdd,Int.reduceSub,Int.reduceToNat,Nat.reduceMul]
  refine a_call _ _ (rat_parts n m d hm hd (by omega) (by omega)) (by simp (maxSteps:=1000000) (disch:=first | omega | (simp only [LL];omega)) only [W,V,TY,CC,reduceIte,Nat.reduceEqDiff,Nat.reduceAdd,Nat.reduceLeDiff,Nat.reduceLT,Int.reduceLE,Int.reduceLT,Int.reduceAdd,Int.reduceSub,Int.reduceToNat,Nat.reduceMul]) ?_
  simp (maxSteps:=1000000) (disch:=first | omega | (simp only [LL];omega)) only [W,V,TY,CC,reduceIte,Nat.reduceEqDiff,Nat.reduceAdd,Nat.reduceLeDiff,Nat.reduceLT,Int.reduceLE,Int.reduceLT,Int.reduceAdd,Int.reduceSub,Int.reduceToNat,Nat.reduceMul,intC_nat]
  refine a_call _ _ (rat_parts n' m' d' hm' hd' (by omega) (by omega)) (by simp (maxSteps:=1000000) (disch:=first | omega | (simp only [LL];omega)) only [W,V,TY,CC,reduceIte,Nat.reduceEqDiff,Nat.reduceAdd,Nat.reduceLeDiff,Nat.reduceLT,Int.reduceLE,Int.reduceLT,Int.reduceAdd,Int.reduceSub,Int.reduceToNat,Nat.reduceMul]) ?_
  simp (maxSteps:=1000000) (disch:=first | omega | (simp only [LL];omega)) only [W,V,TY,CC,reduceIte,Nat.reduceEqDiff,Nat.reduceAdd,Nat.reduceLeDiff,Nat.reduceLT,Int.reduceLE,Int.reduceLT,Int.reduceAdd,Int.reduceSub,Int.reduceToNat,Nat.reduceMul,intC_nat]
  refine a_call _ _ (int_Mul (pN n d) false (pM m d) (nl (pD d')) (pM_lim hm d) (nl_lim _) (by omega) (by omega)) (by simp (maxSteps:=1000000) (disch:=first | omega | (simp only [LL];omega)) only [W,V,TY,CC,reduceIte,Nat.reduceEqDiff,Nat.reduceAdd,Nat.reduceLeDiff,Nat.reduceLT,Int.reduceLE,Int.reduceLT,Int.reduceAdd,Int.reduceSub,Int.reduceToNat,Nat.reduceMul]) ?_
  rw [iv_nat, hX]
  simp (maxSteps:=1000000) (disch:=first | omega | (simp only [LL];omega)) only [W,V,TY,CC,reduceIte,Nat.reduceEqDiff,Nat.reduceAdd,Nat.reduceLeDiff,Nat.reduceLT,Int.reduceLE,Int.reduceLT,Int.reduceAdd,Int.reduceSub,Int.reduceToNat,Nat.reduceMul,intC]
  refine a_call _ _ (int_Mul (pN n' d') false (pM m' d') (nl (pD d)) (pM_lim hm' d') (nl_lim _) (by omega) (by omega)) (by simp (maxSteps:=1000000) (disch:=first | omega | (simp only [LL];omega)) only [W,V,TY,CC,reduceIte,Nat.reduceEqDiff,Nat.reduceAdd,Nat.reduceLeDiff,Nat.reduceLT,Int.reduceLE,Int.reduceLT,Int.reduceAdd,Int.reduceSub,Int.reduceToNat,Nat.reduceMul]) ?_
  rw [iv_nat, hY]
  simp (maxSteps:=1000000) (disch:=first | omega | (simp only [LL];omega)) only [W,V,TY,CC,reduceIte,Nat.reduceEqDiff,Nat.reduceAdd,Nat.reduceLeDiff,Nat.reduceLT,Int.reduceLE,Int.reduceLT,Int.reduceAdd,Int.reduceSub,Int.reduceToNat,Nat.reduceMul,intC]
  refine a_call _ _ (int_Sub (decide (X < 0)) (decide (Y < 0)) (nl X.natAbs) (nl Y.natAbs) (nl_lim _) (nl_lim _) (show zl X < _ by omega) (show zl Y < _ by omega)) (by simp (maxSteps:=1000000) (disch:=first | omega | (simp only [LL];omega)) only [W,V,TY,CC,reduceIte,Nat.reduceEqDiff,Nat.reduceAdd,Nat.reduceLeDiff,Nat.reduceLT,Int.reduceLE,Int.reduceLT,Int.reduceAdd,Int.reduceSub,Int.reduceToNat,Nat.reduceMul]) ?_
  rw [iv_nl, iv_nl]
  simp (maxSteps:=1000000) (disch:=first | omega | (simp only [LL];omega)) only [W,V,TY,CC,reduceIte,Nat.reduceEqDiff,Nat.reduceAdd,Nat.reduceLeDiff,Nat.reduceLT,Int.reduceLE,Int.reduceLT,Int.reduceAdd,Int.reduceSub,Int.reduceToNat,Nat.reduceMul,intC]
  refine a_call _ _ (nat_Mul (nl (pD d)) (nl (pD d')) (nl_lim _) (nl_lim _) (by omega) (by omega)) (by simp (maxSteps:=1000000) (disch:=first | omega | (simp only [LL];omega)) only [W,V,TY,CC,reduceIte,Nat.reduceEqDiff,Nat.reduceAdd,Nat.reduceLeDiff,Nat.reduceLT,Int.reduceLE,Int.reduceLT,Int.reduceAdd,Int.reduceSub,Int.reduceToNat,Nat.reduceMul]) ?_
  rw [nv_nl, nv_nl]
  simp (maxSteps:=1000000) (disch:=first | omega | (simp only [LL];omega)) only [W,V,TY,CC,reduceIte,Nat.reduceEqDiff,Nat.reduceAdd,Nat.reduceLeDiff,Nat.reduceLT,Int.reduceLE,Int.reduceLT,Int.reduceAdd,Int.reduceSub,Int.reduceToNat,Nat.reduceMul]
  refine a_call _ _ (rat_lowest (decide (X - Y < 0)) (nl (X - Y).natAbs) (nl (pD d * pD d')) (nl_lim _) (nl_lim _) (show zl (X - Y) < _ by omega) (by omega)) (by simp (maxSteps:=1000000) (disch:=first | omega | (simp only [LL];omega)) only [W,V,TY,CC,reduceIte,Nat.reduceEqDiff,Nat.reduceAdd,Nat.reduceLeDiff,Nat.reduceLT,Int.reduceLE,Int.reduceLT,Int.reduceAdd,Int.reduceSub,Int.reduceToNat,Nat.reduceMul]) ?_
  unfold rv
  rw [iv_nl, nv_nl]
  simp (maxSteps:=1000000) (disch:=first | omega | (simp only [LL];omega)) only [W,V,TY,CC,reduceIte,Nat.reduceEqDiff,Nat.reduceAdd,Nat.reduceLeDiff,Nat.reduceLT,Int.reduceLE,Int.reduceLT,Int.reduceAdd,Int.reduceSub,Int.reduceToNat,Nat.reduceMul,ratC]
  refine f_ret _ _ _ ?_
  simp (maxSteps:=1000000) (disch:=first | omega | (simp only [LL];omega)) only [W,V,TY,CC,reduceIte,Nat.reduceEqDiff,Nat.reduceAdd,Nat.reduceLeDiff,Nat.reduceLT,Int.reduceLE,Int.reduceLT,Int.reduceAdd,Int.reduceSub,Int.reduceToNat,Nat.reduceMul,ratC]
/-- examboard/ratio.Mul -/
def b18 : AF := ⟨28, 2, [.cell 4 27],
  (.seq (.reg [
    ⟨some 2, .box 27 (.tmp 0), none⟩,
    ⟨some 3, .box 27 (.tmp 1), none⟩,
    ⟨some 4, .alloc 27, none⟩])
  (.seq (.reg [
    ⟨some 10, .load 27 (.tmp 2), none⟩,
    ⟨some 11, .call ⟨(.value (.func 46)), #[(.tmp 10)], #[27]⟩, none⟩,
    ⟨some 9, .move (.tmp 11), none⟩,
    ⟨some 12, .extract (.tmp 9) 0, none⟩,
    ⟨some 13, .extract (.tmp 9) 1, none⟩,
    ⟨some 5, .alloc 25, none⟩,
    ⟨some 6, .alloc 25, none⟩,
    ⟨none, .store 25 (.tmp 5) (.tmp 12), none⟩,
    ⟨none, .store 25 (.tmp 6) (.tmp 13), none⟩])
  (.seq (.reg [
    ⟨some 15, .load 27 (.tmp 3), none⟩,
    ⟨some 16, .call ⟨(.value (.func 46)), #[(.tmp 15)], #[27]⟩, none⟩,
    ⟨some 14, .move (.tmp 16), none⟩,
    ⟨some 17, .extract (.tmp 14) 0, none⟩,
    ⟨some 18, .extract (.tmp 14) 1, none⟩,
    ⟨some 7, .alloc 25, none⟩,
    ⟨some 8, .alloc 25, none⟩,
    ⟨none, .store 25 (.tmp 7) (.tmp 17), none⟩,
    ⟨none, .store 25 (.tmp 8) (.tmp 18), none⟩])
  (.seq (.dreg [
    ⟨some 19, .load 25 (.tmp 5), none⟩,
    ⟨some 20, .load 25 (.tmp 7), none⟩,
    ⟨some 21, .call ⟨(.value (.func 49)), #[(.tmp 19), (.tmp 20)], #[25, 25]⟩, none⟩,
    ⟨some 22, .fieldAddr 25 (.tmp 6) 1, none⟩,
    ⟨some 23, .load 23 (.tmp 22), none⟩,
    ⟨some 24, .fieldAddr 25 (.tmp 8) 1, none⟩,
    ⟨some 25, .load 23 (.tmp 24), none⟩,
    ⟨some 26, .call ⟨(.value (.func 50)), #[(.tmp 23), (.tmp 25)], #[23, 23]⟩, none⟩,
    ⟨some 27, .call ⟨(.value (.func 47)), #[(.tmp 21), (.tmp 26)], #[25, 23]⟩, none⟩,
    ⟨none, .store 27 (.tmp 4) (.tmp 27), none⟩])
  .ret))))⟩
theorem c18 : fcomp Tryd.prog 18 = ⟨b18.n, b18.np, b18.res, b18.body.bare⟩ := by kernel_rfl
theorem k18 : fok Tryd.prog 18 = true := by kernel_rfl
theorem rat_Mul (n : Bool) (m d : List Int) (n' : Bool) (m' d' : List Int) (hm : Lim m) (hd : Lim d) (hm' : Lim m') (hd' : Lim d') (lm : m.length < 68719476736) (ld : d.length < 68719476736) (lm' : m'.length < 68719476736) (ld' : d'.length < 68719476736) :
    AFun Tryd.prog 18 [.agg [.lit (.bool n), natD m, natD d], .agg [.lit (.bool n'), natD m', natD d']] [.agg (ratC (rv n m d * rv n' m' d'))] := by
  refine afun_intro mo_ _ _ c18 k18 _ _ rfl (by decide) ?_
  unfold b18
  rw [← rv_parts n m d, ← rv_parts n' m' d', Rat.mkRat_mul_mkRat]
  have k1 := pM_len m d
  have k2 := pM_len m' d'
  have k3 := pD_len hd
  have k4 := pD_len hd'
  have k5 := zl_iv (n := pN n d) (pM_lim hm d)
  have k6 := zl_iv (n := pN n' d') (pM_lim hm' d')
  have k7 := zl_mul (iv (pN n d) (pM m d)) (iv (pN n' d') (pM m' d'))
  have k9 := zl_nat (pD d)
  have k10 := zl_nat (pD d')
  have k11 := zl_mul (pD d : Int) (pD d' : Int)
  rw [← Int.natCast_mul] at k11
  have k12 := zl_nat (pD d * pD d')
  generalize hX : iv (pN n d) (pM m d) * iv (pN n' d') (pM m' d') = X at *
  simp (maxSteps:=1000000) (disch:=first | omega | (simp only [LL];omega)) only [W,V,TY,CC,reduceIte,Nat.reduceEqDiff,Nat.reduceAdd,Nat.reduceLeDiff,Nat.reduceLT,Int.reduceLE,Int.reduceLT,Int.reduceAdd,Int.reduceSub,Int.reduceToNat,Nat.reduceMul]
  refine a_call _ _ (rat_parts n m d hm hd (by omega) (by omega)) (by simp (maxSteps:=1000000) (disch:=first | omega | (simp only [LL];omega)) only [W,V,TY,CC,reduceIte,Nat.reduceEqDiff,Nat.reduceAdd,Nat.reduceLeDiff,Nat.reduceLT,Int.reduceLE,Int.reduceLT,Int.reduceAdd,Int.reduceSub,Int.reduceToNat,Nat.reduceMul]) ?_
  simp (maxSteps:=1000000) (disch:=first | omega | (simp only [LL];omega)) only [W,V,TY,CC,reduceIte,Nat.reduceEqDiff,Nat.reduceAdd,Nat.reduceLeDiff,Nat.reduceLT,Int.reduceLE,Int.reduceLT,Int.reduceAdd,Int.reduceSub,Int.reduceToNat,Nat.reduceMul,intC_nat]
  refine a_call _ _ (rat_parts n' m' d' hm' hd' (by omega) (by omega)) (by simp (maxSteps:=1000000) (disch:=first | omega | (simp only [LL];omega)) only [W,V,TY,CC,reduceIte,Nat.reduceEqDiff,Nat.reduceAdd,Nat.reduceLeDiff,Nat.reduceLT,Int.reduceLE,Int.reduceLT,Int.reduceAdd,Int.reduceSub,Int.reduceToNat,Nat.reduceMul]) ?_
  simp (maxSteps:=1000000) (disch:=first | omega | (simp only [LL];omega)) only [W,V,TY,CC,reduceIte,Nat.reduceEqDiff,Nat.reduceAdd,Nat.reduceLeDiff,Nat.reduceLT,Int.reduceLE,Int.reduceLT,Int.reduceAdd,Int.reduceSub,Int.reduceToNat,Nat.reduceMul,intC_nat]
  refine a_call _ _ (int_Mul (pN n d) (pN n' d') (pM m d) (pM m' d') (pM_lim hm d) (pM_lim hm' d') (by omega) (by omega)) (by simp (maxSteps:=1000000) (disch:=first | omega | (simp only [LL];omega)) only [W,V,TY,CC,reduceIte,Nat.reduceEqDiff,Nat.reduceAdd,Nat.reduceLeDiff,Nat.reduceLT,Int.reduceLE,Int.reduceLT,Int.reduceAdd,Int.reduceSub,Int.reduceToNat,Nat.reduceMul]) ?_
  rw [hX]
  simp (maxSteps:=1000000) (disch:=first | omega | (simp only [LL];omega)) only [W,V,TY,CC,reduceIte,Nat.reduceEqDiff,Nat.reduceAdd,Nat.reduceLeDiff,Nat.reduceLT,Int.reduceLE,Int.reduceLT,Int.reduceAdd,Int.reduceSub,Int.reduceToNat,Nat.reduceMul,intC]
  refine a_call _ _ (nat_Mul (nl (pD d)) (nl (pD d')) (nl_lim _) (nl_lim _) (by omega) (by omega)) (by simp (maxSteps:=1000000) (disch:=first | omega | (simp only [LL];omega)) only [W,V,TY,CC,reduceIte,Nat.reduceEqDiff,Nat.reduceAdd,Nat.reduceLeDiff,Nat.reduceLT,Int.reduceLE,Int.reduceLT,Int.reduceAdd,Int.reduceSub,Int.reduceToNat,Nat.reduceMul]) ?_
  rw [nv_nl, nv_nl]
  simp (maxSteps:=1000000) (disch:=first | omega | (simp only [LL];omega)) only [W,V,TY,CC,reduceIte,Nat.reduceEqDiff,Nat.reduceAdd,Nat.reduceLeDiff,Nat.reduceLT,Int.reduceLE,Int.reduceLT,Int.reduceAdd,Int.reduceSub,Int.reduceToNat,Nat.reduceMul]
  refine a_call _ _ (rat_lowest (decide (X < 0)) (nl X.natAbs) (nl (pD d * pD d')) (nl_lim _) (nl_lim _) (show zl X < _ by omega) (by omega)) (by simp (maxSteps:=1000000) (disch:=first | omega | (simp only [LL];omega)) only [W,V,TY,CC,reduceIte,Nat.reduceEqDiff,Nat.reduceAdd,Nat.reduceLeDiff,Nat.reduceLT,Int.reduceLE,Int.reduceLT,Int.reduceAdd,Int.reduceSub,Int.reduceToNat,Nat.reduceMul]) ?_
  unfold rv
  rw [iv_nl, nv_nl]
  simp (maxSteps:=1000000) (disch:=first | omega | (simp only [LL];omega)) only [W,V,TY,CC,reduceIte,Nat.reduceEqDiff,Nat.reduceAdd,Nat.reduceLeDiff,Nat.reduceLT,Int.reduceLE,Int.reduceLT,Int.reduceAdd,Int.reduceSub,Int.reduceToNat,Nat.reduceMul,ratC]
  refine f_ret _ _ _ ?_
  simp (maxSteps:=1000000) (disch:=first | omega | (simp only [LL];omega)) only [W,V,TY,CC,reduceIte,Nat.reduceEqDiff,Nat.reduceAdd,Nat.reduceLeDiff,Nat.reduceLT,Int.reduceLE,Int.reduceLT,Int.reduceAdd,Int.reduceSub,Int.reduceToNat,Nat.reduceMul,ratC]
end Go.Proofs.YtljmgdepldpmdaaDoor.E

set_option linter.unusedSimpArgs false
set_option linter.unusedVariables false
set_option maxHeartbeats 2000000
namespace Go.Proofs.YtljmgdepldpmdaaDoor.E
open Go.RowKit Limbs
end Go.Proofs.YtljmgdepldpmdaaDoor.E

set_option linter.unusedSimpArgs false
set_option linter.unusedVariables false
set_option maxHeartbeats 2000000
namespace Go.Proofs.YtljmgdepldpmdaaDoor.E
open Go.RowKit Limbs
theorem divInt_abs (x y : Int) (hy : y ≠ 0) : Rat.divInt x y = mkRat (if y < 0 then -x else x) y.natAbs := by
  rw [← Rat.divInt_ofNat]
  by_cases h : y < 0
  · rw [if_pos h]
    have e : ((y.natAbs : Nat) : Int) = -y := by omega
    rw [e, Rat.divInt_neg', Int.neg_neg]
  · rw [if_neg h]
    have e : ((y.natAbs : Nat) : Int) = y := by omega
    rw [e]
theorem rv_mk (x : Int) (k : Nat) : rv (decide (x < 0)) (nl x.natAbs) (nl k) = mkRat x k := by unfold rv; rw [iv_nl, nv_nl]
theorem mk_neg (a : Int) {d : Nat} (hd : 0 < d) : mkRat a d < 0 ↔ a < 0 := by
  rw [← Rat.not_le, mk_nn a hd]
  omega
theorem mk_add (a b : Int) {d e : Nat} (hd : 0 < d) (he : 0 < e) : mkRat a d + mkRat b e = mkRat (a * e + b * d) (d * e) := by
  rw [← Rat.divInt_ofNat, ← Rat.divInt_ofNat, Rat.divInt_add_divInt _ _ (by omega) (by omega), ← Int.natCast_mul, Rat.divInt_ofNat]
/-- the size of a rational number -/
theorem rv_size (n : Bool) {m d : List Int} (hm : Lim m) (hd : Lim d) : zl (rv n m d).num ≤ m.length ∧ (nl (rv n m d).den).length ≤ d.length + 1 := by
  by_cases h : nv d = 0
  · rw [rv_zero n m d (.inl h), Rat.zero_num, Rat.zero_den]
    refine ⟨?_, Nat.le_trans (nl_len (m := 1) (by decide)) (by omega)⟩
    unfold zl
    rw [show (0 : Int).natAbs = 0 from rfl, nl_zero]
    simp
  · obtain ⟨e1, e2⟩ := low_num n m d h
    rw [e1, e2]
    refine ⟨?_, Nat.le_succ_of_le (nl_len_le hd (Nat.div_le_self _ _))⟩
    unfold zl
    rw [iv_abs, nv_nl]
    exact nl_len_le hm (Nat.div_le_self _ _)
end Go.Proofs.YtljmgdepldpmdaaDoor.E
