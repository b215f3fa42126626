/- An abstract interpreter over data, and contracts of the program's functions, part 4; no condition. -/
import Derived.Test.YtljmgdepldpmdaaGreatDoorChoc
set_option linter.unusedSimpArgs false
set_option linter.unusedVariables false
set_option maxHeartbeats 2000000
namespace Go.Proofs.YtljmgdepldpmdaaGreatDoor.E
open Go.RowKit Limbs
theorem us_cut0 (l : List Int) (n : Nat) : (natC l).take n = natC (l.take n) := by simp only [natC_map, List.map_take]
theorem kn_start {x y : List Int} (lx : Lim x) (ly : Lim y) (ny : Nrm y) {n2 t : Nat} (hn : y.length = n2 + 2) (ht : y.getD (n2 + 1) 0 = (t : Int)) (hxy : n2 + 2 ≤ x.length) :
    ∃ k, k < 32 ∧ 32 - bl t = k ∧ nv y * 2 ^ k < bn (n2 + 2) ∧ bn (n2 + 2) ≤ 2 * (nv y * 2 ^ k) ∧ nv x * 2 ^ k < nv y * 2 ^ k * bn (x.length - (n2 + 2) + 1) ∧ nv x * 2 ^ k < bn (x.length + 1) ∧ nv y ≠ 0 := by
  have hne : y ≠ [] := by intro e; rw [e] at hn; simp at hn
  obtain ⟨hb, ht0⟩ := bl_nv ly ny hne
  rw [hn, show n2 + 2 - 1 = n2 + 1 by omega, ht, Int.toNat_natCast] at hb
  rw [hn, show n2 + 2 - 1 = n2 + 1 by omega, ht] at ht0
  have htl := ly.getD (n2 + 1)
  rw [ht] at htl
  have b1 := bl_le (n := t) (m := 32) (by omega)
  have b0 : bl t ≠ 0 := fun e => ht0 (by rw [bl_eq_zero.1 e]; rfl)
  have hy0 : nv y ≠ 0 := fun e => by rw [e, bl_zero] at hb; omega
  have h1 := bl_lt (nv y)
  have h2 := bl_ge hy0
  have hx := nv_lt_pow lx
  obtain ⟨k, hk⟩ : ∃ k, 32 - bl t = k := ⟨_, rfl⟩
  have p : 0 < 2 ^ k := Nat.two_pow_pos k
  have e1 : nv y * 2 ^ k < 2 ^ (32 * (n2 + 2)) := by
    have : nv y * 2 ^ k < 2 ^ bl (nv y) * 2 ^ k := Nat.mul_lt_mul_of_pos_right h1 p
    rw [← Nat.pow_add] at this
    exact Nat.lt_of_lt_of_le this (Nat.pow_le_pow_right (by omega) (by omega))
  have e2 : 2 ^ (32 * (n2 + 2)) ≤ 2 * (nv y * 2 ^ k) := by
    have : 2 ^ (bl (nv y) - 1) * 2 ^ k ≤ nv y * 2 ^ k := Nat.mul_le_mul_right _ h2
    rw [← Nat.pow_add] at this
    have h5 : 32 * (n2 + 2) = bl (nv y) - 1 + k + 1 := by omega
    rw [h5, Nat.pow_succ]
    omega
  have hk31 : k ≤ 31 := by omega
  have e3 : nv x * 2 ^ k * 2 < 2 ^ (32 * x.length) * 2 ^ 32 := by
    have h6 : 2 ^ k ≤ 2 ^ 31 := Nat.pow_le_pow_right (by omega) hk31
    have h7 : nv x * 2 ^ k ≤ nv x * 2 ^ 31 := Nat.mul_le_mul_left _ h6
    omega
  refine ⟨k, by omega, hk, by rw [bn_two]; exact e1, by rw [bn_two]; exact e2, ?_, ?_, hy0⟩
  · have h8 : 2 ^ (32 * (n2 + 2)) * bn (x.length - (n2 + 2) + 1) ≤ 2 * (nv y * 2 ^ k) * bn (x.length - (n2 + 2) + 1) := Nat.mul_le_mul_right _ e2
    rw [← bn_two, ← bn_add, show n2 + 2 + (x.length - (n2 + 2) + 1) = x.length + 1 by omega, bn_succ, bn_two, Nat.mul_assoc 2] at h8
    omega
  · rw [bn_succ, bn_two]
    omega
def b116_9 : AC :=
  (.seq (.reg [
    ⟨some 49, .move (.tmp 8), none⟩,
    ⟨some 50, .call ⟨(.builtin .len), #[(.tmp 49)], #[23]⟩, none⟩,
    ⟨some 11, .assign (.tmp 50), none⟩])
  (.seq (.reg [
    ⟨some 51, .move (.tmp 8), none⟩,
    ⟨some 52, .move (.tmp 11), none⟩,
    ⟨some 53, .binOp .sub 3 (.tmp 52) (.const (.int .i64 1)) 3, none⟩,
    ⟨some 54, .indexAddr 23 (.tmp 51) (.tmp 53), none⟩,
    ⟨some 55, .load 103 (.tmp 54), none⟩,
    ⟨some 56, .call ⟨(.value (.func 137)), #[(.tmp 55)], #[103]⟩, none⟩,
    ⟨some 57, .convert 3 113 (.tmp 56), none⟩,
    ⟨some 12, .assign (.tmp 57), none⟩])
  (.seq (.reg [
    ⟨some 58, .move (.tmp 7), none⟩,
    ⟨some 59, .move (.tmp 12), none⟩,
    ⟨some 60, .call ⟨(.value (.func 138)), #[(.tmp 58), (.tmp 59)], #[23, 113]⟩, none⟩,
    ⟨some 13, .assign (.tmp 60), none⟩])
  (.seq (.reg [
    ⟨some 61, .move (.tmp 8), none⟩,
    ⟨some 62, .move (.tmp 12), none⟩,
    ⟨some 63, .call ⟨(.value (.func 138)), #[(.tmp 61), (.tmp 62)], #[23, 113]⟩, none⟩,
    ⟨some 64, .move (.tmp 11), none⟩,
    ⟨some 65, .slice 23 (.tmp 63) none (some (.tmp 64)) none, none⟩,
    ⟨some 14, .assign (.tmp 65), none⟩])
  (.seq (.reg [
    ⟨some 66, .move (.tmp 7), none⟩,
    ⟨some 67, .call ⟨(.builtin .len), #[(.tmp 66)], #[23]⟩, none⟩,
    ⟨some 68, .move (.tmp 11), none⟩,
    ⟨some 69, .binOp .sub 3 (.tmp 67) (.tmp 68) 3, none⟩,
    ⟨some 70, .binOp .add 3 (.tmp 69) (.const (.int .i64 1)) 3, none⟩,
    ⟨some 71, .makeSlice 23 (.tmp 70) (.tmp 70), none⟩,
    ⟨some 15, .assign (.tmp 71), none⟩])
  (.seq (.seq (.reg [
    ⟨some 72, .move (.tmp 7), none⟩,
    ⟨some 73, .call ⟨(.builtin .len), #[(.tmp 72)], #[23]⟩, none⟩,
    ⟨some 74, .move (.tmp 11), none⟩,
    ⟨some 75, .binOp .sub 3 (.tmp 73) (.tmp 74) 3, none⟩,
    ⟨some 16, .assign (.tmp 75), none⟩])
  (.block 1 (.loop (.seq (.seq (.reg [
    ⟨some 76, .move (.tmp 16), none⟩,
    ⟨some 77, .binOp .geq 3 (.tmp 76) (.const (.int .i64 0)) 3, none⟩])
  (.cond (.tmp 77)
    .skip
    (.exit 1)))
  (.seq (.block 2 (.seq (.dreg [
    ⟨some 80, .move (.tmp 13), none⟩,
    ⟨some 81, .move (.tmp 16), none⟩,
    ⟨some 82, .move (.tmp 11), none⟩,
    ⟨some 83, .binOp .add 3 (.tmp 81) (.tmp 82) 3, none⟩,
    ⟨some 84, .indexAddr 23 (.tmp 80) (.tmp 83), none⟩,
    ⟨some 85, .load 103 (.tmp 84), none⟩,
    ⟨some 86, .move (.tmp 13), none⟩,
    ⟨some 87, .move (.tmp 16), none⟩,
    ⟨some 88, .move (.tmp 11), none⟩,
    ⟨some 89, .binOp .add 3 (.tmp 87) (.tmp 88) 3, none⟩,
    ⟨some 90, .binOp .sub 3 (.tmp 89) (.const (.int .i64 1)) 3, none⟩,
    ⟨some 91, .indexAddr 23 (.tmp 86) (.tmp 90), none⟩,
    ⟨some 92, .load 103 (.tmp 91), none⟩,
    ⟨some 93, .move (.tmp 13), none⟩,
    ⟨some 94, .move (.tmp 16), none⟩,
    ⟨some 95, .move (.tmp 11), none⟩,
    ⟨some 96, .binOp .add 3 (.tmp 94) (.tmp 95) 3, none⟩,
    ⟨some 97, .binOp .sub 3 (.tmp 96) (.const (.int .i64 2)) 3, none⟩,
    ⟨some 98, .indexAddr 23 (.tmp 93) (.tmp 97), none⟩,
    ⟨some 99, .load 103 (.tmp 98), none⟩,
    ⟨some 100, .move (.tmp 14), none⟩,
    ⟨some 101, .move (.tmp 11), none⟩,
    ⟨some 102, .binOp .sub 3 (.tmp 101) (.const (.int .i64 1)) 3, none⟩,
    ⟨some 103, .indexAddr 23 (.tmp 100) (.tmp 102), none⟩,
    ⟨some 104, .load 103 (.tmp 103), none⟩,
    ⟨some 105, .move (.tmp 14), none⟩,
    ⟨some 106, .move (.tmp 11), none⟩,
    ⟨some 107, .binOp .sub 3 (.tmp 106) (.const (.int .i64 2)) 3, none⟩,
    ⟨some 108, .indexAddr 23 (.tmp 105) (.tmp 107), none⟩,
    ⟨some 109, .load 103 (.tmp 108), none⟩,
    ⟨some 110, .call ⟨(.value (.func 139)), #[(.tmp 85), (.tmp 92), (.tmp 99), (.tmp 104), (.tmp 109)], #[103, 103, 103, 103, 103]⟩, none⟩,
    ⟨some 17, .assign (.tmp 110), none⟩])
  (.seq (.seq (.reg [
    ⟨some 111, .move (.tmp 13), none⟩,
    ⟨some 112, .move (.tmp 16), none⟩,
    ⟨some 113, .move (.tmp 16), none⟩,
    ⟨some 114, .move (.tmp 11), none⟩,
    ⟨some 115, .binOp .add 3 (.tmp 113) (.tmp 114) 3, none⟩,
    ⟨some 116, .binOp .add 3 (.tmp 115) (.const (.int .i64 1)) 3, none⟩,
    ⟨some 117, .slice 23 (.tmp 111) (some (.tmp 112)) (some (.tmp 116)) none, none⟩,
    ⟨some 118, .move (.tmp 14), none⟩,
    ⟨some 119, .move (.tmp 17), none⟩,
    ⟨some 120, .call ⟨(.value (.func 140)), #[(.tmp 117), (.tmp 118), (.tmp 119)], #[23, 23, 97]⟩, none⟩])
  (.cond (.tmp 120)
    (.seq (.reg [
      ⟨some 121, .move (.tmp 17), none⟩,
      ⟨some 122, .binOp .sub 97 (.tmp 121) (.const (.int .u64 1)) 97, none⟩,
      ⟨some 17, .assign (.tmp 122), none⟩])
    (.reg [
      ⟨some 123, .move (.tmp 13), none⟩,
      ⟨some 124, .move (.tmp 16), none⟩,
      ⟨some 125, .move (.tmp 16), none⟩,
      ⟨some 126, .move (.tmp 11), none⟩,
      ⟨some 127, .binOp .add 3 (.tmp 125) (.tmp 126) 3, none⟩,
      ⟨some 128, .binOp .add 3 (.tmp 127) (.const (.int .i64 1)) 3, none⟩,
      ⟨some 129, .slice 23 (.tmp 123) (some (.tmp 124)) (some (.tmp 128)) none, none⟩,
      ⟨some 130, .move (.tmp 14), none⟩,
      ⟨some 131, .call ⟨(.value (.func 141)), #[(.tmp 129), (.tmp 130)], #[23, 23]⟩, none⟩]))
    .skip))
  (.reg [
    ⟨some 132, .move (.tmp 15), none⟩,
    ⟨some 133, .move (.tmp 16), none⟩,
    ⟨some 134, .move (.tmp 17), none⟩,
    ⟨some 135, .convert 97 103 (.tmp 134), none⟩,
    ⟨some 136, .indexAddr 23 (.tmp 132) (.tmp 133), none⟩,
    ⟨none, .store 103 (.tmp 136) (.tmp 135), none⟩]))))
  (.reg [
    ⟨some 78, .move (.tmp 16), none⟩,
    ⟨some 79, .binOp .sub 3 (.tmp 78) (.const (.int .i64 1)) 3, none⟩,
    ⟨some 16, .assign (.tmp 79), none⟩]))))))
  (.seq (.seq (.gh [.frz 15, .frzv 13])
  (.dreg [
    ⟨some 137, .move (.tmp 15), none⟩,
    ⟨some 138, .call ⟨(.value (.func 121)), #[(.tmp 137)], #[23]⟩, none⟩,
    ⟨some 139, .move (.tmp 13), none⟩,
    ⟨some 140, .move (.tmp 11), none⟩,
    ⟨some 141, .slice 23 (.tmp 139) none (some (.tmp 140)) none, none⟩,
    ⟨some 142, .move (.tmp 12), none⟩,
    ⟨some 143, .call ⟨(.value (.func 142)), #[(.tmp 141), (.tmp 142)], #[23, 113]⟩, none⟩,
    ⟨some 4, .assign (.tmp 138), none⟩,
    ⟨some 5, .assign (.tmp 143), none⟩,
    ⟨some 6, .assign (.const (.bool true)), none⟩]))
  .ret)))))))
/-- examboard/nat.DivMod -/
def b116 : AF := ⟨144, 2, [.tmp 4, .tmp 5, .tmp 6],
  (.seq (.reg [
    ⟨some 4, .assign (.const (.slice none 0 0)), none⟩,
    ⟨some 5, .assign (.const (.slice none 0 0)), none⟩,
    ⟨some 6, .assign (.const (.bool false)), none⟩])
  (.seq (.reg [
    ⟨some 18, .move (.tmp 0), none⟩,
    ⟨some 19, .call ⟨(.value (.func 121)), #[(.tmp 18)], #[23]⟩, none⟩,
    ⟨some 20, .move (.tmp 1), none⟩,
    ⟨some 21, .call ⟨(.value (.func 121)), #[(.tmp 20)], #[23]⟩, none⟩,
    ⟨some 7, .assign (.tmp 19), none⟩,
    ⟨some 8, .assign (.tmp 21), none⟩])
  (.seq (.block 0 (.seq (.reg [
    ⟨some 23, .move (.tmp 8), none⟩,
    ⟨some 24, .call ⟨(.builtin .len), #[(.tmp 23)], #[23]⟩, none⟩,
    ⟨some 25, .binOp .eql 3 (.tmp 24) (.const (.int .i64 0)) 3, none⟩,
    ⟨some 22, .assign (.tmp 25), none⟩])
  (.cond (.tmp 22)
    (.seq (.reg [
      ⟨some 4, .assign (.const (.slice none 0 0)), none⟩,
      ⟨some 5, .assign (.const (.slice none 0 0)), none⟩,
      ⟨some 6, .assign (.const (.bool false)), none⟩])
    .ret)
    (.seq (.reg [
      ⟨some 27, .move (.tmp 7), none⟩,
      ⟨some 28, .move (.tmp 8), none⟩,
      ⟨some 29, .call ⟨(.value (.func 98)), #[(.tmp 27), (.tmp 28)], #[23, 23]⟩, none⟩,
      ⟨some 30, .binOp .lss 3 (.tmp 29) (.const (.int .i64 0)) 3, none⟩,
      ⟨some 26, .assign (.tmp 30), none⟩])
    (.cond (.tmp 26)
      (.seq (.reg [
        ⟨some 31, .move (.tmp 7), none⟩,
        ⟨some 32, .call ⟨(.value (.func 131)), #[(.tmp 31)], #[23]⟩, none⟩,
        ⟨some 4, .assign (.const (.slice none 0 0)), none⟩,
        ⟨some 5, .assign (.tmp 32), none⟩,
        ⟨some 6, .assign (.const (.bool true)), none⟩])
      .ret)
      (.seq (.reg [
        ⟨some 34, .move (.tmp 8), none⟩,
        ⟨some 35, .call ⟨(.builtin .len), #[(.tmp 34)], #[23]⟩, none⟩,
        ⟨some 36, .binOp .eql 3 (.tmp 35) (.const (.int .i64 1)) 3, none⟩,
        ⟨some 33, .assign (.tmp 36), none⟩])
      (.cond (.tmp 33)
        (.seq (.reg [
          ⟨some 38, .move (.tmp 7), none⟩,
          ⟨some 39, .move (.tmp 8), none⟩,
          ⟨some 40, .indexAddr 23 (.tmp 39) (.const (.int .i64 0)), none⟩,
          ⟨some 41, .load 103 (.tmp 40), none⟩,
          ⟨some 42, .call ⟨(.value (.func 132)), #[(.tmp 38), (.tmp 41)], #[23, 103]⟩, none⟩,
          ⟨some 37, .move (.tmp 42), none⟩,
          ⟨some 43, .extract (.tmp 37) 0, none⟩,
          ⟨some 44, .extract (.tmp 37) 1, none⟩,
          ⟨some 9, .assign (.tmp 43), none⟩,
          ⟨some 10, .assign (.tmp 44), none⟩])
        (.seq (.reg [
          ⟨some 45, .move (.tmp 9), none⟩,
          ⟨some 46, .move (.tmp 10), none⟩,
          ⟨some 47, .convert 103 97 (.tmp 46), none⟩,
          ⟨some 48, .call ⟨(.value (.func 99)), #[(.tmp 47)], #[97]⟩, none⟩,
          ⟨some 4, .assign (.tmp 45), none⟩,
          ⟨some 5, .assign (.tmp 48), none⟩,
          ⟨some 6, .assign (.const (.bool true)), none⟩])
        .ret))
        .skip)))))))
  b116_9)))⟩
theorem c116 : fcomp Tryz.prog 116 = ⟨b116.n, b116.np, b116.res, b116.body.bare⟩ := by kernel_rfl
theorem k116 : fok Tryz.prog 116 = true := by kernel_rfl
set_option maxHeartbeats 8000000 in
theorem nat_DivMod_rest (x y : List Int) (lx : Lim x) (ly : Lim y) (nx : Nrm x) (ny : Nrm y) (hx : x.length < 2199023255552) (n2 : Nat) (hn : y.length = n2 + 2) (hxy : n2 + 2 ≤ x.length) (s : AS) (t7 : s.t 7 = .one (.dt (natD x))) (t8 : s.t 8 = .one (.dt (natD y))) (g60 : s.g 60 = 0) (g71 : s.g 71 = 0) (f60 : s.f (60, 0) = false) :
    awp Tryz.prog b116_9 (fend Tryz.prog [.tmp 4, .tmp 5, .tmp 6] (divR (nv x) (nv y))) s := by
  unfold b116_9
  obtain ⟨t, ht⟩ : ∃ t : Nat, y.getD (n2 + 1) 0 = (t : Int) := ⟨(y.getD (n2 + 1) 0).toNat, by have := ly.getD (n2 + 1); omega⟩
  have htl := ly.getD (n2 + 1)
  rw [ht] at htl
  obtain ⟨k, hk, hk2, hV0, hV1, hU0, hU1, hy0⟩ := kn_start lx ly ny hn ht hxy
  obtain ⟨n, hnn⟩ : ∃ n, n = n2 + 2 := ⟨_, rfl⟩
  have hni : (y.length : Int) = (n : Int) := by omega
  have hn1 : ((n : Int) - 1).toNat = n2 + 1 := by omega
  obtain ⟨M0, hM0⟩ : ∃ M0, x.length = n + M0 := ⟨x.length - n, by omega⟩
  have hMi : (x.length : Int) - (n : Int) = (M0 : Int) := by omega
  obtain ⟨M, hM⟩ : ∃ M, M = M0 + 1 := ⟨_, rfl⟩
  have hMi1 : (M0 : Int) + 1 = (M : Int) := by omega
  rw [show x.length - (n2 + 2) + 1 = M by omega] at hU0
  obtain ⟨uN, hU⟩ : ∃ uN, uN = nv x * 2 ^ k := ⟨_, rfl⟩
  obtain ⟨vN, hV⟩ : ∃ vN, vN = nv y * 2 ^ k := ⟨_, rfl⟩
  rw [← hV] at hV0 hV1 hU0
  rw [← hU] at hU0 hU1
  simp (maxSteps := 1000000) (disch := first | omega | (simp only [LL]; omega)) only [W, V, TY, CC, reduceIte, Nat.reduceEqDiff, Nat.reduceAdd, Nat.reduceLeDiff, Nat.reduceLT, Int.reduceLE, Int.reduceLT, Int.reduceAdd, Int.reduceSub, Int.reduceToNat, Nat.reduceMul, t7, t8, hni, hn1, ht]
  refine a_call _ _ (bits_LZ32 t (by omega)) (by simp (maxSteps := 1000000) (disch := first | omega | (simp only [LL]; omega)) only [W, V, TY, CC, reduceIte, Nat.reduceEqDiff, Nat.reduceAdd, Nat.reduceLeDiff, Nat.reduceLT, Int.reduceLE, Int.reduceLT, Int.reduceAdd, Int.reduceSub, Int.reduceToNat, Nat.reduceMul, t7, t8, hni, hn1, ht]) ?_
  rw [hk2]
  simp (maxSteps := 1000000) (disch := first | omega | (simp only [LL]; omega)) only [W, V, TY, CC, reduceIte, Nat.reduceEqDiff, Nat.reduceAdd, Nat.reduceLeDiff, Nat.reduceLT, Int.reduceLE, Int.reduceLT, Int.reduceAdd, Int.reduceSub, Int.reduceToNat, Nat.reduceMul, t7, t8, hni]
  refine a_ocall _ _ (nat_shiftUpO x k lx (by omega) hk) (by simp (maxSteps := 1000000) (disch := first | omega | (simp only [LL]; omega)) only [W, V, TY, CC, reduceIte, Nat.reduceEqDiff, Nat.reduceAdd, Nat.reduceLeDiff, Nat.reduceLT, Int.reduceLE, Int.reduceLT, Int.reduceAdd, Int.reduceSub, Int.reduceToNat, Nat.reduceMul, t7, t8, hni]) ?_
  rw [← hU]
  simp (maxSteps := 1000000) (disch := first | omega | (simp only [LL]; omega)) only [W, V, TY, CC, reduceIte, Nat.reduceEqDiff, Nat.reduceAdd, Nat.reduceLeDiff, Nat.reduceLT, Int.reduceLE, Int.reduceLT, Int.reduceAdd, Int.reduceSub, Int.reduceToNat, Nat.reduceMul, t7, t8, hni, lim_len]
  refine a_call _ _ (nat_shiftUp y k ly (by omega) hk) (by simp (maxSteps := 1000000) (disch := first | omega | (simp only [LL]; omega)) only [W, V, TY, CC, reduceIte, Nat.reduceEqDiff, Nat.reduceAdd, Nat.reduceLeDiff, Nat.reduceLT, Int.reduceLE, Int.reduceLT, Int.reduceAdd, Int.reduceSub, Int.reduceToNat, Nat.reduceMul, t7, t8, hni]) ?_
  rw [← hV, hn]
  simp (maxSteps := 1000000) (disch := first | omega | (simp only [LL]; omega)) only [W, V, TY, CC, reduceIte, Nat.reduceEqDiff, Nat.reduceAdd, Nat.reduceLeDiff, Nat.reduceLT, Int.reduceLE, Int.reduceLT, Int.reduceAdd, Int.reduceSub, Int.reduceToNat, Nat.reduceMul, t7, t8, hni, lim_len]
  refine w_loop (fun m s => ∃ (e A : Nat) (Q : List Int), m = e ∧ s.t 13 = .sv (60, 0) 0 (x.length + 1) ∧ s.t 14 = .one (.dt (natD (lim n vN))) ∧ s.t 11 = .one (.dt (.lit (.int .i64 n))) ∧ s.t 12 = .one (.dt (.lit (.int .u64 k))) ∧ s.t 16 = .one (.dt (.lit (.int .i64 ((e : Int) - 1)))) ∧ s.t 15 = .one (.row (71, 0) 0) ∧ s.r (71, 0) = some ⟨103, 1, M, natC Q, 0, true⟩ ∧ s.v (60, 0) = some (u32s (lim (x.length + 1) A)) ∧ s.f (60, 0) = false ∧ Q.length = M ∧ Lim Q ∧ e ≤ M ∧ A < vN * bn e ∧ uN = A + vN * nv Q ∧ ∀ i, i < e → Q.getD i 0 = 0) M ⟨M, uN, List.replicate M 0, rfl, ?_, ?_, ?_, ?_, ?_, ?_, ?_, ?_, ?_, by simp, Lim.replicate _, Nat.le_refl _, hU0, ?_, fun i _ => ?_⟩ ?_
  · simp (maxSteps := 1000000) (disch := first | omega | (simp only [LL]; omega)) only [W, V, TY, CC, reduceIte, Nat.reduceEqDiff, Nat.reduceAdd, Nat.reduceLeDiff, Nat.reduceLT, Int.reduceLE, Int.reduceLT, Int.reduceAdd, Int.reduceSub, Int.reduceToNat, Nat.reduceMul, g60]
  · simp (maxSteps := 1000000) (disch := first | omega | (simp only [LL]; omega)) only [W, V, TY, CC, reduceIte, Nat.reduceEqDiff, Nat.reduceAdd, Nat.reduceLeDiff, Nat.reduceLT, Int.reduceLE, Int.reduceLT, Int.reduceAdd, Int.reduceSub, Int.reduceToNat, Nat.reduceMul]
    rw [cw_natD _ (by omega) (by omega) (by rw [lim_len]; omega), Int.toNat_natCast, Int.toNat_zero, List.drop_zero, lim_take _ _ _ (by omega)]
  · simp (maxSteps := 1000000) (disch := first | omega | (simp only [LL]; omega)) only [W, V, TY, CC, reduceIte, Nat.reduceEqDiff, Nat.reduceAdd, Nat.reduceLeDiff, Nat.reduceLT, Int.reduceLE, Int.reduceLT, Int.reduceAdd, Int.reduceSub, Int.reduceToNat, Nat.reduceMul]
  · simp (maxSteps := 1000000) (disch := first | omega | (simp only [LL]; omega)) only [W, V, TY, CC, reduceIte, Nat.reduceEqDiff, Nat.reduceAdd, Nat.reduceLeDiff, Nat.reduceLT, Int.reduceLE, Int.reduceLT, Int.reduceAdd, Int.reduceSub, Int.reduceToNat, Nat.reduceMul]
  · simp (maxSteps := 1000000) (disch := first | omega | (simp only [LL]; omega)) only [W, V, TY, CC, reduceIte, Nat.reduceEqDiff, Nat.reduceAdd, Nat.reduceLeDiff, Nat.reduceLT, Int.reduceLE, Int.reduceLT, Int.reduceAdd, Int.reduceSub, Int.reduceToNat, Nat.reduceMul, hMi, ← hMi1]
  · simp (maxSteps := 1000000) (disch := first | omega | (simp only [LL]; omega)) only [W, V, TY, CC, reduceIte, Nat.reduceEqDiff, Nat.reduceAdd, Nat.reduceLeDiff, Nat.reduceLT, Int.reduceLE, Int.reduceLT, Int.reduceAdd, Int.reduceSub, Int.reduceToNat, Nat.reduceMul, g71]
  · simp (maxSteps := 1000000) (disch := first | omega | (simp only [LL]; omega)) only [W, V, TY, CC, reduceIte, Nat.reduceEqDiff, Nat.reduceAdd, Nat.reduceLeDiff, Nat.reduceLT, Int.reduceLE, Int.reduceLT, Int.reduceAdd, Int.reduceSub, Int.reduceToNat, Nat.reduceMul, g71, hMi, hMi1]
  · simp (maxSteps := 1000000) (disch := first | omega | (simp only [LL]; omega)) only [W, V, TY, CC, reduceIte, Nat.reduceEqDiff, Nat.reduceAdd, Nat.reduceLeDiff, Nat.reduceLT, Int.reduceLE, Int.reduceLT, Int.reduceAdd, Int.reduceSub, Int.reduceToNat, Nat.reduceMul, g60]
  · simp (maxSteps := 1000000) (disch := first | omega | (simp only [LL]; omega)) only [W, V, TY, CC, reduceIte, Nat.reduceEqDiff, Nat.reduceAdd, Nat.reduceLeDiff, Nat.reduceLT, Int.reduceLE, Int.reduceLT, Int.reduceAdd, Int.reduceSub, Int.reduceToNat, Nat.reduceMul, f60]
  · unfold nv; rw [val_replicate]; simp
  · rw [List.getD_eq_getElem?_getD, List.getElem?_replicate]; split <;> rfl
  clear t7 t8 g60 g71 f60
  intro m s _ ⟨e, A, Q, hme, t13, t14, t11, t12, t16, t15, r71, v60, f60, hQ, lQ, heM, hA, hUA, hz⟩
  simp (maxSteps := 1000000) (disch := first | omega | (simp only [LL]; omega)) only [W, V, TY, CC, reduceIte, Nat.reduceEqDiff, Nat.reduceAdd, Nat.reduceLeDiff, Nat.reduceLT, Int.reduceLE, Int.reduceLT, Int.reduceAdd, Int.reduceSub, Int.reduceToNat, Nat.reduceMul, t16]
  refine c_split (fun he => ?_) (fun he => ?_)
  · obtain ⟨j, rfl⟩ : ∃ j, e = j + 1 := ⟨e - 1, by omega⟩
    have hj1 : ((j + 1 : Nat) : Int) - 1 = (j : Int) := by omega
    rw [hj1] at t16
    have hA3 := kn_lt hV0 hA
    have hhd := kn_head (n2 := n2) hA
    obtain ⟨q1, q2, q3⟩ := kn_top hV0 hV1
    have x0 : ((j : Int) + (n : Int)).toNat = j + n2 + 2 := by omega
    have x1 : ((j : Int) + (n : Int) - 1).toNat = j + n2 + 1 := by omega
    have x2 : ((j : Int) + (n : Int) - 2).toNat = j + n2 := by omega
    have x4 : ((n : Int) - 2).toNat = n2 := by omega
    obtain ⟨aL, haL⟩ : ∃ aL, aL = lim (x.length + 1) A := ⟨_, rfl⟩
    have laL : aL.length = x.length + 1 := by rw [haL, lim_len]
    obtain ⟨vL, hvL⟩ : ∃ vL, vL = lim n vN := ⟨_, rfl⟩
    have lvL : vL.length = n := by rw [hvL, lim_len]
    have y0 := lim_getD (x.length + 1) A (j + n2 + 2) (by omega)
    have y1 := lim_getD (x.length + 1) A (j + n2 + 1) (by omega)
    have y2 := lim_getD (x.length + 1) A (j + n2) (by omega)
    have y3 := lim_getD n vN (n2 + 1) (by omega)
    have y4 := lim_getD n vN n2 (by omega)
    rw [← haL] at y0 y1 y2 v60
    rw [← hvL] at y3 y4 t14
    simp (maxSteps := 1000000) (disch := first | omega | (simp only [LL]; omega)) only [W, V, TY, CC, reduceIte, Nat.reduceEqDiff, Nat.reduceAdd, Nat.reduceLeDiff, Nat.reduceLT, Int.reduceLE, Int.reduceLT, Int.reduceAdd, Int.reduceSub, Int.reduceToNat, Nat.reduceMul, t11, t12, t13, t14, t15, t16, r71, v60, f60, x0, x1, x2, x4, hn1, y0, y1, y2, y3, y4]
    refine ⟨by omega, by omega, by omega, ?_⟩
    have hVn : vN < bn n := by rw [hnn]; exact hV0
    have hAn1 : A < bn (j + n + 1) := by rw [hnn]; exact hA3
    have h3 := top3 (v := A) (j := j + n2) hA3
    have h4 := top2 (v := vN) (j := n2) hV0
    have h5 := top2 (v := A) (j := j + n2 + 1) hA3
    have m1 : ∀ q : Nat, q % 4294967296 < 4294967296 := fun q => Nat.mod_lt _ (by decide)
    refine a_call _ _ (nat_guess (A / bn (j + n2 + 2) % 4294967296) (A / bn (j + n2 + 1) % 4294967296) (A / bn (j + n2) % 4294967296) (vN / bn (n2 + 1) % 4294967296) (vN / bn n2 % 4294967296) (m1 _) (m1 _) (m1 _) (m1 _) (m1 _) (by rw [Nat.mod_eq_of_lt q2]; exact q1) (by rw [h4]; exact Nat.le_trans (Nat.le_of_eq h5) hhd)) (by simp (maxSteps := 1000000) (disch := first | omega | (simp only [LL]; omega)) only [W, V, TY, CC, reduceIte, Nat.reduceEqDiff, Nat.reduceAdd, Nat.reduceLeDiff, Nat.reduceLT, Int.reduceLE, Int.reduceLT, Int.reduceAdd, Int.reduceSub, Int.reduceToNat, Nat.reduceMul, t11, t12, t13, t14, t15, t16]) ?_
    rw [h3, h4]
    obtain ⟨g, hg⟩ : ∃ g, g = gs (A / bn (j + n2)) (vN / bn n2) := ⟨_, rfl⟩
    rw [← hg]
    obtain ⟨gB, dOK, dNeg⟩ := kn_digit hV0 hV1 hA g hg
    clear h3 h4 h5 hhd y0 y1 y2 y3 y4 hg
    have xw : ((j : Int) + (n : Int) + 1).toNat = j + n + 1 := by omega
    have xw2 : j + n + 1 - j = n + 1 := by omega
    simp (maxSteps := 1000000) (disch := first | omega | (simp only [LL]; omega)) only [W, V, TY, CC, reduceIte, Nat.reduceEqDiff, Nat.reduceAdd, Nat.reduceLeDiff, Nat.reduceLT, Int.reduceLE, Int.reduceLT, Int.reduceAdd, Int.reduceSub, Int.reduceToNat, Nat.reduceMul, t11, t12, t13, t14, t15, t16, v60, f60, xw, xw2]
    refine ⟨by omega, ?_⟩
    have hval : val vL = ((vN : Nat) : Int) := by rw [hvL, val_lim _ _ hVn]
    have hmul : (g : Int) * ((vN : Nat) : Int) = ((g * vN : Nat) : Int) := by simp
    have hsub := nat_subtract aL vL j n g (haL ▸ lim_lim _ _) (hvL ▸ lim_lim _ _) lvL (by omega) (by omega) gB
    obtain ⟨w1, w2, _⟩ := subL_num (A := A) (V := vN) (j := j) (n := n) (m := x.length + 1) (g := g) (by omega) hAn1
    rw [← haL] at w1 w2
    rw [hval, hmul, w1] at hsub
    refine a_wcall (a0 := .tmp 117) (xs := [.tmp 118, .tmp 119]) (60, 0) j (n + 1) aL _ _ _ hsub (by simp (maxSteps := 1000000) (disch := first | omega | (simp only [LL]; omega)) only [W, V, TY, CC, reduceIte, Nat.reduceEqDiff, Nat.reduceAdd, Nat.reduceLeDiff, Nat.reduceLT, Int.reduceLE, Int.reduceLT, Int.reduceAdd, Int.reduceSub, Int.reduceToNat, Nat.reduceMul, t11, t12, t13, t14, t15, t16, v60, f60, xw, xw2]) (by simp (maxSteps := 1000000) (disch := first | omega | (simp only [LL]; omega)) only [W, V, TY, CC, reduceIte, Nat.reduceEqDiff, Nat.reduceAdd, Nat.reduceLeDiff, Nat.reduceLT, Int.reduceLE, Int.reduceLT, Int.reduceAdd, Int.reduceSub, Int.reduceToNat, Nat.reduceMul, v60]) (by simp (maxSteps := 1000000) (disch := first | omega | (simp only [LL]; omega)) only [W, V, TY, CC, reduceIte, Nat.reduceEqDiff, Nat.reduceAdd, Nat.reduceLeDiff, Nat.reduceLT, Int.reduceLE, Int.reduceLT, Int.reduceAdd, Int.reduceSub, Int.reduceToNat, Nat.reduceMul, f60]) (by simp (maxSteps := 1000000) (disch := first | omega | (simp only [LL]; omega)) only [W, V, TY, CC, reduceIte, Nat.reduceEqDiff, Nat.reduceAdd, Nat.reduceLeDiff, Nat.reduceLT, Int.reduceLE, Int.reduceLT, Int.reduceAdd, Int.reduceSub, Int.reduceToNat, Nat.reduceMul, t11, t12, t13, t14, t15, t16]) ?_ rfl
    simp (maxSteps := 1000000) (disch := first | omega | (simp only [LL]; omega)) only [W, V, TY, CC, reduceIte, Nat.reduceEqDiff, Nat.reduceAdd, Nat.reduceLeDiff, Nat.reduceLT, Int.reduceLE, Int.reduceLT, Int.reduceAdd, Int.reduceSub, Int.reduceToNat, Nat.reduceMul, t11, t12, t13, t14, t15, t16]
    have fin : ∀ g' : Nat, g' < 4294967296 → bn j * (g' * vN) ≤ A → A - bn j * (g' * vN) < vN * bn j → (Q.set j (g' : Int)).length = M ∧ Lim (Q.set j (g' : Int)) ∧ j ≤ M ∧ A - bn j * (g' * vN) < vN * bn j ∧ uN = A - bn j * (g' * vN) + vN * nv (Q.set j (g' : Int)) ∧ ∀ i, i < j → (Q.set j (g' : Int)).getD i 0 = 0 := by
      intro g' h1 h2 h3
      have lQ' : Lim (Q.set j (g' : Int)) := lQ.set _ (by omega) (by omega)
      refine ⟨by simp [hQ], lQ', by omega, h3, ?_, fun i hi => ?_⟩
      · have e1 := val_set_getD (l := Q) (i := j) (by omega) (g' : Int)
        rw [hz j (by omega), Int.sub_zero, ← bn_bp, ← Int.natCast_mul, ← nv_eq lQ', ← nv_eq lQ] at e1
        have e2 : nv (Q.set j (g' : Int)) = nv Q + bn j * g' := by omega
        have e3 : vN * (nv Q + bn j * g') = vN * nv Q + bn j * (g' * vN) := by grind
        rw [e2, e3]
        omega
      · rw [Limbs.getD_set_ne (by omega)]
        exact hz i (by omega)
    refine c_split (fun hneg => ?_) (fun hneg => ?_)
    · obtain ⟨g0, e1, e2, e3⟩ := dNeg (by omega)
      obtain ⟨r1, r2⟩ := neg_num (m := x.length + 1) (by omega) hVn hAn1 (by omega) g0 e2
      obtain ⟨aM, haM⟩ : ∃ aM, aM = lim (x.length + 1) (A + bn (j + n + 1) - bn j * (g * vN)) := ⟨_, rfl⟩
      have hadd := nat_addBack aM vL j n (haM ▸ lim_lim _ _) (hvL ▸ lim_lim _ _) lvL (by rw [haM, lim_len]; omega) (by omega)
      rw [← haL] at r1
      rw [hval, haM, r2] at hadd
      rw [r1]
      have hgm : (g : Int) - 1 = ((g - 1 : Nat) : Int) := by omega
      simp (maxSteps := 1000000) (disch := first | omega | (simp only [LL]; omega)) only [W, V, TY, CC, reduceIte, Nat.reduceEqDiff, Nat.reduceAdd, Nat.reduceLeDiff, Nat.reduceLT, Int.reduceLE, Int.reduceLT, Int.reduceAdd, Int.reduceSub, Int.reduceToNat, Nat.reduceMul, t11, t12, t13, t14, t15, t16, hgm, xw, xw2]
      refine ⟨by omega, ?_⟩
      refine a_wcall (a0 := .tmp 129) (xs := [.tmp 130]) (60, 0) j (n + 1) _ _ _ _ hadd (by simp (maxSteps := 1000000) (disch := first | omega | (simp only [LL]; omega)) only [W, V, TY, CC, reduceIte, Nat.reduceEqDiff, Nat.reduceAdd, Nat.reduceLeDiff, Nat.reduceLT, Int.reduceLE, Int.reduceLT, Int.reduceAdd, Int.reduceSub, Int.reduceToNat, Nat.reduceMul, t11, t12, t13, t14, t15, t16, v60, f60, xw, xw2]) (by simp (maxSteps := 1000000) (disch := first | omega | (simp only [LL]; omega)) only [W, V, TY, CC, reduceIte, Nat.reduceEqDiff, Nat.reduceAdd, Nat.reduceLeDiff, Nat.reduceLT, Int.reduceLE, Int.reduceLT, Int.reduceAdd, Int.reduceSub, Int.reduceToNat, Nat.reduceMul, v60]) (by simp (maxSteps := 1000000) (disch := first | omega | (simp only [LL]; omega)) only [W, V, TY, CC, reduceIte, Nat.reduceEqDiff, Nat.reduceAdd, Nat.reduceLeDiff, Nat.reduceLT, Int.reduceLE, Int.reduceLT, Int.reduceAdd, Int.reduceSub, Int.reduceToNat, Nat.reduceMul, f60]) (by simp (maxSteps := 1000000) (disch := first | omega | (simp only [LL]; omega)) only [W, V, TY, CC, reduceIte, Nat.reduceEqDiff, Nat.reduceAdd, Nat.reduceLeDiff, Nat.reduceLT, Int.reduceLE, Int.reduceLT, Int.reduceAdd, Int.reduceSub, Int.reduceToNat, Nat.reduceMul, t11, t12, t13, t14, t15, t16]) ?_ rfl
      simp (maxSteps := 1000000) (disch := first | omega | (simp only [LL]; omega)) only [W, V, TY, CC, reduceIte, Nat.reduceEqDiff, Nat.reduceAdd, Nat.reduceLeDiff, Nat.reduceLT, Int.reduceLE, Int.reduceLT, Int.reduceAdd, Int.reduceSub, Int.reduceToNat, Nat.reduceMul, t11, t12, t13, t14, t15, t16, r71, wu32 (n := ((g - 1 : Nat) : Int)) (by omega) (by omega)]
      obtain ⟨f1, f2, f3, f4, f5, f6⟩ := fin (g - 1) (by omega) e2 e3
      exact ⟨by omega, by omega, j, by omega, j, _, _, rfl, by rw [hvL], rfl, rfl, rfl, f60, f1, f2, f3, f4, f5, f6⟩
    · obtain ⟨e2, e3⟩ := dOK (by omega)
      rw [w2 (by omega) e2]
      simp (maxSteps := 1000000) (disch := first | omega | (simp only [LL]; omega)) only [W, V, TY, CC, reduceIte, Nat.reduceEqDiff, Nat.reduceAdd, Nat.reduceLeDiff, Nat.reduceLT, Int.reduceLE, Int.reduceLT, Int.reduceAdd, Int.reduceSub, Int.reduceToNat, Nat.reduceMul, t11, t12, t13, t14, t15, t16, r71, wu32 (n := ((g : Nat) : Int)) (by omega) (by omega)]
      obtain ⟨f1, f2, f3, f4, f5, f6⟩ := fin g gB e2 e3
      exact ⟨by omega, by omega, j, by omega, j, _, _, rfl, by rw [hvL], rfl, rfl, rfl, f60, f1, f2, f3, f4, f5, f6⟩
  · have ul := lim_len (x.length + 1) A
    simp (maxSteps := 1000000) (disch := first | omega | (simp only [LL]; omega)) only [W, V, TY, CC, reduceIte, Nat.reduceEqDiff, Nat.reduceAdd, Nat.reduceLeDiff, Nat.reduceLT, Int.reduceLE, Int.reduceLT, Int.reduceAdd, Int.reduceSub, Int.reduceToNat, Nat.reduceMul, t11, t12, t13, t14, t15, r71, v60, f60]
    refine a_call _ _ (nat_trim Q lQ (by omega)) (by simp (maxSteps := 1000000) (disch := first | omega | (simp only [LL]; omega)) only [W, V, TY, CC, reduceIte, Nat.reduceEqDiff, Nat.reduceAdd, Nat.reduceLeDiff, Nat.reduceLT, Int.reduceLE, Int.reduceLT, Int.reduceAdd, Int.reduceSub, Int.reduceToNat, Nat.reduceMul, t11, t12, t13, t14, t15, r71, v60, f60]) ?_
    simp (maxSteps := 1000000) (disch := first | omega | (simp only [LL]; omega)) only [W, V, TY, CC, reduceIte, Nat.reduceEqDiff, Nat.reduceAdd, Nat.reduceLeDiff, Nat.reduceLT, Int.reduceLE, Int.reduceLT, Int.reduceAdd, Int.reduceSub, Int.reduceToNat, Nat.reduceMul, t11, t12, t13, t14, t15, r71, v60, f60]
    have he0 : e = 0 := by omega
    subst he0
    rw [bn_zero, Nat.mul_one] at hA
    have hAn : A < bn n := by rw [hnn]; omega
    have htk := lim_take (x.length + 1) A n (by omega)
    have hle : n ≤ x.length + 1 := by omega
    have hof : Dt.sl n (natC (lim n A)) = natD (lim n A) := of_natD _ _ (lim_len _ _).symm
    refine ⟨by omega, ?_⟩
    refine a_call _ _ (nat_shiftDown (lim n A) k (lim_lim _ _) (by rw [lim_len]; omega) hk) (by simp (maxSteps := 1000000) (disch := first | omega | (simp only [LL]; omega)) only [W, V, TY, CC, reduceIte, Nat.reduceEqDiff, Nat.reduceAdd, Nat.reduceLeDiff, Nat.reduceLT, Int.reduceLE, Int.reduceLT, Int.reduceAdd, Int.reduceSub, Int.reduceToNat, Nat.reduceMul, t11, t12, t13, t14, t15, r71, v60, f60, us_ds, us_len, us_cut0, ul, htk, hle, hof]) ?_
    simp (maxSteps := 1000000) (disch := first | omega | (simp only [LL]; omega)) only [W, V, TY, CC, reduceIte, Nat.reduceEqDiff, Nat.reduceAdd, Nat.reduceLeDiff, Nat.reduceLT, Int.reduceLE, Int.reduceLT, Int.reduceAdd, Int.reduceSub, Int.reduceToNat, Nat.reduceMul]
    refine f_ret _ _ _ ?_
    have hVp : 0 < 2 ^ k := Nat.two_pow_pos k
    have d1 : nv x / nv y = nv Q := by
      rw [← Nat.mul_div_mul_right (nv x) (nv y) hVp, ← hU, ← hV, hUA, Nat.add_mul_div_left _ _ (by omega), Nat.div_eq_of_lt hA, Nat.zero_add]
    have d2 : nv x % nv y = A / 2 ^ k := by
      have h5 : uN % vN = A := by rw [hUA, Nat.add_mul_mod_self_left, Nat.mod_eq_of_lt hA]
      rw [hU, hV, Nat.mul_mod_mul_right] at h5
      rw [← h5, Nat.mul_div_cancel _ hVp]
    unfold divR
    rw [if_neg hy0, d1, d2, nv_lim hAn]
    simp (maxSteps := 1000000) (disch := first | omega | (simp only [LL]; omega)) only [W, V, TY, CC, reduceIte, Nat.reduceEqDiff, Nat.reduceAdd, Nat.reduceLeDiff, Nat.reduceLT, Int.reduceLE, Int.reduceLT, Int.reduceAdd, Int.reduceSub, Int.reduceToNat, Nat.reduceMul]
    rfl
theorem nat_DivMod (a b : List Int) (ha : Lim a) (hb : Lim b) (la : a.length < 2199023255552) (lb : b.length < 2199023255552) : AFun Tryz.prog 116 [.one (natD a), .one (natD b)] (divR (nv a) (nv b)) := by
  refine afun_intro mo_ _ _ c116 k116 _ _ rfl (by decide) ?_
  unfold b116
  have h1 := tr_len ha
  have h2 := tr_len hb
  have n1 : Nrm (tr a) := nl_nrm _
  have n2 : Nrm (tr b) := nl_nrm _
  have l1 := tr_lim a
  have l2 := tr_lim b
  have v1 : nv (tr a) = nv a := by unfold nv; rw [val_tr ha]
  have v2 : nv (tr b) = nv b := by unfold nv; rw [val_tr hb]
  have t1 : tr a = nl (nv a) := rfl
  rw [← v1, ← v2]
  rw [← v1] at t1
  simp (maxSteps := 1000000) (disch := first | omega | (simp only [LL]; omega)) only [W, V, TY, CC, reduceIte, Nat.reduceEqDiff, Nat.reduceAdd, Nat.reduceLeDiff, Nat.reduceLT, Int.reduceLE, Int.reduceLT, Int.reduceAdd, Int.reduceSub, Int.reduceToNat, Nat.reduceMul]
  refine a_call _ _ (nat_trim a ha (by omega)) rfl ?_
  simp (maxSteps := 1000000) (disch := first | omega | (simp only [LL]; omega)) only [W, V, TY, CC, reduceIte, Nat.reduceEqDiff, Nat.reduceAdd, Nat.reduceLeDiff, Nat.reduceLT, Int.reduceLE, Int.reduceLT, Int.reduceAdd, Int.reduceSub, Int.reduceToNat, Nat.reduceMul]
  refine a_call _ _ (nat_trim b hb (by omega)) (by simp (maxSteps := 1000000) (disch := first | omega | (simp only [LL]; omega)) only [W, V, TY, CC, reduceIte, Nat.reduceEqDiff, Nat.reduceAdd, Nat.reduceLeDiff, Nat.reduceLT, Int.reduceLE, Int.reduceLT, Int.reduceAdd, Int.reduceSub, Int.reduceToNat, Nat.reduceMul]) ?_
  generalize tr b = y at *
  generalize tr a = x at *
  simp (maxSteps := 1000000) (disch := first | omega | (simp only [LL]; omega)) only [W, V, TY, CC, reduceIte, Nat.reduceEqDiff, Nat.reduceAdd, Nat.reduceLeDiff, Nat.reduceLT, Int.reduceLE, Int.reduceLT, Int.reduceAdd, Int.reduceSub, Int.reduceToNat, Nat.reduceMul]
  refine c_split (fun hl => ?_) (fun hl => ?_)
  · have hy : y = [] := List.eq_nil_of_length_eq_zero (by omega)
    have hz : nv y = 0 := by rw [hy]; rfl
    simp (maxSteps := 1000000) (disch := first | omega | (simp only [LL]; omega)) only [W, V, TY, CC, reduceIte, Nat.reduceEqDiff, Nat.reduceAdd, Nat.reduceLeDiff, Nat.reduceLT, Int.reduceLE, Int.reduceLT, Int.reduceAdd, Int.reduceSub, Int.reduceToNat, Nat.reduceMul]
    refine f_ret _ _ _ ?_
    unfold divR
    simp (maxSteps := 1000000) (disch := first | omega | (simp only [LL]; omega)) only [W, V, TY, CC, reduceIte, Nat.reduceEqDiff, Nat.reduceAdd, Nat.reduceLeDiff, Nat.reduceLT, Int.reduceLE, Int.reduceLT, Int.reduceAdd, Int.reduceSub, Int.reduceToNat, Nat.reduceMul, hz]
    rfl
  · have hne : y ≠ [] := by intro e; rw [e] at hl; simp at hl
    have hpos := val_pos l2 n2 hne
    have hvy := nv_eq l2
    have hvx := nv_eq l1
    have hn0 : nv y ≠ 0 := by omega
    simp (maxSteps := 1000000) (disch := first | omega | (simp only [LL]; omega)) only [W, V, TY, CC, reduceIte, Nat.reduceEqDiff, Nat.reduceAdd, Nat.reduceLeDiff, Nat.reduceLT, Int.reduceLE, Int.reduceLT, Int.reduceAdd, Int.reduceSub, Int.reduceToNat, Nat.reduceMul]
    refine a_call _ _ (nat_Cmp x y l1 l2 (by omega) (by omega)) (by simp (maxSteps := 1000000) (disch := first | omega | (simp only [LL]; omega)) only [W, V, TY, CC, reduceIte, Nat.reduceEqDiff, Nat.reduceAdd, Nat.reduceLeDiff, Nat.reduceLT, Int.reduceLE, Int.reduceLT, Int.reduceAdd, Int.reduceSub, Int.reduceToNat, Nat.reduceMul]) ?_
    simp (maxSteps := 1000000) (disch := first | omega | (simp only [LL]; omega)) only [W, V, TY, CC, reduceIte, Nat.reduceEqDiff, Nat.reduceAdd, Nat.reduceLeDiff, Nat.reduceLT, Int.reduceLE, Int.reduceLT, Int.reduceAdd, Int.reduceSub, Int.reduceToNat, Nat.reduceMul]
    refine c_split (fun hc => ?_) (fun hc => ?_)
    · have hlt : nv x < nv y := by
        unfold cmpZ at hc
        split at hc
        · omega
        · split at hc <;> omega
      simp (maxSteps := 1000000) (disch := first | omega | (simp only [LL]; omega)) only [W, V, TY, CC, reduceIte, Nat.reduceEqDiff, Nat.reduceAdd, Nat.reduceLeDiff, Nat.reduceLT, Int.reduceLE, Int.reduceLT, Int.reduceAdd, Int.reduceSub, Int.reduceToNat, Nat.reduceMul]
      refine a_call _ _ (nat_Norm x l1 (by omega)) (by simp (maxSteps := 1000000) (disch := first | omega | (simp only [LL]; omega)) only [W, V, TY, CC, reduceIte, Nat.reduceEqDiff, Nat.reduceAdd, Nat.reduceLeDiff, Nat.reduceLT, Int.reduceLE, Int.reduceLT, Int.reduceAdd, Int.reduceSub, Int.reduceToNat, Nat.reduceMul]) ?_
      simp (maxSteps := 1000000) (disch := first | omega | (simp only [LL]; omega)) only [W, V, TY, CC, reduceIte, Nat.reduceEqDiff, Nat.reduceAdd, Nat.reduceLeDiff, Nat.reduceLT, Int.reduceLE, Int.reduceLT, Int.reduceAdd, Int.reduceSub, Int.reduceToNat, Nat.reduceMul]
      refine f_ret _ _ _ ?_
      unfold divR
      rw [if_neg hn0, Nat.div_eq_of_lt hlt, Nat.mod_eq_of_lt hlt, nl_zero, t1, tr_nl, nv_nl]
      simp (maxSteps := 1000000) (disch := first | omega | (simp only [LL]; omega)) only [W, V, TY, CC, reduceIte, Nat.reduceEqDiff, Nat.reduceAdd, Nat.reduceLeDiff, Nat.reduceLT, Int.reduceLE, Int.reduceLT, Int.reduceAdd, Int.reduceSub, Int.reduceToNat, Nat.reduceMul]
      rfl
    · have hle : nv y ≤ nv x := by
        unfold cmpZ at hc
        split at hc
        · omega
        · omega
      simp (maxSteps := 1000000) (disch := first | omega | (simp only [LL]; omega)) only [W, V, TY, CC, reduceIte, Nat.reduceEqDiff, Nat.reduceAdd, Nat.reduceLeDiff, Nat.reduceLT, Int.reduceLE, Int.reduceLT, Int.reduceAdd, Int.reduceSub, Int.reduceToNat, Nat.reduceMul]
      refine c_split (fun hl1 => ?_) (fun hl1 => ?_)
      · obtain ⟨d, rfl⟩ : ∃ d, y = [d] := List.length_eq_one_iff.1 (by omega)
        have hd := l2.head
        rw [val_one] at hpos
        have hnd : nv [d] = d.toNat := by unfold nv; rw [val_one]
        simp (maxSteps := 1000000) (disch := first | omega | (simp only [LL]; omega)) only [W, V, TY, CC, reduceIte, Nat.reduceEqDiff, Nat.reduceAdd, Nat.reduceLeDiff, Nat.reduceLT, Int.reduceLE, Int.reduceLT, Int.reduceAdd, Int.reduceSub, Int.reduceToNat, Nat.reduceMul, List.getD_cons_zero]
        refine a_call _ _ (nat_divSmall x d l1 (by omega) hpos hd.2) (by simp (maxSteps := 1000000) (disch := first | omega | (simp only [LL]; omega)) only [W, V, TY, CC, reduceIte, Nat.reduceEqDiff, Nat.reduceAdd, Nat.reduceLeDiff, Nat.reduceLT, Int.reduceLE, Int.reduceLT, Int.reduceAdd, Int.reduceSub, Int.reduceToNat, Nat.reduceMul]) ?_
        simp (maxSteps := 1000000) (disch := first | omega | (simp only [LL]; omega)) only [W, V, TY, CC, reduceIte, Nat.reduceEqDiff, Nat.reduceAdd, Nat.reduceLeDiff, Nat.reduceLT, Int.reduceLE, Int.reduceLT, Int.reduceAdd, Int.reduceSub, Int.reduceToNat, Nat.reduceMul]
        have hrem : nv x % d.toNat < d.toNat := Nat.mod_lt _ (by omega)
        rw [wu64 (n := ((nv x % d.toNat : Nat) : Int)) (by omega) (by omega)]
        refine a_call _ _ (nat_Of (nv x % d.toNat : Nat) (by omega) (by omega)) (by simp (maxSteps := 1000000) (disch := first | omega | (simp only [LL]; omega)) only [W, V, TY, CC, reduceIte, Nat.reduceEqDiff, Nat.reduceAdd, Nat.reduceLeDiff, Nat.reduceLT, Int.reduceLE, Int.reduceLT, Int.reduceAdd, Int.reduceSub, Int.reduceToNat, Nat.reduceMul]) ?_
        simp (maxSteps := 1000000) (disch := first | omega | (simp only [LL]; omega)) only [W, V, TY, CC, reduceIte, Nat.reduceEqDiff, Nat.reduceAdd, Nat.reduceLeDiff, Nat.reduceLT, Int.reduceLE, Int.reduceLT, Int.reduceAdd, Int.reduceSub, Int.reduceToNat, Nat.reduceMul]
        refine f_ret _ _ _ ?_
        unfold divR
        rw [if_neg hn0, hnd]
        simp (maxSteps := 1000000) (disch := first | omega | (simp only [LL]; omega)) only [W, V, TY, CC, reduceIte, Nat.reduceEqDiff, Nat.reduceAdd, Nat.reduceLeDiff, Nat.reduceLT, Int.reduceLE, Int.reduceLT, Int.reduceAdd, Int.reduceSub, Int.reduceToNat, Nat.reduceMul]
      · obtain ⟨m, hm⟩ : ∃ m, y.length = m + 2 := ⟨y.length - 2, by omega⟩
        have hxy : m + 2 ≤ x.length := by
          rcases Nat.lt_or_ge x.length (m + 2) with h | h
          · have := lt_of_len l1 l2 n2 (by omega : x.length < y.length)
            omega
          · exact h
        simp (maxSteps := 1000000) (disch := first | omega | (simp only [LL]; omega)) only [W, V, TY, CC, reduceIte, Nat.reduceEqDiff, Nat.reduceAdd, Nat.reduceLeDiff, Nat.reduceLT, Int.reduceLE, Int.reduceLT, Int.reduceAdd, Int.reduceSub, Int.reduceToNat, Nat.reduceMul]
        refine nat_DivMod_rest x y l1 l2 n1 n2 (by omega) m hm hxy _ ?_ ?_ ?_ ?_ ?_
        · simp (maxSteps := 1000000) (disch := first | omega | (simp only [LL]; omega)) only [W, V, TY, CC, reduceIte, Nat.reduceEqDiff, Nat.reduceAdd, Nat.reduceLeDiff, Nat.reduceLT, Int.reduceLE, Int.reduceLT, Int.reduceAdd, Int.reduceSub, Int.reduceToNat, Nat.reduceMul]
        · simp (maxSteps := 1000000) (disch := first | omega | (simp only [LL]; omega)) only [W, V, TY, CC, reduceIte, Nat.reduceEqDiff, Nat.reduceAdd, Nat.reduceLeDiff, Nat.reduceLT, Int.reduceLE, Int.reduceLT, Int.reduceAdd, Int.reduceSub, Int.reduceToNat, Nat.reduceMul]
        · simp (maxSteps := 1000000) (disch := first | omega | (simp only [LL]; omega)) only [W, V, TY, CC, reduceIte, Nat.reduceEqDiff, Nat.reduceAdd, Nat.reduceLeDiff, Nat.reduceLT, Int.reduceLE, Int.reduceLT, Int.reduceAdd, Int.reduceSub, Int.reduceToNat, Nat.reduceMul]
        · simp (maxSteps := 1000000) (disch := first | omega | (simp only [LL]; omega)) only [W, V, TY, CC, reduceIte, Nat.reduceEqDiff, Nat.reduceAdd, Nat.reduceLeDiff, Nat.reduceLT, Int.reduceLE, Int.reduceLT, Int.reduceAdd, Int.reduceSub, Int.reduceToNat, Nat.reduceMul]
        · simp (maxSteps := 1000000) (disch := first | omega | (simp only [LL]; omega)) only [W, V, TY, CC, reduceIte, Nat.reduceEqDiff, Nat.reduceAdd, Nat.reduceLeDiff, Nat.reduceLT, Int.reduceLE, Int.reduceLT, Int.reduceAdd, Int.reduceSub, Int.reduceToNat, Nat.reduceMul]
end Go.Proofs.YtljmgdepldpmdaaGreatDoor.E

set_option linter.unusedSimpArgs false
set_option linter.unusedVariables false
set_option maxHeartbeats 2000000
namespace Go.Proofs.YtljmgdepldpmdaaGreatDoor.E
open Go.RowKit Limbs
/-- examboard/nat.Gcd -/
def b113 : AF := ⟨27, 2, [.tmp 4],
  (.seq (.reg [
    ⟨some 4, .assign (.const (.slice none 0 0)), none⟩])
  (.seq (.reg [
    ⟨some 10, .move (.tmp 0), none⟩,
    ⟨some 11, .call ⟨(.value (.func 131)), #[(.tmp 10)], #[23]⟩, none⟩,
    ⟨some 12, .move (.tmp 1), none⟩,
    ⟨some 13, .call ⟨(.value (.func 131)), #[(.tmp 12)], #[23]⟩, none⟩,
    ⟨some 5, .assign (.tmp 11), none⟩,
    ⟨some 6, .assign (.tmp 13), none⟩])
  (.seq (.block 0 (.loop (.seq (.seq (.reg [
    ⟨some 14, .move (.tmp 6), none⟩,
    ⟨some 15, .call ⟨(.builtin .len), #[(.tmp 14)], #[23]⟩, none⟩,
    ⟨some 16, .binOp .gtr 3 (.tmp 15) (.const (.int .i64 0)) 3, none⟩])
  (.cond (.tmp 16)
    .skip
    (.exit 0)))
  (.block 1 (.seq (.reg [
    ⟨some 18, .move (.tmp 5), none⟩,
    ⟨some 19, .move (.tmp 6), none⟩,
    ⟨some 20, .call ⟨(.value (.func 116)), #[(.tmp 18), (.tmp 19)], #[23, 23]⟩, none⟩,
    ⟨some 17, .move (.tmp 20), none⟩,
    ⟨some 21, .extract (.tmp 17) 0, none⟩,
    ⟨some 22, .extract (.tmp 17) 1, none⟩,
    ⟨some 23, .extract (.tmp 17) 2, none⟩,
    ⟨some 7, .assign (.tmp 21), none⟩,
    ⟨some 8, .assign (.tmp 22), none⟩,
    ⟨some 9, .assign (.tmp 23), none⟩])
  (.reg [
    ⟨some 24, .move (.tmp 6), none⟩,
    ⟨some 25, .move (.tmp 8), none⟩,
    ⟨some 5, .assign (.tmp 24), none⟩,
    ⟨some 6, .assign (.tmp 25), none⟩]))))))
  (.seq (.reg [
    ⟨some 26, .move (.tmp 5), none⟩,
    ⟨some 4, .assign (.tmp 26), none⟩])
  .ret))))⟩
theorem c113 : fcomp Tryz.prog 113 = ⟨b113.n, b113.np, b113.res, b113.body.bare⟩ := by kernel_rfl
theorem k113 : fok Tryz.prog 113 = true := by kernel_rfl
theorem nat_Gcd (a b : List Int) (ha : Lim a) (hb : Lim b) (la : a.length < 2199023255552) (lb : b.length < 2199023255552) : AFun Tryz.prog 113 [.one (natD a), .one (natD b)] [.one (natD (nl (Nat.gcd (nv a) (nv b))))] := by
  refine afun_intro mo_ _ _ c113 k113 _ _ rfl (by decide) ?_
  unfold b113
  simp (maxSteps := 1000000) (disch := first | omega | (simp only [LL]; omega)) only [W, V, TY, CC, reduceIte, Nat.reduceEqDiff, Nat.reduceAdd, Nat.reduceLeDiff, Nat.reduceLT, Int.reduceLE, Int.reduceLT, Int.reduceAdd, Int.reduceSub, Int.reduceToNat, Nat.reduceMul]
  refine a_call _ _ (nat_Norm a ha (by omega)) rfl ?_
  simp (maxSteps := 1000000) (disch := first | omega | (simp only [LL]; omega)) only [W, V, TY, CC, reduceIte, Nat.reduceEqDiff, Nat.reduceAdd, Nat.reduceLeDiff, Nat.reduceLT, Int.reduceLE, Int.reduceLT, Int.reduceAdd, Int.reduceSub, Int.reduceToNat, Nat.reduceMul]
  refine a_call _ _ (nat_Norm b hb (by omega)) (by simp (maxSteps := 1000000) (disch := first | omega | (simp only [LL]; omega)) only [W, V, TY, CC, reduceIte, Nat.reduceEqDiff, Nat.reduceAdd, Nat.reduceLeDiff, Nat.reduceLT, Int.reduceLE, Int.reduceLT, Int.reduceAdd, Int.reduceSub, Int.reduceToNat, Nat.reduceMul]) ?_
  simp (maxSteps := 1000000) (disch := first | omega | (simp only [LL]; omega)) only [W, V, TY, CC, reduceIte, Nat.reduceEqDiff, Nat.reduceAdd, Nat.reduceLeDiff, Nat.reduceLT, Int.reduceLE, Int.reduceLT, Int.reduceAdd, Int.reduceSub, Int.reduceToNat, Nat.reduceMul]
  refine w_loop (fun n s => ∃ (x y : Nat), n = y ∧ s.t 5 = .one (.dt (natD (nl x))) ∧ s.t 6 = .one (.dt (natD (nl y))) ∧ Nat.gcd x y = Nat.gcd (nv a) (nv b) ∧ (nl x).length < 2199023255552 ∧ (nl y).length < 2199023255552) (nv b) ⟨nv a, nv b, rfl, ?_, ?_, rfl, ?_, ?_⟩ ?_
  · simp (maxSteps := 1000000) (disch := first | omega | (simp only [LL]; omega)) only [W, V, TY, CC, reduceIte, Nat.reduceEqDiff, Nat.reduceAdd, Nat.reduceLeDiff, Nat.reduceLT, Int.reduceLE, Int.reduceLT, Int.reduceAdd, Int.reduceSub, Int.reduceToNat, Nat.reduceMul]; rfl
  · simp (maxSteps := 1000000) (disch := first | omega | (simp only [LL]; omega)) only [W, V, TY, CC, reduceIte, Nat.reduceEqDiff, Nat.reduceAdd, Nat.reduceLeDiff, Nat.reduceLT, Int.reduceLE, Int.reduceLT, Int.reduceAdd, Int.reduceSub, Int.reduceToNat, Nat.reduceMul]; rfl
  · exact Nat.lt_of_le_of_lt (nl_len_le ha (Nat.le_refl _)) la
  · exact Nat.lt_of_le_of_lt (nl_len_le hb (Nat.le_refl _)) lb
  intro n s _ ⟨x, y, e, t5, t6, hg, lx, ly⟩
  simp (maxSteps := 1000000) (disch := first | omega | (simp only [LL]; omega)) only [W, V, TY, CC, reduceIte, Nat.reduceEqDiff, Nat.reduceAdd, Nat.reduceLeDiff, Nat.reduceLT, Int.reduceLE, Int.reduceLT, Int.reduceAdd, Int.reduceSub, Int.reduceToNat, Nat.reduceMul, t5, t6]
  refine c_split (fun hi => ?_) (fun hi => ?_)
  · have hy : y ≠ 0 := by intro h; rw [h, nl_zero] at hi; simp at hi
    simp (maxSteps := 1000000) (disch := first | omega | (simp only [LL]; omega)) only [W, V, TY, CC, reduceIte, Nat.reduceEqDiff, Nat.reduceAdd, Nat.reduceLeDiff, Nat.reduceLT, Int.reduceLE, Int.reduceLT, Int.reduceAdd, Int.reduceSub, Int.reduceToNat, Nat.reduceMul, t5, t6]
    refine a_call _ _ (nat_DivMod (nl x) (nl y) (nl_lim _) (nl_lim _) lx ly) (by simp (maxSteps := 1000000) (disch := first | omega | (simp only [LL]; omega)) only [W, V, TY, CC, reduceIte, Nat.reduceEqDiff, Nat.reduceAdd, Nat.reduceLeDiff, Nat.reduceLT, Int.reduceLE, Int.reduceLT, Int.reduceAdd, Int.reduceSub, Int.reduceToNat, Nat.reduceMul, t5, t6]) ?_
    unfold divR
    rw [nv_nl, nv_nl, if_neg hy]
    simp (maxSteps := 1000000) (disch := first | omega | (simp only [LL]; omega)) only [W, V, TY, CC, reduceIte, Nat.reduceEqDiff, Nat.reduceAdd, Nat.reduceLeDiff, Nat.reduceLT, Int.reduceLE, Int.reduceLT, Int.reduceAdd, Int.reduceSub, Int.reduceToNat, Nat.reduceMul, t5, t6]
    have hm : x % y < y := Nat.mod_lt _ (by omega)
    refine ⟨x % y, by omega, y, x % y, rfl, rfl, rfl, ?_, ly, ?_⟩
    · rw [← hg, Nat.gcd_comm x y, Nat.gcd_rec y x, Nat.gcd_comm]
    · refine Nat.lt_of_le_of_lt (nl_len_le (nl_lim y) ?_) ly
      rw [nv_nl]; omega
  · simp (maxSteps := 1000000) (disch := first | omega | (simp only [LL]; omega)) only [W, V, TY, CC, reduceIte, Nat.reduceEqDiff, Nat.reduceAdd, Nat.reduceLeDiff, Nat.reduceLT, Int.reduceLE, Int.reduceLT, Int.reduceAdd, Int.reduceSub, Int.reduceToNat, Nat.reduceMul, t5, t6]
    refine f_ret _ _ _ ?_
    have hy : y = 0 := by
      have : (nl y).length = 0 := by omega
      rwa [nl_len0] at this
    rw [hy, Nat.gcd_zero_right] at hg
    simp (maxSteps := 1000000) (disch := first | omega | (simp only [LL]; omega)) only [W, V, TY, CC, reduceIte, Nat.reduceEqDiff, Nat.reduceAdd, Nat.reduceLeDiff, Nat.reduceLT, Int.reduceLE, Int.reduceLT, Int.reduceAdd, Int.reduceSub, Int.reduceToNat, Nat.reduceMul, hg]
end Go.Proofs.YtljmgdepldpmdaaGreatDoor.E

set_option linter.unusedSimpArgs false
set_option linter.unusedVariables false
set_option maxHeartbeats 2000000
namespace Go.Proofs.YtljmgdepldpmdaaGreatDoor.E
open Go.RowKit Limbs
/-- an integer, in normal form, as cells -/
def intC (z : Int) : List Dt := [.lit (.bool (decide (z < 0))), natD (nl z.natAbs)]
/-- the value of cells -/
def iv (n : Bool) (m : List Int) : Int := if n = true then -(nv m : Int) else nv m
theorem iv_abs (n : Bool) (m : List Int) : (iv n m).natAbs = nv m := by unfold iv; split <;> omega
theorem iv_nl (z : Int) : iv (decide (z < 0)) (nl z.natAbs) = z := by
  unfold iv
  rw [nv_nl]
  by_cases h : z < 0
  · rw [if_pos (by simpa using h)]; omega
  · rw [if_neg (by simpa using h)]; omega
theorem mk_false (m : List Int) : intC (iv false m) = [.lit (.bool false), natD (tr m)] := by
  unfold intC iv
  simp only [Bool.false_eq_true, if_false, Int.natAbs_natCast]
  rw [show decide ((nv m : Int) < 0) = false from decide_eq_false (by omega)]
  rfl
theorem mk_true (m : List Int) : intC (iv true m) = [.lit (.bool (decide (0 < ((tr m).length : Int)))), natD (tr m)] := by
  unfold intC iv
  simp only [if_true, Int.natAbs_neg, Int.natAbs_natCast]
  have h := nl_len0 (n := nv m)
  rw [show decide (-(nv m : Int) < 0) = decide (0 < ((tr m).length : Int)) from decide_eq_decide.2 ⟨fun h1 => by
    have : (nl (nv m)).length ≠ 0 := fun e => by rw [h] at e; omega
    show 0 < (((nl (nv m)).length : Nat) : Int)
    omega, fun h1 => by
    have h2 : 0 < (((nl (nv m)).length : Nat) : Int) := h1
    have : nv m ≠ 0 := fun e => by rw [← h] at e; omega
    omega⟩]
  rfl
/-- examboard/integer.Make -/
def b117 : AF := ⟨16, 2, [.cell 4 25],
  (.seq (.reg [
    ⟨some 4, .alloc 25, none⟩])
  (.seq (.reg [
    ⟨some 6, .move (.tmp 1), none⟩,
    ⟨some 7, .call ⟨(.value (.func 131)), #[(.tmp 6)], #[23]⟩, none⟩,
    ⟨some 5, .assign (.tmp 7), none⟩])
  (.seq (.reg [
    ⟨some 8, .move (.tmp 0), none⟩,
    ⟨some 9, .move (.tmp 8), none⟩,
    ⟨some 10, .move (.tmp 5), some (9, true)⟩,
    ⟨some 11, .call ⟨(.builtin .len), #[(.tmp 10)], #[23]⟩, some (9, true)⟩,
    ⟨some 12, .binOp .gtr 3 (.tmp 11) (.const (.int .i64 0)) 3, some (9, true)⟩,
    ⟨some 13, .pick (.tmp 9) (.tmp 12) (.const (.bool false)), none⟩,
    ⟨some 14, .move (.tmp 5), none⟩,
    ⟨some 15, .build 25 #[(0, (.tmp 13)), (1, (.tmp 14))], none⟩,
    ⟨none, .store 25 (.tmp 4) (.tmp 15), none⟩])
  .ret)))⟩
theorem c117 : fcomp Tryz.prog 117 = ⟨b117.n, b117.np, b117.res, b117.body.bare⟩ := by kernel_rfl
theorem k117 : fok Tryz.prog 117 = true := by kernel_rfl
theorem int_Make (n : Bool) (m : List Int) (hm : Lim m) (lm : m.length < 2199023255552) : AFun Tryz.prog 117 [.one (.lit (.bool n)), .one (natD m)] [.agg (intC (iv n m))] := by
  refine afun_intro mo_ _ _ c117 k117 _ _ rfl (by decide) ?_
  unfold b117
  simp (maxSteps := 1000000) (disch := first | omega | (simp only [LL]; omega)) only [W, V, TY, CC, reduceIte, Nat.reduceEqDiff, Nat.reduceAdd, Nat.reduceLeDiff, Nat.reduceLT, Int.reduceLE, Int.reduceLT, Int.reduceAdd, Int.reduceSub, Int.reduceToNat, Nat.reduceMul]
  refine a_call _ _ (nat_Norm m hm (by omega)) (by simp (maxSteps := 1000000) (disch := first | omega | (simp only [LL]; omega)) only [W, V, TY, CC, reduceIte, Nat.reduceEqDiff, Nat.reduceAdd, Nat.reduceLeDiff, Nat.reduceLT, Int.reduceLE, Int.reduceLT, Int.reduceAdd, Int.reduceSub, Int.reduceToNat, Nat.reduceMul]) ?_
  simp (maxSteps := 1000000) (disch := first | omega | (simp only [LL]; omega)) only [W, V, TY, CC, reduceIte, Nat.reduceEqDiff, Nat.reduceAdd, Nat.reduceLeDiff, Nat.reduceLT, Int.reduceLE, Int.reduceLT, Int.reduceAdd, Int.reduceSub, Int.reduceToNat, Nat.reduceMul]
  cases n
  · simp (maxSteps := 1000000) (disch := first | omega | (simp only [LL]; omega)) only [W, V, TY, CC, reduceIte, Nat.reduceEqDiff, Nat.reduceAdd, Nat.reduceLeDiff, Nat.reduceLT, Int.reduceLE, Int.reduceLT, Int.reduceAdd, Int.reduceSub, Int.reduceToNat, Nat.reduceMul, g_ft]
    refine f_ret _ _ _ ?_
    simp (maxSteps := 1000000) (disch := first | omega | (simp only [LL]; omega)) only [W, V, TY, CC, reduceIte, Nat.reduceEqDiff, Nat.reduceAdd, Nat.reduceLeDiff, Nat.reduceLT, Int.reduceLE, Int.reduceLT, Int.reduceAdd, Int.reduceSub, Int.reduceToNat, Nat.reduceMul, mk_false]
  · simp (maxSteps := 1000000) (disch := first | omega | (simp only [LL]; omega)) only [W, V, TY, CC, reduceIte, Nat.reduceEqDiff, Nat.reduceAdd, Nat.reduceLeDiff, Nat.reduceLT, Int.reduceLE, Int.reduceLT, Int.reduceAdd, Int.reduceSub, Int.reduceToNat, Nat.reduceMul, g_tt]
    refine f_ret _ _ _ ?_
    simp (maxSteps := 1000000) (disch := first | omega | (simp only [LL]; omega)) only [W, V, TY, CC, reduceIte, Nat.reduceEqDiff, Nat.reduceAdd, Nat.reduceLeDiff, Nat.reduceLT, Int.reduceLE, Int.reduceLT, Int.reduceAdd, Int.reduceSub, Int.reduceToNat, Nat.reduceMul, mk_true]
/-- the sign of a number -/
def sgn (z : Int) : Int := if z < 0 then -1 else if z = 0 then 0 else 1
/-- examboard/integer.Sign -/
def b108 : AF := ⟨11, 1, [.tmp 2],
  (.seq (.reg [
    ⟨some 1, .box 25 (.tmp 0), none⟩,
    ⟨some 2, .assign (.const (.int .i64 0)), none⟩])
  (.seq (.block 0 (.seq (.reg [
    ⟨some 4, .fieldAddr 25 (.tmp 1) 1, none⟩,
    ⟨some 5, .load 23 (.tmp 4), none⟩,
    ⟨some 6, .call ⟨(.value (.func 114)), #[(.tmp 5)], #[23]⟩, none⟩,
    ⟨some 7, .binOp .eql 3 (.tmp 6) (.const (.int .i64 0)) 3, none⟩,
    ⟨some 3, .assign (.tmp 7), none⟩])
  (.cond (.tmp 3)
    (.seq (.reg [
      ⟨some 2, .assign (.const (.int .i64 0)), none⟩])
    .ret)
    (.seq (.reg [
      ⟨some 9, .fieldAddr 25 (.tmp 1) 0, none⟩,
      ⟨some 10, .load 4 (.tmp 9), none⟩,
      ⟨some 8, .assign (.tmp 10), none⟩])
    (.cond (.tmp 8)
      (.seq (.reg [
        ⟨some 2, .assign (.const (.int .i64 (-1))), none⟩])
      .ret)
      .skip)))))
  (.seq (.reg [
    ⟨some 2, .assign (.const (.int .i64 1)), none⟩])
  .ret)))⟩
theorem c108 : fcomp Tryz.prog 108 = ⟨b108.n, b108.np, b108.res, b108.body.bare⟩ := by kernel_rfl
theorem k108 : fok Tryz.prog 108 = true := by kernel_rfl
theorem int_Sign (n : Bool) (m : List Int) (hm : Lim m) (lm : m.length < 2199023255552) : AFun Tryz.prog 108 [.agg [.lit (.bool n), natD m]] [.one (.lit (.int .i64 (sgn (iv n m))))] := by
  refine afun_intro mo_ _ _ c108 k108 _ _ rfl (by decide) ?_
  unfold b108
  simp (maxSteps := 1000000) (disch := first | omega | (simp only [LL]; omega)) only [W, V, TY, CC, reduceIte, Nat.reduceEqDiff, Nat.reduceAdd, Nat.reduceLeDiff, Nat.reduceLT, Int.reduceLE, Int.reduceLT, Int.reduceAdd, Int.reduceSub, Int.reduceToNat, Nat.reduceMul]
  refine a_call _ _ (nat_Bits m hm (by omega)) (by simp (maxSteps := 1000000) (disch := first | omega | (simp only [LL]; omega)) only [W, V, TY, CC, reduceIte, Nat.reduceEqDiff, Nat.reduceAdd, Nat.reduceLeDiff, Nat.reduceLT, Int.reduceLE, Int.reduceLT, Int.reduceAdd, Int.reduceSub, Int.reduceToNat, Nat.reduceMul]) ?_
  simp (maxSteps := 1000000) (disch := first | omega | (simp only [LL]; omega)) only [W, V, TY, CC, reduceIte, Nat.reduceEqDiff, Nat.reduceAdd, Nat.reduceLeDiff, Nat.reduceLT, Int.reduceLE, Int.reduceLT, Int.reduceAdd, Int.reduceSub, Int.reduceToNat, Nat.reduceMul]
  refine c_split (fun h => ?_) (fun h => ?_)
  · have h0 : nv m = 0 := bl_eq_zero.1 (by omega)
    have hs : sgn (iv n m) = 0 := by unfold iv sgn; rw [h0]; split <;> rfl
    simp (maxSteps := 1000000) (disch := first | omega | (simp only [LL]; omega)) only [W, V, TY, CC, reduceIte, Nat.reduceEqDiff, Nat.reduceAdd, Nat.reduceLeDiff, Nat.reduceLT, Int.reduceLE, Int.reduceLT, Int.reduceAdd, Int.reduceSub, Int.reduceToNat, Nat.reduceMul]
    refine f_ret _ _ _ ?_
    simp (maxSteps := 1000000) (disch := first | omega | (simp only [LL]; omega)) only [W, V, TY, CC, reduceIte, Nat.reduceEqDiff, Nat.reduceAdd, Nat.reduceLeDiff, Nat.reduceLT, Int.reduceLE, Int.reduceLT, Int.reduceAdd, Int.reduceSub, Int.reduceToNat, Nat.reduceMul, hs]
  · have h0 : nv m ≠ 0 := fun e => h (by rw [e, bl_zero]; rfl)
    cases n
    · have hs : sgn (iv false m) = 1 := by
        have e : iv false m = (nv m : Int) := rfl
        unfold sgn
        rw [e, if_neg (by omega), if_neg (by omega)]
      simp (maxSteps := 1000000) (disch := first | omega | (simp only [LL]; omega)) only [W, V, TY, CC, reduceIte, Nat.reduceEqDiff, Nat.reduceAdd, Nat.reduceLeDiff, Nat.reduceLT, Int.reduceLE, Int.reduceLT, Int.reduceAdd, Int.reduceSub, Int.reduceToNat, Nat.reduceMul]
      refine f_ret _ _ _ ?_
      simp (maxSteps := 1000000) (disch := first | omega | (simp only [LL]; omega)) only [W, V, TY, CC, reduceIte, Nat.reduceEqDiff, Nat.reduceAdd, Nat.reduceLeDiff, Nat.reduceLT, Int.reduceLE, Int.reduceLT, Int.reduceAdd, Int.reduceSub, Int.reduceToNat, Nat.reduceMul, hs]
    · have hs : sgn (iv true m) = -1 := by
        have e : iv true m = -(nv m : Int) := rfl
        unfold sgn
        rw [e, if_pos (by omega)]
      simp (maxSteps := 1000000) (disch := first | omega | (simp only [LL]; omega)) only [W, V, TY, CC, reduceIte, Nat.reduceEqDiff, Nat.reduceAdd, Nat.reduceLeDiff, Nat.reduceLT, Int.reduceLE, Int.reduceLT, Int.reduceAdd, Int.reduceSub, Int.reduceToNat, Nat.reduceMul]
      refine f_ret _ _ _ ?_
      simp (maxSteps := 1000000) (disch := first | omega | (simp only [LL]; omega)) only [W, V, TY, CC, reduceIte, Nat.reduceEqDiff, Nat.reduceAdd, Nat.reduceLeDiff, Nat.reduceLT, Int.reduceLE, Int.reduceLT, Int.reduceAdd, Int.reduceSub, Int.reduceToNat, Nat.reduceMul, hs]
theorem iv_not (n : Bool) (m : List Int) : iv (!n) m = -iv n m := by unfold iv; cases n <;> simp
/-- examboard/integer.Neg -/
def b103 : AF := ⟨9, 1, [.cell 2 25],
  (.seq (.reg [
    ⟨some 1, .box 25 (.tmp 0), none⟩,
    ⟨some 2, .alloc 25, none⟩])
  (.seq (.reg [
    ⟨some 3, .fieldAddr 25 (.tmp 1) 0, none⟩,
    ⟨some 4, .load 4 (.tmp 3), none⟩,
    ⟨some 5, .unOp .not 4 (.tmp 4), none⟩,
    ⟨some 6, .fieldAddr 25 (.tmp 1) 1, none⟩,
    ⟨some 7, .load 23 (.tmp 6), none⟩,
    ⟨some 8, .call ⟨(.value (.func 117)), #[(.tmp 5), (.tmp 7)], #[4, 23]⟩, none⟩,
    ⟨none, .store 25 (.tmp 2) (.tmp 8), none⟩])
  .ret))⟩
theorem c103 : fcomp Tryz.prog 103 = ⟨b103.n, b103.np, b103.res, b103.body.bare⟩ := by kernel_rfl
theorem k103 : fok Tryz.prog 103 = true := by kernel_rfl
theorem int_Neg (n : Bool) (m : List Int) (hm : Lim m) (lm : m.length < 2199023255552) : AFun Tryz.prog 103 [.agg [.lit (.bool n), natD m]] [.agg (intC (-iv n m))] := by
  refine afun_intro mo_ _ _ c103 k103 _ _ rfl (by decide) ?_
  unfold b103
  rw [← iv_not]
  have hu : unV .not (.one (.dt (.lit (.bool n)))) = .one (.dt (.lit (.bool (!n)))) := rfl
  simp (maxSteps := 1000000) (disch := first | omega | (simp only [LL]; omega)) only [W, V, TY, CC, reduceIte, Nat.reduceEqDiff, Nat.reduceAdd, Nat.reduceLeDiff, Nat.reduceLT, Int.reduceLE, Int.reduceLT, Int.reduceAdd, Int.reduceSub, Int.reduceToNat, Nat.reduceMul, hu]
  refine a_call _ _ (int_Make (!n) m hm lm) (by simp (maxSteps := 1000000) (disch := first | omega | (simp only [LL]; omega)) only [W, V, TY, CC, reduceIte, Nat.reduceEqDiff, Nat.reduceAdd, Nat.reduceLeDiff, Nat.reduceLT, Int.reduceLE, Int.reduceLT, Int.reduceAdd, Int.reduceSub, Int.reduceToNat, Nat.reduceMul]) ?_
  simp (maxSteps := 1000000) (disch := first | omega | (simp only [LL]; omega)) only [W, V, TY, CC, reduceIte, Nat.reduceEqDiff, Nat.reduceAdd, Nat.reduceLeDiff, Nat.reduceLT, Int.reduceLE, Int.reduceLT, Int.reduceAdd, Int.reduceSub, Int.reduceToNat, Nat.reduceMul, intC]
  refine f_ret _ _ _ ?_
  simp (maxSteps := 1000000) (disch := first | omega | (simp only [LL]; omega)) only [W, V, TY, CC, reduceIte, Nat.reduceEqDiff, Nat.reduceAdd, Nat.reduceLeDiff, Nat.reduceLT, Int.reduceLE, Int.reduceLT, Int.reduceAdd, Int.reduceSub, Int.reduceToNat, Nat.reduceMul, intC]
end Go.Proofs.YtljmgdepldpmdaaGreatDoor.E

set_option linter.unusedSimpArgs false
set_option linter.unusedVariables false
set_option maxHeartbeats 2000000
namespace Go.Proofs.YtljmgdepldpmdaaGreatDoor.E
open Go.RowKit Limbs
theorem iv_mul (a b : Bool) (m k : List Int) : iv (a != b) (nl (nv m * nv k)) = iv a m * iv b k := by
  unfold iv
  rw [nv_nl]
  cases a <;> cases b <;> simp <;> grind
/-- examboard/integer.Mul -/
def b86 : AF := ⟨16, 2, [.cell 4 25],
  (.seq (.reg [
    ⟨some 2, .box 25 (.tmp 0), none⟩,
    ⟨some 3, .box 25 (.tmp 1), none⟩,
    ⟨some 4, .alloc 25, none⟩])
  (.seq (.dreg [
    ⟨some 5, .fieldAddr 25 (.tmp 2) 0, none⟩,
    ⟨some 6, .load 4 (.tmp 5), none⟩,
    ⟨some 7, .fieldAddr 25 (.tmp 3) 0, none⟩,
    ⟨some 8, .load 4 (.tmp 7), none⟩,
    ⟨some 9, .binOp .neq 4 (.tmp 6) (.tmp 8) 4, none⟩,
    ⟨some 10, .fieldAddr 25 (.tmp 2) 1, none⟩,
    ⟨some 11, .load 23 (.tmp 10), none⟩,
    ⟨some 12, .fieldAddr 25 (.tmp 3) 1, none⟩,
    ⟨some 13, .load 23 (.tmp 12), none⟩,
    ⟨some 14, .call ⟨(.value (.func 87)), #[(.tmp 11), (.tmp 13)], #[23, 23]⟩, none⟩,
    ⟨some 15, .call ⟨(.value (.func 117)), #[(.tmp 9), (.tmp 14)], #[4, 23]⟩, none⟩,
    ⟨none, .store 25 (.tmp 4) (.tmp 15), none⟩])
  .ret))⟩
theorem c86 : fcomp Tryz.prog 86 = ⟨b86.n, b86.np, b86.res, b86.body.bare⟩ := by kernel_rfl
theorem k86 : fok Tryz.prog 86 = true := by kernel_rfl
theorem int_Mul (a b : Bool) (m k : List Int) (hm : Lim m) (hk : Lim k) (lm : m.length < 549755813888) (lk : k.length < 549755813888) : AFun Tryz.prog 86 [.agg [.lit (.bool a), natD m], .agg [.lit (.bool b), natD k]] [.agg (intC (iv a m * iv b k))] := by
  refine afun_intro mo_ _ _ c86 k86 _ _ rfl (by decide) ?_
  unfold b86
  rw [← iv_mul]
  have hlen : (nl (nv m * nv k)).length ≤ m.length + k.length := by
    refine nl_len ?_
    rw [Nat.pow_add]
    exact Nat.mul_lt_mul'' (nv_lt hm) (nv_lt hk)
  simp (maxSteps := 1000000) (disch := first | omega | (simp only [LL]; omega)) only [W, V, TY, CC, reduceIte, Nat.reduceEqDiff, Nat.reduceAdd, Nat.reduceLeDiff, Nat.reduceLT, Int.reduceLE, Int.reduceLT, Int.reduceAdd, Int.reduceSub, Int.reduceToNat, Nat.reduceMul]
  refine a_call _ _ (nat_Mul m k hm hk (by omega) (by omega)) (by simp (maxSteps := 1000000) (disch := first | omega | (simp only [LL]; omega)) only [W, V, TY, CC, reduceIte, Nat.reduceEqDiff, Nat.reduceAdd, Nat.reduceLeDiff, Nat.reduceLT, Int.reduceLE, Int.reduceLT, Int.reduceAdd, Int.reduceSub, Int.reduceToNat, Nat.reduceMul]) ?_
  simp (maxSteps := 1000000) (disch := first | omega | (simp only [LL]; omega)) only [W, V, TY, CC, reduceIte, Nat.reduceEqDiff, Nat.reduceAdd, Nat.reduceLeDiff, Nat.reduceLT, Int.reduceLE, Int.reduceLT, Int.reduceAdd, Int.reduceSub, Int.reduceToNat, Nat.reduceMul]
  refine a_call _ _ (int_Make (!(a == b)) (nl (nv m * nv k)) (nl_lim _) (by omega)) (by simp (maxSteps := 1000000) (disch := first | omega | (simp only [LL]; omega)) only [W, V, TY, CC, reduceIte, Nat.reduceEqDiff, Nat.reduceAdd, Nat.reduceLeDiff, Nat.reduceLT, Int.reduceLE, Int.reduceLT, Int.reduceAdd, Int.reduceSub, Int.reduceToNat, Nat.reduceMul]) ?_
  simp (maxSteps := 1000000) (disch := first | omega | (simp only [LL]; omega)) only [W, V, TY, CC, reduceIte, Nat.reduceEqDiff, Nat.reduceAdd, Nat.reduceLeDiff, Nat.reduceLT, Int.reduceLE, Int.reduceLT, Int.reduceAdd, Int.reduceSub, Int.reduceToNat, Nat.reduceMul, intC]
  refine f_ret _ _ _ ?_
  simp (maxSteps := 1000000) (disch := first | omega | (simp only [LL]; omega)) only [W, V, TY, CC, reduceIte, Nat.reduceEqDiff, Nat.reduceAdd, Nat.reduceLeDiff, Nat.reduceLT, Int.reduceLE, Int.reduceLT, Int.reduceAdd, Int.reduceSub, Int.reduceToNat, Nat.reduceMul, intC]
  rfl
theorem add_same (a : Bool) (m k : List Int) : iv a (nl (nv m + nv k)) = iv a m + iv a k := by
  unfold iv
  rw [nv_nl]
  cases a <;> simp <;> omega
theorem add_left (a : Bool) (m k : List Int) (h : nv k ≤ nv m) : iv a (nl (nv m - nv k)) = iv a m + iv (!a) k := by
  unfold iv
  rw [nv_nl]
  cases a <;> simp <;> omega
theorem add_right (a : Bool) (m k : List Int) (h : nv m ≤ nv k) : iv (!a) (nl (nv k - nv m)) = iv a m + iv (!a) k := by
  unfold iv
  rw [nv_nl]
  cases a <;> simp <;> omega
/-- examboard/integer.Add -/
def b85 : AF := ⟨47, 2, [.cell 4 25],
  (.seq (.reg [
    ⟨some 2, .box 25 (.tmp 0), none⟩,
    ⟨some 3, .box 25 (.tmp 1), none⟩,
    ⟨some 4, .alloc 25, none⟩])
  (.seq (.seq (.reg [
    ⟨some 9, .fieldAddr 25 (.tmp 2) 0, none⟩,
    ⟨some 10, .load 4 (.tmp 9), none⟩,
    ⟨some 11, .fieldAddr 25 (.tmp 3) 0, none⟩,
    ⟨some 12, .load 4 (.tmp 11), none⟩,
    ⟨some 13, .binOp .eql 4 (.tmp 10) (.tmp 12) 4, none⟩])
  (.cond (.tmp 13)
    (.seq (.dreg [
      ⟨some 14, .fieldAddr 25 (.tmp 2) 0, none⟩,
      ⟨some 15, .load 4 (.tmp 14), none⟩,
      ⟨some 16, .fieldAddr 25 (.tmp 2) 1, none⟩,
      ⟨some 17, .load 23 (.tmp 16), none⟩,
      ⟨some 18, .fieldAddr 25 (.tmp 3) 1, none⟩,
      ⟨some 19, .load 23 (.tmp 18), none⟩,
      ⟨some 20, .call ⟨(.value (.func 119)), #[(.tmp 17), (.tmp 19)], #[23, 23]⟩, none⟩,
      ⟨some 21, .call ⟨(.value (.func 117)), #[(.tmp 15), (.tmp 20)], #[4, 23]⟩, none⟩,
      ⟨none, .store 25 (.tmp 4) (.tmp 21), none⟩])
    .ret)
    .skip))
  (.seq (.seq (.reg [
    ⟨some 23, .fieldAddr 25 (.tmp 2) 1, none⟩,
    ⟨some 24, .load 23 (.tmp 23), none⟩,
    ⟨some 25, .fieldAddr 25 (.tmp 3) 1, none⟩,
    ⟨some 26, .load 23 (.tmp 25), none⟩,
    ⟨some 27, .call ⟨(.value (.func 120)), #[(.tmp 24), (.tmp 26)], #[23, 23]⟩, none⟩,
    ⟨some 22, .move (.tmp 27), none⟩,
    ⟨some 28, .extract (.tmp 22) 0, none⟩,
    ⟨some 29, .extract (.tmp 22) 1, none⟩,
    ⟨some 5, .assign (.tmp 28), none⟩,
    ⟨some 6, .assign (.tmp 29), none⟩])
  (.seq (.reg [
    ⟨some 30, .move (.tmp 6), none⟩])
  (.cond (.tmp 30)
    (.seq (.reg [
      ⟨some 31, .fieldAddr 25 (.tmp 2) 0, none⟩,
      ⟨some 32, .load 4 (.tmp 31), none⟩,
      ⟨some 33, .move (.tmp 5), none⟩,
      ⟨some 34, .call ⟨(.value (.func 117)), #[(.tmp 32), (.tmp 33)], #[4, 23]⟩, none⟩,
      ⟨none, .store 25 (.tmp 4) (.tmp 34), none⟩])
    .ret)
    .skip)))
  (.seq (.reg [
    ⟨some 36, .fieldAddr 25 (.tmp 3) 1, none⟩,
    ⟨some 37, .load 23 (.tmp 36), none⟩,
    ⟨some 38, .fieldAddr 25 (.tmp 2) 1, none⟩,
    ⟨some 39, .load 23 (.tmp 38), none⟩,
    ⟨some 40, .call ⟨(.value (.func 120)), #[(.tmp 37), (.tmp 39)], #[23, 23]⟩, none⟩,
    ⟨some 35, .move (.tmp 40), none⟩,
    ⟨some 41, .extract (.tmp 35) 0, none⟩,
    ⟨some 42, .extract (.tmp 35) 1, none⟩,
    ⟨some 7, .assign (.tmp 41), none⟩,
    ⟨some 8, .assign (.tmp 42), none⟩])
  (.seq (.reg [
    ⟨some 43, .fieldAddr 25 (.tmp 3) 0, none⟩,
    ⟨some 44, .load 4 (.tmp 43), none⟩,
    ⟨some 45, .move (.tmp 7), none⟩,
    ⟨some 46, .call ⟨(.value (.func 117)), #[(.tmp 44), (.tmp 45)], #[4, 23]⟩, none⟩,
    ⟨none, .store 25 (.tmp 4) (.tmp 46), none⟩])
  .ret)))))⟩
theorem c85 : fcomp Tryz.prog 85 = ⟨b85.n, b85.np, b85.res, b85.body.bare⟩ := by kernel_rfl
theorem k85 : fok Tryz.prog 85 = true := by kernel_rfl
theorem int_Add (a b : Bool) (m k : List Int) (hm : Lim m) (hk : Lim k) (lm : m.length < 549755813888) (lk : k.length < 549755813888) : AFun Tryz.prog 85 [.agg [.lit (.bool a), natD m], .agg [.lit (.bool b), natD k]] [.agg (intC (iv a m + iv b k))] := by
  refine afun_intro mo_ _ _ c85 k85 _ _ rfl (by decide) ?_
  unfold b85
  have hab : (nl (nv m + nv k)).length ≤ max m.length k.length + 1 := by
    refine nl_len ?_
    have h1 := nv_lt hm
    have h2 := nv_lt hk
    have h3 : 4294967296 ^ m.length ≤ 4294967296 ^ max m.length k.length := Nat.pow_le_pow_right (by decide) (by omega)
    have h4 : 4294967296 ^ k.length ≤ 4294967296 ^ max m.length k.length := Nat.pow_le_pow_right (by decide) (by omega)
    rw [Nat.pow_succ]
    omega
  simp (maxSteps := 1000000) (disch := first | omega | (simp only [LL]; omega)) only [W, V, TY, CC, reduceIte, Nat.reduceEqDiff, Nat.reduceAdd, Nat.reduceLeDiff, Nat.reduceLT, Int.reduceLE, Int.reduceLT, Int.reduceAdd, Int.reduceSub, Int.reduceToNat, Nat.reduceMul]
  refine c_splitb (fun h => ?_) (fun h => ?_)
  · have hb : a = b := by simpa using h
    subst hb
    simp (maxSteps := 1000000) (disch := first | omega | (simp only [LL]; omega)) only [W, V, TY, CC, reduceIte, Nat.reduceEqDiff, Nat.reduceAdd, Nat.reduceLeDiff, Nat.reduceLT, Int.reduceLE, Int.reduceLT, Int.reduceAdd, Int.reduceSub, Int.reduceToNat, Nat.reduceMul]
    refine a_call _ _ (nat_Add m k hm hk (by omega) (by omega)) (by simp (maxSteps := 1000000) (disch := first | omega | (simp only [LL]; omega)) only [W, V, TY, CC, reduceIte, Nat.reduceEqDiff, Nat.reduceAdd, Nat.reduceLeDiff, Nat.reduceLT, Int.reduceLE, Int.reduceLT, Int.reduceAdd, Int.reduceSub, Int.reduceToNat, Nat.reduceMul]) ?_
    simp (maxSteps := 1000000) (disch := first | omega | (simp only [LL]; omega)) only [W, V, TY, CC, reduceIte, Nat.reduceEqDiff, Nat.reduceAdd, Nat.reduceLeDiff, Nat.reduceLT, Int.reduceLE, Int.reduceLT, Int.reduceAdd, Int.reduceSub, Int.reduceToNat, Nat.reduceMul]
    refine a_call _ _ (int_Make a (nl (nv m + nv k)) (nl_lim _) (by omega)) (by simp (maxSteps := 1000000) (disch := first | omega | (simp only [LL]; omega)) only [W, V, TY, CC, reduceIte, Nat.reduceEqDiff, Nat.reduceAdd, Nat.reduceLeDiff, Nat.reduceLT, Int.reduceLE, Int.reduceLT, Int.reduceAdd, Int.reduceSub, Int.reduceToNat, Nat.reduceMul]) ?_
    simp (maxSteps := 1000000) (disch := first | omega | (simp only [LL]; omega)) only [W, V, TY, CC, reduceIte, Nat.reduceEqDiff, Nat.reduceAdd, Nat.reduceLeDiff, Nat.reduceLT, Int.reduceLE, Int.reduceLT, Int.reduceAdd, Int.reduceSub, Int.reduceToNat, Nat.reduceMul, intC]
    refine f_ret _ _ _ ?_
    simp (maxSteps := 1000000) (disch := first | omega | (simp only [LL]; omega)) only [W, V, TY, CC, reduceIte, Nat.reduceEqDiff, Nat.reduceAdd, Nat.reduceLeDiff, Nat.reduceLT, Int.reduceLE, Int.reduceLT, Int.reduceAdd, Int.reduceSub, Int.reduceToNat, Nat.reduceMul, intC, add_same]
  · have hb : b = !a := by cases a <;> cases b <;> simp at h ⊢
    subst hb
    simp (maxSteps := 1000000) (disch := first | omega | (simp only [LL]; omega)) only [W, V, TY, CC, reduceIte, Nat.reduceEqDiff, Nat.reduceAdd, Nat.reduceLeDiff, Nat.reduceLT, Int.reduceLE, Int.reduceLT, Int.reduceAdd, Int.reduceSub, Int.reduceToNat, Nat.reduceMul]
    refine a_call _ _ (nat_Sub m k hm hk (by omega) (by omega)) (by simp (maxSteps := 1000000) (disch := first | omega | (simp only [LL]; omega)) only [W, V, TY, CC, reduceIte, Nat.reduceEqDiff, Nat.reduceAdd, Nat.reduceLeDiff, Nat.reduceLT, Int.reduceLE, Int.reduceLT, Int.reduceAdd, Int.reduceSub, Int.reduceToNat, Nat.reduceMul]) ?_
    unfold subR
    by_cases hle : nv k ≤ nv m
    · rw [if_pos hle]
      simp (maxSteps := 1000000) (disch := first | omega | (simp only [LL]; omega)) only [W, V, TY, CC, reduceIte, Nat.reduceEqDiff, Nat.reduceAdd, Nat.reduceLeDiff, Nat.reduceLT, Int.reduceLE, Int.reduceLT, Int.reduceAdd, Int.reduceSub, Int.reduceToNat, Nat.reduceMul]
      refine a_call _ _ (int_Make a (nl (nv m - nv k)) (nl_lim _) (by have := nl_len_le hm (show nv m - nv k ≤ nv m by omega); omega)) (by simp (maxSteps := 1000000) (disch := first | omega | (simp only [LL]; omega)) only [W, V, TY, CC, reduceIte, Nat.reduceEqDiff, Nat.reduceAdd, Nat.reduceLeDiff, Nat.reduceLT, Int.reduceLE, Int.reduceLT, Int.reduceAdd, Int.reduceSub, Int.reduceToNat, Nat.reduceMul]) ?_
      simp (maxSteps := 1000000) (disch := first | omega | (simp only [LL]; omega)) only [W, V, TY, CC, reduceIte, Nat.reduceEqDiff, Nat.reduceAdd, Nat.reduceLeDiff, Nat.reduceLT, Int.reduceLE, Int.reduceLT, Int.reduceAdd, Int.reduceSub, Int.reduceToNat, Nat.reduceMul, intC]
      refine f_ret _ _ _ ?_
      simp (maxSteps := 1000000) (disch := first | omega | (simp only [LL]; omega)) only [W, V, TY, CC, reduceIte, Nat.reduceEqDiff, Nat.reduceAdd, Nat.reduceLeDiff, Nat.reduceLT, Int.reduceLE, Int.reduceLT, Int.reduceAdd, Int.reduceSub, Int.reduceToNat, Nat.reduceMul, intC, add_left a m k hle]
    · rw [if_neg hle]
      simp (maxSteps := 1000000) (disch := first | omega | (simp only [LL]; omega)) only [W, V, TY, CC, reduceIte, Nat.reduceEqDiff, Nat.reduceAdd, Nat.reduceLeDiff, Nat.reduceLT, Int.reduceLE, Int.reduceLT, Int.reduceAdd, Int.reduceSub, Int.reduceToNat, Nat.reduceMul]
      refine a_call _ _ (nat_Sub k m hk hm (by omega) (by omega)) (by simp (maxSteps := 1000000) (disch := first | omega | (simp only [LL]; omega)) only [W, V, TY, CC, reduceIte, Nat.reduceEqDiff, Nat.reduceAdd, Nat.reduceLeDiff, Nat.reduceLT, Int.reduceLE, Int.reduceLT, Int.reduceAdd, Int.reduceSub, Int.reduceToNat, Nat.reduceMul]) ?_
      unfold subR
      rw [if_pos (by omega)]
      simp (maxSteps := 1000000) (disch := first | omega | (simp only [LL]; omega)) only [W, V, TY, CC, reduceIte, Nat.reduceEqDiff, Nat.reduceAdd, Nat.reduceLeDiff, Nat.reduceLT, Int.reduceLE, Int.reduceLT, Int.reduceAdd, Int.reduceSub, Int.reduceToNat, Nat.reduceMul]
      refine a_call _ _ (int_Make (!a) (nl (nv k - nv m)) (nl_lim _) (by have := nl_len_le hk (show nv k - nv m ≤ nv k by omega); omega)) (by simp (maxSteps := 1000000) (disch := first | omega | (simp only [LL]; omega)) only [W, V, TY, CC, reduceIte, Nat.reduceEqDiff, Nat.reduceAdd, Nat.reduceLeDiff, Nat.reduceLT, Int.reduceLE, Int.reduceLT, Int.reduceAdd, Int.reduceSub, Int.reduceToNat, Nat.reduceMul]) ?_
      simp (maxSteps := 1000000) (disch := first | omega | (simp only [LL]; omega)) only [W, V, TY, CC, reduceIte, Nat.reduceEqDiff, Nat.reduceAdd, Nat.reduceLeDiff, Nat.reduceLT, Int.reduceLE, Int.reduceLT, Int.reduceAdd, Int.reduceSub, Int.reduceToNat, Nat.reduceMul, intC]
      refine f_ret _ _ _ ?_
      simp (maxSteps := 1000000) (disch := first | omega | (simp only [LL]; omega)) only [W, V, TY, CC, reduceIte, Nat.reduceEqDiff, Nat.reduceAdd, Nat.reduceLeDiff, Nat.reduceLT, Int.reduceLE, Int.reduceLT, Int.reduceAdd, Int.reduceSub, Int.reduceToNat, Nat.reduceMul, intC, add_right a m k (by omega)]
theorem cmp_nn {a b : Bool} {m k : List Int} (hm : Lim m) (hk : Lim k) (h1 : 0 ≤ iv a m) (h2 : 0 ≤ iv b k) : cmpZ (val m) (val k) = cmpZ (iv a m) (iv b k) := by
  have := iv_abs a m
  have := iv_abs b k
  rw [← nv_eq hm, ← nv_eq hk, show iv a m = nv m by omega, show iv b k = nv k by omega]
theorem cmp_np {a b : Bool} {m k : List Int} (hm : Lim m) (hk : Lim k) (h1 : iv a m < 0) (h2 : iv b k < 0) : cmpZ (val k) (val m) = cmpZ (iv a m) (iv b k) := by
  have := iv_abs a m
  have := iv_abs b k
  rw [← nv_eq hm, ← nv_eq hk, show iv a m = -(nv m : Int) by omega, show iv b k = -(nv k : Int) by omega]
  unfold cmpZ
  repeat' split
  all_goals omega
theorem sgn_cases (z : Int) : (z < 0 ∧ sgn z = -1) ∨ (z = 0 ∧ sgn z = 0) ∨ (0 < z ∧ sgn z = 1) := by
  unfold sgn
  split
  · left; omega
  · split <;> omega
/-- examboard/integer.Cmp -/
def b96 : AF := ⟨32, 2, [.tmp 4],
  (.seq (.reg [
    ⟨some 2, .box 25 (.tmp 0), none⟩,
    ⟨some 3, .box 25 (.tmp 1), none⟩,
    ⟨some 4, .assign (.const (.int .i64 0)), none⟩])
  (.seq (.dreg [
    ⟨some 7, .load 25 (.tmp 2), none⟩,
    ⟨some 8, .call ⟨(.value (.func 108)), #[(.tmp 7)], #[25]⟩, none⟩,
    ⟨some 9, .load 25 (.tmp 3), none⟩,
    ⟨some 10, .call ⟨(.value (.func 108)), #[(.tmp 9)], #[25]⟩, none⟩,
    ⟨some 5, .assign (.tmp 8), none⟩,
    ⟨some 6, .assign (.tmp 10), none⟩])
  (.seq (.block 0 (.seq (.reg [
    ⟨some 12, .move (.tmp 5), none⟩,
    ⟨some 13, .move (.tmp 6), none⟩,
    ⟨some 14, .binOp .lss 3 (.tmp 12) (.tmp 13) 3, none⟩,
    ⟨some 11, .assign (.tmp 14), none⟩])
  (.cond (.tmp 11)
    (.seq (.reg [
      ⟨some 4, .assign (.const (.int .i64 (-1))), none⟩])
    .ret)
    (.seq (.reg [
      ⟨some 16, .move (.tmp 5), none⟩,
      ⟨some 17, .move (.tmp 6), none⟩,
      ⟨some 18, .binOp .gtr 3 (.tmp 16) (.tmp 17) 3, none⟩,
      ⟨some 15, .assign (.tmp 18), none⟩])
    (.cond (.tmp 15)
      (.seq (.reg [
        ⟨some 4, .assign (.const (.int .i64 1)), none⟩])
      .ret)
      (.seq (.reg [
        ⟨some 20, .move (.tmp 5), none⟩,
        ⟨some 21, .binOp .lss 3 (.tmp 20) (.const (.int .i64 0)) 3, none⟩,
        ⟨some 19, .assign (.tmp 21), none⟩])
      (.cond (.tmp 19)
        (.seq (.reg [
          ⟨some 22, .fieldAddr 25 (.tmp 3) 1, none⟩,
          ⟨some 23, .load 23 (.tmp 22), none⟩,
          ⟨some 24, .fieldAddr 25 (.tmp 2) 1, none⟩,
          ⟨some 25, .load 23 (.tmp 24), none⟩,
          ⟨some 26, .call ⟨(.value (.func 98)), #[(.tmp 23), (.tmp 25)], #[23, 23]⟩, none⟩,
          ⟨some 4, .assign (.tmp 26), none⟩])
        .ret)
        .skip)))))))
  (.seq (.reg [
    ⟨some 27, .fieldAddr 25 (.tmp 2) 1, none⟩,
    ⟨some 28, .load 23 (.tmp 27), none⟩,
    ⟨some 29, .fieldAddr 25 (.tmp 3) 1, none⟩,
    ⟨some 30, .load 23 (.tmp 29), none⟩,
    ⟨some 31, .call ⟨(.value (.func 98)), #[(.tmp 28), (.tmp 30)], #[23, 23]⟩, none⟩,
    ⟨some 4, .assign (.tmp 31), none⟩])
  .ret))))⟩
theorem c96 : fcomp Tryz.prog 96 = ⟨b96.n, b96.np, b96.res, b96.body.bare⟩ := by kernel_rfl
theorem k96 : fok Tryz.prog 96 = true := by kernel_rfl
theorem int_Cmp (a b : Bool) (m k : List Int) (hm : Lim m) (hk : Lim k) (lm : m.length < 2199023255552) (lk : k.length < 2199023255552) : AFun Tryz.prog 96 [.agg [.lit (.bool a), natD m], .agg [.lit (.bool b), natD k]] [.one (.lit (.int .i64 (cmpZ (iv a m) (iv b k))))] := by
  refine afun_intro mo_ _ _ c96 k96 _ _ rfl (by decide) ?_
  unfold b96
  simp (maxSteps := 1000000) (disch := first | omega | (simp only [LL]; omega)) only [W, V, TY, CC, reduceIte, Nat.reduceEqDiff, Nat.reduceAdd, Nat.reduceLeDiff, Nat.reduceLT, Int.reduceLE, Int.reduceLT, Int.reduceAdd, Int.reduceSub, Int.reduceToNat, Nat.reduceMul]
  refine a_call _ _ (int_Sign a m hm lm) (by simp (maxSteps := 1000000) (disch := first | omega | (simp only [LL]; omega)) only [W, V, TY, CC, reduceIte, Nat.reduceEqDiff, Nat.reduceAdd, Nat.reduceLeDiff, Nat.reduceLT, Int.reduceLE, Int.reduceLT, Int.reduceAdd, Int.reduceSub, Int.reduceToNat, Nat.reduceMul]) ?_
  simp (maxSteps := 1000000) (disch := first | omega | (simp only [LL]; omega)) only [W, V, TY, CC, reduceIte, Nat.reduceEqDiff, Nat.reduceAdd, Nat.reduceLeDiff, Nat.reduceLT, Int.reduceLE, Int.reduceLT, Int.reduceAdd, Int.reduceSub, Int.reduceToNat, Nat.reduceMul]
  refine a_call _ _ (int_Sign b k hk lk) (by simp (maxSteps := 1000000) (disch := first | omega | (simp only [LL]; omega)) only [W, V, TY, CC, reduceIte, Nat.reduceEqDiff, Nat.reduceAdd, Nat.reduceLeDiff, Nat.reduceLT, Int.reduceLE, Int.reduceLT, Int.reduceAdd, Int.reduceSub, Int.reduceToNat, Nat.reduceMul]) ?_
  simp (maxSteps := 1000000) (disch := first | omega | (simp only [LL]; omega)) only [W, V, TY, CC, reduceIte, Nat.reduceEqDiff, Nat.reduceAdd, Nat.reduceLeDiff, Nat.reduceLT, Int.reduceLE, Int.reduceLT, Int.reduceAdd, Int.reduceSub, Int.reduceToNat, Nat.reduceMul]
  have s1 := sgn_cases (iv a m)
  have s2 := sgn_cases (iv b k)
  refine c_split (fun h => ?_) (fun h => ?_)
  · have hc : cmpZ (iv a m) (iv b k) = -1 := by unfold cmpZ; rw [if_pos (by omega)]
    simp (maxSteps := 1000000) (disch := first | omega | (simp only [LL]; omega)) only [W, V, TY, CC, reduceIte, Nat.reduceEqDiff, Nat.reduceAdd, Nat.reduceLeDiff, Nat.reduceLT, Int.reduceLE, Int.reduceLT, Int.reduceAdd, Int.reduceSub, Int.reduceToNat, Nat.reduceMul]
    refine f_ret _ _ _ ?_
    simp (maxSteps := 1000000) (disch := first | omega | (simp only [LL]; omega)) only [W, V, TY, CC, reduceIte, Nat.reduceEqDiff, Nat.reduceAdd, Nat.reduceLeDiff, Nat.reduceLT, Int.reduceLE, Int.reduceLT, Int.reduceAdd, Int.reduceSub, Int.reduceToNat, Nat.reduceMul, hc]
  · simp (maxSteps := 1000000) (disch := first | omega | (simp only [LL]; omega)) only [W, V, TY, CC, reduceIte, Nat.reduceEqDiff, Nat.reduceAdd, Nat.reduceLeDiff, Nat.reduceLT, Int.reduceLE, Int.reduceLT, Int.reduceAdd, Int.reduceSub, Int.reduceToNat, Nat.reduceMul]
    refine c_split (fun h1 => ?_) (fun h1 => ?_)
    · have hc : cmpZ (iv a m) (iv b k) = 1 := by unfold cmpZ; rw [if_neg (by omega), if_pos (by omega)]
      simp (maxSteps := 1000000) (disch := first | omega | (simp only [LL]; omega)) only [W, V, TY, CC, reduceIte, Nat.reduceEqDiff, Nat.reduceAdd, Nat.reduceLeDiff, Nat.reduceLT, Int.reduceLE, Int.reduceLT, Int.reduceAdd, Int.reduceSub, Int.reduceToNat, Nat.reduceMul]
      refine f_ret _ _ _ ?_
      simp (maxSteps := 1000000) (disch := first | omega | (simp only [LL]; omega)) only [W, V, TY, CC, reduceIte, Nat.reduceEqDiff, Nat.reduceAdd, Nat.reduceLeDiff, Nat.reduceLT, Int.reduceLE, Int.reduceLT, Int.reduceAdd, Int.reduceSub, Int.reduceToNat, Nat.reduceMul, hc]
    · simp (maxSteps := 1000000) (disch := first | omega | (simp only [LL]; omega)) only [W, V, TY, CC, reduceIte, Nat.reduceEqDiff, Nat.reduceAdd, Nat.reduceLeDiff, Nat.reduceLT, Int.reduceLE, Int.reduceLT, Int.reduceAdd, Int.reduceSub, Int.reduceToNat, Nat.reduceMul]
      refine c_split (fun h2 => ?_) (fun h2 => ?_)
      · simp (maxSteps := 1000000) (disch := first | omega | (simp only [LL]; omega)) only [W, V, TY, CC, reduceIte, Nat.reduceEqDiff, Nat.reduceAdd, Nat.reduceLeDiff, Nat.reduceLT, Int.reduceLE, Int.reduceLT, Int.reduceAdd, Int.reduceSub, Int.reduceToNat, Nat.reduceMul]
        refine a_call _ _ (nat_Cmp k m hk hm (by omega) (by omega)) (by simp (maxSteps := 1000000) (disch := first | omega | (simp only [LL]; omega)) only [W, V, TY, CC, reduceIte, Nat.reduceEqDiff, Nat.reduceAdd, Nat.reduceLeDiff, Nat.reduceLT, Int.reduceLE, Int.reduceLT, Int.reduceAdd, Int.reduceSub, Int.reduceToNat, Nat.reduceMul]) ?_
        rw [cmp_np (a := a) (b := b) hm hk (by omega) (by omega)]
        simp (maxSteps := 1000000) (disch := first | omega | (simp only [LL]; omega)) only [W, V, TY, CC, reduceIte, Nat.reduceEqDiff, Nat.reduceAdd, Nat.reduceLeDiff, Nat.reduceLT, Int.reduceLE, Int.reduceLT, Int.reduceAdd, Int.reduceSub, Int.reduceToNat, Nat.reduceMul]
        refine f_ret _ _ _ ?_
        simp (maxSteps := 1000000) (disch := first | omega | (simp only [LL]; omega)) only [W, V, TY, CC, reduceIte, Nat.reduceEqDiff, Nat.reduceAdd, Nat.reduceLeDiff, Nat.reduceLT, Int.reduceLE, Int.reduceLT, Int.reduceAdd, Int.reduceSub, Int.reduceToNat, Nat.reduceMul]
      · simp (maxSteps := 1000000) (disch := first | omega | (simp only [LL]; omega)) only [W, V, TY, CC, reduceIte, Nat.reduceEqDiff, Nat.reduceAdd, Nat.reduceLeDiff, Nat.reduceLT, Int.reduceLE, Int.reduceLT, Int.reduceAdd, Int.reduceSub, Int.reduceToNat, Nat.reduceMul]
        refine a_call _ _ (nat_Cmp m k hm hk (by omega) (by omega)) (by simp (maxSteps := 1000000) (disch := first | omega | (simp only [LL]; omega)) only [W, V, TY, CC, reduceIte, Nat.reduceEqDiff, Nat.reduceAdd, Nat.reduceLeDiff, Nat.reduceLT, Int.reduceLE, Int.reduceLT, Int.reduceAdd, Int.reduceSub, Int.reduceToNat, Nat.reduceMul]) ?_
        rw [cmp_nn (a := a) (b := b) hm hk (by omega) (by omega)]
        simp (maxSteps := 1000000) (disch := first | omega | (simp only [LL]; omega)) only [W, V, TY, CC, reduceIte, Nat.reduceEqDiff, Nat.reduceAdd, Nat.reduceLeDiff, Nat.reduceLT, Int.reduceLE, Int.reduceLT, Int.reduceAdd, Int.reduceSub, Int.reduceToNat, Nat.reduceMul]
        refine f_ret _ _ _ ?_
        simp (maxSteps := 1000000) (disch := first | omega | (simp only [LL]; omega)) only [W, V, TY, CC, reduceIte, Nat.reduceEqDiff, Nat.reduceAdd, Nat.reduceLeDiff, Nat.reduceLT, Int.reduceLE, Int.reduceLT, Int.reduceAdd, Int.reduceSub, Int.reduceToNat, Nat.reduceMul]
theorem of_neg {z : Int} (h : z < 0) : intC z = [.lit (.bool true), natD (nl z.natAbs)] := by unfold intC; rw [decide_eq_true h]
theorem of_nn {z : Int} (h : ¬ z < 0) : intC z = [.lit (.bool false), natD (nl z.natAbs)] := by unfold intC; rw [decide_eq_false h]
/-- examboard/integer.Of -/
def b109 : AF := ⟨16, 1, [.cell 2 25],
  (.seq (.reg [
    ⟨some 2, .alloc 25, none⟩])
  (.seq (.seq (.reg [
    ⟨some 3, .move (.tmp 0), none⟩,
    ⟨some 4, .binOp .lss 2 (.tmp 3) (.const (.int .i64 0)) 2, none⟩])
  (.cond (.tmp 4)
    (.seq (.reg [
      ⟨some 5, .move (.tmp 0), none⟩,
      ⟨some 6, .binOp .add 2 (.tmp 5) (.const (.int .i64 1)) 2, none⟩,
      ⟨some 7, .unOp .neg 2 (.tmp 6), none⟩,
      ⟨some 8, .convert 2 97 (.tmp 7), none⟩,
      ⟨some 9, .binOp .add 97 (.tmp 8) (.const (.int .u64 1)) 97, none⟩,
      ⟨some 10, .call ⟨(.value (.func 99)), #[(.tmp 9)], #[97]⟩, none⟩,
      ⟨some 11, .build 25 #[(0, (.const (.bool true))), (1, (.tmp 10))], none⟩,
      ⟨none, .store 25 (.tmp 2) (.tmp 11), none⟩])
    .ret)
    .skip))
  (.seq (.reg [
    ⟨some 12, .move (.tmp 0), none⟩,
    ⟨some 13, .convert 2 97 (.tmp 12), none⟩,
    ⟨some 14, .call ⟨(.value (.func 99)), #[(.tmp 13)], #[97]⟩, none⟩,
    ⟨some 15, .build 25 #[(1, (.tmp 14))], none⟩,
    ⟨none, .store 25 (.tmp 2) (.tmp 15), none⟩])
  .ret)))⟩
theorem c109 : fcomp Tryz.prog 109 = ⟨b109.n, b109.np, b109.res, b109.body.bare⟩ := by kernel_rfl
theorem k109 : fok Tryz.prog 109 = true := by kernel_rfl
theorem int_Of (z : Int) (h0 : -9223372036854775808 ≤ z) (h1 : z < 9223372036854775808) : AFun Tryz.prog 109 [.one (.lit (.int .i64 z))] [.agg (intC z)] := by
  refine afun_intro mo_ _ _ c109 k109 _ _ rfl (by decide) ?_
  unfold b109
  simp (maxSteps := 1000000) (disch := first | omega | (simp only [LL]; omega)) only [W, V, TY, CC, reduceIte, Nat.reduceEqDiff, Nat.reduceAdd, Nat.reduceLeDiff, Nat.reduceLT, Int.reduceLE, Int.reduceLT, Int.reduceAdd, Int.reduceSub, Int.reduceToNat, Nat.reduceMul]
  refine c_split (fun h => ?_) (fun h => ?_)
  · have e1 : 0 - (z + 1) + 1 = (z.natAbs : Int) := by omega
    simp (maxSteps := 1000000) (disch := first | omega | (simp only [LL]; omega)) only [W, V, TY, CC, reduceIte, Nat.reduceEqDiff, Nat.reduceAdd, Nat.reduceLeDiff, Nat.reduceLT, Int.reduceLE, Int.reduceLT, Int.reduceAdd, Int.reduceSub, Int.reduceToNat, Nat.reduceMul, wi64 (n := z + 1) (by omega) (by omega), wi64 (n := 0 - (z + 1)) (by omega) (by omega), wu64 (n := 0 - (z + 1)) (by omega) (by omega), e1]
    refine a_call _ _ (nat_Of (z.natAbs : Int) (by omega) (by omega)) (by simp (maxSteps := 1000000) (disch := first | omega | (simp only [LL]; omega)) only [W, V, TY, CC, reduceIte, Nat.reduceEqDiff, Nat.reduceAdd, Nat.reduceLeDiff, Nat.reduceLT, Int.reduceLE, Int.reduceLT, Int.reduceAdd, Int.reduceSub, Int.reduceToNat, Nat.reduceMul]) ?_
    simp (maxSteps := 1000000) (disch := first | omega | (simp only [LL]; omega)) only [W, V, TY, CC, reduceIte, Nat.reduceEqDiff, Nat.reduceAdd, Nat.reduceLeDiff, Nat.reduceLT, Int.reduceLE, Int.reduceLT, Int.reduceAdd, Int.reduceSub, Int.reduceToNat, Nat.reduceMul]
    refine f_ret _ _ _ ?_
    simp (maxSteps := 1000000) (disch := first | omega | (simp only [LL]; omega)) only [W, V, TY, CC, reduceIte, Nat.reduceEqDiff, Nat.reduceAdd, Nat.reduceLeDiff, Nat.reduceLT, Int.reduceLE, Int.reduceLT, Int.reduceAdd, Int.reduceSub, Int.reduceToNat, Nat.reduceMul, of_neg h]
  · have e1 : z = (z.natAbs : Int) := by omega
    simp (maxSteps := 1000000) (disch := first | omega | (simp only [LL]; omega)) only [W, V, TY, CC, reduceIte, Nat.reduceEqDiff, Nat.reduceAdd, Nat.reduceLeDiff, Nat.reduceLT, Int.reduceLE, Int.reduceLT, Int.reduceAdd, Int.reduceSub, Int.reduceToNat, Nat.reduceMul]
    refine a_call _ _ (nat_Of z (by omega) (by omega)) (by simp (maxSteps := 1000000) (disch := first | omega | (simp only [LL]; omega)) only [W, V, TY, CC, reduceIte, Nat.reduceEqDiff, Nat.reduceAdd, Nat.reduceLeDiff, Nat.reduceLT, Int.reduceLE, Int.reduceLT, Int.reduceAdd, Int.reduceSub, Int.reduceToNat, Nat.reduceMul]) ?_
    have e2 : z.toNat = z.natAbs := by omega
    simp (maxSteps := 1000000) (disch := first | omega | (simp only [LL]; omega)) only [W, V, TY, CC, reduceIte, Nat.reduceEqDiff, Nat.reduceAdd, Nat.reduceLeDiff, Nat.reduceLT, Int.reduceLE, Int.reduceLT, Int.reduceAdd, Int.reduceSub, Int.reduceToNat, Nat.reduceMul, e2]
    refine f_ret _ _ _ ?_
    simp (maxSteps := 1000000) (disch := first | omega | (simp only [LL]; omega)) only [W, V, TY, CC, reduceIte, Nat.reduceEqDiff, Nat.reduceAdd, Nat.reduceLeDiff, Nat.reduceLT, Int.reduceLE, Int.reduceLT, Int.reduceAdd, Int.reduceSub, Int.reduceToNat, Nat.reduceMul, of_nn h]
/-- examboard/integer.Sub -/
def b95 : AF := ⟨9, 2, [.cell 4 25],
  (.seq (.reg [
    ⟨some 2, .box 25 (.tmp 0), none⟩,
    ⟨some 3, .box 25 (.tmp 1), none⟩,
    ⟨some 4, .alloc 25, none⟩])
  (.seq (.dreg [
    ⟨some 5, .load 25 (.tmp 2), none⟩,
    ⟨some 6, .load 25 (.tmp 3), none⟩,
    ⟨some 7, .call ⟨(.value (.func 103)), #[(.tmp 6)], #[25]⟩, none⟩,
    ⟨some 8, .call ⟨(.value (.func 85)), #[(.tmp 5), (.tmp 7)], #[25, 25]⟩, none⟩,
    ⟨none, .store 25 (.tmp 4) (.tmp 8), none⟩])
  .ret))⟩
theorem c95 : fcomp Tryz.prog 95 = ⟨b95.n, b95.np, b95.res, b95.body.bare⟩ := by kernel_rfl
theorem k95 : fok Tryz.prog 95 = true := by kernel_rfl
theorem int_Sub (a b : Bool) (m k : List Int) (hm : Lim m) (hk : Lim k) (lm : m.length < 549755813888) (lk : k.length < 549755813888) : AFun Tryz.prog 95 [.agg [.lit (.bool a), natD m], .agg [.lit (.bool b), natD k]] [.agg (intC (iv a m - iv b k))] := by
  refine afun_intro mo_ _ _ c95 k95 _ _ rfl (by decide) ?_
  unfold b95
  have hl : (nl (-iv b k).natAbs).length ≤ k.length := nl_len_le hk (by rw [Int.natAbs_neg, iv_abs]; exact Nat.le_refl _)
  simp (maxSteps := 1000000) (disch := first | omega | (simp only [LL]; omega)) only [W, V, TY, CC, reduceIte, Nat.reduceEqDiff, Nat.reduceAdd, Nat.reduceLeDiff, Nat.reduceLT, Int.reduceLE, Int.reduceLT, Int.reduceAdd, Int.reduceSub, Int.reduceToNat, Nat.reduceMul]
  refine a_call _ _ (int_Neg b k hk (by omega)) (by simp (maxSteps := 1000000) (disch := first | omega | (simp only [LL]; omega)) only [W, V, TY, CC, reduceIte, Nat.reduceEqDiff, Nat.reduceAdd, Nat.reduceLeDiff, Nat.reduceLT, Int.reduceLE, Int.reduceLT, Int.reduceAdd, Int.reduceSub, Int.reduceToNat, Nat.reduceMul]) ?_
  simp (maxSteps := 1000000) (disch := first | omega | (simp only [LL]; omega)) only [W, V, TY, CC, reduceIte, Nat.reduceEqDiff, Nat.reduceAdd, Nat.reduceLeDiff, Nat.reduceLT, Int.reduceLE, Int.reduceLT, Int.reduceAdd, Int.reduceSub, Int.reduceToNat, Nat.reduceMul, intC]
  refine a_call _ _ (int_Add a (decide (-iv b k < 0)) m (nl (-iv b k).natAbs) hm (nl_lim _) lm (by omega)) (by simp (maxSteps := 1000000) (disch := first | omega | (simp only [LL]; omega)) only [W, V, TY, CC, reduceIte, Nat.reduceEqDiff, Nat.reduceAdd, Nat.reduceLeDiff, Nat.reduceLT, Int.reduceLE, Int.reduceLT, Int.reduceAdd, Int.reduceSub, Int.reduceToNat, Nat.reduceMul]) ?_
  rw [iv_nl]
  simp (maxSteps := 1000000) (disch := first | omega | (simp only [LL]; omega)) only [W, V, TY, CC, reduceIte, Nat.reduceEqDiff, Nat.reduceAdd, Nat.reduceLeDiff, Nat.reduceLT, Int.reduceLE, Int.reduceLT, Int.reduceAdd, Int.reduceSub, Int.reduceToNat, Nat.reduceMul, intC]
  refine f_ret _ _ _ ?_
  simp (maxSteps := 1000000) (disch := first | omega | (simp only [LL]; omega)) only [W, V, TY, CC, reduceIte, Nat.reduceEqDiff, Nat.reduceAdd, Nat.reduceLeDiff, Nat.reduceLT, Int.reduceLE, Int.reduceLT, Int.reduceAdd, Int.reduceSub, Int.reduceToNat, Nat.reduceMul, intC, ← Int.sub_eq_add_neg]
end Go.Proofs.YtljmgdepldpmdaaGreatDoor.E

set_option linter.unusedSimpArgs false
set_option linter.unusedVariables false
set_option maxHeartbeats 2000000
namespace Go.Proofs.YtljmgdepldpmdaaGreatDoor.E
open Go.RowKit Limbs
/-- examboard/examboardref02.Norm -/
def b124 : AF := ⟨16, 1, [.cell 2 25],
  (.seq (.reg [
    ⟨some 1, .box 25 (.tmp 0), none⟩,
    ⟨some 2, .alloc 25, none⟩])
  (.seq (.reg [
    ⟨some 4, .fieldAddr 25 (.tmp 1) 1, none⟩,
    ⟨some 5, .load 23 (.tmp 4), none⟩,
    ⟨some 6, .call ⟨(.value (.func 126)), #[(.tmp 5)], #[23]⟩, none⟩,
    ⟨some 3, .assign (.tmp 6), none⟩])
  (.seq (.reg [
    ⟨some 7, .fieldAddr 25 (.tmp 1) 0, none⟩,
    ⟨some 8, .load 4 (.tmp 7), none⟩,
    ⟨some 9, .move (.tmp 8), none⟩,
    ⟨some 10, .move (.tmp 3), some (9, true)⟩,
    ⟨some 11, .call ⟨(.builtin .len), #[(.tmp 10)], #[23]⟩, some (9, true)⟩,
    ⟨some 12, .binOp .gtr 3 (.tmp 11) (.const (.int .i64 0)) 3, some (9, true)⟩,
    ⟨some 13, .pick (.tmp 9) (.tmp 12) (.const (.bool false)), none⟩,
    ⟨some 14, .move (.tmp 3), none⟩,
    ⟨some 15, .build 25 #[(0, (.tmp 13)), (1, (.tmp 14))], none⟩,
    ⟨none, .store 25 (.tmp 2) (.tmp 15), none⟩])
  .ret)))⟩
theorem c124 : fcomp Tryz.prog 124 = ⟨b124.n, b124.np, b124.res, b124.body.bare⟩ := by kernel_rfl
theorem k124 : fok Tryz.prog 124 = true := by kernel_rfl
theorem ri_Norm (n : Bool) (m : List Int) (hm : Lim m) (lm : m.length < 2199023255552) : AFun Tryz.prog 124 [.agg [.lit (.bool n), natD m]] [.agg (intC (iv n m))] := by
  refine afun_intro mo_ _ _ c124 k124 _ _ rfl (by decide) ?_
  unfold b124
  simp (maxSteps := 1000000) (disch := first | omega | (simp only [LL]; omega)) only [W, V, TY, CC, reduceIte, Nat.reduceEqDiff, Nat.reduceAdd, Nat.reduceLeDiff, Nat.reduceLT, Int.reduceLE, Int.reduceLT, Int.reduceAdd, Int.reduceSub, Int.reduceToNat, Nat.reduceMul]
  refine a_call _ _ (ref_Norm m hm (by omega)) (by simp (maxSteps := 1000000) (disch := first | omega | (simp only [LL]; omega)) only [W, V, TY, CC, reduceIte, Nat.reduceEqDiff, Nat.reduceAdd, Nat.reduceLeDiff, Nat.reduceLT, Int.reduceLE, Int.reduceLT, Int.reduceAdd, Int.reduceSub, Int.reduceToNat, Nat.reduceMul]) ?_
  simp (maxSteps := 1000000) (disch := first | omega | (simp only [LL]; omega)) only [W, V, TY, CC, reduceIte, Nat.reduceEqDiff, Nat.reduceAdd, Nat.reduceLeDiff, Nat.reduceLT, Int.reduceLE, Int.reduceLT, Int.reduceAdd, Int.reduceSub, Int.reduceToNat, Nat.reduceMul]
  cases n
  · simp (maxSteps := 1000000) (disch := first | omega | (simp only [LL]; omega)) only [W, V, TY, CC, reduceIte, Nat.reduceEqDiff, Nat.reduceAdd, Nat.reduceLeDiff, Nat.reduceLT, Int.reduceLE, Int.reduceLT, Int.reduceAdd, Int.reduceSub, Int.reduceToNat, Nat.reduceMul, g_ft]
    refine f_ret _ _ _ ?_
    simp (maxSteps := 1000000) (disch := first | omega | (simp only [LL]; omega)) only [W, V, TY, CC, reduceIte, Nat.reduceEqDiff, Nat.reduceAdd, Nat.reduceLeDiff, Nat.reduceLT, Int.reduceLE, Int.reduceLT, Int.reduceAdd, Int.reduceSub, Int.reduceToNat, Nat.reduceMul, mk_false]
  · simp (maxSteps := 1000000) (disch := first | omega | (simp only [LL]; omega)) only [W, V, TY, CC, reduceIte, Nat.reduceEqDiff, Nat.reduceAdd, Nat.reduceLeDiff, Nat.reduceLT, Int.reduceLE, Int.reduceLT, Int.reduceAdd, Int.reduceSub, Int.reduceToNat, Nat.reduceMul, g_tt]
    refine f_ret _ _ _ ?_
    simp (maxSteps := 1000000) (disch := first | omega | (simp only [LL]; omega)) only [W, V, TY, CC, reduceIte, Nat.reduceEqDiff, Nat.reduceAdd, Nat.reduceLeDiff, Nat.reduceLT, Int.reduceLE, Int.reduceLT, Int.reduceAdd, Int.reduceSub, Int.reduceToNat, Nat.reduceMul, mk_true]
/-- examboard/examboardref02.Make -/
def b90 : AF := ⟨9, 2, [.cell 4 25],
  (.seq (.reg [
    ⟨some 4, .alloc 25, none⟩])
  (.seq (.reg [
    ⟨some 5, .move (.tmp 0), none⟩,
    ⟨some 6, .move (.tmp 1), none⟩,
    ⟨some 7, .build 25 #[(0, (.tmp 5)), (1, (.tmp 6))], none⟩,
    ⟨some 8, .call ⟨(.value (.func 124)), #[(.tmp 7)], #[25]⟩, none⟩,
    ⟨none, .store 25 (.tmp 4) (.tmp 8), none⟩])
  .ret))⟩
theorem c90 : fcomp Tryz.prog 90 = ⟨b90.n, b90.np, b90.res, b90.body.bare⟩ := by kernel_rfl
theorem k90 : fok Tryz.prog 90 = true := by kernel_rfl
theorem ri_Make (n : Bool) (m : List Int) (hm : Lim m) (lm : m.length < 2199023255552) : AFun Tryz.prog 90 [.one (.lit (.bool n)), .one (natD m)] [.agg (intC (iv n m))] := by
  refine afun_intro mo_ _ _ c90 k90 _ _ rfl (by decide) ?_
  unfold b90
  simp (maxSteps := 1000000) (disch := first | omega | (simp only [LL]; omega)) only [W, V, TY, CC, reduceIte, Nat.reduceEqDiff, Nat.reduceAdd, Nat.reduceLeDiff, Nat.reduceLT, Int.reduceLE, Int.reduceLT, Int.reduceAdd, Int.reduceSub, Int.reduceToNat, Nat.reduceMul]
  refine a_call _ _ (ri_Norm n m hm lm) (by simp (maxSteps := 1000000) (disch := first | omega | (simp only [LL]; omega)) only [W, V, TY, CC, reduceIte, Nat.reduceEqDiff, Nat.reduceAdd, Nat.reduceLeDiff, Nat.reduceLT, Int.reduceLE, Int.reduceLT, Int.reduceAdd, Int.reduceSub, Int.reduceToNat, Nat.reduceMul]) ?_
  simp (maxSteps := 1000000) (disch := first | omega | (simp only [LL]; omega)) only [W, V, TY, CC, reduceIte, Nat.reduceEqDiff, Nat.reduceAdd, Nat.reduceLeDiff, Nat.reduceLT, Int.reduceLE, Int.reduceLT, Int.reduceAdd, Int.reduceSub, Int.reduceToNat, Nat.reduceMul, intC]
  refine f_ret _ _ _ ?_
  simp (maxSteps := 1000000) (disch := first | omega | (simp only [LL]; omega)) only [W, V, TY, CC, reduceIte, Nat.reduceEqDiff, Nat.reduceAdd, Nat.reduceLeDiff, Nat.reduceLT, Int.reduceLE, Int.reduceLT, Int.reduceAdd, Int.reduceSub, Int.reduceToNat, Nat.reduceMul, intC]
/-- examboard/examboardref02.Of -/
def b123 : AF := ⟨16, 1, [.cell 2 25],
  (.seq (.reg [
    ⟨some 2, .alloc 25, none⟩])
  (.seq (.seq (.reg [
    ⟨some 3, .move (.tmp 0), none⟩,
    ⟨some 4, .binOp .lss 2 (.tmp 3) (.const (.int .i64 0)) 2, none⟩])
  (.cond (.tmp 4)
    (.seq (.reg [
      ⟨some 5, .move (.tmp 0), none⟩,
      ⟨some 6, .binOp .add 2 (.tmp 5) (.const (.int .i64 1)) 2, none⟩,
      ⟨some 7, .unOp .neg 2 (.tmp 6), none⟩,
      ⟨some 8, .convert 2 97 (.tmp 7), none⟩,
      ⟨some 9, .binOp .add 97 (.tmp 8) (.const (.int .u64 1)) 97, none⟩,
      ⟨some 10, .call ⟨(.value (.func 125)), #[(.tmp 9)], #[97]⟩, none⟩,
      ⟨some 11, .call ⟨(.value (.func 90)), #[(.const (.bool true)), (.tmp 10)], #[4, 23]⟩, none⟩,
      ⟨none, .store 25 (.tmp 2) (.tmp 11), none⟩])
    .ret)
    .skip))
  (.seq (.reg [
    ⟨some 12, .move (.tmp 0), none⟩,
    ⟨some 13, .convert 2 97 (.tmp 12), none⟩,
    ⟨some 14, .call ⟨(.value (.func 125)), #[(.tmp 13)], #[97]⟩, none⟩,
    ⟨some 15, .call ⟨(.value (.func 90)), #[(.const (.bool false)), (.tmp 14)], #[4, 23]⟩, none⟩,
    ⟨none, .store 25 (.tmp 2) (.tmp 15), none⟩])
  .ret)))⟩
theorem c123 : fcomp Tryz.prog 123 = ⟨b123.n, b123.np, b123.res, b123.body.bare⟩ := by kernel_rfl
theorem k123 : fok Tryz.prog 123 = true := by kernel_rfl
theorem ri_Of (z : Int) (h0 : -9223372036854775808 ≤ z) (h1 : z < 9223372036854775808) : AFun Tryz.prog 123 [.one (.lit (.int .i64 z))] [.agg (intC z)] := by
  refine afun_intro mo_ _ _ c123 k123 _ _ rfl (by decide) ?_
  unfold b123
  have hl : (nl z.natAbs).length ≤ 2 := nl_len (by omega)
  simp (maxSteps := 1000000) (disch := first | omega | (simp only [LL]; omega)) only [W, V, TY, CC, reduceIte, Nat.reduceEqDiff, Nat.reduceAdd, Nat.reduceLeDiff, Nat.reduceLT, Int.reduceLE, Int.reduceLT, Int.reduceAdd, Int.reduceSub, Int.reduceToNat, Nat.reduceMul]
  refine c_split (fun h => ?_) (fun h => ?_)
  · have e1 : 0 - (z + 1) + 1 = (z.natAbs : Int) := by omega
    have e3 : iv true (nl z.natAbs) = z := by unfold iv; rw [nv_nl, if_pos rfl]; omega
    simp (maxSteps := 1000000) (disch := first | omega | (simp only [LL]; omega)) only [W, V, TY, CC, reduceIte, Nat.reduceEqDiff, Nat.reduceAdd, Nat.reduceLeDiff, Nat.reduceLT, Int.reduceLE, Int.reduceLT, Int.reduceAdd, Int.reduceSub, Int.reduceToNat, Nat.reduceMul, wi64 (n := z + 1) (by omega) (by omega), wi64 (n := 0 - (z + 1)) (by omega) (by omega), wu64 (n := 0 - (z + 1)) (by omega) (by omega), e1]
    refine a_call _ _ (ref_Of (z.natAbs : Int) (by omega) (by omega)) (by simp (maxSteps := 1000000) (disch := first | omega | (simp only [LL]; omega)) only [W, V, TY, CC, reduceIte, Nat.reduceEqDiff, Nat.reduceAdd, Nat.reduceLeDiff, Nat.reduceLT, Int.reduceLE, Int.reduceLT, Int.reduceAdd, Int.reduceSub, Int.reduceToNat, Nat.reduceMul]) ?_
    simp (maxSteps := 1000000) (disch := first | omega | (simp only [LL]; omega)) only [W, V, TY, CC, reduceIte, Nat.reduceEqDiff, Nat.reduceAdd, Nat.reduceLeDiff, Nat.reduceLT, Int.reduceLE, Int.reduceLT, Int.reduceAdd, Int.reduceSub, Int.reduceToNat, Nat.reduceMul]
    refine a_call _ _ (ri_Make true (nl z.natAbs) (nl_lim _) (by omega)) (by simp (maxSteps := 1000000) (disch := first | omega | (simp only [LL]; omega)) only [W, V, TY, CC, reduceIte, Nat.reduceEqDiff, Nat.reduceAdd, Nat.reduceLeDiff, Nat.reduceLT, Int.reduceLE, Int.reduceLT, Int.reduceAdd, Int.reduceSub, Int.reduceToNat, Nat.reduceMul]) ?_
    rw [e3]
    simp (maxSteps := 1000000) (disch := first | omega | (simp only [LL]; omega)) only [W, V, TY, CC, reduceIte, Nat.reduceEqDiff, Nat.reduceAdd, Nat.reduceLeDiff, Nat.reduceLT, Int.reduceLE, Int.reduceLT, Int.reduceAdd, Int.reduceSub, Int.reduceToNat, Nat.reduceMul, intC]
    refine f_ret _ _ _ ?_
    simp (maxSteps := 1000000) (disch := first | omega | (simp only [LL]; omega)) only [W, V, TY, CC, reduceIte, Nat.reduceEqDiff, Nat.reduceAdd, Nat.reduceLeDiff, Nat.reduceLT, Int.reduceLE, Int.reduceLT, Int.reduceAdd, Int.reduceSub, Int.reduceToNat, Nat.reduceMul, intC]
  · have e3 : iv false (nl z.natAbs) = z := by unfold iv; rw [nv_nl, if_neg (by decide)]; omega
    simp (maxSteps := 1000000) (disch := first | omega | (simp only [LL]; omega)) only [W, V, TY, CC, reduceIte, Nat.reduceEqDiff, Nat.reduceAdd, Nat.reduceLeDiff, Nat.reduceLT, Int.reduceLE, Int.reduceLT, Int.reduceAdd, Int.reduceSub, Int.reduceToNat, Nat.reduceMul]
    refine a_call _ _ (ref_Of z (by omega) (by omega)) (by simp (maxSteps := 1000000) (disch := first | omega | (simp only [LL]; omega)) only [W, V, TY, CC, reduceIte, Nat.reduceEqDiff, Nat.reduceAdd, Nat.reduceLeDiff, Nat.reduceLT, Int.reduceLE, Int.reduceLT, Int.reduceAdd, Int.reduceSub, Int.reduceToNat, Nat.reduceMul]) ?_
    have e2 : z.toNat = z.natAbs := by omega
    simp (maxSteps := 1000000) (disch := first | omega | (simp only [LL]; omega)) only [W, V, TY, CC, reduceIte, Nat.reduceEqDiff, Nat.reduceAdd, Nat.reduceLeDiff, Nat.reduceLT, Int.reduceLE, Int.reduceLT, Int.reduceAdd, Int.reduceSub, Int.reduceToNat, Nat.reduceMul, e2]
    refine a_call _ _ (ri_Make false (nl z.natAbs) (nl_lim _) (by omega)) (by simp (maxSteps := 1000000) (disch := first | omega | (simp only [LL]; omega)) only [W, V, TY, CC, reduceIte, Nat.reduceEqDiff, Nat.reduceAdd, Nat.reduceLeDiff, Nat.reduceLT, Int.reduceLE, Int.reduceLT, Int.reduceAdd, Int.reduceSub, Int.reduceToNat, Nat.reduceMul]) ?_
    rw [e3]
    simp (maxSteps := 1000000) (disch := first | omega | (simp only [LL]; omega)) only [W, V, TY, CC, reduceIte, Nat.reduceEqDiff, Nat.reduceAdd, Nat.reduceLeDiff, Nat.reduceLT, Int.reduceLE, Int.reduceLT, Int.reduceAdd, Int.reduceSub, Int.reduceToNat, Nat.reduceMul, intC]
    refine f_ret _ _ _ ?_
    simp (maxSteps := 1000000) (disch := first | omega | (simp only [LL]; omega)) only [W, V, TY, CC, reduceIte, Nat.reduceEqDiff, Nat.reduceAdd, Nat.reduceLeDiff, Nat.reduceLT, Int.reduceLE, Int.reduceLT, Int.reduceAdd, Int.reduceSub, Int.reduceToNat, Nat.reduceMul, intC]
/-- examboard/examboardref02.Sign -/
def b104 : AF := ⟨12, 1, [.tmp 2],
  (.seq (.reg [
    ⟨some 1, .box 25 (.tmp 0), none⟩,
    ⟨some 2, .assign (.const (.int .i64 0)), none⟩])
  (.seq (.reg [
    ⟨some 4, .load 25 (.tmp 1), none⟩,
    ⟨some 5, .call ⟨(.value (.func 124)), #[(.tmp 4)], #[25]⟩, none⟩,
    ⟨some 3, .alloc 25, none⟩,
    ⟨none, .store 25 (.tmp 3) (.tmp 5), none⟩])
  (.seq (.seq (.reg [
    ⟨some 6, .fieldAddr 25 (.tmp 3) 1, none⟩,
    ⟨some 7, .load 23 (.tmp 6), none⟩,
    ⟨some 8, .call ⟨(.builtin .len), #[(.tmp 7)], #[23]⟩, none⟩,
    ⟨some 9, .binOp .eql 3 (.tmp 8) (.const (.int .i64 0)) 3, none⟩])
  (.cond (.tmp 9)
    (.seq (.reg [
      ⟨some 2, .assign (.const (.int .i64 0)), none⟩])
    .ret)
    .skip))
  (.seq (.seq (.reg [
    ⟨some 10, .fieldAddr 25 (.tmp 3) 0, none⟩,
    ⟨some 11, .load 4 (.tmp 10), none⟩])
  (.cond (.tmp 11)
    (.seq (.reg [
      ⟨some 2, .assign (.const (.int .i64 (-1))), none⟩])
    .ret)
    .skip))
  (.seq (.reg [
    ⟨some 2, .assign (.const (.int .i64 1)), none⟩])
  .ret)))))⟩
theorem c104 : fcomp Tryz.prog 104 = ⟨b104.n, b104.np, b104.res, b104.body.bare⟩ := by kernel_rfl
theorem k104 : fok Tryz.prog 104 = true := by kernel_rfl
theorem ri_Sign (n : Bool) (m : List Int) (hm : Lim m) (lm : m.length < 2199023255552) : AFun Tryz.prog 104 [.agg [.lit (.bool n), natD m]] [.one (.lit (.int .i64 (sgn (iv n m))))] := by
  refine afun_intro mo_ _ _ c104 k104 _ _ rfl (by decide) ?_
  unfold b104
  have hz := nl_len0 (n := (iv n m).natAbs)
  have s1 := sgn_cases (iv n m)
  simp (maxSteps := 1000000) (disch := first | omega | (simp only [LL]; omega)) only [W, V, TY, CC, reduceIte, Nat.reduceEqDiff, Nat.reduceAdd, Nat.reduceLeDiff, Nat.reduceLT, Int.reduceLE, Int.reduceLT, Int.reduceAdd, Int.reduceSub, Int.reduceToNat, Nat.reduceMul]
  refine a_call _ _ (ri_Norm n m hm lm) (by simp (maxSteps := 1000000) (disch := first | omega | (simp only [LL]; omega)) only [W, V, TY, CC, reduceIte, Nat.reduceEqDiff, Nat.reduceAdd, Nat.reduceLeDiff, Nat.reduceLT, Int.reduceLE, Int.reduceLT, Int.reduceAdd, Int.reduceSub, Int.reduceToNat, Nat.reduceMul]) ?_
  generalize iv n m = z at *
  simp (maxSteps := 1000000) (disch := first | omega | (simp only [LL]; omega)) only [W, V, TY, CC, reduceIte, Nat.reduceEqDiff, Nat.reduceAdd, Nat.reduceLeDiff, Nat.reduceLT, Int.reduceLE, Int.reduceLT, Int.reduceAdd, Int.reduceSub, Int.reduceToNat, Nat.reduceMul, intC]
  refine c_split (fun h => ?_) (fun h => ?_)
  · have h0 : z = 0 := by
      have : z.natAbs = 0 := by rw [← hz]; omega
      omega
    have hs : sgn z = 0 := by omega
    simp (maxSteps := 1000000) (disch := first | omega | (simp only [LL]; omega)) only [W, V, TY, CC, reduceIte, Nat.reduceEqDiff, Nat.reduceAdd, Nat.reduceLeDiff, Nat.reduceLT, Int.reduceLE, Int.reduceLT, Int.reduceAdd, Int.reduceSub, Int.reduceToNat, Nat.reduceMul]
    refine f_ret _ _ _ ?_
    simp (maxSteps := 1000000) (disch := first | omega | (simp only [LL]; omega)) only [W, V, TY, CC, reduceIte, Nat.reduceEqDiff, Nat.reduceAdd, Nat.reduceLeDiff, Nat.reduceLT, Int.reduceLE, Int.reduceLT, Int.reduceAdd, Int.reduceSub, Int.reduceToNat, Nat.reduceMul, hs]
  · have h0 : z ≠ 0 := fun e => h (by rw [e]; simp [nl_zero])
    simp (maxSteps := 1000000) (disch := first | omega | (simp only [LL]; omega)) only [W, V, TY, CC, reduceIte, Nat.reduceEqDiff, Nat.reduceAdd, Nat.reduceLeDiff, Nat.reduceLT, Int.reduceLE, Int.reduceLT, Int.reduceAdd, Int.reduceSub, Int.reduceToNat, Nat.reduceMul]
    refine c_split (fun h1 => ?_) (fun h1 => ?_)
    · have hs : sgn z = -1 := by omega
      simp (maxSteps := 1000000) (disch := first | omega | (simp only [LL]; omega)) only [W, V, TY, CC, reduceIte, Nat.reduceEqDiff, Nat.reduceAdd, Nat.reduceLeDiff, Nat.reduceLT, Int.reduceLE, Int.reduceLT, Int.reduceAdd, Int.reduceSub, Int.reduceToNat, Nat.reduceMul]
      refine f_ret _ _ _ ?_
      simp (maxSteps := 1000000) (disch := first | omega | (simp only [LL]; omega)) only [W, V, TY, CC, reduceIte, Nat.reduceEqDiff, Nat.reduceAdd, Nat.reduceLeDiff, Nat.reduceLT, Int.reduceLE, Int.reduceLT, Int.reduceAdd, Int.reduceSub, Int.reduceToNat, Nat.reduceMul, hs]
    · have hs : sgn z = 1 := by omega
      simp (maxSteps := 1000000) (disch := first | omega | (simp only [LL]; omega)) only [W, V, TY, CC, reduceIte, Nat.reduceEqDiff, Nat.reduceAdd, Nat.reduceLeDiff, Nat.reduceLT, Int.reduceLE, Int.reduceLT, Int.reduceAdd, Int.reduceSub, Int.reduceToNat, Nat.reduceMul]
      refine f_ret _ _ _ ?_
      simp (maxSteps := 1000000) (disch := first | omega | (simp only [LL]; omega)) only [W, V, TY, CC, reduceIte, Nat.reduceEqDiff, Nat.reduceAdd, Nat.reduceLeDiff, Nat.reduceLT, Int.reduceLE, Int.reduceLT, Int.reduceAdd, Int.reduceSub, Int.reduceToNat, Nat.reduceMul, hs]
/-- examboard/examboardref02.Neg -/
def b107 : AF := ⟨9, 1, [.cell 2 25],
  (.seq (.reg [
    ⟨some 1, .box 25 (.tmp 0), none⟩,
    ⟨some 2, .alloc 25, none⟩])
  (.seq (.reg [
    ⟨some 3, .fieldAddr 25 (.tmp 1) 0, none⟩,
    ⟨some 4, .load 4 (.tmp 3), none⟩,
    ⟨some 5, .unOp .not 4 (.tmp 4), none⟩,
    ⟨some 6, .fieldAddr 25 (.tmp 1) 1, none⟩,
    ⟨some 7, .load 23 (.tmp 6), none⟩,
    ⟨some 8, .call ⟨(.value (.func 90)), #[(.tmp 5), (.tmp 7)], #[4, 23]⟩, none⟩,
    ⟨none, .store 25 (.tmp 2) (.tmp 8), none⟩])
  .ret))⟩
theorem c107 : fcomp Tryz.prog 107 = ⟨b107.n, b107.np, b107.res, b107.body.bare⟩ := by kernel_rfl
theorem k107 : fok Tryz.prog 107 = true := by kernel_rfl
theorem ri_Neg (n : Bool) (m : List Int) (hm : Lim m) (lm : m.length < 2199023255552) : AFun Tryz.prog 107 [.agg [.lit (.bool n), natD m]] [.agg (intC (-iv n m))] := by
  refine afun_intro mo_ _ _ c107 k107 _ _ rfl (by decide) ?_
  unfold b107
  rw [← iv_not]
  have hu : unV .not (.one (.dt (.lit (.bool n)))) = .one (.dt (.lit (.bool (!n)))) := rfl
  simp (maxSteps := 1000000) (disch := first | omega | (simp only [LL]; omega)) only [W, V, TY, CC, reduceIte, Nat.reduceEqDiff, Nat.reduceAdd, Nat.reduceLeDiff, Nat.reduceLT, Int.reduceLE, Int.reduceLT, Int.reduceAdd, Int.reduceSub, Int.reduceToNat, Nat.reduceMul, hu]
  refine a_call _ _ (ri_Make (!n) m hm lm) (by simp (maxSteps := 1000000) (disch := first | omega | (simp only [LL]; omega)) only [W, V, TY, CC, reduceIte, Nat.reduceEqDiff, Nat.reduceAdd, Nat.reduceLeDiff, Nat.reduceLT, Int.reduceLE, Int.reduceLT, Int.reduceAdd, Int.reduceSub, Int.reduceToNat, Nat.reduceMul]) ?_
  simp (maxSteps := 1000000) (disch := first | omega | (simp only [LL]; omega)) only [W, V, TY, CC, reduceIte, Nat.reduceEqDiff, Nat.reduceAdd, Nat.reduceLeDiff, Nat.reduceLT, Int.reduceLE, Int.reduceLT, Int.reduceAdd, Int.reduceSub, Int.reduceToNat, Nat.reduceMul, intC]
  refine f_ret _ _ _ ?_
  simp (maxSteps := 1000000) (disch := first | omega | (simp only [LL]; omega)) only [W, V, TY, CC, reduceIte, Nat.reduceEqDiff, Nat.reduceAdd, Nat.reduceLeDiff, Nat.reduceLT, Int.reduceLE, Int.reduceLT, Int.reduceAdd, Int.reduceSub, Int.reduceToNat, Nat.reduceMul, intC]
/-- examboard/examboardref02.Mul -/
def b88 : AF := ⟨16, 2, [.cell 4 25],
  (.seq (.reg [
    ⟨some 2, .box 25 (.tmp 0), none⟩,
    ⟨some 3, .box 25 (.tmp 1), none⟩,
    ⟨some 4, .alloc 25, none⟩])
  (.seq (.dreg [
    ⟨some 5, .fieldAddr 25 (.tmp 2) 0, none⟩,
    ⟨some 6, .load 4 (.tmp 5), none⟩,
    ⟨some 7, .fieldAddr 25 (.tmp 3) 0, none⟩,
    ⟨some 8, .load 4 (.tmp 7), none⟩,
    ⟨some 9, .binOp .neq 4 (.tmp 6) (.tmp 8) 4, none⟩,
    ⟨some 10, .fieldAddr 25 (.tmp 2) 1, none⟩,
    ⟨some 11, .load 23 (.tmp 10), none⟩,
    ⟨some 12, .fieldAddr 25 (.tmp 3) 1, none⟩,
    ⟨some 13, .load 23 (.tmp 12), none⟩,
    ⟨some 14, .call ⟨(.value (.func 94)), #[(.tmp 11), (.tmp 13)], #[23, 23]⟩, none⟩,
    ⟨some 15, .call ⟨(.value (.func 90)), #[(.tmp 9), (.tmp 14)], #[4, 23]⟩, none⟩,
    ⟨none, .store 25 (.tmp 4) (.tmp 15), none⟩])
  .ret))⟩
theorem c88 : fcomp Tryz.prog 88 = ⟨b88.n, b88.np, b88.res, b88.body.bare⟩ := by kernel_rfl
theorem k88 : fok Tryz.prog 88 = true := by kernel_rfl
theorem ri_Mul (a b : Bool) (m k : List Int) (hm : Lim m) (hk : Lim k) (lm : m.length < 549755813888) (lk : k.length < 549755813888) : AFun Tryz.prog 88 [.agg [.lit (.bool a), natD m], .agg [.lit (.bool b), natD k]] [.agg (intC (iv a m * iv b k))] := by
  refine afun_intro mo_ _ _ c88 k88 _ _ rfl (by decide) ?_
  unfold b88
  rw [← iv_mul]
  have hlen : (nl (nv m * nv k)).length ≤ m.length + k.length := by
    refine nl_len ?_
    rw [Nat.pow_add]
    exact Nat.mul_lt_mul'' (nv_lt hm) (nv_lt hk)
  simp (maxSteps := 1000000) (disch := first | omega | (simp only [LL]; omega)) only [W, V, TY, CC, reduceIte, Nat.reduceEqDiff, Nat.reduceAdd, Nat.reduceLeDiff, Nat.reduceLT, Int.reduceLE, Int.reduceLT, Int.reduceAdd, Int.reduceSub, Int.reduceToNat, Nat.reduceMul]
  refine a_call _ _ (ref_Mul m k hm hk (by omega) (by omega)) (by simp (maxSteps := 1000000) (disch := first | omega | (simp only [LL]; omega)) only [W, V, TY, CC, reduceIte, Nat.reduceEqDiff, Nat.reduceAdd, Nat.reduceLeDiff, Nat.reduceLT, Int.reduceLE, Int.reduceLT, Int.reduceAdd, Int.reduceSub, Int.reduceToNat, Nat.reduceMul]) ?_
  simp (maxSteps := 1000000) (disch := first | omega | (simp only [LL]; omega)) only [W, V, TY, CC, reduceIte, Nat.reduceEqDiff, Nat.reduceAdd, Nat.reduceLeDiff, Nat.reduceLT, Int.reduceLE, Int.reduceLT, Int.reduceAdd, Int.reduceSub, Int.reduceToNat, Nat.reduceMul]
  refine a_call _ _ (ri_Make (!(a == b)) (nl (nv m * nv k)) (nl_lim _) (by omega)) (by simp (maxSteps := 1000000) (disch := first | omega | (simp only [LL]; omega)) only [W, V, TY, CC, reduceIte, Nat.reduceEqDiff, Nat.reduceAdd, Nat.reduceLeDiff, Nat.reduceLT, Int.reduceLE, Int.reduceLT, Int.reduceAdd, Int.reduceSub, Int.reduceToNat, Nat.reduceMul]) ?_
  simp (maxSteps := 1000000) (disch := first | omega | (simp only [LL]; omega)) only [W, V, TY, CC, reduceIte, Nat.reduceEqDiff, Nat.reduceAdd, Nat.reduceLeDiff, Nat.reduceLT, Int.reduceLE, Int.reduceLT, Int.reduceAdd, Int.reduceSub, Int.reduceToNat, Nat.reduceMul, intC]
  refine f_ret _ _ _ ?_
  simp (maxSteps := 1000000) (disch := first | omega | (simp only [LL]; omega)) only [W, V, TY, CC, reduceIte, Nat.reduceEqDiff, Nat.reduceAdd, Nat.reduceLeDiff, Nat.reduceLT, Int.reduceLE, Int.reduceLT, Int.reduceAdd, Int.reduceSub, Int.reduceToNat, Nat.reduceMul, intC]
  rfl
/-- examboard/examboardref02.Add -/
def b93 : AF := ⟨47, 2, [.cell 4 25],
  (.seq (.reg [
    ⟨some 2, .box 25 (.tmp 0), none⟩,
    ⟨some 3, .box 25 (.tmp 1), none⟩,
    ⟨some 4, .alloc 25, none⟩])
  (.seq (.seq (.reg [
    ⟨some 9, .fieldAddr 25 (.tmp 2) 0, none⟩,
    ⟨some 10, .load 4 (.tmp 9), none⟩,
    ⟨some 11, .fieldAddr 25 (.tmp 3) 0, none⟩,
    ⟨some 12, .load 4 (.tmp 11), none⟩,
    ⟨some 13, .binOp .eql 4 (.tmp 10) (.tmp 12) 4, none⟩])
  (.cond (.tmp 13)
    (.seq (.dreg [
      ⟨some 14, .fieldAddr 25 (.tmp 2) 0, none⟩,
      ⟨some 15, .load 4 (.tmp 14), none⟩,
      ⟨some 16, .fieldAddr 25 (.tmp 2) 1, none⟩,
      ⟨some 17, .load 23 (.tmp 16), none⟩,
      ⟨some 18, .fieldAddr 25 (.tmp 3) 1, none⟩,
      ⟨some 19, .load 23 (.tmp 18), none⟩,
      ⟨some 20, .call ⟨(.value (.func 129)), #[(.tmp 17), (.tmp 19)], #[23, 23]⟩, none⟩,
      ⟨some 21, .call ⟨(.value (.func 90)), #[(.tmp 15), (.tmp 20)], #[4, 23]⟩, none⟩,
      ⟨none, .store 25 (.tmp 4) (.tmp 21), none⟩])
    .ret)
    .skip))
  (.seq (.seq (.reg [
    ⟨some 23, .fieldAddr 25 (.tmp 2) 1, none⟩,
    ⟨some 24, .load 23 (.tmp 23), none⟩,
    ⟨some 25, .fieldAddr 25 (.tmp 3) 1, none⟩,
    ⟨some 26, .load 23 (.tmp 25), none⟩,
    ⟨some 27, .call ⟨(.value (.func 130)), #[(.tmp 24), (.tmp 26)], #[23, 23]⟩, none⟩,
    ⟨some 22, .move (.tmp 27), none⟩,
    ⟨some 28, .extract (.tmp 22) 0, none⟩,
    ⟨some 29, .extract (.tmp 22) 1, none⟩,
    ⟨some 5, .assign (.tmp 28), none⟩,
    ⟨some 6, .assign (.tmp 29), none⟩])
  (.seq (.reg [
    ⟨some 30, .move (.tmp 6), none⟩])
  (.cond (.tmp 30)
    (.seq (.reg [
      ⟨some 31, .fieldAddr 25 (.tmp 2) 0, none⟩,
      ⟨some 32, .load 4 (.tmp 31), none⟩,
      ⟨some 33, .move (.tmp 5), none⟩,
      ⟨some 34, .call ⟨(.value (.func 90)), #[(.tmp 32), (.tmp 33)], #[4, 23]⟩, none⟩,
      ⟨none, .store 25 (.tmp 4) (.tmp 34), none⟩])
    .ret)
    .skip)))
  (.seq (.reg [
    ⟨some 36, .fieldAddr 25 (.tmp 3) 1, none⟩,
    ⟨some 37, .load 23 (.tmp 36), none⟩,
    ⟨some 38, .fieldAddr 25 (.tmp 2) 1, none⟩,
    ⟨some 39, .load 23 (.tmp 38), none⟩,
    ⟨some 40, .call ⟨(.value (.func 130)), #[(.tmp 37), (.tmp 39)], #[23, 23]⟩, none⟩,
    ⟨some 35, .move (.tmp 40), none⟩,
    ⟨some 41, .extract (.tmp 35) 0, none⟩,
    ⟨some 42, .extract (.tmp 35) 1, none⟩,
    ⟨some 7, .assign (.tmp 41), none⟩,
    ⟨some 8, .assign (.tmp 42), none⟩])
  (.seq (.reg [
    ⟨some 43, .fieldAddr 25 (.tmp 3) 0, none⟩,
    ⟨some 44, .load 4 (.tmp 43), none⟩,
    ⟨some 45, .move (.tmp 7), none⟩,
    ⟨some 46, .call ⟨(.value (.func 90)), #[(.tmp 44), (.tmp 45)], #[4, 23]⟩, none⟩,
    ⟨none, .store 25 (.tmp 4) (.tmp 46), none⟩])
  .ret)))))⟩
theorem c93 : fcomp Tryz.prog 93 = ⟨b93.n, b93.np, b93.res, b93.body.bare⟩ := by kernel_rfl
theorem k93 : fok Tryz.prog 93 = true := by kernel_rfl
theorem ri_Add (a b : Bool) (m k : List Int) (hm : Lim m) (hk : Lim k) (lm : m.length < 549755813888) (lk : k.length < 549755813888) : AFun Tryz.prog 93 [.agg [.lit (.bool a), natD m], .agg [.lit (.bool b), natD k]] [.agg (intC (iv a m + iv b k))] := by
  refine afun_intro mo_ _ _ c93 k93 _ _ rfl (by decide) ?_
  unfold b93
  have hab : (nl (nv m + nv k)).length ≤ max m.length k.length + 1 := by
    refine nl_len ?_
    have h1 := nv_lt hm
    have h2 := nv_lt hk
    have h3 : 4294967296 ^ m.length ≤ 4294967296 ^ max m.length k.length := Nat.pow_le_pow_right (by decide) (by omega)
    have h4 : 4294967296 ^ k.length ≤ 4294967296 ^ max m.length k.length := Nat.pow_le_pow_right (by decide) (by omega)
    rw [Nat.pow_succ]
    omega
  simp (maxSteps := 1000000) (disch := first | omega | (simp only [LL]; omega)) only [W, V, TY, CC, reduceIte, Nat.reduceEqDiff, Nat.reduceAdd, Nat.reduceLeDiff, Nat.reduceLT, Int.reduceLE, Int.reduceLT, Int.reduceAdd, Int.reduceSub, Int.reduceToNat, Nat.reduceMul]
  refine c_splitb (fun h => ?_) (fun h => ?_)
  · have hb : a = b := by simpa using h
    subst hb
    simp (maxSteps := 1000000) (disch := first | omega | (simp only [LL]; omega)) only [W, V, TY, CC, reduceIte, Nat.reduceEqDiff, Nat.reduceAdd, Nat.reduceLeDiff, Nat.reduceLT, Int.reduceLE, Int.reduceLT, Int.reduceAdd, Int.reduceSub, Int.reduceToNat, Nat.reduceMul]
    refine a_call _ _ (ref_Add m k hm hk (by omega) (by omega)) (by simp (maxSteps := 1000000) (disch := first | omega | (simp only [LL]; omega)) only [W, V, TY, CC, reduceIte, Nat.reduceEqDiff, Nat.reduceAdd, Nat.reduceLeDiff, Nat.reduceLT, Int.reduceLE, Int.reduceLT, Int.reduceAdd, Int.reduceSub, Int.reduceToNat, Nat.reduceMul]) ?_
    simp (maxSteps := 1000000) (disch := first | omega | (simp only [LL]; omega)) only [W, V, TY, CC, reduceIte, Nat.reduceEqDiff, Nat.reduceAdd, Nat.reduceLeDiff, Nat.reduceLT, Int.reduceLE, Int.reduceLT, Int.reduceAdd, Int.reduceSub, Int.reduceToNat, Nat.reduceMul]
    refine a_call _ _ (ri_Make a (nl (nv m + nv k)) (nl_lim _) (by omega)) (by simp (maxSteps := 1000000) (disch := first | omega | (simp only [LL]; omega)) only [W, V, TY, CC, reduceIte, Nat.reduceEqDiff, Nat.reduceAdd, Nat.reduceLeDiff, Nat.reduceLT, Int.reduceLE, Int.reduceLT, Int.reduceAdd, Int.reduceSub, Int.reduceToNat, Nat.reduceMul]) ?_
    simp (maxSteps := 1000000) (disch := first | omega | (simp only [LL]; omega)) only [W, V, TY, CC, reduceIte, Nat.reduceEqDiff, Nat.reduceAdd, Nat.reduceLeDiff, Nat.reduceLT, Int.reduceLE, Int.reduceLT, Int.reduceAdd, Int.reduceSub, Int.reduceToNat, Nat.reduceMul, intC]
    refine f_ret _ _ _ ?_
    simp (maxSteps := 1000000) (disch := first | omega | (simp only [LL]; omega)) only [W, V, TY, CC, reduceIte, Nat.reduceEqDiff, Nat.reduceAdd, Nat.reduceLeDiff, Nat.reduceLT, Int.reduceLE, Int.reduceLT, Int.reduceAdd, Int.reduceSub, Int.reduceToNat, Nat.reduceMul, intC, add_same]
  · have hb : b = !a := by cases a <;> cases b <;> simp at h ⊢
    subst hb
    simp (maxSteps := 1000000) (disch := first | omega | (simp only [LL]; omega)) only [W, V, TY, CC, reduceIte, Nat.reduceEqDiff, Nat.reduceAdd, Nat.reduceLeDiff, Nat.reduceLT, Int.reduceLE, Int.reduceLT, Int.reduceAdd, Int.reduceSub, Int.reduceToNat, Nat.reduceMul]
    refine a_call _ _ (ref_Sub m k hm hk (by omega) (by omega)) (by simp (maxSteps := 1000000) (disch := first | omega | (simp only [LL]; omega)) only [W, V, TY, CC, reduceIte, Nat.reduceEqDiff, Nat.reduceAdd, Nat.reduceLeDiff, Nat.reduceLT, Int.reduceLE, Int.reduceLT, Int.reduceAdd, Int.reduceSub, Int.reduceToNat, Nat.reduceMul]) ?_
    unfold subR
    by_cases hle : nv k ≤ nv m
    · rw [if_pos hle]
      simp (maxSteps := 1000000) (disch := first | omega | (simp only [LL]; omega)) only [W, V, TY, CC, reduceIte, Nat.reduceEqDiff, Nat.reduceAdd, Nat.reduceLeDiff, Nat.reduceLT, Int.reduceLE, Int.reduceLT, Int.reduceAdd, Int.reduceSub, Int.reduceToNat, Nat.reduceMul]
      refine a_call _ _ (ri_Make a (nl (nv m - nv k)) (nl_lim _) (by have := nl_len_le hm (show nv m - nv k ≤ nv m by omega); omega)) (by simp (maxSteps := 1000000) (disch := first | omega | (simp only [LL]; omega)) only [W, V, TY, CC, reduceIte, Nat.reduceEqDiff, Nat.reduceAdd, Nat.reduceLeDiff, Nat.reduceLT, Int.reduceLE, Int.reduceLT, Int.reduceAdd, Int.reduceSub, Int.reduceToNat, Nat.reduceMul]) ?_
      simp (maxSteps := 1000000) (disch := first | omega | (simp only [LL]; omega)) only [W, V, TY, CC, reduceIte, Nat.reduceEqDiff, Nat.reduceAdd, Nat.reduceLeDiff, Nat.reduceLT, Int.reduceLE, Int.reduceLT, Int.reduceAdd, Int.reduceSub, Int.reduceToNat, Nat.reduceMul, intC]
      refine f_ret _ _ _ ?_
      simp (maxSteps := 1000000) (disch := first | omega | (simp only [LL]; omega)) only [W, V, TY, CC, reduceIte, Nat.reduceEqDiff, Nat.reduceAdd, Nat.reduceLeDiff, Nat.reduceLT, Int.reduceLE, Int.reduceLT, Int.reduceAdd, Int.reduceSub, Int.reduceToNat, Nat.reduceMul, intC, add_left a m k hle]
    · rw [if_neg hle]
      simp (maxSteps := 1000000) (disch := first | omega | (simp only [LL]; omega)) only [W, V, TY, CC, reduceIte, Nat.reduceEqDiff, Nat.reduceAdd, Nat.reduceLeDiff, Nat.reduceLT, Int.reduceLE, Int.reduceLT, Int.reduceAdd, Int.reduceSub, Int.reduceToNat, Nat.reduceMul]
      refine a_call _ _ (ref_Sub k m hk hm (by omega) (by omega)) (by simp (maxSteps := 1000000) (disch := first | omega | (simp only [LL]; omega)) only [W, V, TY, CC, reduceIte, Nat.reduceEqDiff, Nat.reduceAdd, Nat.reduceLeDiff, Nat.reduceLT, Int.reduceLE, Int.reduceLT, Int.reduceAdd, Int.reduceSub, Int.reduceToNat, Nat.reduceMul]) ?_
      unfold subR
      rw [if_pos (by omega)]
      simp (maxSteps := 1000000) (disch := first | omega | (simp only [LL]; omega)) only [W, V, TY, CC, reduceIte, Nat.reduceEqDiff, Nat.reduceAdd, Nat.reduceLeDiff, Nat.reduceLT, Int.reduceLE, Int.reduceLT, Int.reduceAdd, Int.reduceSub, Int.reduceToNat, Nat.reduceMul]
      refine a_call _ _ (ri_Make (!a) (nl (nv k - nv m)) (nl_lim _) (by have := nl_len_le hk (show nv k - nv m ≤ nv k by omega); omega)) (by simp (maxSteps := 1000000) (disch := first | omega | (simp only [LL]; omega)) only [W, V, TY, CC, reduceIte, Nat.reduceEqDiff, Nat.reduceAdd, Nat.reduceLeDiff, Nat.reduceLT, Int.reduceLE, Int.reduceLT, Int.reduceAdd, Int.reduceSub, Int.reduceToNat, Nat.reduceMul]) ?_
      simp (maxSteps := 1000000) (disch := first | omega | (simp only [LL]; omega)) only [W, V, TY, CC, reduceIte, Nat.reduceEqDiff, Nat.reduceAdd, Nat.reduceLeDiff, Nat.reduceLT, Int.reduceLE, Int.reduceLT, Int.reduceAdd, Int.reduceSub, Int.reduceToNat, Nat.reduceMul, intC]
      refine f_ret _ _ _ ?_
      simp (maxSteps := 1000000) (disch := first | omega | (simp only [LL]; omega)) only [W, V, TY, CC, reduceIte, Nat.reduceEqDiff, Nat.reduceAdd, Nat.reduceLeDiff, Nat.reduceLT, Int.reduceLE, Int.reduceLT, Int.reduceAdd, Int.reduceSub, Int.reduceToNat, Nat.reduceMul, intC, add_right a m k (by omega)]
/-- examboard/examboardref02.Cmp -/
def b112 : AF := ⟨29, 2, [.tmp 4],
  (.seq (.reg [
    ⟨some 2, .box 25 (.tmp 0), none⟩,
    ⟨some 3, .box 25 (.tmp 1), none⟩,
    ⟨some 4, .assign (.const (.int .i64 0)), none⟩])
  (.seq (.reg [
    ⟨some 7, .load 25 (.tmp 2), none⟩,
    ⟨some 8, .call ⟨(.value (.func 104)), #[(.tmp 7)], #[25]⟩, none⟩,
    ⟨some 5, .assign (.tmp 8), none⟩])
  (.seq (.reg [
    ⟨some 9, .load 25 (.tmp 3), none⟩,
    ⟨some 10, .call ⟨(.value (.func 104)), #[(.tmp 9)], #[25]⟩, none⟩,
    ⟨some 6, .assign (.tmp 10), none⟩])
  (.seq (.seq (.reg [
    ⟨some 11, .move (.tmp 5), none⟩,
    ⟨some 12, .move (.tmp 6), none⟩,
    ⟨some 13, .binOp .lss 3 (.tmp 11) (.tmp 12) 3, none⟩])
  (.cond (.tmp 13)
    (.seq (.reg [
      ⟨some 4, .assign (.const (.int .i64 (-1))), none⟩])
    .ret)
    .skip))
  (.seq (.seq (.reg [
    ⟨some 14, .move (.tmp 5), none⟩,
    ⟨some 15, .move (.tmp 6), none⟩,
    ⟨some 16, .binOp .gtr 3 (.tmp 14) (.tmp 15) 3, none⟩])
  (.cond (.tmp 16)
    (.seq (.reg [
      ⟨some 4, .assign (.const (.int .i64 1)), none⟩])
    .ret)
    .skip))
  (.seq (.seq (.reg [
    ⟨some 17, .move (.tmp 5), none⟩,
    ⟨some 18, .binOp .lss 3 (.tmp 17) (.const (.int .i64 0)) 3, none⟩])
  (.cond (.tmp 18)
    (.seq (.reg [
      ⟨some 19, .fieldAddr 25 (.tmp 3) 1, none⟩,
      ⟨some 20, .load 23 (.tmp 19), none⟩,
      ⟨some 21, .fieldAddr 25 (.tmp 2) 1, none⟩,
      ⟨some 22, .load 23 (.tmp 21), none⟩,
      ⟨some 23, .call ⟨(.value (.func 135)), #[(.tmp 20), (.tmp 22)], #[23, 23]⟩, none⟩,
      ⟨some 4, .assign (.tmp 23), none⟩])
    .ret)
    .skip))
  (.seq (.reg [
    ⟨some 24, .fieldAddr 25 (.tmp 2) 1, none⟩,
    ⟨some 25, .load 23 (.tmp 24), none⟩,
    ⟨some 26, .fieldAddr 25 (.tmp 3) 1, none⟩,
    ⟨some 27, .load 23 (.tmp 26), none⟩,
    ⟨some 28, .call ⟨(.value (.func 135)), #[(.tmp 25), (.tmp 27)], #[23, 23]⟩, none⟩,
    ⟨some 4, .assign (.tmp 28), none⟩])
  .ret)))))))⟩
theorem c112 : fcomp Tryz.prog 112 = ⟨b112.n, b112.np, b112.res, b112.body.bare⟩ := by kernel_rfl
theorem k112 : fok Tryz.prog 112 = true := by kernel_rfl
theorem ri_Cmp (a b : Bool) (m k : List Int) (hm : Lim m) (hk : Lim k) (lm : m.length < 2199023255552) (lk : k.length < 2199023255552) : AFun Tryz.prog 112 [.agg [.lit (.bool a), natD m], .agg [.lit (.bool b), natD k]] [.one (.lit (.int .i64 (cmpZ (iv a m) (iv b k))))] := by
  refine afun_intro mo_ _ _ c112 k112 _ _ rfl (by decide) ?_
  unfold b112
  simp (maxSteps := 1000000) (disch := first | omega | (simp only [LL]; omega)) only [W, V, TY, CC, reduceIte, Nat.reduceEqDiff, Nat.reduceAdd, Nat.reduceLeDiff, Nat.reduceLT, Int.reduceLE, Int.reduceLT, Int.reduceAdd, Int.reduceSub, Int.reduceToNat, Nat.reduceMul]
  refine a_call _ _ (ri_Sign a m hm lm) (by simp (maxSteps := 1000000) (disch := first | omega | (simp only [LL]; omega)) only [W, V, TY, CC, reduceIte, Nat.reduceEqDiff, Nat.reduceAdd, Nat.reduceLeDiff, Nat.reduceLT, Int.reduceLE, Int.reduceLT, Int.reduceAdd, Int.reduceSub, Int.reduceToNat, Nat.reduceMul]) ?_
  simp (maxSteps := 1000000) (disch := first | omega | (simp only [LL]; omega)) only [W, V, TY, CC, reduceIte, Nat.reduceEqDiff, Nat.reduceAdd, Nat.reduceLeDiff, Nat.reduceLT, Int.reduceLE, Int.reduceLT, Int.reduceAdd, Int.reduceSub, Int.reduceToNat, Nat.reduceMul]
  refine a_call _ _ (ri_Sign b k hk lk) (by simp (maxSteps := 1000000) (disch := first | omega | (simp only [LL]; omega)) only [W, V, TY, CC, reduceIte, Nat.reduceEqDiff, Nat.reduceAdd, Nat.reduceLeDiff, Nat.reduceLT, Int.reduceLE, Int.reduceLT, Int.reduceAdd, Int.reduceSub, Int.reduceToNat, Nat.reduceMul]) ?_
  simp (maxSteps := 1000000) (disch := first | omega | (simp only [LL]; omega)) only [W, V, TY, CC, reduceIte, Nat.reduceEqDiff, Nat.reduceAdd, Nat.reduceLeDiff, Nat.reduceLT, Int.reduceLE, Int.reduceLT, Int.reduceAdd, Int.reduceSub, Int.reduceToNat, Nat.reduceMul]
  have s1 := sgn_cases (iv a m)
  have s2 := sgn_cases (iv b k)
  refine c_split (fun h => ?_) (fun h => ?_)
  · have hc : cmpZ (iv a m) (iv b k) = -1 := by unfold cmpZ; rw [if_pos (by omega)]
    simp (maxSteps := 1000000) (disch := first | omega | (simp only [LL]; omega)) only [W, V, TY, CC, reduceIte, Nat.reduceEqDiff, Nat.reduceAdd, Nat.reduceLeDiff, Nat.reduceLT, Int.reduceLE, Int.reduceLT, Int.reduceAdd, Int.reduceSub, Int.reduceToNat, Nat.reduceMul]
    refine f_ret _ _ _ ?_
    simp (maxSteps := 1000000) (disch := first | omega | (simp only [LL]; omega)) only [W, V, TY, CC, reduceIte, Nat.reduceEqDiff, Nat.reduceAdd, Nat.reduceLeDiff, Nat.reduceLT, Int.reduceLE, Int.reduceLT, Int.reduceAdd, Int.reduceSub, Int.reduceToNat, Nat.reduceMul, hc]
  · simp (maxSteps := 1000000) (disch := first | omega | (simp only [LL]; omega)) only [W, V, TY, CC, reduceIte, Nat.reduceEqDiff, Nat.reduceAdd, Nat.reduceLeDiff, Nat.reduceLT, Int.reduceLE, Int.reduceLT, Int.reduceAdd, Int.reduceSub, Int.reduceToNat, Nat.reduceMul]
    refine c_split (fun h1 => ?_) (fun h1 => ?_)
    · have hc : cmpZ (iv a m) (iv b k) = 1 := by unfold cmpZ; rw [if_neg (by omega), if_pos (by omega)]
      simp (maxSteps := 1000000) (disch := first | omega | (simp only [LL]; omega)) only [W, V, TY, CC, reduceIte, Nat.reduceEqDiff, Nat.reduceAdd, Nat.reduceLeDiff, Nat.reduceLT, Int.reduceLE, Int.reduceLT, Int.reduceAdd, Int.reduceSub, Int.reduceToNat, Nat.reduceMul]
      refine f_ret _ _ _ ?_
      simp (maxSteps := 1000000) (disch := first | omega | (simp only [LL]; omega)) only [W, V, TY, CC, reduceIte, Nat.reduceEqDiff, Nat.reduceAdd, Nat.reduceLeDiff, Nat.reduceLT, Int.reduceLE, Int.reduceLT, Int.reduceAdd, Int.reduceSub, Int.reduceToNat, Nat.reduceMul, hc]
    · simp (maxSteps := 1000000) (disch := first | omega | (simp only [LL]; omega)) only [W, V, TY, CC, reduceIte, Nat.reduceEqDiff, Nat.reduceAdd, Nat.reduceLeDiff, Nat.reduceLT, Int.reduceLE, Int.reduceLT, Int.reduceAdd, Int.reduceSub, Int.reduceToNat, Nat.reduceMul]
      refine c_split (fun h2 => ?_) (fun h2 => ?_)
      · simp (maxSteps := 1000000) (disch := first | omega | (simp only [LL]; omega)) only [W, V, TY, CC, reduceIte, Nat.reduceEqDiff, Nat.reduceAdd, Nat.reduceLeDiff, Nat.reduceLT, Int.reduceLE, Int.reduceLT, Int.reduceAdd, Int.reduceSub, Int.reduceToNat, Nat.reduceMul]
        refine a_call _ _ (ref_Cmp k m hk hm (by omega) (by omega)) (by simp (maxSteps := 1000000) (disch := first | omega | (simp only [LL]; omega)) only [W, V, TY, CC, reduceIte, Nat.reduceEqDiff, Nat.reduceAdd, Nat.reduceLeDiff, Nat.reduceLT, Int.reduceLE, Int.reduceLT, Int.reduceAdd, Int.reduceSub, Int.reduceToNat, Nat.reduceMul]) ?_
        rw [cmp_np (a := a) (b := b) hm hk (by omega) (by omega)]
        simp (maxSteps := 1000000) (disch := first | omega | (simp only [LL]; omega)) only [W, V, TY, CC, reduceIte, Nat.reduceEqDiff, Nat.reduceAdd, Nat.reduceLeDiff, Nat.reduceLT, Int.reduceLE, Int.reduceLT, Int.reduceAdd, Int.reduceSub, Int.reduceToNat, Nat.reduceMul]
        refine f_ret _ _ _ ?_
        simp (maxSteps := 1000000) (disch := first | omega | (simp only [LL]; omega)) only [W, V, TY, CC, reduceIte, Nat.reduceEqDiff, Nat.reduceAdd, Nat.reduceLeDiff, Nat.reduceLT, Int.reduceLE, Int.reduceLT, Int.reduceAdd, Int.reduceSub, Int.reduceToNat, Nat.reduceMul]
      · simp (maxSteps := 1000000) (disch := first | omega | (simp only [LL]; omega)) only [W, V, TY, CC, reduceIte, Nat.reduceEqDiff, Nat.reduceAdd, Nat.reduceLeDiff, Nat.reduceLT, Int.reduceLE, Int.reduceLT, Int.reduceAdd, Int.reduceSub, Int.reduceToNat, Nat.reduceMul]
        refine a_call _ _ (ref_Cmp m k hm hk (by omega) (by omega)) (by simp (maxSteps := 1000000) (disch := first | omega | (simp only [LL]; omega)) only [W, V, TY, CC, reduceIte, Nat.reduceEqDiff, Nat.reduceAdd, Nat.reduceLeDiff, Nat.reduceLT, Int.reduceLE, Int.reduceLT, Int.reduceAdd, Int.reduceSub, Int.reduceToNat, Nat.reduceMul]) ?_
        rw [cmp_nn (a := a) (b := b) hm hk (by omega) (by omega)]
        simp (maxSteps := 1000000) (disch := first | omega | (simp only [LL]; omega)) only [W, V, TY, CC, reduceIte, Nat.reduceEqDiff, Nat.reduceAdd, Nat.reduceLeDiff, Nat.reduceLT, Int.reduceLE, Int.reduceLT, Int.reduceAdd, Int.reduceSub, Int.reduceToNat, Nat.reduceMul]
        refine f_ret _ _ _ ?_
        simp (maxSteps := 1000000) (disch := first | omega | (simp only [LL]; omega)) only [W, V, TY, CC, reduceIte, Nat.reduceEqDiff, Nat.reduceAdd, Nat.reduceLeDiff, Nat.reduceLT, Int.reduceLE, Int.reduceLT, Int.reduceAdd, Int.reduceSub, Int.reduceToNat, Nat.reduceMul]
end Go.Proofs.YtljmgdepldpmdaaGreatDoor.E

set_option linter.unusedSimpArgs false
set_option linter.unusedVariables false
set_option maxHeartbeats 2000000
namespace Go.Proofs.YtljmgdepldpmdaaGreatDoor.E
open Go.RowKit Limbs
/-- a rational number, in lowest terms, as cells -/
def ratC (q : Rat) : List Dt := [.lit (.bool (decide (q.num < 0))), natD (nl q.num.natAbs), natD (nl q.den)]
/-- the value of cells -/
def rv (n : Bool) (m d : List Int) : Rat := mkRat (iv n m) (nv d)
theorem rv_ratC (q : Rat) : rv (decide (q.num < 0)) (nl q.num.natAbs) (nl q.den) = q := by
  unfold rv
  rw [iv_nl, nv_nl, Rat.mkRat_self]
theorem ratC_eq (q : Rat) (z : Int) (d : Nat) (h1 : q.num = z) (h2 : q.den = d) : ratC q = [.lit (.bool (decide (z < 0))), natD (nl z.natAbs), natD (nl d)] := by unfold ratC; rw [h1, h2]
theorem ratC_zero : ratC 0 = [.lit (.bool false), .sl 0 [], natD (nl 1)] := by
  unfold ratC
  rw [Rat.zero_num, Rat.zero_den]
  rw [show (0 : Int).natAbs = 0 from rfl, nl_zero]
  rfl
/-- a number divided by the greatest common divisor -/
theorem iv_div (n : Bool) (m : List Int) {g : Nat} (hg : g ∣ nv m) : iv n (nl (nv m / g)) = iv n m / (g : Int) := by
  unfold iv
  rw [nv_nl]
  have hd : (g : Int) ∣ (nv m : Int) := by exact_mod_cast hg
  cases n
  · simp
  · simp only [if_true]
    rw [Int.neg_ediv_of_dvd hd]
    simp
theorem low_num (n : Bool) (m d : List Int) (h : nv d ≠ 0) : (rv n m d).num = iv n (nl (nv m / Nat.gcd (nv m) (nv d))) ∧ (rv n m d).den = nv d / Nat.gcd (nv m) (nv d) := by
  unfold rv
  rw [Rat.num_mkRat, Rat.den_mkRat, if_neg h, if_neg h, iv_abs, Nat.gcd_comm (nv d), iv_div _ _ (Nat.gcd_dvd_left _ _)]
  exact ⟨rfl, rfl⟩
theorem rv_zero (n : Bool) (m d : List Int) (h : nv d = 0 ∨ nv m = 0) : rv n m d = 0 := by
  unfold rv
  rcases h with h | h
  · rw [h, Rat.mkRat_zero]
  · have : iv n m = 0 := by have := iv_abs n m; omega
    rw [this, Rat.zero_mkRat]
/-- examboard/ratio.zero -/
def b115 : AF := ⟨3, 0, [.cell 0 27],
  (.seq (.reg [
    ⟨some 0, .alloc 27, none⟩])
  (.seq (.reg [
    ⟨some 1, .call ⟨(.value (.func 99)), #[(.const (.int .u64 1))], #[97]⟩, none⟩,
    ⟨some 2, .build 27 #[(1, (.tmp 1))], none⟩,
    ⟨none, .store 27 (.tmp 0) (.tmp 2), none⟩])
  .ret))⟩
theorem c115 : fcomp Tryz.prog 115 = ⟨b115.n, b115.np, b115.res, b115.body.bare⟩ := by kernel_rfl
theorem k115 : fok Tryz.prog 115 = true := by kernel_rfl
theorem rat_zero : AFun Tryz.prog 115 [] [.agg (ratC 0)] := by
  refine afun_intro mo_ _ _ c115 k115 _ _ rfl (by decide) ?_
  unfold b115
  simp (maxSteps := 1000000) (disch := first | omega | (simp only [LL]; omega)) only [W, V, TY, CC, reduceIte, Nat.reduceEqDiff, Nat.reduceAdd, Nat.reduceLeDiff, Nat.reduceLT, Int.reduceLE, Int.reduceLT, Int.reduceAdd, Int.reduceSub, Int.reduceToNat, Nat.reduceMul]
  refine a_call _ _ (nat_Of 1 (by decide) (by decide)) (by simp (maxSteps := 1000000) (disch := first | omega | (simp only [LL]; omega)) only [W, V, TY, CC, reduceIte, Nat.reduceEqDiff, Nat.reduceAdd, Nat.reduceLeDiff, Nat.reduceLT, Int.reduceLE, Int.reduceLT, Int.reduceAdd, Int.reduceSub, Int.reduceToNat, Nat.reduceMul]) ?_
  simp (maxSteps := 1000000) (disch := first | omega | (simp only [LL]; omega)) only [W, V, TY, CC, reduceIte, Nat.reduceEqDiff, Nat.reduceAdd, Nat.reduceLeDiff, Nat.reduceLT, Int.reduceLE, Int.reduceLT, Int.reduceAdd, Int.reduceSub, Int.reduceToNat, Nat.reduceMul]
  refine f_ret _ _ _ ?_
  simp (maxSteps := 1000000) (disch := first | omega | (simp only [LL]; omega)) only [W, V, TY, CC, reduceIte, Nat.reduceEqDiff, Nat.reduceAdd, Nat.reduceLeDiff, Nat.reduceLT, Int.reduceLE, Int.reduceLT, Int.reduceAdd, Int.reduceSub, Int.reduceToNat, Nat.reduceMul, ratC_zero]
/-- examboard/ratio.whole -/
def b118 : AF := ⟨5, 1, [.cell 2 25],
  (.seq (.reg [
    ⟨some 2, .alloc 25, none⟩])
  (.seq (.reg [
    ⟨some 3, .move (.tmp 0), none⟩,
    ⟨some 4, .call ⟨(.value (.func 117)), #[(.const (.bool false)), (.tmp 3)], #[4, 23]⟩, none⟩,
    ⟨none, .store 25 (.tmp 2) (.tmp 4), none⟩])
  .ret))⟩
theorem c118 : fcomp Tryz.prog 118 = ⟨b118.n, b118.np, b118.res, b118.body.bare⟩ := by kernel_rfl
theorem k118 : fok Tryz.prog 118 = true := by kernel_rfl
theorem rat_whole (m : List Int) (hm : Lim m) (lm : m.length < 2199023255552) : AFun Tryz.prog 118 [.one (natD m)] [.agg (intC (nv m : Int))] := by
  refine afun_intro mo_ _ _ c118 k118 _ _ rfl (by decide) ?_
  unfold b118
  simp (maxSteps := 1000000) (disch := first | omega | (simp only [LL]; omega)) only [W, V, TY, CC, reduceIte, Nat.reduceEqDiff, Nat.reduceAdd, Nat.reduceLeDiff, Nat.reduceLT, Int.reduceLE, Int.reduceLT, Int.reduceAdd, Int.reduceSub, Int.reduceToNat, Nat.reduceMul]
  refine a_call _ _ (int_Make false m hm lm) (by simp (maxSteps := 1000000) (disch := first | omega | (simp only [LL]; omega)) only [W, V, TY, CC, reduceIte, Nat.reduceEqDiff, Nat.reduceAdd, Nat.reduceLeDiff, Nat.reduceLT, Int.reduceLE, Int.reduceLT, Int.reduceAdd, Int.reduceSub, Int.reduceToNat, Nat.reduceMul]) ?_
  rw [show iv false m = (nv m : Int) from rfl]
  simp (maxSteps := 1000000) (disch := first | omega | (simp only [LL]; omega)) only [W, V, TY, CC, reduceIte, Nat.reduceEqDiff, Nat.reduceAdd, Nat.reduceLeDiff, Nat.reduceLT, Int.reduceLE, Int.reduceLT, Int.reduceAdd, Int.reduceSub, Int.reduceToNat, Nat.reduceMul, intC]
  refine f_ret _ _ _ ?_
  simp (maxSteps := 1000000) (disch := first | omega | (simp only [LL]; omega)) only [W, V, TY, CC, reduceIte, Nat.reduceEqDiff, Nat.reduceAdd, Nat.reduceLeDiff, Nat.reduceLT, Int.reduceLE, Int.reduceLT, Int.reduceAdd, Int.reduceSub, Int.reduceToNat, Nat.reduceMul, intC]
/-- examboard/ratio.lowest -/
def b82 : AF := ⟨47, 2, [.cell 4 27],
  (.seq (.reg [
    ⟨some 2, .box 25 (.tmp 0), none⟩,
    ⟨some 4, .alloc 27, none⟩])
  (.seq (.reg [
    ⟨some 12, .fieldAddr 25 (.tmp 2) 1, none⟩,
    ⟨some 13, .load 23 (.tmp 12), none⟩,
    ⟨some 14, .move (.tmp 1), none⟩,
    ⟨some 15, .call ⟨(.value (.func 113)), #[(.tmp 13), (.tmp 14)], #[23, 23]⟩, none⟩,
    ⟨some 5, .assign (.tmp 15), none⟩])
  (.seq (.seq (.reg [
    ⟨some 16, .move (.tmp 1), none⟩,
    ⟨some 17, .call ⟨(.value (.func 114)), #[(.tmp 16)], #[23]⟩, none⟩,
    ⟨some 18, .binOp .eql 3 (.tmp 17) (.const (.int .i64 0)) 3, none⟩,
    ⟨some 19, .move (.tmp 18), none⟩,
    ⟨some 20, .fieldAddr 25 (.tmp 2) 1, some (19, false)⟩,
    ⟨some 21, .load 23 (.tmp 20), some (19, false)⟩,
    ⟨some 22, .call ⟨(.value (.func 114)), #[(.tmp 21)], #[23]⟩, some (19, false)⟩,
    ⟨some 23, .binOp .eql 3 (.tmp 22) (.const (.int .i64 0)) 3, some (19, false)⟩,
    ⟨some 24, .pick (.tmp 19) (.const (.bool true)) (.tmp 23), none⟩])
  (.cond (.tmp 24)
    (.seq (.reg [
      ⟨some 25, .call ⟨(.value (.func 115)), #[], #[]⟩, none⟩,
      ⟨none, .store 27 (.tmp 4) (.tmp 25), none⟩])
    .ret)
    .skip))
  (.seq (.reg [
    ⟨some 27, .fieldAddr 25 (.tmp 2) 1, none⟩,
    ⟨some 28, .load 23 (.tmp 27), none⟩,
    ⟨some 29, .move (.tmp 5), none⟩,
    ⟨some 30, .call ⟨(.value (.func 116)), #[(.tmp 28), (.tmp 29)], #[23, 23]⟩, none⟩,
    ⟨some 26, .move (.tmp 30), none⟩,
    ⟨some 31, .extract (.tmp 26) 0, none⟩,
    ⟨some 32, .extract (.tmp 26) 1, none⟩,
    ⟨some 33, .extract (.tmp 26) 2, none⟩,
    ⟨some 6, .assign (.tmp 31), none⟩,
    ⟨some 7, .assign (.tmp 32), none⟩,
    ⟨some 8, .assign (.tmp 33), none⟩])
  (.seq (.reg [
    ⟨some 35, .move (.tmp 1), none⟩,
    ⟨some 36, .move (.tmp 5), none⟩,
    ⟨some 37, .call ⟨(.value (.func 116)), #[(.tmp 35), (.tmp 36)], #[23, 23]⟩, none⟩,
    ⟨some 34, .move (.tmp 37), none⟩,
    ⟨some 38, .extract (.tmp 34) 0, none⟩,
    ⟨some 39, .extract (.tmp 34) 1, none⟩,
    ⟨some 40, .extract (.tmp 34) 2, none⟩,
    ⟨some 9, .assign (.tmp 38), none⟩,
    ⟨some 10, .assign (.tmp 39), none⟩,
    ⟨some 11, .assign (.tmp 40), none⟩])
  (.seq (.reg [
    ⟨some 41, .fieldAddr 25 (.tmp 2) 0, none⟩,
    ⟨some 42, .load 4 (.tmp 41), none⟩,
    ⟨some 43, .move (.tmp 6), none⟩,
    ⟨some 44, .call ⟨(.value (.func 117)), #[(.tmp 42), (.tmp 43)], #[4, 23]⟩, none⟩,
    ⟨some 45, .move (.tmp 9), none⟩,
    ⟨some 46, .build 27 #[(0, (.tmp 44)), (1, (.tmp 45))], none⟩,
    ⟨none, .store 27 (.tmp 4) (.tmp 46), none⟩])
  .ret))))))⟩
theorem c82 : fcomp Tryz.prog 82 = ⟨b82.n, b82.np, b82.res, b82.body.bare⟩ := by kernel_rfl
theorem k82 : fok Tryz.prog 82 = true := by kernel_rfl
theorem rat_lowest (n : Bool) (m d : List Int) (hm : Lim m) (hd : Lim d) (lm : m.length < 2199023255552) (ld : d.length < 2199023255552) : AFun Tryz.prog 82 [.agg [.lit (.bool n), natD m], .one (natD d)] [.agg (ratC (rv n m d))] := by
  refine afun_intro mo_ _ _ c82 k82 _ _ rfl (by decide) ?_
  unfold b82
  simp (maxSteps := 1000000) (disch := first | omega | (simp only [LL]; omega)) only [W, V, TY, CC, reduceIte, Nat.reduceEqDiff, Nat.reduceAdd, Nat.reduceLeDiff, Nat.reduceLT, Int.reduceLE, Int.reduceLT, Int.reduceAdd, Int.reduceSub, Int.reduceToNat, Nat.reduceMul]
  refine a_call _ _ (nat_Gcd m d hm hd lm ld) (by simp (maxSteps := 1000000) (disch := first | omega | (simp only [LL]; omega)) only [W, V, TY, CC, reduceIte, Nat.reduceEqDiff, Nat.reduceAdd, Nat.reduceLeDiff, Nat.reduceLT, Int.reduceLE, Int.reduceLT, Int.reduceAdd, Int.reduceSub, Int.reduceToNat, Nat.reduceMul]) ?_
  simp (maxSteps := 1000000) (disch := first | omega | (simp only [LL]; omega)) only [W, V, TY, CC, reduceIte, Nat.reduceEqDiff, Nat.reduceAdd, Nat.reduceLeDiff, Nat.reduceLT, Int.reduceLE, Int.reduceLT, Int.reduceAdd, Int.reduceSub, Int.reduceToNat, Nat.reduceMul]
  refine a_call _ _ (nat_Bits d hd (by omega)) (by simp (maxSteps := 1000000) (disch := first | omega | (simp only [LL]; omega)) only [W, V, TY, CC, reduceIte, Nat.reduceEqDiff, Nat.reduceAdd, Nat.reduceLeDiff, Nat.reduceLT, Int.reduceLE, Int.reduceLT, Int.reduceAdd, Int.reduceSub, Int.reduceToNat, Nat.reduceMul]) ?_
  simp (maxSteps := 1000000) (disch := first | omega | (simp only [LL]; omega)) only [W, V, TY, CC, reduceIte, Nat.reduceEqDiff, Nat.reduceAdd, Nat.reduceLeDiff, Nat.reduceLT, Int.reduceLE, Int.reduceLT, Int.reduceAdd, Int.reduceSub, Int.reduceToNat, Nat.reduceMul]
  refine g_split (fun h => ?_) (fun h => ?_)
  · have h0 : nv d = 0 := bl_eq_zero.1 (by omega)
    rw [rv_zero n m d (.inl h0)]
    simp (maxSteps := 1000000) (disch := first | omega | (simp only [LL]; omega)) only [W, V, TY, CC, reduceIte, Nat.reduceEqDiff, Nat.reduceAdd, Nat.reduceLeDiff, Nat.reduceLT, Int.reduceLE, Int.reduceLT, Int.reduceAdd, Int.reduceSub, Int.reduceToNat, Nat.reduceMul, h]
    refine a_call _ _ rat_zero (by simp (maxSteps := 1000000) (disch := first | omega | (simp only [LL]; omega)) only [W, V, TY, CC, reduceIte, Nat.reduceEqDiff, Nat.reduceAdd, Nat.reduceLeDiff, Nat.reduceLT, Int.reduceLE, Int.reduceLT, Int.reduceAdd, Int.reduceSub, Int.reduceToNat, Nat.reduceMul]) ?_
    simp (maxSteps := 1000000) (disch := first | omega | (simp only [LL]; omega)) only [W, V, TY, CC, reduceIte, Nat.reduceEqDiff, Nat.reduceAdd, Nat.reduceLeDiff, Nat.reduceLT, Int.reduceLE, Int.reduceLT, Int.reduceAdd, Int.reduceSub, Int.reduceToNat, Nat.reduceMul, ratC_zero]
    refine f_ret _ _ _ ?_
    simp (maxSteps := 1000000) (disch := first | omega | (simp only [LL]; omega)) only [W, V, TY, CC, reduceIte, Nat.reduceEqDiff, Nat.reduceAdd, Nat.reduceLeDiff, Nat.reduceLT, Int.reduceLE, Int.reduceLT, Int.reduceAdd, Int.reduceSub, Int.reduceToNat, Nat.reduceMul, ratC_zero]
  · have h0 : nv d ≠ 0 := fun e => h (by rw [e, bl_zero]; rfl)
    simp (maxSteps := 1000000) (disch := first | omega | (simp only [LL]; omega)) only [W, V, TY, CC, reduceIte, Nat.reduceEqDiff, Nat.reduceAdd, Nat.reduceLeDiff, Nat.reduceLT, Int.reduceLE, Int.reduceLT, Int.reduceAdd, Int.reduceSub, Int.reduceToNat, Nat.reduceMul, h]
    refine a_call _ _ (nat_Bits m hm (by omega)) (by simp (maxSteps := 1000000) (disch := first | omega | (simp only [LL]; omega)) only [W, V, TY, CC, reduceIte, Nat.reduceEqDiff, Nat.reduceAdd, Nat.reduceLeDiff, Nat.reduceLT, Int.reduceLE, Int.reduceLT, Int.reduceAdd, Int.reduceSub, Int.reduceToNat, Nat.reduceMul]) ?_
    simp (maxSteps := 1000000) (disch := first | omega | (simp only [LL]; omega)) only [W, V, TY, CC, reduceIte, Nat.reduceEqDiff, Nat.reduceAdd, Nat.reduceLeDiff, Nat.reduceLT, Int.reduceLE, Int.reduceLT, Int.reduceAdd, Int.reduceSub, Int.reduceToNat, Nat.reduceMul, h]
    refine c_split (fun h1 => ?_) (fun h1 => ?_)
    · have h2 : nv m = 0 := bl_eq_zero.1 (by omega)
      rw [rv_zero n m d (.inr h2)]
      simp (maxSteps := 1000000) (disch := first | omega | (simp only [LL]; omega)) only [W, V, TY, CC, reduceIte, Nat.reduceEqDiff, Nat.reduceAdd, Nat.reduceLeDiff, Nat.reduceLT, Int.reduceLE, Int.reduceLT, Int.reduceAdd, Int.reduceSub, Int.reduceToNat, Nat.reduceMul]
      refine a_call _ _ rat_zero (by simp (maxSteps := 1000000) (disch := first | omega | (simp only [LL]; omega)) only [W, V, TY, CC, reduceIte, Nat.reduceEqDiff, Nat.reduceAdd, Nat.reduceLeDiff, Nat.reduceLT, Int.reduceLE, Int.reduceLT, Int.reduceAdd, Int.reduceSub, Int.reduceToNat, Nat.reduceMul]) ?_
      simp (maxSteps := 1000000) (disch := first | omega | (simp only [LL]; omega)) only [W, V, TY, CC, reduceIte, Nat.reduceEqDiff, Nat.reduceAdd, Nat.reduceLeDiff, Nat.reduceLT, Int.reduceLE, Int.reduceLT, Int.reduceAdd, Int.reduceSub, Int.reduceToNat, Nat.reduceMul, ratC_zero]
      refine f_ret _ _ _ ?_
      simp (maxSteps := 1000000) (disch := first | omega | (simp only [LL]; omega)) only [W, V, TY, CC, reduceIte, Nat.reduceEqDiff, Nat.reduceAdd, Nat.reduceLeDiff, Nat.reduceLT, Int.reduceLE, Int.reduceLT, Int.reduceAdd, Int.reduceSub, Int.reduceToNat, Nat.reduceMul, ratC_zero]
    · have h2 : nv m ≠ 0 := fun e => h1 (by rw [e, bl_zero]; rfl)
      obtain ⟨e1, e2⟩ := low_num n m d h0
      have hgm := Nat.gcd_dvd_left (nv m) (nv d)
      have hgd := Nat.gcd_dvd_right (nv m) (nv d)
      have hg0 : Nat.gcd (nv m) (nv d) ≠ 0 := fun e => h0 (Nat.eq_zero_of_gcd_eq_zero_right e)
      have hgle := Nat.le_of_dvd (Nat.pos_of_ne_zero h0) hgd
      have hR := ratC_eq (rv n m d) _ _ e1 e2
      generalize Nat.gcd (nv m) (nv d) = g at *
      have lg := nl_len_le hd hgle
      have lq := nl_len_le hm (Nat.div_le_self (nv m) g)
      simp (maxSteps := 1000000) (disch := first | omega | (simp only [LL]; omega)) only [W, V, TY, CC, reduceIte, Nat.reduceEqDiff, Nat.reduceAdd, Nat.reduceLeDiff, Nat.reduceLT, Int.reduceLE, Int.reduceLT, Int.reduceAdd, Int.reduceSub, Int.reduceToNat, Nat.reduceMul]
      refine a_call _ _ (nat_DivMod m (nl g) hm (nl_lim _) lm (by omega)) (by simp (maxSteps := 1000000) (disch := first | omega | (simp only [LL]; omega)) only [W, V, TY, CC, reduceIte, Nat.reduceEqDiff, Nat.reduceAdd, Nat.reduceLeDiff, Nat.reduceLT, Int.reduceLE, Int.reduceLT, Int.reduceAdd, Int.reduceSub, Int.reduceToNat, Nat.reduceMul]) ?_
      unfold divR
      rw [nv_nl, if_neg hg0]
      simp (maxSteps := 1000000) (disch := first | omega | (simp only [LL]; omega)) only [W, V, TY, CC, reduceIte, Nat.reduceEqDiff, Nat.reduceAdd, Nat.reduceLeDiff, Nat.reduceLT, Int.reduceLE, Int.reduceLT, Int.reduceAdd, Int.reduceSub, Int.reduceToNat, Nat.reduceMul]
      refine a_call _ _ (nat_DivMod d (nl g) hd (nl_lim _) ld (by omega)) (by simp (maxSteps := 1000000) (disch := first | omega | (simp only [LL]; omega)) only [W, V, TY, CC, reduceIte, Nat.reduceEqDiff, Nat.reduceAdd, Nat.reduceLeDiff, Nat.reduceLT, Int.reduceLE, Int.reduceLT, Int.reduceAdd, Int.reduceSub, Int.reduceToNat, Nat.reduceMul]) ?_
      unfold divR
      rw [nv_nl, if_neg hg0]
      simp (maxSteps := 1000000) (disch := first | omega | (simp only [LL]; omega)) only [W, V, TY, CC, reduceIte, Nat.reduceEqDiff, Nat.reduceAdd, Nat.reduceLeDiff, Nat.reduceLT, Int.reduceLE, Int.reduceLT, Int.reduceAdd, Int.reduceSub, Int.reduceToNat, Nat.reduceMul]
      refine a_call _ _ (int_Make n (nl (nv m / g)) (nl_lim _) (by omega)) (by simp (maxSteps := 1000000) (disch := first | omega | (simp only [LL]; omega)) only [W, V, TY, CC, reduceIte, Nat.reduceEqDiff, Nat.reduceAdd, Nat.reduceLeDiff, Nat.reduceLT, Int.reduceLE, Int.reduceLT, Int.reduceAdd, Int.reduceSub, Int.reduceToNat, Nat.reduceMul]) ?_
      simp (maxSteps := 1000000) (disch := first | omega | (simp only [LL]; omega)) only [W, V, TY, CC, reduceIte, Nat.reduceEqDiff, Nat.reduceAdd, Nat.reduceLeDiff, Nat.reduceLT, Int.reduceLE, Int.reduceLT, Int.reduceAdd, Int.reduceSub, Int.reduceToNat, Nat.reduceMul, intC]
      refine f_ret _ _ _ ?_
      simp (maxSteps := 1000000) (disch := first | omega | (simp only [LL]; omega)) only [W, V, TY, CC, reduceIte, Nat.reduceEqDiff, Nat.reduceAdd, Nat.reduceLeDiff, Nat.reduceLT, Int.reduceLE, Int.reduceLT, Int.reduceAdd, Int.reduceSub, Int.reduceToNat, Nat.reduceMul, hR]
end Go.Proofs.YtljmgdepldpmdaaGreatDoor.E

set_option linter.unusedSimpArgs false
set_option linter.unusedVariables false
set_option maxHeartbeats 2000000
namespace Go.Proofs.YtljmgdepldpmdaaGreatDoor.E
open Go.RowKit Limbs
/-! ### sizes -/
/-- the number of limbs -/
def zl (z : Int) : Nat := (nl z.natAbs).length
theorem zl_le {z : Int} {k : Nat} (h : z.natAbs < bn k) : zl z ≤ k := nl_len h
theorem zl_lt (z : Int) : z.natAbs < bn (zl z) := (nl_len_iff (n := z.natAbs) (m := zl z)).1 (Nat.le_refl _)
theorem zl_mul (x y : Int) : zl (x * y) ≤ zl x + zl y := by
  refine zl_le ?_
  rw [Int.natAbs_mul, bn_add]
  exact Nat.mul_lt_mul'' (zl_lt x) (zl_lt y)
theorem bn_mono {m n : Nat} (h : m ≤ n) : bn m ≤ bn n := by unfold bn; exact Nat.pow_le_pow_right (by decide) h
theorem zl_add (x y : Int) : zl (x + y) ≤ max (zl x) (zl y) + 1 := by
  refine zl_le ?_
  have h1 := Nat.lt_of_lt_of_le (zl_lt x) (bn_mono (Nat.le_max_left (zl x) (zl y)))
  have h2 := Nat.lt_of_lt_of_le (zl_lt y) (bn_mono (Nat.le_max_right (zl x) (zl y)))
  rw [bn_succ]
  omega
theorem zl_neg (x : Int) : zl (-x) = zl x := by unfold zl; rw [Int.natAbs_neg]
theorem zl_sub (x y : Int) : zl (x - y) ≤ max (zl x) (zl y) + 1 := by
  have := zl_add x (-y)
  rwa [zl_neg, ← Int.sub_eq_add_neg] at this
theorem zl_iv {n : Bool} {m : List Int} (hm : Lim m) : zl (iv n m) ≤ m.length := by unfold zl; exact nl_len_le hm (by rw [iv_abs]; exact Nat.le_refl _)
theorem zl_nat (k : Nat) : zl (k : Int) = (nl k).length := rfl
theorem zl_nv {d : List Int} (hd : Lim d) : zl ((nv d : Nat) : Int) ≤ d.length := by rw [zl_nat]; exact nl_len_le hd (Nat.le_refl _)
/-! ### parts -/
def pN (n : Bool) (d : List Int) : Bool := if nv d = 0 then false else n
def pM (m d : List Int) : List Int := if nv d = 0 then [] else m
def pD (d : List Int) : Nat := if nv d = 0 then 1 else nv d
theorem pD_pos (d : List Int) : 0 < pD d := by unfold pD; split <;> omega
theorem pM_lim {m : List Int} (hm : Lim m) (d : List Int) : Lim (pM m d) := by unfold pM; split; exact Lim.nil; exact hm
theorem pM_len (m d : List Int) : (pM m d).length ≤ m.length := by unfold pM; split <;> simp
theorem pD_len {d : List Int} (hd : Lim d) : zl (pD d : Int) ≤ d.length + 1 := by
  unfold pD
  split
  · refine Nat.le_trans (zl_le (k := 1) ?_) (by omega)
    show 1 < bn 1
    decide
  · exact Nat.le_succ_of_le (zl_nv hd)
theorem rv_parts (n : Bool) (m d : List Int) : mkRat (iv (pN n d) (pM m d)) (pD d) = rv n m d := by
  unfold pN pM pD rv
  by_cases h : nv d = 0
  · rw [if_pos h, if_pos h, if_pos h, h, Rat.mkRat_zero]
    rw [show iv false [] = 0 from rfl, Rat.zero_mkRat]
  · rw [if_neg h, if_neg h, if_neg h]
/-- examboard/ratio.parts -/
def b84 : AF := ⟨16, 1, [.cell 2 25, .cell 3 25],
  (.seq (.reg [
    ⟨some 1, .box 27 (.tmp 0), none⟩,
    ⟨some 2, .alloc 25, none⟩,
    ⟨some 3, .alloc 25, none⟩])
  (.seq (.seq (.reg [
    ⟨some 4, .fieldAddr 27 (.tmp 1) 1, none⟩,
    ⟨some 5, .load 23 (.tmp 4), none⟩,
    ⟨some 6, .call ⟨(.value (.func 114)), #[(.tmp 5)], #[23]⟩, none⟩,
    ⟨some 7, .binOp .eql 3 (.tmp 6) (.const (.int .i64 0)) 3, none⟩])
  (.cond (.tmp 7)
    (.seq (.reg [
      ⟨some 8, .build 25 #[], none⟩,
      ⟨some 9, .call ⟨(.value (.func 99)), #[(.const (.int .u64 1))], #[97]⟩, none⟩,
      ⟨some 10, .call ⟨(.value (.func 118)), #[(.tmp 9)], #[23]⟩, none⟩,
      ⟨none, .store 25 (.tmp 2) (.tmp 8), none⟩,
      ⟨none, .store 25 (.tmp 3) (.tmp 10), none⟩])
    .ret)
    .skip))
  (.seq (.dreg [
    ⟨some 11, .fieldAddr 27 (.tmp 1) 0, none⟩,
    ⟨some 12, .load 25 (.tmp 11), none⟩,
    ⟨some 13, .fieldAddr 27 (.tmp 1) 1, none⟩,
    ⟨some 14, .load 23 (.tmp 13), none⟩,
    ⟨some 15, .call ⟨(.value (.func 118)), #[(.tmp 14)], #[23]⟩, none⟩,
    ⟨none, .store 25 (.tmp 2) (.tmp 12), none⟩,
    ⟨none, .store 25 (.tmp 3) (.tmp 15), none⟩])
  .ret)))⟩
theorem c84 : fcomp Tryz.prog 84 = ⟨b84.n, b84.np, b84.res, b84.body.bare⟩ := by kernel_rfl
theorem k84 : fok Tryz.prog 84 = true := by kernel_rfl
theorem rat_parts (n : Bool) (m d : List Int) (hm : Lim m) (hd : Lim d) (lm : m.length < 549755813888) (ld : d.length < 549755813888) : AFun Tryz.prog 84 [.agg [.lit (.bool n), natD m, natD d]] [.agg [.lit (.bool (pN n d)), natD (pM m d)], .agg (intC (pD d : Int))] := by
  refine afun_intro mo_ _ _ c84 k84 _ _ rfl (by decide) ?_
  unfold b84
  simp (maxSteps := 1000000) (disch := first | omega | (simp only [LL]; omega)) only [W, V, TY, CC, reduceIte, Nat.reduceEqDiff, Nat.reduceAdd, Nat.reduceLeDiff, Nat.reduceLT, Int.reduceLE, Int.reduceLT, Int.reduceAdd, Int.reduceSub, Int.reduceToNat, Nat.reduceMul]
  refine a_call _ _ (nat_Bits d hd (by omega)) (by simp (maxSteps := 1000000) (disch := first | omega | (simp only [LL]; omega)) only [W, V, TY, CC, reduceIte, Nat.reduceEqDiff, Nat.reduceAdd, Nat.reduceLeDiff, Nat.reduceLT, Int.reduceLE, Int.reduceLT, Int.reduceAdd, Int.reduceSub, Int.reduceToNat, Nat.reduceMul]) ?_
  simp (maxSteps := 1000000) (disch := first | omega | (simp only [LL]; omega)) only [W, V, TY, CC, reduceIte, Nat.reduceEqDiff, Nat.reduceAdd, Nat.reduceLeDiff, Nat.reduceLT, Int.reduceLE, Int.reduceLT, Int.reduceAdd, Int.reduceSub, Int.reduceToNat, Nat.reduceMul]
  refine c_split (fun h => ?_) (fun h => ?_)
  · have h0 : nv d = 0 := bl_eq_zero.1 (by omega)
    have l1 : (nl 1).length ≤ 1 := nl_len (by decide)
    have e1 : ((nv (nl (Int.toNat 1)) : Nat) : Int) = 1 := by rw [nv_nl]; rfl
    unfold pN pM pD
    rw [if_pos h0, if_pos h0, if_pos h0]
    simp (maxSteps := 1000000) (disch := first | omega | (simp only [LL]; omega)) only [W, V, TY, CC, reduceIte, Nat.reduceEqDiff, Nat.reduceAdd, Nat.reduceLeDiff, Nat.reduceLT, Int.reduceLE, Int.reduceLT, Int.reduceAdd, Int.reduceSub, Int.reduceToNat, Nat.reduceMul]
    refine a_call _ _ (nat_Of 1 (by decide) (by decide)) (by simp (maxSteps := 1000000) (disch := first | omega | (simp only [LL]; omega)) only [W, V, TY, CC, reduceIte, Nat.reduceEqDiff, Nat.reduceAdd, Nat.reduceLeDiff, Nat.reduceLT, Int.reduceLE, Int.reduceLT, Int.reduceAdd, Int.reduceSub, Int.reduceToNat, Nat.reduceMul]) ?_
    simp (maxSteps := 1000000) (disch := first | omega | (simp only [LL]; omega)) only [W, V, TY, CC, reduceIte, Nat.reduceEqDiff, Nat.reduceAdd, Nat.reduceLeDiff, Nat.reduceLT, Int.reduceLE, Int.reduceLT, Int.reduceAdd, Int.reduceSub, Int.reduceToNat, Nat.reduceMul]
    refine a_call _ _ (rat_whole (nl (Int.toNat 1)) (nl_lim _) (Nat.lt_of_le_of_lt l1 (by omega))) (by simp (maxSteps := 1000000) (disch := first | omega | (simp only [LL]; omega)) only [W, V, TY, CC, reduceIte, Nat.reduceEqDiff, Nat.reduceAdd, Nat.reduceLeDiff, Nat.reduceLT, Int.reduceLE, Int.reduceLT, Int.reduceAdd, Int.reduceSub, Int.reduceToNat, Nat.reduceMul]) ?_
    rw [e1]
    simp (maxSteps := 1000000) (disch := first | omega | (simp only [LL]; omega)) only [W, V, TY, CC, reduceIte, Nat.reduceEqDiff, Nat.reduceAdd, Nat.reduceLeDiff, Nat.reduceLT, Int.reduceLE, Int.reduceLT, Int.reduceAdd, Int.reduceSub, Int.reduceToNat, Nat.reduceMul, intC]
    refine f_ret _ _ _ ?_
    simp (maxSteps := 1000000) (disch := first | omega | (simp only [LL]; omega)) only [W, V, TY, CC, reduceIte, Nat.reduceEqDiff, Nat.reduceAdd, Nat.reduceLeDiff, Nat.reduceLT, Int.reduceLE, Int.reduceLT, Int.reduceAdd, Int.reduceSub, Int.reduceToNat, Nat.reduceMul, intC]
    rfl
  · have h0 : nv d ≠ 0 := fun e => h (by rw [e, bl_zero]; rfl)
    unfold pN pM pD
    rw [if_neg h0, if_neg h0, if_neg h0]
    simp (maxSteps := 1000000) (disch := first | omega | (simp only [LL]; omega)) only [W, V, TY, CC, reduceIte, Nat.reduceEqDiff, Nat.reduceAdd, Nat.reduceLeDiff, Nat.reduceLT, Int.reduceLE, Int.reduceLT, Int.reduceAdd, Int.reduceSub, Int.reduceToNat, Nat.reduceMul]
    refine a_call _ _ (rat_whole d hd (by omega)) (by simp (maxSteps := 1000000) (disch := first | omega | (simp only [LL]; omega)) only [W, V, TY, CC, reduceIte, Nat.reduceEqDiff, Nat.reduceAdd, Nat.reduceLeDiff, Nat.reduceLT, Int.reduceLE, Int.reduceLT, Int.reduceAdd, Int.reduceSub, Int.reduceToNat, Nat.reduceMul]) ?_
    simp (maxSteps := 1000000) (disch := first | omega | (simp only [LL]; omega)) only [W, V, TY, CC, reduceIte, Nat.reduceEqDiff, Nat.reduceAdd, Nat.reduceLeDiff, Nat.reduceLT, Int.reduceLE, Int.reduceLT, Int.reduceAdd, Int.reduceSub, Int.reduceToNat, Nat.reduceMul, intC]
    refine f_ret _ _ _ ?_
    simp (maxSteps := 1000000) (disch := first | omega | (simp only [LL]; omega)) only [W, V, TY, CC, reduceIte, Nat.reduceEqDiff, Nat.reduceAdd, Nat.reduceLeDiff, Nat.reduceLT, Int.reduceLE, Int.reduceLT, Int.reduceAdd, Int.reduceSub, Int.reduceToNat, Nat.reduceMul, intC]
theorem rv_make (a b : Bool) (m k : List Int) : rv (a != b) m k = Rat.divInt (iv a m) (iv b k) := by
  unfold rv
  rw [← Rat.divInt_ofNat]
  cases b
  · rw [show iv false k = ((nv k : Nat) : Int) from rfl]
    cases a <;> rfl
  · rw [show iv true k = -((nv k : Nat) : Int) from rfl, Rat.divInt_neg']
    have : iv (a != true) m = -iv a m := by cases a <;> simp [iv]
    rw [this]
theorem iv_zero {b : Bool} {k : List Int} : iv b k = 0 ↔ nv k = 0 := by have := iv_abs b k; omega
/-- examboard/ratio.Make -/
def b102 : AF := ⟨22, 2, [.cell 4 27, .tmp 5],
  (.seq (.reg [
    ⟨some 2, .box 25 (.tmp 0), none⟩,
    ⟨some 3, .box 25 (.tmp 1), none⟩,
    ⟨some 4, .alloc 27, none⟩,
    ⟨some 5, .assign (.const (.bool false)), none⟩])
  (.seq (.seq (.reg [
    ⟨some 6, .fieldAddr 25 (.tmp 3) 1, none⟩,
    ⟨some 7, .load 23 (.tmp 6), none⟩,
    ⟨some 8, .call ⟨(.value (.func 114)), #[(.tmp 7)], #[23]⟩, none⟩,
    ⟨some 9, .binOp .eql 3 (.tmp 8) (.const (.int .i64 0)) 3, none⟩])
  (.cond (.tmp 9)
    (.seq (.reg [
      ⟨some 10, .call ⟨(.value (.func 115)), #[], #[]⟩, none⟩,
      ⟨none, .store 27 (.tmp 4) (.tmp 10), none⟩,
      ⟨some 5, .assign (.const (.bool false)), none⟩])
    .ret)
    .skip))
  (.seq (.reg [
    ⟨some 11, .fieldAddr 25 (.tmp 2) 0, none⟩,
    ⟨some 12, .load 4 (.tmp 11), none⟩,
    ⟨some 13, .fieldAddr 25 (.tmp 3) 0, none⟩,
    ⟨some 14, .load 4 (.tmp 13), none⟩,
    ⟨some 15, .binOp .neq 4 (.tmp 12) (.tmp 14) 4, none⟩,
    ⟨some 16, .fieldAddr 25 (.tmp 2) 1, none⟩,
    ⟨some 17, .load 23 (.tmp 16), none⟩,
    ⟨some 18, .build 25 #[(0, (.tmp 15)), (1, (.tmp 17))], none⟩,
    ⟨some 19, .fieldAddr 25 (.tmp 3) 1, none⟩,
    ⟨some 20, .load 23 (.tmp 19), none⟩,
    ⟨some 21, .call ⟨(.value (.func 82)), #[(.tmp 18), (.tmp 20)], #[25, 23]⟩, none⟩,
    ⟨none, .store 27 (.tmp 4) (.tmp 21), none⟩,
    ⟨some 5, .assign (.const (.bool true)), none⟩])
  .ret)))⟩
theorem c102 : fcomp Tryz.prog 102 = ⟨b102.n, b102.np, b102.res, b102.body.bare⟩ := by kernel_rfl
theorem k102 : fok Tryz.prog 102 = true := by kernel_rfl
theorem rat_Make (a b : Bool) (m k : List Int) (hm : Lim m) (hk : Lim k) (lm : m.length < 2199023255552) (lk : k.length < 2199023255552) : AFun Tryz.prog 102 [.agg [.lit (.bool a), natD m], .agg [.lit (.bool b), natD k]] [.agg (ratC (Rat.divInt (iv a m) (iv b k))), .one (.lit (.bool (decide (iv b k ≠ 0))))] := by
  refine afun_intro mo_ _ _ c102 k102 _ _ rfl (by decide) ?_
  unfold b102
  rw [← rv_make]
  simp (maxSteps := 1000000) (disch := first | omega | (simp only [LL]; omega)) only [W, V, TY, CC, reduceIte, Nat.reduceEqDiff, Nat.reduceAdd, Nat.reduceLeDiff, Nat.reduceLT, Int.reduceLE, Int.reduceLT, Int.reduceAdd, Int.reduceSub, Int.reduceToNat, Nat.reduceMul]
  refine a_call _ _ (nat_Bits k hk (by omega)) (by simp (maxSteps := 1000000) (disch := first | omega | (simp only [LL]; omega)) only [W, V, TY, CC, reduceIte, Nat.reduceEqDiff, Nat.reduceAdd, Nat.reduceLeDiff, Nat.reduceLT, Int.reduceLE, Int.reduceLT, Int.reduceAdd, Int.reduceSub, Int.reduceToNat, Nat.reduceMul]) ?_
  simp (maxSteps := 1000000) (disch := first | omega | (simp only [LL]; omega)) only [W, V, TY, CC, reduceIte, Nat.reduceEqDiff, Nat.reduceAdd, Nat.reduceLeDiff, Nat.reduceLT, Int.reduceLE, Int.reduceLT, Int.reduceAdd, Int.reduceSub, Int.reduceToNat, Nat.reduceMul]
  refine c_split (fun h => ?_) (fun h => ?_)
  · have h0 : nv k = 0 := bl_eq_zero.1 (by omega)
    rw [rv_zero _ m k (.inl h0), show decide (iv b k ≠ 0) = false from decide_eq_false (fun e => e (iv_zero.2 h0))]
    simp (maxSteps := 1000000) (disch := first | omega | (simp only [LL]; omega)) only [W, V, TY, CC, reduceIte, Nat.reduceEqDiff, Nat.reduceAdd, Nat.reduceLeDiff, Nat.reduceLT, Int.reduceLE, Int.reduceLT, Int.reduceAdd, Int.reduceSub, Int.reduceToNat, Nat.reduceMul]
    refine a_call _ _ rat_zero (by simp (maxSteps := 1000000) (disch := first | omega | (simp only [LL]; omega)) only [W, V, TY, CC, reduceIte, Nat.reduceEqDiff, Nat.reduceAdd, Nat.reduceLeDiff, Nat.reduceLT, Int.reduceLE, Int.reduceLT, Int.reduceAdd, Int.reduceSub, Int.reduceToNat, Nat.reduceMul]) ?_
    simp (maxSteps := 1000000) (disch := first | omega | (simp only [LL]; omega)) only [W, V, TY, CC, reduceIte, Nat.reduceEqDiff, Nat.reduceAdd, Nat.reduceLeDiff, Nat.reduceLT, Int.reduceLE, Int.reduceLT, Int.reduceAdd, Int.reduceSub, Int.reduceToNat, Nat.reduceMul, ratC_zero]
    refine f_ret _ _ _ ?_
    simp (maxSteps := 1000000) (disch := first | omega | (simp only [LL]; omega)) only [W, V, TY, CC, reduceIte, Nat.reduceEqDiff, Nat.reduceAdd, Nat.reduceLeDiff, Nat.reduceLT, Int.reduceLE, Int.reduceLT, Int.reduceAdd, Int.reduceSub, Int.reduceToNat, Nat.reduceMul, ratC_zero]
  · have h0 : nv k ≠ 0 := fun e => h (by rw [e, bl_zero]; rfl)
    rw [show decide (iv b k ≠ 0) = true from decide_eq_true (fun e => h0 (iv_zero.1 e))]
    simp (maxSteps := 1000000) (disch := first | omega | (simp only [LL]; omega)) only [W, V, TY, CC, reduceIte, Nat.reduceEqDiff, Nat.reduceAdd, Nat.reduceLeDiff, Nat.reduceLT, Int.reduceLE, Int.reduceLT, Int.reduceAdd, Int.reduceSub, Int.reduceToNat, Nat.reduceMul]
    refine a_call _ _ (rat_lowest (!(a == b)) m k hm hk lm lk) (by simp (maxSteps := 1000000) (disch := first | omega | (simp only [LL]; omega)) only [W, V, TY, CC, reduceIte, Nat.reduceEqDiff, Nat.reduceAdd, Nat.reduceLeDiff, Nat.reduceLT, Int.reduceLE, Int.reduceLT, Int.reduceAdd, Int.reduceSub, Int.reduceToNat, Nat.reduceMul]) ?_
    rw [show (!(a == b)) = (a != b) from rfl]
    simp (maxSteps := 1000000) (disch := first | omega | (simp only [LL]; omega)) only [W, V, TY, CC, reduceIte, Nat.reduceEqDiff, Nat.reduceAdd, Nat.reduceLeDiff, Nat.reduceLT, Int.reduceLE, Int.reduceLT, Int.reduceAdd, Int.reduceSub, Int.reduceToNat, Nat.reduceMul, ratC]
    refine f_ret _ _ _ ?_
    simp (maxSteps := 1000000) (disch := first | omega | (simp only [LL]; omega)) only [W, V, TY, CC, reduceIte, Nat.reduceEqDiff, Nat.reduceAdd, Nat.reduceLeDiff, Nat.reduceLT, Int.reduceLE, Int.reduceLT, Int.reduceAdd, Int.reduceSub, Int.reduceToNat, Nat.reduceMul, ratC]
/-- examboard/ratio.Of -/
def b69 : AF := ⟨13, 2, [.cell 4 27, .tmp 5],
  (.seq (.reg [
    ⟨some 4, .alloc 27, none⟩,
    ⟨some 5, .assign (.const (.bool false)), none⟩])
  (.seq (.reg [
    ⟨some 6, .move (.tmp 0), none⟩,
    ⟨some 7, .call ⟨(.value (.func 109)), #[(.tmp 6)], #[2]⟩, none⟩,
    ⟨some 8, .move (.tmp 1), none⟩,
    ⟨some 9, .call ⟨(.value (.func 109)), #[(.tmp 8)], #[2]⟩, none⟩,
    ⟨some 10, .call ⟨(.value (.func 102)), #[(.tmp 7), (.tmp 9)], #[25, 25]⟩, none⟩,
    ⟨some 11, .extract (.tmp 10) 0, none⟩,
    ⟨some 12, .extract (.tmp 10) 1, none⟩,
    ⟨none, .store 27 (.tmp 4) (.tmp 11), none⟩,
    ⟨some 5, .assign (.tmp 12), none⟩])
  .ret))⟩
theorem c69 : fcomp Tryz.prog 69 = ⟨b69.n, b69.np, b69.res, b69.body.bare⟩ := by kernel_rfl
theorem k69 : fok Tryz.prog 69 = true := by kernel_rfl
theorem rat_Of (x y : Int) (x0 : -9223372036854775808 ≤ x) (x1 : x < 9223372036854775808) (y0 : -9223372036854775808 ≤ y) (y1 : y < 9223372036854775808) : AFun Tryz.prog 69 [.one (.lit (.int .i64 x)), .one (.lit (.int .i64 y))] [.agg (ratC (Rat.divInt x y)), .one (.lit (.bool (decide (y ≠ 0))))] := by
  refine afun_intro mo_ _ _ c69 k69 _ _ rfl (by decide) ?_
  unfold b69
  have lx : (nl x.natAbs).length ≤ 2 := nl_len (by omega)
  have ly : (nl y.natAbs).length ≤ 2 := nl_len (by omega)
  simp (maxSteps := 1000000) (disch := first | omega | (simp only [LL]; omega)) only [W, V, TY, CC, reduceIte, Nat.reduceEqDiff, Nat.reduceAdd, Nat.reduceLeDiff, Nat.reduceLT, Int.reduceLE, Int.reduceLT, Int.reduceAdd, Int.reduceSub, Int.reduceToNat, Nat.reduceMul]
  refine a_call _ _ (int_Of x x0 x1) (by simp (maxSteps := 1000000) (disch := first | omega | (simp only [LL]; omega)) only [W, V, TY, CC, reduceIte, Nat.reduceEqDiff, Nat.reduceAdd, Nat.reduceLeDiff, Nat.reduceLT, Int.reduceLE, Int.reduceLT, Int.reduceAdd, Int.reduceSub, Int.reduceToNat, Nat.reduceMul]) ?_
  simp (maxSteps := 1000000) (disch := first | omega | (simp only [LL]; omega)) only [W, V, TY, CC, reduceIte, Nat.reduceEqDiff, Nat.reduceAdd, Nat.reduceLeDiff, Nat.reduceLT, Int.reduceLE, Int.reduceLT, Int.reduceAdd, Int.reduceSub, Int.reduceToNat, Nat.reduceMul, intC]
  refine a_call _ _ (int_Of y y0 y1) (by simp (maxSteps := 1000000) (disch := first | omega | (simp only [LL]; omega)) only [W, V, TY, CC, reduceIte, Nat.reduceEqDiff, Nat.reduceAdd, Nat.reduceLeDiff, Nat.reduceLT, Int.reduceLE, Int.reduceLT, Int.reduceAdd, Int.reduceSub, Int.reduceToNat, Nat.reduceMul]) ?_
  simp (maxSteps := 1000000) (disch := first | omega | (simp only [LL]; omega)) only [W, V, TY, CC, reduceIte, Nat.reduceEqDiff, Nat.reduceAdd, Nat.reduceLeDiff, Nat.reduceLT, Int.reduceLE, Int.reduceLT, Int.reduceAdd, Int.reduceSub, Int.reduceToNat, Nat.reduceMul, intC]
  refine a_call _ _ (rat_Make (decide (x < 0)) (decide (y < 0)) (nl x.natAbs) (nl y.natAbs) (nl_lim _) (nl_lim _) (by omega) (by omega)) (by simp (maxSteps := 1000000) (disch := first | omega | (simp only [LL]; omega)) only [W, V, TY, CC, reduceIte, Nat.reduceEqDiff, Nat.reduceAdd, Nat.reduceLeDiff, Nat.reduceLT, Int.reduceLE, Int.reduceLT, Int.reduceAdd, Int.reduceSub, Int.reduceToNat, Nat.reduceMul]) ?_
  rw [iv_nl, iv_nl]
  simp (maxSteps := 1000000) (disch := first | omega | (simp only [LL]; omega)) only [W, V, TY, CC, reduceIte, Nat.reduceEqDiff, Nat.reduceAdd, Nat.reduceLeDiff, Nat.reduceLT, Int.reduceLE, Int.reduceLT, Int.reduceAdd, Int.reduceSub, Int.reduceToNat, Nat.reduceMul, ratC]
  refine f_ret _ _ _ ?_
  simp (maxSteps := 1000000) (disch := first | omega | (simp only [LL]; omega)) only [W, V, TY, CC, reduceIte, Nat.reduceEqDiff, Nat.reduceAdd, Nat.reduceLeDiff, Nat.reduceLT, Int.reduceLE, Int.reduceLT, Int.reduceAdd, Int.reduceSub, Int.reduceToNat, Nat.reduceMul, ratC]
end Go.Proofs.YtljmgdepldpmdaaGreatDoor.E

set_option linter.unusedSimpArgs false
set_option linter.unusedVariables false
set_option maxHeartbeats 2000000
namespace Go.Proofs.YtljmgdepldpmdaaGreatDoor.E
open Go.RowKit Limbs
theorem mk_sub (a b : Int) {d e : Nat} (hd : 0 < d) (he : 0 < e) : mkRat a d - mkRat b e = mkRat (a * e - b * d) (d * e) := by
  rw [← Rat.divInt_ofNat, ← Rat.divInt_ofNat, Rat.divInt_sub_divInt _ _ (by omega) (by omega), ← Int.natCast_mul, Rat.divInt_ofNat]
theorem mk_nn (a : Int) {d : Nat} (hd : 0 < d) : 0 ≤ mkRat a d ↔ 0 ≤ a := by
  rw [← Rat.divInt_ofNat]
  exact Rat.divInt_nonneg_iff_of_pos_right (by omega)
theorem mk_le (a b : Int) {d e : Nat} (hd : 0 < d) (he : 0 < e) : mkRat a d ≤ mkRat b e ↔ a * e ≤ b * d := by
  rw [Rat.le_iff_sub_nonneg, mk_sub b a he hd, mk_nn _ (Nat.mul_pos he hd)]
  omega
theorem mk_lt (a b : Int) {d e : Nat} (hd : 0 < d) (he : 0 < e) : mkRat a d < mkRat b e ↔ a * e < b * d := by
  rw [← Rat.not_le, mk_le b a he hd]
  omega
/-- -1, 0 or 1 -/
def cmpQ (p q : Rat) : Int := if p < q then -1 else if q < p then 1 else 0
theorem cmp_mk (a b : Int) {d e : Nat} (hd : 0 < d) (he : 0 < e) : cmpZ (a * e) (b * d) = cmpQ (mkRat a d) (mkRat b e) := by
  unfold cmpZ cmpQ
  simp only [mk_lt a b hd he, mk_lt b a he hd]
theorem intC_nat (k : Nat) : intC (k : Int) = [.lit (.bool false), natD (nl k)] := of_nn (by omega)
theorem iv_nat (k : Nat) : iv false (nl k) = (k : Int) := by unfold iv; rw [nv_nl]; rfl
/-- examboard/ratio.Cmp -/
def b51 : AF := ⟨26, 2, [.tmp 4],
  (.seq (.reg [
    ⟨some 2, .box 27 (.tmp 0), none⟩,
    ⟨some 3, .box 27 (.tmp 1), none⟩,
    ⟨some 4, .assign (.const (.int .i64 0)), none⟩])
  (.seq (.reg [
    ⟨some 10, .load 27 (.tmp 2), none⟩,
    ⟨some 11, .call ⟨(.value (.func 84)), #[(.tmp 10)], #[27]⟩, none⟩,
    ⟨some 9, .move (.tmp 11), none⟩,
    ⟨some 12, .extract (.tmp 9) 0, none⟩,
    ⟨some 13, .extract (.tmp 9) 1, none⟩,
    ⟨some 5, .alloc 25, none⟩,
    ⟨some 6, .alloc 25, none⟩,
    ⟨none, .store 25 (.tmp 5) (.tmp 12), none⟩,
    ⟨none, .store 25 (.tmp 6) (.tmp 13), none⟩])
  (.seq (.reg [
    ⟨some 15, .load 27 (.tmp 3), none⟩,
    ⟨some 16, .call ⟨(.value (.func 84)), #[(.tmp 15)], #[27]⟩, none⟩,
    ⟨some 14, .move (.tmp 16), none⟩,
    ⟨some 17, .extract (.tmp 14) 0, none⟩,
    ⟨some 18, .extract (.tmp 14) 1, none⟩,
    ⟨some 7, .alloc 25, none⟩,
    ⟨some 8, .alloc 25, none⟩,
    ⟨none, .store 25 (.tmp 7) (.tmp 17), none⟩,
    ⟨none, .store 25 (.tmp 8) (.tmp 18), none⟩])
  (.seq (.dreg [
    ⟨some 19, .load 25 (.tmp 5), none⟩,
    ⟨some 20, .load 25 (.tmp 8), none⟩,
    ⟨some 21, .call ⟨(.value (.func 86)), #[(.tmp 19), (.tmp 20)], #[25, 25]⟩, none⟩,
    ⟨some 22, .load 25 (.tmp 7), none⟩,
    ⟨some 23, .load 25 (.tmp 6), none⟩,
    ⟨some 24, .call ⟨(.value (.func 86)), #[(.tmp 22), (.tmp 23)], #[25, 25]⟩, none⟩,
    ⟨some 25, .call ⟨(.value (.func 96)), #[(.tmp 21), (.tmp 24)], #[25, 25]⟩, none⟩,
    ⟨some 4, .assign (.tmp 25), none⟩])
  .ret))))⟩
theorem c51 : fcomp Tryz.prog 51 = ⟨b51.n, b51.np, b51.res, b51.body.bare⟩ := by kernel_rfl
theorem k51 : fok Tryz.prog 51 = true := by kernel_rfl
theorem rat_Cmp (n : Bool) (m d : List Int) (n' : Bool) (m' d' : List Int) (hm : Lim m) (hd : Lim d) (hm' : Lim m') (hd' : Lim d') (lm : m.length < 68719476736) (ld : d.length < 68719476736) (lm' : m'.length < 68719476736) (ld' : d'.length < 68719476736) :
    AFun Tryz.prog 51 [.agg [.lit (.bool n), natD m, natD d], .agg [.lit (.bool n'), natD m', natD d']] [.one (.lit (.int .i64 (cmpQ (rv n m d) (rv n' m' d'))))] := by
  refine afun_intro mo_ _ _ c51 k51 _ _ rfl (by decide) ?_
  unfold b51
  rw [← rv_parts n m d, ← rv_parts n' m' d', ← cmp_mk _ _ (pD_pos d) (pD_pos d')]
  have k1 := pM_len m d
  have k2 := pM_len m' d'
  have k3 := pD_len hd
  have k4 := pD_len hd'
  have k5 := zl_iv (n := pN n d) (pM_lim hm d)
  have k6 := zl_iv (n := pN n' d') (pM_lim hm' d')
  have k7 := zl_mul (iv (pN n d) (pM m d)) (pD d' : Int)
  have k8 := zl_mul (iv (pN n' d') (pM m' d')) (pD d : Int)
  have k9 := zl_nat (pD d)
  have k10 := zl_nat (pD d')
  generalize hX : iv (pN n d) (pM m d) * (pD d' : Int) = X at *
  generalize hY : iv (pN n' d') (pM m' d') * (pD d : Int) = Y at *
  simp (maxSteps := 1000000) (disch := first | omega | (simp only [LL]; omega)) only [W, V, TY, CC, reduceIte, Nat.reduceEqDiff, Nat.reduceAdd, Nat.reduceLeDiff, Nat.reduceLT, Int.reduceLE, Int.reduceLT, Int.reduceAdd, Int.reduceSub, Int.reduceToNat, Nat.reduceMul]
  refine a_call _ _ (rat_parts n m d hm hd (by omega) (by omega)) (by simp (maxSteps := 1000000) (disch := first | omega | (simp only [LL]; omega)) only [W, V, TY, CC, reduceIte, Nat.reduceEqDiff, Nat.reduceAdd, Nat.reduceLeDiff, Nat.reduceLT, Int.reduceLE, Int.reduceLT, Int.reduceAdd, Int.reduceSub, Int.reduceToNat, Nat.reduceMul]) ?_
  simp (maxSteps := 1000000) (disch := first | omega | (simp only [LL]; omega)) only [W, V, TY, CC, reduceIte, Nat.reduceEqDiff, Nat.reduceAdd, Nat.reduceLeDiff, Nat.reduceLT, Int.reduceLE, Int.reduceLT, Int.reduceAdd, Int.reduceSub, Int.reduceToNat, Nat.reduceMul, intC_nat]
  refine a_call _ _ (rat_parts n' m' d' hm' hd' (by omega) (by omega)) (by simp (maxSteps := 1000000) (disch := first | omega | (simp only [LL]; omega)) only [W, V, TY, CC, reduceIte, Nat.reduceEqDiff, Nat.reduceAdd, Nat.reduceLeDiff, Nat.reduceLT, Int.reduceLE, Int.reduceLT, Int.reduceAdd, Int.reduceSub, Int.reduceToNat, Nat.reduceMul]) ?_
  simp (maxSteps := 1000000) (disch := first | omega | (simp only [LL]; omega)) only [W, V, TY, CC, reduceIte, Nat.reduceEqDiff, Nat.reduceAdd, Nat.reduceLeDiff, Nat.reduceLT, Int.reduceLE, Int.reduceLT, Int.reduceAdd, Int.reduceSub, Int.reduceToNat, Nat.reduceMul, intC_nat]
  refine a_call _ _ (int_Mul (pN n d) false (pM m d) (nl (pD d')) (pM_lim hm d) (nl_lim _) (by omega) (by omega)) (by simp (maxSteps := 1000000) (disch := first | omega | (simp only [LL]; omega)) only [W, V, TY, CC, reduceIte, Nat.reduceEqDiff, Nat.reduceAdd, Nat.reduceLeDiff, Nat.reduceLT, Int.reduceLE, Int.reduceLT, Int.reduceAdd, Int.reduceSub, Int.reduceToNat, Nat.reduceMul]) ?_
  rw [iv_nat, hX]
  simp (maxSteps := 1000000) (disch := first | omega | (simp only [LL]; omega)) only [W, V, TY, CC, reduceIte, Nat.reduceEqDiff, Nat.reduceAdd, Nat.reduceLeDiff, Nat.reduceLT, Int.reduceLE, Int.reduceLT, Int.reduceAdd, Int.reduceSub, Int.reduceToNat, Nat.reduceMul, intC]
  refine a_call _ _ (int_Mul (pN n' d') false (pM m' d') (nl (pD d)) (pM_lim hm' d') (nl_lim _) (by omega) (by omega)) (by simp (maxSteps := 1000000) (disch := first | omega | (simp only [LL]; omega)) only [W, V, TY, CC, reduceIte, Nat.reduceEqDiff, Nat.reduceAdd, Nat.reduceLeDiff, Nat.reduceLT, Int.reduceLE, Int.reduceLT, Int.reduceAdd, Int.reduceSub, Int.reduceToNat, Nat.reduceMul]) ?_
  rw [iv_nat, hY]
  simp (maxSteps := 1000000) (disch := first | omega | (simp only [LL]; omega)) only [W, V, TY, CC, reduceIte, Nat.reduceEqDiff, Nat.reduceAdd, Nat.reduceLeDiff, Nat.reduceLT, Int.reduceLE, Int.reduceLT, Int.reduceAdd, Int.reduceSub, Int.reduceToNat, Nat.reduceMul, intC]
  refine a_call _ _ (int_Cmp (decide (X < 0)) (decide (Y < 0)) (nl X.natAbs) (nl Y.natAbs) (nl_lim _) (nl_lim _) (show zl X < _ by omega) (show zl Y < _ by omega)) (by simp (maxSteps := 1000000) (disch := first | omega | (simp only [LL]; omega)) only [W, V, TY, CC, reduceIte, Nat.reduceEqDiff, Nat.reduceAdd, Nat.reduceLeDiff, Nat.reduceLT, Int.reduceLE, Int.reduceLT, Int.reduceAdd, Int.reduceSub, Int.reduceToNat, Nat.reduceMul]) ?_
  rw [iv_nl, iv_nl]
  simp (maxSteps := 1000000) (disch := first | omega | (simp only [LL]; omega)) only [W, V, TY, CC, reduceIte, Nat.reduceEqDiff, Nat.reduceAdd, Nat.reduceLeDiff, Nat.reduceLT, Int.reduceLE, Int.reduceLT, Int.reduceAdd, Int.reduceSub, Int.reduceToNat, Nat.reduceMul]
  refine f_ret _ _ _ ?_
  simp (maxSteps := 1000000) (disch := first | omega | (simp only [LL]; omega)) only [W, V, TY, CC, reduceIte, Nat.reduceEqDiff, Nat.reduceAdd, Nat.reduceLeDiff, Nat.reduceLT, Int.reduceLE, Int.reduceLT, Int.reduceAdd, Int.reduceSub, Int.reduceToNat, Nat.reduceMul]
/-- examboard/ratio.Sub -/
def b48 : AF := ⟨32, 2, [.cell 4 27],
  (.seq (.reg [
    ⟨some 2, .box 27 (.tmp 0), none⟩,
    ⟨some 3, .box 27 (.tmp 1), none⟩,
    ⟨some 4, .alloc 27, none⟩])
  (.seq (.reg [
    ⟨some 10, .load 27 (.tmp 2), none⟩,
    ⟨some 11, .call ⟨(.value (.func 84)), #[(.tmp 10)], #[27]⟩, none⟩,
    ⟨some 9, .move (.tmp 11), none⟩,
    ⟨some 12, .extract (.tmp 9) 0, none⟩,
    ⟨some 13, .extract (.tmp 9) 1, none⟩,
    ⟨some 5, .alloc 25, none⟩,
    ⟨some 6, .alloc 25, none⟩,
    ⟨none, .store 25 (.tmp 5) (.tmp 12), none⟩,
    ⟨none, .store 25 (.tmp 6) (.tmp 13), none⟩])
  (.seq (.reg [
    ⟨some 15, .load 27 (.tmp 3), none⟩,
    ⟨some 16, .call ⟨(.value (.func 84)), #[(.tmp 15)], #[27]⟩, none⟩,
    ⟨some 14, .move (.tmp 16), none⟩,
    ⟨some 17, .extract (.tmp 14) 0, none⟩,
    ⟨some 18, .extract (.tmp 14) 1, none⟩,
    ⟨some 7, .alloc 25, none⟩,
    ⟨some 8, .alloc 25, none⟩,
    ⟨none, .store 25 (.tmp 7) (.tmp 17), none⟩,
    ⟨none, .store 25 (.tmp 8) (.tmp 18), none⟩])
  (.seq (.dreg [
    ⟨some 19, .load 25 (.tmp 5), none⟩,
    ⟨some 20, .load 25 (.tmp 8), none⟩,
    ⟨some 21, .call ⟨(.value (.func 86)), #[(.tmp 19), (.tmp 20)], #[25, 25]⟩, none⟩,
    ⟨some 22, .load 25 (.tmp 7), none⟩,
    ⟨some 23, .load 25 (.tmp 6), none⟩,
    ⟨some 24, .call ⟨(.value (.func 86)), #[(.tmp 22), (.tmp 23)], #[25, 25]⟩, none⟩,
    ⟨some 25, .call ⟨(.value (.func 95)), #[(.tmp 21), (.tmp 24)], #[25, 25]⟩, none⟩,
    ⟨some 26, .fieldAddr 25 (.tmp 6) 1, none⟩,
    ⟨some 27, .load 23 (.tmp 26), none⟩,
    ⟨some 28, .fieldAddr 25 (.tmp 8) 1, none⟩,
    ⟨some 29, .load 23 (.tmp 28), none⟩,
    ⟨some 30, .call ⟨(.value (.func 87)), #[(.tmp 27), (.tmp 29)], #[23, 23]⟩, none⟩,
    ⟨some 31, .call ⟨(.value (.func 82)), #[(.tmp 25), (.tmp 30)], #[25, 23]⟩, none⟩,
    ⟨none, .store 27 (.tmp 4) (.tmp 31), none⟩])
  .ret))))⟩
theorem c48 : fcomp Tryz.prog 48 = ⟨b48.n, b48.np, b48.res, b48.body.bare⟩ := by kernel_rfl
theorem k48 : fok Tryz.prog 48 = true := by kernel_rfl
theorem rat_Sub (n : Bool) (m d : List Int) (n' : Bool) (m' d' : List Int) (hm : Lim m) (hd : Lim d) (hm' : Lim m') (hd' : Lim d') (lm : m.length < 68719476736) (ld : d.length < 68719476736) (lm' : m'.length < 68719476736) (ld' : d'.length < 68719476736) :
    AFun Tryz.prog 48 [.agg [.lit (.bool n), natD m, natD d], .agg [.lit (.bool n'), natD m', natD d']] [.agg (ratC (rv n m d - rv n' m' d'))] := by
  refine afun_intro mo_ _ _ c48 k48 _ _ rfl (by decide) ?_
  unfold b48
  rw [← rv_parts n m d, ← rv_parts n' m' d', mk_sub _ _ (pD_pos d) (pD_pos d')]
  have k1 := pM_len m d
  have k2 := pM_len m' d'
  have k3 := pD_len hd
  have k4 := pD_len hd'
  have k5 := zl_iv (n := pN n d) (pM_lim hm d)
  have k6 := zl_iv (n := pN n' d') (pM_lim hm' d')
  have k7 := zl_mul (iv (pN n d) (pM m d)) (pD d' : Int)
  have k8 := zl_mul (iv (pN n' d') (pM m' d')) (pD d : Int)
  have k9 := zl_nat (pD d)
  have k10 := zl_nat (pD d')
  have k11 := zl_mul (pD d : Int) (pD d' : Int)
  rw [← Int.natCast_mul] at k11
  have k12 := zl_nat (pD d * pD d')
  generalize hX : iv (pN n d) (pM m d) * (pD d' : Int) = X at *
  generalize hY : iv (pN n' d') (pM m' d') * (pD d : Int) = Y at *
  have k13 := zl_sub X Y
  simp (maxSteps := 1000000) (disch := first | omega | (simp only [LL]; omega)) only [W, V, TY, CC, reduceIte, Nat.reduceEqDiff, Nat.reduceAdd, Nat.reduceLeDiff, Nat.reduceLT, Int.reduceLE, Int.reduceLT, Int.reduceAdd, Int.reduceSub, Int.reduceToNat, Nat.reduceMul]
  refine a_call _ _ (rat_parts n m d hm hd (by omega) (by omega)) (by simp (maxSteps := 1000000) (disch := first | omega | (simp only [LL]; omega)) only [W, V, TY, CC, reduceIte, Nat.reduceEqDiff, Nat.reduceAdd, Nat.reduceLeDiff, Nat.reduceLT, Int.reduceLE, Int.reduceLT, Int.reduceAdd, Int.reduceSub, Int.reduceToNat, Nat.reduceMul]) ?_
  simp (maxSteps := 1000000) (disch := first | omega | (simp only [LL]; omega)) only [W, V, TY, CC, reduceIte, Nat.reduceEqDiff, Nat.reduceAdd, Nat.reduceLeDiff, Nat.reduceLT, Int.reduceLE, Int.reduceLT, Int.reduceAdd, Int.reduceSub, Int.reduceToNat, Nat.reduceMul, intC_nat]
  refine a_call _ _ (rat_parts n' m' d' hm' hd' (by omega) (by omega)) (by simp (maxSteps := 1000000) (disch := first | omega | (simp only [LL]; omega)) only [W, V, TY, CC, reduceIte, Nat.reduceEqDiff, Nat.reduceAdd, Nat.reduceLeDiff, Nat.reduceLT, Int.reduceLE, Int.reduceLT, Int.reduceAdd, Int.reduceSub, Int.reduceToNat, Nat.reduceMul]) ?_
  simp (maxSteps := 1000000) (disch := first | omega | (simp only [LL]; omega)) only [W, V, TY, CC, reduceIte, Nat.reduceEqDiff, Nat.reduceAdd, Nat.reduceLeDiff, Nat.reduceLT, Int.reduceLE, Int.reduceLT, Int.reduceAdd, Int.reduceSub, Int.reduceToNat, Nat.reduceMul, intC_nat]
  refine a_call _ _ (int_Mul (pN n d) false (pM m d) (nl (pD d')) (pM_lim hm d) (nl_lim _) (by omega) (by omega)) (by simp (maxSteps := 1000000) (disch := first | omega | (simp only [LL]; omega)) only [W, V, TY, CC, reduceIte, Nat.reduceEqDiff, Nat.reduceAdd, Nat.reduceLeDiff, Nat.reduceLT, Int.reduceLE, Int.reduceLT, Int.reduceAdd, Int.reduceSub, Int.reduceToNat, Nat.reduceMul]) ?_
  rw [iv_nat, hX]
  simp (maxSteps := 1000000) (disch := first | omega | (simp only [LL]; omega)) only [W, V, TY, CC, reduceIte, Nat.reduceEqDiff, Nat.reduceAdd, Nat.reduceLeDiff, Nat.reduceLT, Int.reduceLE, Int.reduceLT, Int.reduceAdd, Int.reduceSub, Int.reduceToNat, Nat.reduceMul, intC]
  refine a_call _ _ (int_Mul (pN n' d') false (pM m' d') (nl (pD d)) (pM_lim hm' d') (nl_lim _) (by omega) (by omega)) (by simp (maxSteps := 1000000) (disch := first | omega | (simp only [LL]; omega)) only [W, V, TY, CC, reduceIte, Nat.reduceEqDiff, Nat.reduceAdd, Nat.reduceLeDiff, Nat.reduceLT, Int.reduceLE, Int.reduceLT, Int.reduceAdd, Int.reduceSub, Int.reduceToNat, Nat.reduceMul]) ?_
  rw [iv_nat, hY]
  simp (maxSteps := 1000000) (disch := first | omega | (simp only [LL]; omega)) only [W, V, TY, CC, reduceIte, Nat.reduceEqDiff, Nat.reduceAdd, Nat.reduceLeDiff, Nat.reduceLT, Int.reduceLE, Int.reduceLT, Int.reduceAdd, Int.reduceSub, Int.reduceToNat, Nat.reduceMul, intC]
  refine a_call _ _ (int_Sub (decide (X < 0)) (decide (Y < 0)) (nl X.natAbs) (nl Y.natAbs) (nl_lim _) (nl_lim _) (show zl X < _ by omega) (show zl Y < _ by omega)) (by simp (maxSteps := 1000000) (disch := first | omega | (simp only [LL]; omega)) only [W, V, TY, CC, reduceIte, Nat.reduceEqDiff, Nat.reduceAdd, Nat.reduceLeDiff, Nat.reduceLT, Int.reduceLE, Int.reduceLT, Int.reduceAdd, Int.reduceSub, Int.reduceToNat, Nat.reduceMul]) ?_
  rw [iv_nl, iv_nl]
  simp (maxSteps := 1000000) (disch := first | omega | (simp only [LL]; omega)) only [W, V, TY, CC, reduceIte, Nat.reduceEqDiff, Nat.reduceAdd, Nat.reduceLeDiff, Nat.reduceLT, Int.reduceLE, Int.reduceLT, Int.reduceAdd, Int.reduceSub, Int.reduceToNat, Nat.reduceMul, intC]
  refine a_call _ _ (nat_Mul (nl (pD d)) (nl (pD d')) (nl_lim _) (nl_lim _) (by omega) (by omega)) (by simp (maxSteps := 1000000) (disch := first | omega | (simp only [LL]; omega)) only [W, V, TY, CC, reduceIte, Nat.reduceEqDiff, Nat.reduceAdd, Nat.reduceLeDiff, Nat.reduceLT, Int.reduceLE, Int.reduceLT, Int.reduceAdd, Int.reduceSub, Int.reduceToNat, Nat.reduceMul]) ?_
  rw [nv_nl, nv_nl]
  simp (maxSteps := 1000000) (disch := first | omega | (simp only [LL]; omega)) only [W, V, TY, CC, reduceIte, Nat.reduceEqDiff, Nat.reduceAdd, Nat.reduceLeDiff, Nat.reduceLT, Int.reduceLE, Int.reduceLT, Int.reduceAdd, Int.reduceSub, Int.reduceToNat, Nat.reduceMul]
  refine a_call _ _ (rat_lowest (decide (X - Y < 0)) (nl (X - Y).natAbs) (nl (pD d * pD d')) (nl_lim _) (nl_lim _) (show zl (X - Y) < _ by omega) (by omega)) (by simp (maxSteps := 1000000) (disch := first | omega | (simp only [LL]; omega)) only [W, V, TY, CC, reduceIte, Nat.reduceEqDiff, Nat.reduceAdd, Nat.reduceLeDiff, Nat.reduceLT, Int.reduceLE, Int.reduceLT, Int.reduceAdd, Int.reduceSub, Int.reduceToNat, Nat.reduceMul]) ?_
  unfold rv
  rw [iv_nl, nv_nl]
  simp (maxSteps := 1000000) (disch := first | omega | (simp only [LL]; omega)) only [W, V, TY, CC, reduceIte, Nat.reduceEqDiff, Nat.reduceAdd, Nat.reduceLeDiff, Nat.reduceLT, Int.reduceLE, Int.reduceLT, Int.reduceAdd, Int.reduceSub, Int.reduceToNat, Nat.reduceMul, ratC]
  refine f_ret _ _ _ ?_
  simp (maxSteps := 1000000) (disch := first | omega | (simp only [LL]; omega)) only [W, V, TY, CC, reduceIte, Nat.reduceEqDiff, Nat.reduceAdd, Nat.reduceLeDiff, Nat.reduceLT, Int.reduceLE, Int.reduceLT, Int.reduceAdd, Int.reduceSub, Int.reduceToNat, Nat.reduceMul, ratC]
/-- examboard/ratio.Mul -/
def b50 : AF := ⟨28, 2, [.cell 4 27],
  (.seq (.reg [
    ⟨some 2, .box 27 (.tmp 0), none⟩,
    ⟨some 3, .box 27 (.tmp 1), none⟩,
    ⟨some 4, .alloc 27, none⟩])
  (.seq (.reg [
    ⟨some 10, .load 27 (.tmp 2), none⟩,
    ⟨some 11, .call ⟨(.value (.func 84)), #[(.tmp 10)], #[27]⟩, none⟩,
    ⟨some 9, .move (.tmp 11), none⟩,
    ⟨some 12, .extract (.tmp 9) 0, none⟩,
    ⟨some 13, .extract (.tmp 9) 1, none⟩,
    ⟨some 5, .alloc 25, none⟩,
    ⟨some 6, .alloc 25, none⟩,
    ⟨none, .store 25 (.tmp 5) (.tmp 12), none⟩,
    ⟨none, .store 25 (.tmp 6) (.tmp 13), none⟩])
  (.seq (.reg [
    ⟨some 15, .load 27 (.tmp 3), none⟩,
    ⟨some 16, .call ⟨(.value (.func 84)), #[(.tmp 15)], #[27]⟩, none⟩,
    ⟨some 14, .move (.tmp 16), none⟩,
    ⟨some 17, .extract (.tmp 14) 0, none⟩,
    ⟨some 18, .extract (.tmp 14) 1, none⟩,
    ⟨some 7, .alloc 25, none⟩,
    ⟨some 8, .alloc 25, none⟩,
    ⟨none, .store 25 (.tmp 7) (.tmp 17), none⟩,
    ⟨none, .store 25 (.tmp 8) (.tmp 18), none⟩])
  (.seq (.dreg [
    ⟨some 19, .load 25 (.tmp 5), none⟩,
    ⟨some 20, .load 25 (.tmp 7), none⟩,
    ⟨some 21, .call ⟨(.value (.func 86)), #[(.tmp 19), (.tmp 20)], #[25, 25]⟩, none⟩,
    ⟨some 22, .fieldAddr 25 (.tmp 6) 1, none⟩,
    ⟨some 23, .load 23 (.tmp 22), none⟩,
    ⟨some 24, .fieldAddr 25 (.tmp 8) 1, none⟩,
    ⟨some 25, .load 23 (.tmp 24), none⟩,
    ⟨some 26, .call ⟨(.value (.func 87)), #[(.tmp 23), (.tmp 25)], #[23, 23]⟩, none⟩,
    ⟨some 27, .call ⟨(.value (.func 82)), #[(.tmp 21), (.tmp 26)], #[25, 23]⟩, none⟩,
    ⟨none, .store 27 (.tmp 4) (.tmp 27), none⟩])
  .ret))))⟩
theorem c50 : fcomp Tryz.prog 50 = ⟨b50.n, b50.np, b50.res, b50.body.bare⟩ := by kernel_rfl
theorem k50 : fok Tryz.prog 50 = true := by kernel_rfl
theorem rat_Mul (n : Bool) (m d : List Int) (n' : Bool) (m' d' : List Int) (hm : Lim m) (hd : Lim d) (hm' : Lim m') (hd' : Lim d') (lm : m.length < 68719476736) (ld : d.length < 68719476736) (lm' : m'.length < 68719476736) (ld' : d'.length < 68719476736) :
    AFun Tryz.prog 50 [.agg [.lit (.bool n), natD m, natD d], .agg [.lit (.bool n'), natD m', natD d']] [.agg (ratC (rv n m d * rv n' m' d'))] := by
  refine afun_intro mo_ _ _ c50 k50 _ _ rfl (by decide) ?_
  unfold b50
  rw [← rv_parts n m d, ← rv_parts n' m' d', Rat.mkRat_mul_mkRat]
  have k1 := pM_len m d
  have k2 := pM_len m' d'
  have k3 := pD_len hd
  have k4 := pD_len hd'
  have k5 := zl_iv (n := pN n d) (pM_lim hm d)
  have k6 := zl_iv (n := pN n' d') (pM_lim hm' d')
  have k7 := zl_mul (iv (pN n d) (pM m d)) (iv (pN n' d') (pM m' d'))
  have k9 := zl_nat (pD d)
  have k10 := zl_nat (pD d')
  have k11 := zl_mul (pD d : Int) (pD d' : Int)
  rw [← Int.natCast_mul] at k11
  have k12 := zl_nat (pD d * pD d')
  generalize hX : iv (pN n d) (pM m d) * iv (pN n' d') (pM m' d') = X at *
  simp (maxSteps := 1000000) (disch := first | omega | (simp only [LL]; omega)) only [W, V, TY, CC, reduceIte, Nat.reduceEqDiff, Nat.reduceAdd, Nat.reduceLeDiff, Nat.reduceLT, Int.reduceLE, Int.reduceLT, Int.reduceAdd, Int.reduceSub, Int.reduceToNat, Nat.reduceMul]
  refine a_call _ _ (rat_parts n m d hm hd (by omega) (by omega)) (by simp (maxSteps := 1000000) (disch := first | omega | (simp only [LL]; omega)) only [W, V, TY, CC, reduceIte, Nat.reduceEqDiff, Nat.reduceAdd, Nat.reduceLeDiff, Nat.reduceLT, Int.reduceLE, Int.reduceLT, Int.reduceAdd, Int.reduceSub, Int.reduceToNat, Nat.reduceMul]) ?_
  simp (maxSteps := 1000000) (disch := first | omega | (simp only [LL]; omega)) only [W, V, TY, CC, reduceIte, Nat.reduceEqDiff, Nat.reduceAdd, Nat.reduceLeDiff, Nat.reduceLT, Int.reduceLE, Int.reduceLT, Int.reduceAdd, Int.reduceSub, Int.reduceToNat, Nat.reduceMul, intC_nat]
  refine a_call _ _ (rat_parts n' m' d' hm' hd' (by omega) (by omega)) (by simp (maxSteps := 1000000) (disch := first | omega | (simp only [LL]; omega)) only [W, V, TY, CC, reduceIte, Nat.reduceEqDiff, Nat.reduceAdd, Nat.reduceLeDiff, Nat.reduceLT, Int.reduceLE, Int.reduceLT, Int.reduceAdd, Int.reduceSub, Int.reduceToNat, Nat.reduceMul]) ?_
  simp (maxSteps := 1000000) (disch := first | omega | (simp only [LL]; omega)) only [W, V, TY, CC, reduceIte, Nat.reduceEqDiff, Nat.reduceAdd, Nat.reduceLeDiff, Nat.reduceLT, Int.reduceLE, Int.reduceLT, Int.reduceAdd, Int.reduceSub, Int.reduceToNat, Nat.reduceMul, intC_nat]
  refine a_call _ _ (int_Mul (pN n d) (pN n' d') (pM m d) (pM m' d') (pM_lim hm d) (pM_lim hm' d') (by omega) (by omega)) (by simp (maxSteps := 1000000) (disch := first | omega | (simp only [LL]; omega)) only [W, V, TY, CC, reduceIte, Nat.reduceEqDiff, Nat.reduceAdd, Nat.reduceLeDiff, Nat.reduceLT, Int.reduceLE, Int.reduceLT, Int.reduceAdd, Int.reduceSub, Int.reduceToNat, Nat.reduceMul]) ?_
  rw [hX]
  simp (maxSteps := 1000000) (disch := first | omega | (simp only [LL]; omega)) only [W, V, TY, CC, reduceIte, Nat.reduceEqDiff, Nat.reduceAdd, Nat.reduceLeDiff, Nat.reduceLT, Int.reduceLE, Int.reduceLT, Int.reduceAdd, Int.reduceSub, Int.reduceToNat, Nat.reduceMul, intC]
  refine a_call _ _ (nat_Mul (nl (pD d)) (nl (pD d')) (nl_lim _) (nl_lim _) (by omega) (by omega)) (by simp (maxSteps := 1000000) (disch := first | omega | (simp only [LL]; omega)) only [W, V, TY, CC, reduceIte, Nat.reduceEqDiff, Nat.reduceAdd, Nat.reduceLeDiff, Nat.reduceLT, Int.reduceLE, Int.reduceLT, Int.reduceAdd, Int.reduceSub, Int.reduceToNat, Nat.reduceMul]) ?_
  rw [nv_nl, nv_nl]
  simp (maxSteps := 1000000) (disch := first | omega | (simp only [LL]; omega)) only [W, V, TY, CC, reduceIte, Nat.reduceEqDiff, Nat.reduceAdd, Nat.reduceLeDiff, Nat.reduceLT, Int.reduceLE, Int.reduceLT, Int.reduceAdd, Int.reduceSub, Int.reduceToNat, Nat.reduceMul]
  refine a_call _ _ (rat_lowest (decide (X < 0)) (nl X.natAbs) (nl (pD d * pD d')) (nl_lim _) (nl_lim _) (show zl X < _ by omega) (by omega)) (by simp (maxSteps := 1000000) (disch := first | omega | (simp only [LL]; omega)) only [W, V, TY, CC, reduceIte, Nat.reduceEqDiff, Nat.reduceAdd, Nat.reduceLeDiff, Nat.reduceLT, Int.reduceLE, Int.reduceLT, Int.reduceAdd, Int.reduceSub, Int.reduceToNat, Nat.reduceMul]) ?_
  unfold rv
  rw [iv_nl, nv_nl]
  simp (maxSteps := 1000000) (disch := first | omega | (simp only [LL]; omega)) only [W, V, TY, CC, reduceIte, Nat.reduceEqDiff, Nat.reduceAdd, Nat.reduceLeDiff, Nat.reduceLT, Int.reduceLE, Int.reduceLT, Int.reduceAdd, Int.reduceSub, Int.reduceToNat, Nat.reduceMul, ratC]
  refine f_ret _ _ _ ?_
  simp (maxSteps := 1000000) (disch := first | omega | (simp only [LL]; omega)) only [W, V, TY, CC, reduceIte, Nat.reduceEqDiff, Nat.reduceAdd, Nat.reduceLeDiff, Nat.reduceLT, Int.reduceLE, Int.reduceLT, Int.reduceAdd, Int.reduceSub, Int.reduceToNat, Nat.reduceMul, ratC]
end Go.Proofs.YtljmgdepldpmdaaGreatDoor.E

set_option linter.unusedSimpArgs false
set_option linter.unusedVariables false
set_option maxHeartbeats 2000000
namespace Go.Proofs.YtljmgdepldpmdaaGreatDoor.E
open Go.RowKit Limbs
/-- examboard/examboardref03.zero -/
def b105 : AF := ⟨3, 0, [.cell 0 27],
  (.seq (.reg [
    ⟨some 0, .alloc 27, none⟩])
  (.seq (.reg [
    ⟨some 1, .call ⟨(.value (.func 125)), #[(.const (.int .u64 1))], #[97]⟩, none⟩,
    ⟨some 2, .build 27 #[(1, (.tmp 1))], none⟩,
    ⟨none, .store 27 (.tmp 0) (.tmp 2), none⟩])
  .ret))⟩
theorem c105 : fcomp Tryz.prog 105 = ⟨b105.n, b105.np, b105.res, b105.body.bare⟩ := by kernel_rfl
theorem k105 : fok Tryz.prog 105 = true := by kernel_rfl
theorem rr_zero : AFun Tryz.prog 105 [] [.agg (ratC 0)] := by
  refine afun_intro mo_ _ _ c105 k105 _ _ rfl (by decide) ?_
  unfold b105
  simp (maxSteps := 1000000) (disch := first | omega | (simp only [LL]; omega)) only [W, V, TY, CC, reduceIte, Nat.reduceEqDiff, Nat.reduceAdd, Nat.reduceLeDiff, Nat.reduceLT, Int.reduceLE, Int.reduceLT, Int.reduceAdd, Int.reduceSub, Int.reduceToNat, Nat.reduceMul]
  refine a_call _ _ (ref_Of 1 (by decide) (by decide)) (by simp (maxSteps := 1000000) (disch := first | omega | (simp only [LL]; omega)) only [W, V, TY, CC, reduceIte, Nat.reduceEqDiff, Nat.reduceAdd, Nat.reduceLeDiff, Nat.reduceLT, Int.reduceLE, Int.reduceLT, Int.reduceAdd, Int.reduceSub, Int.reduceToNat, Nat.reduceMul]) ?_
  simp (maxSteps := 1000000) (disch := first | omega | (simp only [LL]; omega)) only [W, V, TY, CC, reduceIte, Nat.reduceEqDiff, Nat.reduceAdd, Nat.reduceLeDiff, Nat.reduceLT, Int.reduceLE, Int.reduceLT, Int.reduceAdd, Int.reduceSub, Int.reduceToNat, Nat.reduceMul]
  refine f_ret _ _ _ ?_
  simp (maxSteps := 1000000) (disch := first | omega | (simp only [LL]; omega)) only [W, V, TY, CC, reduceIte, Nat.reduceEqDiff, Nat.reduceAdd, Nat.reduceLeDiff, Nat.reduceLT, Int.reduceLE, Int.reduceLT, Int.reduceAdd, Int.reduceSub, Int.reduceToNat, Nat.reduceMul, ratC_zero]
/-- the numerator -/
def tp (n : Bool) (m d : List Int) : Int := iv (pN n d) (pM m d)
theorem rv_tp (n : Bool) (m d : List Int) : mkRat (tp n m d) (pD d) = rv n m d := rv_parts n m d
theorem zl_tp {n : Bool} {m d : List Int} (hm : Lim m) : zl (tp n m d) ≤ m.length := Nat.le_trans (zl_iv (pM_lim hm d)) (pM_len m d)
/-- examboard/examboardref03.top -/
def b89 : AF := ⟨11, 1, [.cell 2 25],
  (.seq (.reg [
    ⟨some 1, .box 27 (.tmp 0), none⟩,
    ⟨some 2, .alloc 25, none⟩])
  (.seq (.seq (.reg [
    ⟨some 3, .fieldAddr 27 (.tmp 1) 1, none⟩,
    ⟨some 4, .load 23 (.tmp 3), none⟩,
    ⟨some 5, .call ⟨(.value (.func 122)), #[(.tmp 4)], #[23]⟩, none⟩,
    ⟨some 6, .binOp .eql 3 (.tmp 5) (.const (.int .i64 0)) 3, none⟩])
  (.cond (.tmp 6)
    (.seq (.reg [
      ⟨some 7, .call ⟨(.value (.func 123)), #[(.const (.int .i64 0))], #[2]⟩, none⟩,
      ⟨none, .store 25 (.tmp 2) (.tmp 7), none⟩])
    .ret)
    .skip))
  (.seq (.reg [
    ⟨some 8, .fieldAddr 27 (.tmp 1) 0, none⟩,
    ⟨some 9, .load 25 (.tmp 8), none⟩,
    ⟨some 10, .call ⟨(.value (.func 124)), #[(.tmp 9)], #[25]⟩, none⟩,
    ⟨none, .store 25 (.tmp 2) (.tmp 10), none⟩])
  .ret)))⟩
theorem c89 : fcomp Tryz.prog 89 = ⟨b89.n, b89.np, b89.res, b89.body.bare⟩ := by kernel_rfl
theorem k89 : fok Tryz.prog 89 = true := by kernel_rfl
theorem rr_top (n : Bool) (m d : List Int) (hm : Lim m) (hd : Lim d) (lm : m.length < 549755813888) (ld : d.length < 549755813888) : AFun Tryz.prog 89 [.agg [.lit (.bool n), natD m, natD d]] [.agg (intC (tp n m d))] := by
  refine afun_intro mo_ _ _ c89 k89 _ _ rfl (by decide) ?_
  unfold b89
  simp (maxSteps := 1000000) (disch := first | omega | (simp only [LL]; omega)) only [W, V, TY, CC, reduceIte, Nat.reduceEqDiff, Nat.reduceAdd, Nat.reduceLeDiff, Nat.reduceLT, Int.reduceLE, Int.reduceLT, Int.reduceAdd, Int.reduceSub, Int.reduceToNat, Nat.reduceMul]
  refine a_call _ _ (ref_Bits d hd (by omega)) (by simp (maxSteps := 1000000) (disch := first | omega | (simp only [LL]; omega)) only [W, V, TY, CC, reduceIte, Nat.reduceEqDiff, Nat.reduceAdd, Nat.reduceLeDiff, Nat.reduceLT, Int.reduceLE, Int.reduceLT, Int.reduceAdd, Int.reduceSub, Int.reduceToNat, Nat.reduceMul]) ?_
  simp (maxSteps := 1000000) (disch := first | omega | (simp only [LL]; omega)) only [W, V, TY, CC, reduceIte, Nat.reduceEqDiff, Nat.reduceAdd, Nat.reduceLeDiff, Nat.reduceLT, Int.reduceLE, Int.reduceLT, Int.reduceAdd, Int.reduceSub, Int.reduceToNat, Nat.reduceMul]
  refine c_split (fun h => ?_) (fun h => ?_)
  · have h0 : nv d = 0 := bl_eq_zero.1 (by omega)
    rw [show tp n m d = 0 by unfold tp pN pM; rw [if_pos h0, if_pos h0]; rfl]
    simp (maxSteps := 1000000) (disch := first | omega | (simp only [LL]; omega)) only [W, V, TY, CC, reduceIte, Nat.reduceEqDiff, Nat.reduceAdd, Nat.reduceLeDiff, Nat.reduceLT, Int.reduceLE, Int.reduceLT, Int.reduceAdd, Int.reduceSub, Int.reduceToNat, Nat.reduceMul]
    refine a_call _ _ (ri_Of 0 (by decide) (by decide)) (by simp (maxSteps := 1000000) (disch := first | omega | (simp only [LL]; omega)) only [W, V, TY, CC, reduceIte, Nat.reduceEqDiff, Nat.reduceAdd, Nat.reduceLeDiff, Nat.reduceLT, Int.reduceLE, Int.reduceLT, Int.reduceAdd, Int.reduceSub, Int.reduceToNat, Nat.reduceMul]) ?_
    simp (maxSteps := 1000000) (disch := first | omega | (simp only [LL]; omega)) only [W, V, TY, CC, reduceIte, Nat.reduceEqDiff, Nat.reduceAdd, Nat.reduceLeDiff, Nat.reduceLT, Int.reduceLE, Int.reduceLT, Int.reduceAdd, Int.reduceSub, Int.reduceToNat, Nat.reduceMul, intC]
    refine f_ret _ _ _ ?_
    simp (maxSteps := 1000000) (disch := first | omega | (simp only [LL]; omega)) only [W, V, TY, CC, reduceIte, Nat.reduceEqDiff, Nat.reduceAdd, Nat.reduceLeDiff, Nat.reduceLT, Int.reduceLE, Int.reduceLT, Int.reduceAdd, Int.reduceSub, Int.reduceToNat, Nat.reduceMul, intC]
  · have h0 : nv d ≠ 0 := fun e => h (by rw [e, bl_zero]; rfl)
    rw [show tp n m d = iv n m by unfold tp pN pM; rw [if_neg h0, if_neg h0]]
    simp (maxSteps := 1000000) (disch := first | omega | (simp only [LL]; omega)) only [W, V, TY, CC, reduceIte, Nat.reduceEqDiff, Nat.reduceAdd, Nat.reduceLeDiff, Nat.reduceLT, Int.reduceLE, Int.reduceLT, Int.reduceAdd, Int.reduceSub, Int.reduceToNat, Nat.reduceMul]
    refine a_call _ _ (ri_Norm n m hm (by omega)) (by simp (maxSteps := 1000000) (disch := first | omega | (simp only [LL]; omega)) only [W, V, TY, CC, reduceIte, Nat.reduceEqDiff, Nat.reduceAdd, Nat.reduceLeDiff, Nat.reduceLT, Int.reduceLE, Int.reduceLT, Int.reduceAdd, Int.reduceSub, Int.reduceToNat, Nat.reduceMul]) ?_
    simp (maxSteps := 1000000) (disch := first | omega | (simp only [LL]; omega)) only [W, V, TY, CC, reduceIte, Nat.reduceEqDiff, Nat.reduceAdd, Nat.reduceLeDiff, Nat.reduceLT, Int.reduceLE, Int.reduceLT, Int.reduceAdd, Int.reduceSub, Int.reduceToNat, Nat.reduceMul, intC]
    refine f_ret _ _ _ ?_
    simp (maxSteps := 1000000) (disch := first | omega | (simp only [LL]; omega)) only [W, V, TY, CC, reduceIte, Nat.reduceEqDiff, Nat.reduceAdd, Nat.reduceLeDiff, Nat.reduceLT, Int.reduceLE, Int.reduceLT, Int.reduceAdd, Int.reduceSub, Int.reduceToNat, Nat.reduceMul, intC]
/-- examboard/examboardref03.low -/
def b91 : AF := ⟨11, 1, [.tmp 2],
  (.seq (.reg [
    ⟨some 1, .box 27 (.tmp 0), none⟩,
    ⟨some 2, .assign (.const (.slice none 0 0)), none⟩])
  (.seq (.seq (.reg [
    ⟨some 3, .fieldAddr 27 (.tmp 1) 1, none⟩,
    ⟨some 4, .load 23 (.tmp 3), none⟩,
    ⟨some 5, .call ⟨(.value (.func 122)), #[(.tmp 4)], #[23]⟩, none⟩,
    ⟨some 6, .binOp .eql 3 (.tmp 5) (.const (.int .i64 0)) 3, none⟩])
  (.cond (.tmp 6)
    (.seq (.reg [
      ⟨some 7, .call ⟨(.value (.func 125)), #[(.const (.int .u64 1))], #[97]⟩, none⟩,
      ⟨some 2, .assign (.tmp 7), none⟩])
    .ret)
    .skip))
  (.seq (.reg [
    ⟨some 8, .fieldAddr 27 (.tmp 1) 1, none⟩,
    ⟨some 9, .load 23 (.tmp 8), none⟩,
    ⟨some 10, .call ⟨(.value (.func 126)), #[(.tmp 9)], #[23]⟩, none⟩,
    ⟨some 2, .assign (.tmp 10), none⟩])
  .ret)))⟩
theorem c91 : fcomp Tryz.prog 91 = ⟨b91.n, b91.np, b91.res, b91.body.bare⟩ := by kernel_rfl
theorem k91 : fok Tryz.prog 91 = true := by kernel_rfl
theorem rr_low (n : Bool) (m d : List Int) (hd : Lim d) (ld : d.length < 549755813888) : AFun Tryz.prog 91 [.agg [.lit (.bool n), natD m, natD d]] [.one (natD (nl (pD d)))] := by
  refine afun_intro mo_ _ _ c91 k91 _ _ rfl (by decide) ?_
  unfold b91
  simp (maxSteps := 1000000) (disch := first | omega | (simp only [LL]; omega)) only [W, V, TY, CC, reduceIte, Nat.reduceEqDiff, Nat.reduceAdd, Nat.reduceLeDiff, Nat.reduceLT, Int.reduceLE, Int.reduceLT, Int.reduceAdd, Int.reduceSub, Int.reduceToNat, Nat.reduceMul]
  refine a_call _ _ (ref_Bits d hd (by omega)) (by simp (maxSteps := 1000000) (disch := first | omega | (simp only [LL]; omega)) only [W, V, TY, CC, reduceIte, Nat.reduceEqDiff, Nat.reduceAdd, Nat.reduceLeDiff, Nat.reduceLT, Int.reduceLE, Int.reduceLT, Int.reduceAdd, Int.reduceSub, Int.reduceToNat, Nat.reduceMul]) ?_
  simp (maxSteps := 1000000) (disch := first | omega | (simp only [LL]; omega)) only [W, V, TY, CC, reduceIte, Nat.reduceEqDiff, Nat.reduceAdd, Nat.reduceLeDiff, Nat.reduceLT, Int.reduceLE, Int.reduceLT, Int.reduceAdd, Int.reduceSub, Int.reduceToNat, Nat.reduceMul]
  refine c_split (fun h => ?_) (fun h => ?_)
  · have h0 : nv d = 0 := bl_eq_zero.1 (by omega)
    rw [show pD d = 1 by unfold pD; rw [if_pos h0]]
    simp (maxSteps := 1000000) (disch := first | omega | (simp only [LL]; omega)) only [W, V, TY, CC, reduceIte, Nat.reduceEqDiff, Nat.reduceAdd, Nat.reduceLeDiff, Nat.reduceLT, Int.reduceLE, Int.reduceLT, Int.reduceAdd, Int.reduceSub, Int.reduceToNat, Nat.reduceMul]
    refine a_call _ _ (ref_Of 1 (by decide) (by decide)) (by simp (maxSteps := 1000000) (disch := first | omega | (simp only [LL]; omega)) only [W, V, TY, CC, reduceIte, Nat.reduceEqDiff, Nat.reduceAdd, Nat.reduceLeDiff, Nat.reduceLT, Int.reduceLE, Int.reduceLT, Int.reduceAdd, Int.reduceSub, Int.reduceToNat, Nat.reduceMul]) ?_
    simp (maxSteps := 1000000) (disch := first | omega | (simp only [LL]; omega)) only [W, V, TY, CC, reduceIte, Nat.reduceEqDiff, Nat.reduceAdd, Nat.reduceLeDiff, Nat.reduceLT, Int.reduceLE, Int.reduceLT, Int.reduceAdd, Int.reduceSub, Int.reduceToNat, Nat.reduceMul]
    refine f_ret _ _ _ ?_
    simp (maxSteps := 1000000) (disch := first | omega | (simp only [LL]; omega)) only [W, V, TY, CC, reduceIte, Nat.reduceEqDiff, Nat.reduceAdd, Nat.reduceLeDiff, Nat.reduceLT, Int.reduceLE, Int.reduceLT, Int.reduceAdd, Int.reduceSub, Int.reduceToNat, Nat.reduceMul]
  · have h0 : nv d ≠ 0 := fun e => h (by rw [e, bl_zero]; rfl)
    rw [show pD d = nv d by unfold pD; rw [if_neg h0]]
    simp (maxSteps := 1000000) (disch := first | omega | (simp only [LL]; omega)) only [W, V, TY, CC, reduceIte, Nat.reduceEqDiff, Nat.reduceAdd, Nat.reduceLeDiff, Nat.reduceLT, Int.reduceLE, Int.reduceLT, Int.reduceAdd, Int.reduceSub, Int.reduceToNat, Nat.reduceMul]
    refine a_call _ _ (ref_Norm d hd (by omega)) (by simp (maxSteps := 1000000) (disch := first | omega | (simp only [LL]; omega)) only [W, V, TY, CC, reduceIte, Nat.reduceEqDiff, Nat.reduceAdd, Nat.reduceLeDiff, Nat.reduceLT, Int.reduceLE, Int.reduceLT, Int.reduceAdd, Int.reduceSub, Int.reduceToNat, Nat.reduceMul]) ?_
    simp (maxSteps := 1000000) (disch := first | omega | (simp only [LL]; omega)) only [W, V, TY, CC, reduceIte, Nat.reduceEqDiff, Nat.reduceAdd, Nat.reduceLeDiff, Nat.reduceLT, Int.reduceLE, Int.reduceLT, Int.reduceAdd, Int.reduceSub, Int.reduceToNat, Nat.reduceMul]
    refine f_ret _ _ _ ?_
    simp (maxSteps := 1000000) (disch := first | omega | (simp only [LL]; omega)) only [W, V, TY, CC, reduceIte, Nat.reduceEqDiff, Nat.reduceAdd, Nat.reduceLeDiff, Nat.reduceLT, Int.reduceLE, Int.reduceLT, Int.reduceAdd, Int.reduceSub, Int.reduceToNat, Nat.reduceMul]
    rfl
/-- examboard/examboardref03.reduce -/
def b92 : AF := ⟨45, 2, [.cell 4 27],
  (.seq (.reg [
    ⟨some 2, .box 25 (.tmp 0), none⟩,
    ⟨some 4, .alloc 27, none⟩])
  (.seq (.reg [
    ⟨some 13, .load 25 (.tmp 2), none⟩,
    ⟨some 14, .call ⟨(.value (.func 124)), #[(.tmp 13)], #[25]⟩, none⟩,
    ⟨some 5, .alloc 25, none⟩,
    ⟨none, .store 25 (.tmp 5) (.tmp 14), none⟩])
  (.seq (.seq (.reg [
    ⟨some 15, .fieldAddr 25 (.tmp 5) 1, none⟩,
    ⟨some 16, .load 23 (.tmp 15), none⟩,
    ⟨some 17, .call ⟨(.value (.func 122)), #[(.tmp 16)], #[23]⟩, none⟩,
    ⟨some 18, .binOp .eql 3 (.tmp 17) (.const (.int .i64 0)) 3, none⟩])
  (.cond (.tmp 18)
    (.seq (.reg [
      ⟨some 19, .call ⟨(.value (.func 105)), #[], #[]⟩, none⟩,
      ⟨none, .store 27 (.tmp 4) (.tmp 19), none⟩])
    .ret)
    .skip))
  (.seq (.reg [
    ⟨some 20, .fieldAddr 25 (.tmp 5) 1, none⟩,
    ⟨some 21, .load 23 (.tmp 20), none⟩,
    ⟨some 22, .move (.tmp 1), none⟩,
    ⟨some 23, .call ⟨(.value (.func 127)), #[(.tmp 21), (.tmp 22)], #[23, 23]⟩, none⟩,
    ⟨some 6, .assign (.tmp 23), none⟩])
  (.seq (.reg [
    ⟨some 25, .fieldAddr 25 (.tmp 5) 1, none⟩,
    ⟨some 26, .load 23 (.tmp 25), none⟩,
    ⟨some 27, .move (.tmp 6), none⟩,
    ⟨some 28, .call ⟨(.value (.func 128)), #[(.tmp 26), (.tmp 27)], #[23, 23]⟩, none⟩,
    ⟨some 24, .move (.tmp 28), none⟩,
    ⟨some 29, .extract (.tmp 24) 0, none⟩,
    ⟨some 30, .extract (.tmp 24) 1, none⟩,
    ⟨some 31, .extract (.tmp 24) 2, none⟩,
    ⟨some 7, .assign (.tmp 29), none⟩,
    ⟨some 8, .assign (.tmp 30), none⟩,
    ⟨some 9, .assign (.tmp 31), none⟩])
  (.seq (.reg [
    ⟨some 33, .move (.tmp 1), none⟩,
    ⟨some 34, .move (.tmp 6), none⟩,
    ⟨some 35, .call ⟨(.value (.func 128)), #[(.tmp 33), (.tmp 34)], #[23, 23]⟩, none⟩,
    ⟨some 32, .move (.tmp 35), none⟩,
    ⟨some 36, .extract (.tmp 32) 0, none⟩,
    ⟨some 37, .extract (.tmp 32) 1, none⟩,
    ⟨some 38, .extract (.tmp 32) 2, none⟩,
    ⟨some 10, .assign (.tmp 36), none⟩,
    ⟨some 11, .assign (.tmp 37), none⟩,
    ⟨some 12, .assign (.tmp 38), none⟩])
  (.seq (.reg [
    ⟨some 39, .fieldAddr 25 (.tmp 5) 0, none⟩,
    ⟨some 40, .load 4 (.tmp 39), none⟩,
    ⟨some 41, .move (.tmp 7), none⟩,
    ⟨some 42, .call ⟨(.value (.func 90)), #[(.tmp 40), (.tmp 41)], #[4, 23]⟩, none⟩,
    ⟨some 43, .move (.tmp 10), none⟩,
    ⟨some 44, .build 27 #[(0, (.tmp 42)), (1, (.tmp 43))], none⟩,
    ⟨none, .store 27 (.tmp 4) (.tmp 44), none⟩])
  .ret)))))))⟩
theorem c92 : fcomp Tryz.prog 92 = ⟨b92.n, b92.np, b92.res, b92.body.bare⟩ := by kernel_rfl
theorem k92 : fok Tryz.prog 92 = true := by kernel_rfl
theorem rr_reduce (n : Bool) (m d : List Int) (hm : Lim m) (hd : Lim d) (lm : m.length < 2199023255552) (ld : d.length < 2199023255552) (h0 : nv d ≠ 0) : AFun Tryz.prog 92 [.agg [.lit (.bool n), natD m], .one (natD d)] [.agg (ratC (rv n m d))] := by
  refine afun_intro mo_ _ _ c92 k92 _ _ rfl (by decide) ?_
  unfold b92
  have hz : zl (iv n m) ≤ m.length := zl_iv hm
  obtain ⟨e1, e2⟩ := low_num n m d h0
  have hn := iv_abs n m
  have hR := ratC_eq (rv n m d) _ _ e1 e2
  rw [iv_div n m (Nat.gcd_dvd_left _ _)] at hR
  have hgm := Nat.gcd_dvd_left (nv m) (nv d)
  have hgd := Nat.gcd_dvd_right (nv m) (nv d)
  have hg0 : Nat.gcd (nv m) (nv d) ≠ 0 := fun e => h0 (Nat.eq_zero_of_gcd_eq_zero_right e)
  have hgle := Nat.le_of_dvd (Nat.pos_of_ne_zero h0) hgd
  have lg := nl_len_le hd hgle
  have lq := nl_len_le hm (Nat.div_le_self (nv m) (Nat.gcd (nv m) (nv d)))
  have hdiv := iv_div (decide (iv n m < 0)) (nl (iv n m).natAbs) (g := Nat.gcd (nv m) (nv d)) (by rw [nv_nl, hn]; exact hgm)
  rw [iv_nl, nv_nl, hn] at hdiv
  simp (maxSteps := 1000000) (disch := first | omega | (simp only [LL]; omega)) only [W, V, TY, CC, reduceIte, Nat.reduceEqDiff, Nat.reduceAdd, Nat.reduceLeDiff, Nat.reduceLT, Int.reduceLE, Int.reduceLT, Int.reduceAdd, Int.reduceSub, Int.reduceToNat, Nat.reduceMul]
  refine a_call _ _ (ri_Norm n m hm lm) (by simp (maxSteps := 1000000) (disch := first | omega | (simp only [LL]; omega)) only [W, V, TY, CC, reduceIte, Nat.reduceEqDiff, Nat.reduceAdd, Nat.reduceLeDiff, Nat.reduceLT, Int.reduceLE, Int.reduceLT, Int.reduceAdd, Int.reduceSub, Int.reduceToNat, Nat.reduceMul]) ?_
  rw [show intC (iv n m) = [.lit (.bool (decide (iv n m < 0))), natD (nl (nv m))] by unfold intC; rw [hn]]
  simp (maxSteps := 1000000) (disch := first | omega | (simp only [LL]; omega)) only [W, V, TY, CC, reduceIte, Nat.reduceEqDiff, Nat.reduceAdd, Nat.reduceLeDiff, Nat.reduceLT, Int.reduceLE, Int.reduceLT, Int.reduceAdd, Int.reduceSub, Int.reduceToNat, Nat.reduceMul]
  have l3 : (nl (nv m)).length ≤ m.length := nl_len_le hm (Nat.le_refl _)
  refine a_call _ _ (ref_Bits (nl (nv m)) (nl_lim _) (by omega)) (by simp (maxSteps := 1000000) (disch := first | omega | (simp only [LL]; omega)) only [W, V, TY, CC, reduceIte, Nat.reduceEqDiff, Nat.reduceAdd, Nat.reduceLeDiff, Nat.reduceLT, Int.reduceLE, Int.reduceLT, Int.reduceAdd, Int.reduceSub, Int.reduceToNat, Nat.reduceMul]) ?_
  rw [nv_nl]
  simp (maxSteps := 1000000) (disch := first | omega | (simp only [LL]; omega)) only [W, V, TY, CC, reduceIte, Nat.reduceEqDiff, Nat.reduceAdd, Nat.reduceLeDiff, Nat.reduceLT, Int.reduceLE, Int.reduceLT, Int.reduceAdd, Int.reduceSub, Int.reduceToNat, Nat.reduceMul]
  refine c_split (fun h1 => ?_) (fun h1 => ?_)
  · have h2 : nv m = 0 := bl_eq_zero.1 (by omega)
    rw [rv_zero n m d (.inr h2)]
    simp (maxSteps := 1000000) (disch := first | omega | (simp only [LL]; omega)) only [W, V, TY, CC, reduceIte, Nat.reduceEqDiff, Nat.reduceAdd, Nat.reduceLeDiff, Nat.reduceLT, Int.reduceLE, Int.reduceLT, Int.reduceAdd, Int.reduceSub, Int.reduceToNat, Nat.reduceMul]
    refine a_call _ _ rr_zero (by simp (maxSteps := 1000000) (disch := first | omega | (simp only [LL]; omega)) only [W, V, TY, CC, reduceIte, Nat.reduceEqDiff, Nat.reduceAdd, Nat.reduceLeDiff, Nat.reduceLT, Int.reduceLE, Int.reduceLT, Int.reduceAdd, Int.reduceSub, Int.reduceToNat, Nat.reduceMul]) ?_
    simp (maxSteps := 1000000) (disch := first | omega | (simp only [LL]; omega)) only [W, V, TY, CC, reduceIte, Nat.reduceEqDiff, Nat.reduceAdd, Nat.reduceLeDiff, Nat.reduceLT, Int.reduceLE, Int.reduceLT, Int.reduceAdd, Int.reduceSub, Int.reduceToNat, Nat.reduceMul, ratC_zero]
    refine f_ret _ _ _ ?_
    simp (maxSteps := 1000000) (disch := first | omega | (simp only [LL]; omega)) only [W, V, TY, CC, reduceIte, Nat.reduceEqDiff, Nat.reduceAdd, Nat.reduceLeDiff, Nat.reduceLT, Int.reduceLE, Int.reduceLT, Int.reduceAdd, Int.reduceSub, Int.reduceToNat, Nat.reduceMul, ratC_zero]
  · simp (maxSteps := 1000000) (disch := first | omega | (simp only [LL]; omega)) only [W, V, TY, CC, reduceIte, Nat.reduceEqDiff, Nat.reduceAdd, Nat.reduceLeDiff, Nat.reduceLT, Int.reduceLE, Int.reduceLT, Int.reduceAdd, Int.reduceSub, Int.reduceToNat, Nat.reduceMul]
    refine a_call _ _ (ref_Gcd (nl (nv m)) d (nl_lim _) hd (by omega) ld) (by simp (maxSteps := 1000000) (disch := first | omega | (simp only [LL]; omega)) only [W, V, TY, CC, reduceIte, Nat.reduceEqDiff, Nat.reduceAdd, Nat.reduceLeDiff, Nat.reduceLT, Int.reduceLE, Int.reduceLT, Int.reduceAdd, Int.reduceSub, Int.reduceToNat, Nat.reduceMul]) ?_
    rw [nv_nl]
    generalize Nat.gcd (nv m) (nv d) = g at *
    simp (maxSteps := 1000000) (disch := first | omega | (simp only [LL]; omega)) only [W, V, TY, CC, reduceIte, Nat.reduceEqDiff, Nat.reduceAdd, Nat.reduceLeDiff, Nat.reduceLT, Int.reduceLE, Int.reduceLT, Int.reduceAdd, Int.reduceSub, Int.reduceToNat, Nat.reduceMul]
    refine a_call _ _ (ref_DivMod (nl (nv m)) (nl g) (nl_lim _) (nl_lim _) (by omega) (by omega)) (by simp (maxSteps := 1000000) (disch := first | omega | (simp only [LL]; omega)) only [W, V, TY, CC, reduceIte, Nat.reduceEqDiff, Nat.reduceAdd, Nat.reduceLeDiff, Nat.reduceLT, Int.reduceLE, Int.reduceLT, Int.reduceAdd, Int.reduceSub, Int.reduceToNat, Nat.reduceMul]) ?_
    unfold divR
    rw [nv_nl, nv_nl, if_neg hg0]
    simp (maxSteps := 1000000) (disch := first | omega | (simp only [LL]; omega)) only [W, V, TY, CC, reduceIte, Nat.reduceEqDiff, Nat.reduceAdd, Nat.reduceLeDiff, Nat.reduceLT, Int.reduceLE, Int.reduceLT, Int.reduceAdd, Int.reduceSub, Int.reduceToNat, Nat.reduceMul]
    refine a_call _ _ (ref_DivMod d (nl g) hd (nl_lim _) ld (by omega)) (by simp (maxSteps := 1000000) (disch := first | omega | (simp only [LL]; omega)) only [W, V, TY, CC, reduceIte, Nat.reduceEqDiff, Nat.reduceAdd, Nat.reduceLeDiff, Nat.reduceLT, Int.reduceLE, Int.reduceLT, Int.reduceAdd, Int.reduceSub, Int.reduceToNat, Nat.reduceMul]) ?_
    unfold divR
    rw [nv_nl, if_neg hg0]
    simp (maxSteps := 1000000) (disch := first | omega | (simp only [LL]; omega)) only [W, V, TY, CC, reduceIte, Nat.reduceEqDiff, Nat.reduceAdd, Nat.reduceLeDiff, Nat.reduceLT, Int.reduceLE, Int.reduceLT, Int.reduceAdd, Int.reduceSub, Int.reduceToNat, Nat.reduceMul]
    refine a_call _ _ (ri_Make (decide (iv n m < 0)) (nl (nv m / g)) (nl_lim _) (by omega)) (by simp (maxSteps := 1000000) (disch := first | omega | (simp only [LL]; omega)) only [W, V, TY, CC, reduceIte, Nat.reduceEqDiff, Nat.reduceAdd, Nat.reduceLeDiff, Nat.reduceLT, Int.reduceLE, Int.reduceLT, Int.reduceAdd, Int.reduceSub, Int.reduceToNat, Nat.reduceMul]) ?_
    rw [hdiv]
    simp (maxSteps := 1000000) (disch := first | omega | (simp only [LL]; omega)) only [W, V, TY, CC, reduceIte, Nat.reduceEqDiff, Nat.reduceAdd, Nat.reduceLeDiff, Nat.reduceLT, Int.reduceLE, Int.reduceLT, Int.reduceAdd, Int.reduceSub, Int.reduceToNat, Nat.reduceMul, intC]
    refine f_ret _ _ _ ?_
    simp (maxSteps := 1000000) (disch := first | omega | (simp only [LL]; omega)) only [W, V, TY, CC, reduceIte, Nat.reduceEqDiff, Nat.reduceAdd, Nat.reduceLeDiff, Nat.reduceLT, Int.reduceLE, Int.reduceLT, Int.reduceAdd, Int.reduceSub, Int.reduceToNat, Nat.reduceMul, hR]
end Go.Proofs.YtljmgdepldpmdaaGreatDoor.E

set_option linter.unusedSimpArgs false
set_option linter.unusedVariables false
set_option maxHeartbeats 2000000
namespace Go.Proofs.YtljmgdepldpmdaaGreatDoor.E
open Go.RowKit Limbs
theorem divInt_abs (x y : Int) (hy : y ≠ 0) : Rat.divInt x y = mkRat (if y < 0 then -x else x) y.natAbs := by
  rw [← Rat.divInt_ofNat]
  by_cases h : y < 0
  · rw [if_pos h]
    have e : ((y.natAbs : Nat) : Int) = -y := by omega
    rw [e, Rat.divInt_neg', Int.neg_neg]
  · rw [if_neg h]
    have e : ((y.natAbs : Nat) : Int) = y := by omega
    rw [e]
theorem rv_mk (x : Int) (k : Nat) : rv (decide (x < 0)) (nl x.natAbs) (nl k) = mkRat x k := by unfold rv; rw [iv_nl, nv_nl]
/-- examboard/examboardref03.Make -/
def b134 : AF := ⟨25, 2, [.cell 4 27, .tmp 5],
  (.seq (.reg [
    ⟨some 2, .box 25 (.tmp 0), none⟩,
    ⟨some 3, .box 25 (.tmp 1), none⟩,
    ⟨some 4, .alloc 27, none⟩,
    ⟨some 5, .assign (.const (.bool false)), none⟩])
  (.seq (.reg [
    ⟨some 8, .load 25 (.tmp 3), none⟩,
    ⟨some 9, .call ⟨(.value (.func 124)), #[(.tmp 8)], #[25]⟩, none⟩,
    ⟨some 6, .alloc 25, none⟩,
    ⟨none, .store 25 (.tmp 6) (.tmp 9), none⟩])
  (.seq (.seq (.reg [
    ⟨some 10, .fieldAddr 25 (.tmp 6) 1, none⟩,
    ⟨some 11, .load 23 (.tmp 10), none⟩,
    ⟨some 12, .call ⟨(.value (.func 122)), #[(.tmp 11)], #[23]⟩, none⟩,
    ⟨some 13, .binOp .eql 3 (.tmp 12) (.const (.int .i64 0)) 3, none⟩])
  (.cond (.tmp 13)
    (.seq (.reg [
      ⟨some 14, .call ⟨(.value (.func 105)), #[], #[]⟩, none⟩,
      ⟨none, .store 27 (.tmp 4) (.tmp 14), none⟩,
      ⟨some 5, .assign (.const (.bool false)), none⟩])
    .ret)
    .skip))
  (.seq (.reg [
    ⟨some 15, .load 25 (.tmp 2), none⟩,
    ⟨some 16, .call ⟨(.value (.func 124)), #[(.tmp 15)], #[25]⟩, none⟩,
    ⟨some 7, .alloc 25, none⟩,
    ⟨none, .store 25 (.tmp 7) (.tmp 16), none⟩])
  (.seq (.seq (.reg [
    ⟨some 17, .fieldAddr 25 (.tmp 6) 0, none⟩,
    ⟨some 18, .load 4 (.tmp 17), none⟩])
  (.cond (.tmp 18)
    (.reg [
      ⟨some 19, .load 25 (.tmp 7), none⟩,
      ⟨some 20, .call ⟨(.value (.func 107)), #[(.tmp 19)], #[25]⟩, none⟩,
      ⟨none, .store 25 (.tmp 7) (.tmp 20), none⟩])
    .skip))
  (.seq (.reg [
    ⟨some 21, .load 25 (.tmp 7), none⟩,
    ⟨some 22, .fieldAddr 25 (.tmp 6) 1, none⟩,
    ⟨some 23, .load 23 (.tmp 22), none⟩,
    ⟨some 24, .call ⟨(.value (.func 92)), #[(.tmp 21), (.tmp 23)], #[25, 23]⟩, none⟩,
    ⟨none, .store 27 (.tmp 4) (.tmp 24), none⟩,
    ⟨some 5, .assign (.const (.bool true)), none⟩])
  .ret))))))⟩
theorem c134 : fcomp Tryz.prog 134 = ⟨b134.n, b134.np, b134.res, b134.body.bare⟩ := by kernel_rfl
theorem k134 : fok Tryz.prog 134 = true := by kernel_rfl
theorem rr_Make (a b : Bool) (m k : List Int) (hm : Lim m) (hk : Lim k) (lm : m.length < 549755813888) (lk : k.length < 549755813888) : AFun Tryz.prog 134 [.agg [.lit (.bool a), natD m], .agg [.lit (.bool b), natD k]] [.agg (ratC (Rat.divInt (iv a m) (iv b k))), .one (.lit (.bool (decide (iv b k ≠ 0))))] := by
  refine afun_intro mo_ _ _ c134 k134 _ _ rfl (by decide) ?_
  unfold b134
  have z1 : zl (iv a m) ≤ m.length := zl_iv hm
  have z2 : zl (iv b k) ≤ k.length := zl_iv hk
  have z3 := zl_neg (iv a m)
  simp (maxSteps := 1000000) (disch := first | omega | (simp only [LL]; omega)) only [W, V, TY, CC, reduceIte, Nat.reduceEqDiff, Nat.reduceAdd, Nat.reduceLeDiff, Nat.reduceLT, Int.reduceLE, Int.reduceLT, Int.reduceAdd, Int.reduceSub, Int.reduceToNat, Nat.reduceMul]
  refine a_call _ _ (ri_Norm b k hk (by omega)) (by simp (maxSteps := 1000000) (disch := first | omega | (simp only [LL]; omega)) only [W, V, TY, CC, reduceIte, Nat.reduceEqDiff, Nat.reduceAdd, Nat.reduceLeDiff, Nat.reduceLT, Int.reduceLE, Int.reduceLT, Int.reduceAdd, Int.reduceSub, Int.reduceToNat, Nat.reduceMul]) ?_
  generalize hY : iv b k = y at *
  simp (maxSteps := 1000000) (disch := first | omega | (simp only [LL]; omega)) only [W, V, TY, CC, reduceIte, Nat.reduceEqDiff, Nat.reduceAdd, Nat.reduceLeDiff, Nat.reduceLT, Int.reduceLE, Int.reduceLT, Int.reduceAdd, Int.reduceSub, Int.reduceToNat, Nat.reduceMul, intC]
  refine a_call _ _ (ref_Bits (nl y.natAbs) (nl_lim _) (show zl y < _ by omega)) (by simp (maxSteps := 1000000) (disch := first | omega | (simp only [LL]; omega)) only [W, V, TY, CC, reduceIte, Nat.reduceEqDiff, Nat.reduceAdd, Nat.reduceLeDiff, Nat.reduceLT, Int.reduceLE, Int.reduceLT, Int.reduceAdd, Int.reduceSub, Int.reduceToNat, Nat.reduceMul]) ?_
  rw [nv_nl]
  simp (maxSteps := 1000000) (disch := first | omega | (simp only [LL]; omega)) only [W, V, TY, CC, reduceIte, Nat.reduceEqDiff, Nat.reduceAdd, Nat.reduceLeDiff, Nat.reduceLT, Int.reduceLE, Int.reduceLT, Int.reduceAdd, Int.reduceSub, Int.reduceToNat, Nat.reduceMul]
  refine c_split (fun h => ?_) (fun h => ?_)
  · have h0 : y = 0 := by
      have : y.natAbs = 0 := bl_eq_zero.1 (by omega)
      omega
    rw [h0, Rat.divInt_zero, show decide ((0 : Int) ≠ 0) = false from rfl]
    simp (maxSteps := 1000000) (disch := first | omega | (simp only [LL]; omega)) only [W, V, TY, CC, reduceIte, Nat.reduceEqDiff, Nat.reduceAdd, Nat.reduceLeDiff, Nat.reduceLT, Int.reduceLE, Int.reduceLT, Int.reduceAdd, Int.reduceSub, Int.reduceToNat, Nat.reduceMul]
    refine a_call _ _ rr_zero (by simp (maxSteps := 1000000) (disch := first | omega | (simp only [LL]; omega)) only [W, V, TY, CC, reduceIte, Nat.reduceEqDiff, Nat.reduceAdd, Nat.reduceLeDiff, Nat.reduceLT, Int.reduceLE, Int.reduceLT, Int.reduceAdd, Int.reduceSub, Int.reduceToNat, Nat.reduceMul]) ?_
    simp (maxSteps := 1000000) (disch := first | omega | (simp only [LL]; omega)) only [W, V, TY, CC, reduceIte, Nat.reduceEqDiff, Nat.reduceAdd, Nat.reduceLeDiff, Nat.reduceLT, Int.reduceLE, Int.reduceLT, Int.reduceAdd, Int.reduceSub, Int.reduceToNat, Nat.reduceMul, ratC_zero]
    refine f_ret _ _ _ ?_
    simp (maxSteps := 1000000) (disch := first | omega | (simp only [LL]; omega)) only [W, V, TY, CC, reduceIte, Nat.reduceEqDiff, Nat.reduceAdd, Nat.reduceLeDiff, Nat.reduceLT, Int.reduceLE, Int.reduceLT, Int.reduceAdd, Int.reduceSub, Int.reduceToNat, Nat.reduceMul, ratC_zero]
  · have h0 : y ≠ 0 := fun e => h (by rw [e]; simp [bl_zero])
    have h00 : nv (nl y.natAbs) ≠ 0 := by rw [nv_nl]; omega
    rw [divInt_abs _ _ h0, show decide (y ≠ 0) = true from decide_eq_true h0]
    simp (maxSteps := 1000000) (disch := first | omega | (simp only [LL]; omega)) only [W, V, TY, CC, reduceIte, Nat.reduceEqDiff, Nat.reduceAdd, Nat.reduceLeDiff, Nat.reduceLT, Int.reduceLE, Int.reduceLT, Int.reduceAdd, Int.reduceSub, Int.reduceToNat, Nat.reduceMul]
    refine a_call _ _ (ri_Norm a m hm (by omega)) (by simp (maxSteps := 1000000) (disch := first | omega | (simp only [LL]; omega)) only [W, V, TY, CC, reduceIte, Nat.reduceEqDiff, Nat.reduceAdd, Nat.reduceLeDiff, Nat.reduceLT, Int.reduceLE, Int.reduceLT, Int.reduceAdd, Int.reduceSub, Int.reduceToNat, Nat.reduceMul]) ?_
    generalize hX : iv a m = x at *
    simp (maxSteps := 1000000) (disch := first | omega | (simp only [LL]; omega)) only [W, V, TY, CC, reduceIte, Nat.reduceEqDiff, Nat.reduceAdd, Nat.reduceLeDiff, Nat.reduceLT, Int.reduceLE, Int.reduceLT, Int.reduceAdd, Int.reduceSub, Int.reduceToNat, Nat.reduceMul, intC]
    refine c_split (fun h1 => ?_) (fun h1 => ?_)
    · rw [if_pos h1]
      simp (maxSteps := 1000000) (disch := first | omega | (simp only [LL]; omega)) only [W, V, TY, CC, reduceIte, Nat.reduceEqDiff, Nat.reduceAdd, Nat.reduceLeDiff, Nat.reduceLT, Int.reduceLE, Int.reduceLT, Int.reduceAdd, Int.reduceSub, Int.reduceToNat, Nat.reduceMul]
      refine a_call _ _ (ri_Neg (decide (x < 0)) (nl x.natAbs) (nl_lim _) (show zl x < _ by omega)) (by simp (maxSteps := 1000000) (disch := first | omega | (simp only [LL]; omega)) only [W, V, TY, CC, reduceIte, Nat.reduceEqDiff, Nat.reduceAdd, Nat.reduceLeDiff, Nat.reduceLT, Int.reduceLE, Int.reduceLT, Int.reduceAdd, Int.reduceSub, Int.reduceToNat, Nat.reduceMul]) ?_
      rw [iv_nl]
      simp (maxSteps := 1000000) (disch := first | omega | (simp only [LL]; omega)) only [W, V, TY, CC, reduceIte, Nat.reduceEqDiff, Nat.reduceAdd, Nat.reduceLeDiff, Nat.reduceLT, Int.reduceLE, Int.reduceLT, Int.reduceAdd, Int.reduceSub, Int.reduceToNat, Nat.reduceMul, intC]
      refine a_call _ _ (rr_reduce (decide (-x < 0)) (nl (-x).natAbs) (nl y.natAbs) (nl_lim _) (nl_lim _) (show zl (-x) < _ by omega) (show zl y < _ by omega) h00) (by simp (maxSteps := 1000000) (disch := first | omega | (simp only [LL]; omega)) only [W, V, TY, CC, reduceIte, Nat.reduceEqDiff, Nat.reduceAdd, Nat.reduceLeDiff, Nat.reduceLT, Int.reduceLE, Int.reduceLT, Int.reduceAdd, Int.reduceSub, Int.reduceToNat, Nat.reduceMul]) ?_
      rw [rv_mk]
      simp (maxSteps := 1000000) (disch := first | omega | (simp only [LL]; omega)) only [W, V, TY, CC, reduceIte, Nat.reduceEqDiff, Nat.reduceAdd, Nat.reduceLeDiff, Nat.reduceLT, Int.reduceLE, Int.reduceLT, Int.reduceAdd, Int.reduceSub, Int.reduceToNat, Nat.reduceMul, ratC]
      refine f_ret _ _ _ ?_
      simp (maxSteps := 1000000) (disch := first | omega | (simp only [LL]; omega)) only [W, V, TY, CC, reduceIte, Nat.reduceEqDiff, Nat.reduceAdd, Nat.reduceLeDiff, Nat.reduceLT, Int.reduceLE, Int.reduceLT, Int.reduceAdd, Int.reduceSub, Int.reduceToNat, Nat.reduceMul, ratC]
    · rw [if_neg h1]
      simp (maxSteps := 1000000) (disch := first | omega | (simp only [LL]; omega)) only [W, V, TY, CC, reduceIte, Nat.reduceEqDiff, Nat.reduceAdd, Nat.reduceLeDiff, Nat.reduceLT, Int.reduceLE, Int.reduceLT, Int.reduceAdd, Int.reduceSub, Int.reduceToNat, Nat.reduceMul]
      refine a_call _ _ (rr_reduce (decide (x < 0)) (nl x.natAbs) (nl y.natAbs) (nl_lim _) (nl_lim _) (show zl x < _ by omega) (show zl y < _ by omega) h00) (by simp (maxSteps := 1000000) (disch := first | omega | (simp only [LL]; omega)) only [W, V, TY, CC, reduceIte, Nat.reduceEqDiff, Nat.reduceAdd, Nat.reduceLeDiff, Nat.reduceLT, Int.reduceLE, Int.reduceLT, Int.reduceAdd, Int.reduceSub, Int.reduceToNat, Nat.reduceMul]) ?_
      rw [rv_mk]
      simp (maxSteps := 1000000) (disch := first | omega | (simp only [LL]; omega)) only [W, V, TY, CC, reduceIte, Nat.reduceEqDiff, Nat.reduceAdd, Nat.reduceLeDiff, Nat.reduceLT, Int.reduceLE, Int.reduceLT, Int.reduceAdd, Int.reduceSub, Int.reduceToNat, Nat.reduceMul, ratC]
      refine f_ret _ _ _ ?_
      simp (maxSteps := 1000000) (disch := first | omega | (simp only [LL]; omega)) only [W, V, TY, CC, reduceIte, Nat.reduceEqDiff, Nat.reduceAdd, Nat.reduceLeDiff, Nat.reduceLT, Int.reduceLE, Int.reduceLT, Int.reduceAdd, Int.reduceSub, Int.reduceToNat, Nat.reduceMul, ratC]
/-- examboard/examboardref03.Of -/
def b106 : AF := ⟨13, 2, [.cell 4 27, .tmp 5],
  (.seq (.reg [
    ⟨some 4, .alloc 27, none⟩,
    ⟨some 5, .assign (.const (.bool false)), none⟩])
  (.seq (.reg [
    ⟨some 6, .move (.tmp 0), none⟩,
    ⟨some 7, .call ⟨(.value (.func 123)), #[(.tmp 6)], #[2]⟩, none⟩,
    ⟨some 8, .move (.tmp 1), none⟩,
    ⟨some 9, .call ⟨(.value (.func 123)), #[(.tmp 8)], #[2]⟩, none⟩,
    ⟨some 10, .call ⟨(.value (.func 134)), #[(.tmp 7), (.tmp 9)], #[25, 25]⟩, none⟩,
    ⟨some 11, .extract (.tmp 10) 0, none⟩,
    ⟨some 12, .extract (.tmp 10) 1, none⟩,
    ⟨none, .store 27 (.tmp 4) (.tmp 11), none⟩,
    ⟨some 5, .assign (.tmp 12), none⟩])
  .ret))⟩
theorem c106 : fcomp Tryz.prog 106 = ⟨b106.n, b106.np, b106.res, b106.body.bare⟩ := by kernel_rfl
theorem k106 : fok Tryz.prog 106 = true := by kernel_rfl
theorem rr_Of (x y : Int) (x0 : -9223372036854775808 ≤ x) (x1 : x < 9223372036854775808) (y0 : -9223372036854775808 ≤ y) (y1 : y < 9223372036854775808) : AFun Tryz.prog 106 [.one (.lit (.int .i64 x)), .one (.lit (.int .i64 y))] [.agg (ratC (Rat.divInt x y)), .one (.lit (.bool (decide (y ≠ 0))))] := by
  refine afun_intro mo_ _ _ c106 k106 _ _ rfl (by decide) ?_
  unfold b106
  have lx : (nl x.natAbs).length ≤ 2 := nl_len (by omega)
  have ly : (nl y.natAbs).length ≤ 2 := nl_len (by omega)
  simp (maxSteps := 1000000) (disch := first | omega | (simp only [LL]; omega)) only [W, V, TY, CC, reduceIte, Nat.reduceEqDiff, Nat.reduceAdd, Nat.reduceLeDiff, Nat.reduceLT, Int.reduceLE, Int.reduceLT, Int.reduceAdd, Int.reduceSub, Int.reduceToNat, Nat.reduceMul]
  refine a_call _ _ (ri_Of x x0 x1) (by simp (maxSteps := 1000000) (disch := first | omega | (simp only [LL]; omega)) only [W, V, TY, CC, reduceIte, Nat.reduceEqDiff, Nat.reduceAdd, Nat.reduceLeDiff, Nat.reduceLT, Int.reduceLE, Int.reduceLT, Int.reduceAdd, Int.reduceSub, Int.reduceToNat, Nat.reduceMul]) ?_
  simp (maxSteps := 1000000) (disch := first | omega | (simp only [LL]; omega)) only [W, V, TY, CC, reduceIte, Nat.reduceEqDiff, Nat.reduceAdd, Nat.reduceLeDiff, Nat.reduceLT, Int.reduceLE, Int.reduceLT, Int.reduceAdd, Int.reduceSub, Int.reduceToNat, Nat.reduceMul, intC]
  refine a_call _ _ (ri_Of y y0 y1) (by simp (maxSteps := 1000000) (disch := first | omega | (simp only [LL]; omega)) only [W, V, TY, CC, reduceIte, Nat.reduceEqDiff, Nat.reduceAdd, Nat.reduceLeDiff, Nat.reduceLT, Int.reduceLE, Int.reduceLT, Int.reduceAdd, Int.reduceSub, Int.reduceToNat, Nat.reduceMul]) ?_
  simp (maxSteps := 1000000) (disch := first | omega | (simp only [LL]; omega)) only [W, V, TY, CC, reduceIte, Nat.reduceEqDiff, Nat.reduceAdd, Nat.reduceLeDiff, Nat.reduceLT, Int.reduceLE, Int.reduceLT, Int.reduceAdd, Int.reduceSub, Int.reduceToNat, Nat.reduceMul, intC]
  refine a_call _ _ (rr_Make (decide (x < 0)) (decide (y < 0)) (nl x.natAbs) (nl y.natAbs) (nl_lim _) (nl_lim _) (by omega) (by omega)) (by simp (maxSteps := 1000000) (disch := first | omega | (simp only [LL]; omega)) only [W, V, TY, CC, reduceIte, Nat.reduceEqDiff, Nat.reduceAdd, Nat.reduceLeDiff, Nat.reduceLT, Int.reduceLE, Int.reduceLT, Int.reduceAdd, Int.reduceSub, Int.reduceToNat, Nat.reduceMul]) ?_
  rw [iv_nl, iv_nl]
  simp (maxSteps := 1000000) (disch := first | omega | (simp only [LL]; omega)) only [W, V, TY, CC, reduceIte, Nat.reduceEqDiff, Nat.reduceAdd, Nat.reduceLeDiff, Nat.reduceLT, Int.reduceLE, Int.reduceLT, Int.reduceAdd, Int.reduceSub, Int.reduceToNat, Nat.reduceMul, ratC]
  refine f_ret _ _ _ ?_
  simp (maxSteps := 1000000) (disch := first | omega | (simp only [LL]; omega)) only [W, V, TY, CC, reduceIte, Nat.reduceEqDiff, Nat.reduceAdd, Nat.reduceLeDiff, Nat.reduceLT, Int.reduceLE, Int.reduceLT, Int.reduceAdd, Int.reduceSub, Int.reduceToNat, Nat.reduceMul, ratC]
/-- examboard/examboardref03.Neg -/
def b63 : AF := ⟨9, 1, [.cell 2 27],
  (.seq (.reg [
    ⟨some 1, .box 27 (.tmp 0), none⟩,
    ⟨some 2, .alloc 27, none⟩])
  (.seq (.dreg [
    ⟨some 3, .load 27 (.tmp 1), none⟩,
    ⟨some 4, .call ⟨(.value (.func 89)), #[(.tmp 3)], #[27]⟩, none⟩,
    ⟨some 5, .call ⟨(.value (.func 107)), #[(.tmp 4)], #[25]⟩, none⟩,
    ⟨some 6, .load 27 (.tmp 1), none⟩,
    ⟨some 7, .call ⟨(.value (.func 91)), #[(.tmp 6)], #[27]⟩, none⟩,
    ⟨some 8, .call ⟨(.value (.func 92)), #[(.tmp 5), (.tmp 7)], #[25, 23]⟩, none⟩,
    ⟨none, .store 27 (.tmp 2) (.tmp 8), none⟩])
  .ret))⟩
theorem c63 : fcomp Tryz.prog 63 = ⟨b63.n, b63.np, b63.res, b63.body.bare⟩ := by kernel_rfl
theorem k63 : fok Tryz.prog 63 = true := by kernel_rfl
theorem rr_Neg (n : Bool) (m d : List Int) (hm : Lim m) (hd : Lim d) (lm : m.length < 68719476736) (ld : d.length < 68719476736) : AFun Tryz.prog 63 [.agg [.lit (.bool n), natD m, natD d]] [.agg (ratC (-rv n m d))] := by
  refine afun_intro mo_ _ _ c63 k63 _ _ rfl (by decide) ?_
  unfold b63
  rw [← rv_tp, Rat.neg_mkRat]
  have k1 : zl (tp n m d) ≤ m.length := zl_tp hm
  have k2 := zl_neg (tp n m d)
  have k3 := pD_len hd
  have k4 := zl_nat (pD d)
  have k5 := pD_pos d
  simp (maxSteps := 1000000) (disch := first | omega | (simp only [LL]; omega)) only [W, V, TY, CC, reduceIte, Nat.reduceEqDiff, Nat.reduceAdd, Nat.reduceLeDiff, Nat.reduceLT, Int.reduceLE, Int.reduceLT, Int.reduceAdd, Int.reduceSub, Int.reduceToNat, Nat.reduceMul]
  refine a_call _ _ (rr_top n m d hm hd (by omega) (by omega)) (by simp (maxSteps := 1000000) (disch := first | omega | (simp only [LL]; omega)) only [W, V, TY, CC, reduceIte, Nat.reduceEqDiff, Nat.reduceAdd, Nat.reduceLeDiff, Nat.reduceLT, Int.reduceLE, Int.reduceLT, Int.reduceAdd, Int.reduceSub, Int.reduceToNat, Nat.reduceMul]) ?_
  generalize tp n m d = x at *
  simp (maxSteps := 1000000) (disch := first | omega | (simp only [LL]; omega)) only [W, V, TY, CC, reduceIte, Nat.reduceEqDiff, Nat.reduceAdd, Nat.reduceLeDiff, Nat.reduceLT, Int.reduceLE, Int.reduceLT, Int.reduceAdd, Int.reduceSub, Int.reduceToNat, Nat.reduceMul, intC]
  refine a_call _ _ (ri_Neg (decide (x < 0)) (nl x.natAbs) (nl_lim _) (show zl x < _ by omega)) (by simp (maxSteps := 1000000) (disch := first | omega | (simp only [LL]; omega)) only [W, V, TY, CC, reduceIte, Nat.reduceEqDiff, Nat.reduceAdd, Nat.reduceLeDiff, Nat.reduceLT, Int.reduceLE, Int.reduceLT, Int.reduceAdd, Int.reduceSub, Int.reduceToNat, Nat.reduceMul]) ?_
  rw [iv_nl]
  simp (maxSteps := 1000000) (disch := first | omega | (simp only [LL]; omega)) only [W, V, TY, CC, reduceIte, Nat.reduceEqDiff, Nat.reduceAdd, Nat.reduceLeDiff, Nat.reduceLT, Int.reduceLE, Int.reduceLT, Int.reduceAdd, Int.reduceSub, Int.reduceToNat, Nat.reduceMul, intC]
  refine a_call _ _ (rr_low n m d hd (by omega)) (by simp (maxSteps := 1000000) (disch := first | omega | (simp only [LL]; omega)) only [W, V, TY, CC, reduceIte, Nat.reduceEqDiff, Nat.reduceAdd, Nat.reduceLeDiff, Nat.reduceLT, Int.reduceLE, Int.reduceLT, Int.reduceAdd, Int.reduceSub, Int.reduceToNat, Nat.reduceMul]) ?_
  generalize pD d = y at *
  simp (maxSteps := 1000000) (disch := first | omega | (simp only [LL]; omega)) only [W, V, TY, CC, reduceIte, Nat.reduceEqDiff, Nat.reduceAdd, Nat.reduceLeDiff, Nat.reduceLT, Int.reduceLE, Int.reduceLT, Int.reduceAdd, Int.reduceSub, Int.reduceToNat, Nat.reduceMul]
  refine a_call _ _ (rr_reduce (decide (-x < 0)) (nl (-x).natAbs) (nl y) (nl_lim _) (nl_lim _) (show zl (-x) < _ by omega) (by omega) (by rw [nv_nl]; omega)) (by simp (maxSteps := 1000000) (disch := first | omega | (simp only [LL]; omega)) only [W, V, TY, CC, reduceIte, Nat.reduceEqDiff, Nat.reduceAdd, Nat.reduceLeDiff, Nat.reduceLT, Int.reduceLE, Int.reduceLT, Int.reduceAdd, Int.reduceSub, Int.reduceToNat, Nat.reduceMul]) ?_
  rw [rv_mk]
  simp (maxSteps := 1000000) (disch := first | omega | (simp only [LL]; omega)) only [W, V, TY, CC, reduceIte, Nat.reduceEqDiff, Nat.reduceAdd, Nat.reduceLeDiff, Nat.reduceLT, Int.reduceLE, Int.reduceLT, Int.reduceAdd, Int.reduceSub, Int.reduceToNat, Nat.reduceMul, ratC]
  refine f_ret _ _ _ ?_
  simp (maxSteps := 1000000) (disch := first | omega | (simp only [LL]; omega)) only [W, V, TY, CC, reduceIte, Nat.reduceEqDiff, Nat.reduceAdd, Nat.reduceLeDiff, Nat.reduceLT, Int.reduceLE, Int.reduceLT, Int.reduceAdd, Int.reduceSub, Int.reduceToNat, Nat.reduceMul, ratC]
/-- examboard/examboardref03.Sign -/
def b65 : AF := ⟨6, 1, [.tmp 2],
  (.seq (.reg [
    ⟨some 1, .box 27 (.tmp 0), none⟩,
    ⟨some 2, .assign (.const (.int .i64 0)), none⟩])
  (.seq (.reg [
    ⟨some 3, .load 27 (.tmp 1), none⟩,
    ⟨some 4, .call ⟨(.value (.func 89)), #[(.tmp 3)], #[27]⟩, none⟩,
    ⟨some 5, .call ⟨(.value (.func 104)), #[(.tmp 4)], #[25]⟩, none⟩,
    ⟨some 2, .assign (.tmp 5), none⟩])
  .ret))⟩
theorem c65 : fcomp Tryz.prog 65 = ⟨b65.n, b65.np, b65.res, b65.body.bare⟩ := by kernel_rfl
theorem k65 : fok Tryz.prog 65 = true := by kernel_rfl
theorem rr_Sign (n : Bool) (m d : List Int) (hm : Lim m) (hd : Lim d) (lm : m.length < 68719476736) (ld : d.length < 68719476736) : AFun Tryz.prog 65 [.agg [.lit (.bool n), natD m, natD d]] [.one (.lit (.int .i64 (sgn (tp n m d))))] := by
  refine afun_intro mo_ _ _ c65 k65 _ _ rfl (by decide) ?_
  unfold b65
  have k1 : zl (tp n m d) ≤ m.length := zl_tp hm
  simp (maxSteps := 1000000) (disch := first | omega | (simp only [LL]; omega)) only [W, V, TY, CC, reduceIte, Nat.reduceEqDiff, Nat.reduceAdd, Nat.reduceLeDiff, Nat.reduceLT, Int.reduceLE, Int.reduceLT, Int.reduceAdd, Int.reduceSub, Int.reduceToNat, Nat.reduceMul]
  refine a_call _ _ (rr_top n m d hm hd (by omega) (by omega)) (by simp (maxSteps := 1000000) (disch := first | omega | (simp only [LL]; omega)) only [W, V, TY, CC, reduceIte, Nat.reduceEqDiff, Nat.reduceAdd, Nat.reduceLeDiff, Nat.reduceLT, Int.reduceLE, Int.reduceLT, Int.reduceAdd, Int.reduceSub, Int.reduceToNat, Nat.reduceMul]) ?_
  generalize tp n m d = x at *
  simp (maxSteps := 1000000) (disch := first | omega | (simp only [LL]; omega)) only [W, V, TY, CC, reduceIte, Nat.reduceEqDiff, Nat.reduceAdd, Nat.reduceLeDiff, Nat.reduceLT, Int.reduceLE, Int.reduceLT, Int.reduceAdd, Int.reduceSub, Int.reduceToNat, Nat.reduceMul, intC]
  refine a_call _ _ (ri_Sign (decide (x < 0)) (nl x.natAbs) (nl_lim _) (show zl x < _ by omega)) (by simp (maxSteps := 1000000) (disch := first | omega | (simp only [LL]; omega)) only [W, V, TY, CC, reduceIte, Nat.reduceEqDiff, Nat.reduceAdd, Nat.reduceLeDiff, Nat.reduceLT, Int.reduceLE, Int.reduceLT, Int.reduceAdd, Int.reduceSub, Int.reduceToNat, Nat.reduceMul]) ?_
  rw [iv_nl]
  simp (maxSteps := 1000000) (disch := first | omega | (simp only [LL]; omega)) only [W, V, TY, CC, reduceIte, Nat.reduceEqDiff, Nat.reduceAdd, Nat.reduceLeDiff, Nat.reduceLT, Int.reduceLE, Int.reduceLT, Int.reduceAdd, Int.reduceSub, Int.reduceToNat, Nat.reduceMul]
  refine f_ret _ _ _ ?_
  simp (maxSteps := 1000000) (disch := first | omega | (simp only [LL]; omega)) only [W, V, TY, CC, reduceIte, Nat.reduceEqDiff, Nat.reduceAdd, Nat.reduceLeDiff, Nat.reduceLT, Int.reduceLE, Int.reduceLT, Int.reduceAdd, Int.reduceSub, Int.reduceToNat, Nat.reduceMul]
theorem mk_neg (a : Int) {d : Nat} (hd : 0 < d) : mkRat a d < 0 ↔ a < 0 := by
  rw [← Rat.not_le, mk_nn a hd]
  omega
/-- examboard/examboardref03.Cmp -/
def b80 : AF := ⟨22, 2, [.tmp 4],
  (.seq (.reg [
    ⟨some 2, .box 27 (.tmp 0), none⟩,
    ⟨some 3, .box 27 (.tmp 1), none⟩,
    ⟨some 4, .assign (.const (.int .i64 0)), none⟩])
  (.seq (.dreg [
    ⟨some 7, .load 27 (.tmp 2), none⟩,
    ⟨some 8, .call ⟨(.value (.func 89)), #[(.tmp 7)], #[27]⟩, none⟩,
    ⟨some 9, .load 27 (.tmp 3), none⟩,
    ⟨some 10, .call ⟨(.value (.func 91)), #[(.tmp 9)], #[27]⟩, none⟩,
    ⟨some 11, .call ⟨(.value (.func 90)), #[(.const (.bool false)), (.tmp 10)], #[4, 23]⟩, none⟩,
    ⟨some 12, .call ⟨(.value (.func 88)), #[(.tmp 8), (.tmp 11)], #[25, 25]⟩, none⟩,
    ⟨some 5, .alloc 25, none⟩,
    ⟨none, .store 25 (.tmp 5) (.tmp 12), none⟩])
  (.seq (.dreg [
    ⟨some 13, .load 27 (.tmp 3), none⟩,
    ⟨some 14, .call ⟨(.value (.func 89)), #[(.tmp 13)], #[27]⟩, none⟩,
    ⟨some 15, .load 27 (.tmp 2), none⟩,
    ⟨some 16, .call ⟨(.value (.func 91)), #[(.tmp 15)], #[27]⟩, none⟩,
    ⟨some 17, .call ⟨(.value (.func 90)), #[(.const (.bool false)), (.tmp 16)], #[4, 23]⟩, none⟩,
    ⟨some 18, .call ⟨(.value (.func 88)), #[(.tmp 14), (.tmp 17)], #[25, 25]⟩, none⟩,
    ⟨some 6, .alloc 25, none⟩,
    ⟨none, .store 25 (.tmp 6) (.tmp 18), none⟩])
  (.seq (.reg [
    ⟨some 19, .load 25 (.tmp 5), none⟩,
    ⟨some 20, .load 25 (.tmp 6), none⟩,
    ⟨some 21, .call ⟨(.value (.func 112)), #[(.tmp 19), (.tmp 20)], #[25, 25]⟩, none⟩,
    ⟨some 4, .assign (.tmp 21), none⟩])
  .ret))))⟩
theorem c80 : fcomp Tryz.prog 80 = ⟨b80.n, b80.np, b80.res, b80.body.bare⟩ := by kernel_rfl
theorem k80 : fok Tryz.prog 80 = true := by kernel_rfl
theorem rr_Cmp (n : Bool) (m d : List Int) (n' : Bool) (m' d' : List Int) (hm : Lim m) (hd : Lim d) (hm' : Lim m') (hd' : Lim d') (lm : m.length < 68719476736) (ld : d.length < 68719476736) (lm' : m'.length < 68719476736) (ld' : d'.length < 68719476736) :
    AFun Tryz.prog 80 [.agg [.lit (.bool n), natD m, natD d], .agg [.lit (.bool n'), natD m', natD d']] [.one (.lit (.int .i64 (cmpQ (rv n m d) (rv n' m' d'))))] := by
  refine afun_intro mo_ _ _ c80 k80 _ _ rfl (by decide) ?_
  unfold b80
  rw [← rv_tp n m d, ← rv_tp n' m' d', ← cmp_mk _ _ (pD_pos d) (pD_pos d')]
  have k1 : zl (tp n m d) ≤ m.length := zl_tp hm
  have k2 : zl (tp n' m' d') ≤ m'.length := zl_tp hm'
  have k3 := pD_len hd
  have k4 := pD_len hd'
  have k7 := zl_mul (tp n m d) (pD d' : Int)
  have k8 := zl_mul (tp n' m' d') (pD d : Int)
  have k9 := zl_nat (pD d)
  have k10 := zl_nat (pD d')
  have c1 := rr_top n m d hm hd (by omega) (by omega)
  have c2 := rr_top n' m' d' hm' hd' (by omega) (by omega)
  have c3 := rr_low n m d hd (by omega)
  have c4 := rr_low n' m' d' hd' (by omega)
  generalize tp n m d = x at *
  generalize tp n' m' d' = y at *
  generalize pD d = u at *
  generalize pD d' = v at *
  generalize hX : x * (v : Int) = X at *
  generalize hY : y * (u : Int) = Y at *
  simp (maxSteps := 1000000) (disch := first | omega | (simp only [LL]; omega)) only [W, V, TY, CC, reduceIte, Nat.reduceEqDiff, Nat.reduceAdd, Nat.reduceLeDiff, Nat.reduceLT, Int.reduceLE, Int.reduceLT, Int.reduceAdd, Int.reduceSub, Int.reduceToNat, Nat.reduceMul]
  refine a_call _ _ c1 (by simp (maxSteps := 1000000) (disch := first | omega | (simp only [LL]; omega)) only [W, V, TY, CC, reduceIte, Nat.reduceEqDiff, Nat.reduceAdd, Nat.reduceLeDiff, Nat.reduceLT, Int.reduceLE, Int.reduceLT, Int.reduceAdd, Int.reduceSub, Int.reduceToNat, Nat.reduceMul]) ?_
  simp (maxSteps := 1000000) (disch := first | omega | (simp only [LL]; omega)) only [W, V, TY, CC, reduceIte, Nat.reduceEqDiff, Nat.reduceAdd, Nat.reduceLeDiff, Nat.reduceLT, Int.reduceLE, Int.reduceLT, Int.reduceAdd, Int.reduceSub, Int.reduceToNat, Nat.reduceMul, intC]
  refine a_call _ _ c4 (by simp (maxSteps := 1000000) (disch := first | omega | (simp only [LL]; omega)) only [W, V, TY, CC, reduceIte, Nat.reduceEqDiff, Nat.reduceAdd, Nat.reduceLeDiff, Nat.reduceLT, Int.reduceLE, Int.reduceLT, Int.reduceAdd, Int.reduceSub, Int.reduceToNat, Nat.reduceMul]) ?_
  simp (maxSteps := 1000000) (disch := first | omega | (simp only [LL]; omega)) only [W, V, TY, CC, reduceIte, Nat.reduceEqDiff, Nat.reduceAdd, Nat.reduceLeDiff, Nat.reduceLT, Int.reduceLE, Int.reduceLT, Int.reduceAdd, Int.reduceSub, Int.reduceToNat, Nat.reduceMul]
  refine a_call _ _ (ri_Make false (nl v) (nl_lim _) (by omega)) (by simp (maxSteps := 1000000) (disch := first | omega | (simp only [LL]; omega)) only [W, V, TY, CC, reduceIte, Nat.reduceEqDiff, Nat.reduceAdd, Nat.reduceLeDiff, Nat.reduceLT, Int.reduceLE, Int.reduceLT, Int.reduceAdd, Int.reduceSub, Int.reduceToNat, Nat.reduceMul]) ?_
  rw [iv_nat]
  simp (maxSteps := 1000000) (disch := first | omega | (simp only [LL]; omega)) only [W, V, TY, CC, reduceIte, Nat.reduceEqDiff, Nat.reduceAdd, Nat.reduceLeDiff, Nat.reduceLT, Int.reduceLE, Int.reduceLT, Int.reduceAdd, Int.reduceSub, Int.reduceToNat, Nat.reduceMul, intC_nat]
  refine a_call _ _ (ri_Mul (decide (x < 0)) false (nl x.natAbs) (nl v) (nl_lim _) (nl_lim _) (show zl x < _ by omega) (by omega)) (by simp (maxSteps := 1000000) (disch := first | omega | (simp only [LL]; omega)) only [W, V, TY, CC, reduceIte, Nat.reduceEqDiff, Nat.reduceAdd, Nat.reduceLeDiff, Nat.reduceLT, Int.reduceLE, Int.reduceLT, Int.reduceAdd, Int.reduceSub, Int.reduceToNat, Nat.reduceMul]) ?_
  rw [iv_nat, iv_nl, hX]
  simp (maxSteps := 1000000) (disch := first | omega | (simp only [LL]; omega)) only [W, V, TY, CC, reduceIte, Nat.reduceEqDiff, Nat.reduceAdd, Nat.reduceLeDiff, Nat.reduceLT, Int.reduceLE, Int.reduceLT, Int.reduceAdd, Int.reduceSub, Int.reduceToNat, Nat.reduceMul, intC]
  refine a_call _ _ c2 (by simp (maxSteps := 1000000) (disch := first | omega | (simp only [LL]; omega)) only [W, V, TY, CC, reduceIte, Nat.reduceEqDiff, Nat.reduceAdd, Nat.reduceLeDiff, Nat.reduceLT, Int.reduceLE, Int.reduceLT, Int.reduceAdd, Int.reduceSub, Int.reduceToNat, Nat.reduceMul]) ?_
  simp (maxSteps := 1000000) (disch := first | omega | (simp only [LL]; omega)) only [W, V, TY, CC, reduceIte, Nat.reduceEqDiff, Nat.reduceAdd, Nat.reduceLeDiff, Nat.reduceLT, Int.reduceLE, Int.reduceLT, Int.reduceAdd, Int.reduceSub, Int.reduceToNat, Nat.reduceMul, intC]
  refine a_call _ _ c3 (by simp (maxSteps := 1000000) (disch := first | omega | (simp only [LL]; omega)) only [W, V, TY, CC, reduceIte, Nat.reduceEqDiff, Nat.reduceAdd, Nat.reduceLeDiff, Nat.reduceLT, Int.reduceLE, Int.reduceLT, Int.reduceAdd, Int.reduceSub, Int.reduceToNat, Nat.reduceMul]) ?_
  simp (maxSteps := 1000000) (disch := first | omega | (simp only [LL]; omega)) only [W, V, TY, CC, reduceIte, Nat.reduceEqDiff, Nat.reduceAdd, Nat.reduceLeDiff, Nat.reduceLT, Int.reduceLE, Int.reduceLT, Int.reduceAdd, Int.reduceSub, Int.reduceToNat, Nat.reduceMul]
  refine a_call _ _ (ri_Make false (nl u) (nl_lim _) (by omega)) (by simp (maxSteps := 1000000) (disch := first | omega | (simp only [LL]; omega)) only [W, V, TY, CC, reduceIte, Nat.reduceEqDiff, Nat.reduceAdd, Nat.reduceLeDiff, Nat.reduceLT, Int.reduceLE, Int.reduceLT, Int.reduceAdd, Int.reduceSub, Int.reduceToNat, Nat.reduceMul]) ?_
  rw [iv_nat]
  simp (maxSteps := 1000000) (disch := first | omega | (simp only [LL]; omega)) only [W, V, TY, CC, reduceIte, Nat.reduceEqDiff, Nat.reduceAdd, Nat.reduceLeDiff, Nat.reduceLT, Int.reduceLE, Int.reduceLT, Int.reduceAdd, Int.reduceSub, Int.reduceToNat, Nat.reduceMul, intC_nat]
  refine a_call _ _ (ri_Mul (decide (y < 0)) false (nl y.natAbs) (nl u) (nl_lim _) (nl_lim _) (show zl y < _ by omega) (by omega)) (by simp (maxSteps := 1000000) (disch := first | omega | (simp only [LL]; omega)) only [W, V, TY, CC, reduceIte, Nat.reduceEqDiff, Nat.reduceAdd, Nat.reduceLeDiff, Nat.reduceLT, Int.reduceLE, Int.reduceLT, Int.reduceAdd, Int.reduceSub, Int.reduceToNat, Nat.reduceMul]) ?_
  rw [iv_nat, iv_nl, hY]
  simp (maxSteps := 1000000) (disch := first | omega | (simp only [LL]; omega)) only [W, V, TY, CC, reduceIte, Nat.reduceEqDiff, Nat.reduceAdd, Nat.reduceLeDiff, Nat.reduceLT, Int.reduceLE, Int.reduceLT, Int.reduceAdd, Int.reduceSub, Int.reduceToNat, Nat.reduceMul, intC]
  refine a_call _ _ (ri_Cmp (decide (X < 0)) (decide (Y < 0)) (nl X.natAbs) (nl Y.natAbs) (nl_lim _) (nl_lim _) (show zl X < _ by omega) (show zl Y < _ by omega)) (by simp (maxSteps := 1000000) (disch := first | omega | (simp only [LL]; omega)) only [W, V, TY, CC, reduceIte, Nat.reduceEqDiff, Nat.reduceAdd, Nat.reduceLeDiff, Nat.reduceLT, Int.reduceLE, Int.reduceLT, Int.reduceAdd, Int.reduceSub, Int.reduceToNat, Nat.reduceMul]) ?_
  rw [iv_nl, iv_nl]
  simp (maxSteps := 1000000) (disch := first | omega | (simp only [LL]; omega)) only [W, V, TY, CC, reduceIte, Nat.reduceEqDiff, Nat.reduceAdd, Nat.reduceLeDiff, Nat.reduceLT, Int.reduceLE, Int.reduceLT, Int.reduceAdd, Int.reduceSub, Int.reduceToNat, Nat.reduceMul]
  refine f_ret _ _ _ ?_
  simp (maxSteps := 1000000) (disch := first | omega | (simp only [LL]; omega)) only [W, V, TY, CC, reduceIte, Nat.reduceEqDiff, Nat.reduceAdd, Nat.reduceLeDiff, Nat.reduceLT, Int.reduceLE, Int.reduceLT, Int.reduceAdd, Int.reduceSub, Int.reduceToNat, Nat.reduceMul]
theorem mk_add (a b : Int) {d e : Nat} (hd : 0 < d) (he : 0 < e) : mkRat a d + mkRat b e = mkRat (a * e + b * d) (d * e) := by
  rw [← Rat.divInt_ofNat, ← Rat.divInt_ofNat, Rat.divInt_add_divInt _ _ (by omega) (by omega), ← Int.natCast_mul, Rat.divInt_ofNat]
/-- examboard/examboardref03.Add -/
def b47 : AF := ⟨28, 2, [.cell 4 27],
  (.seq (.reg [
    ⟨some 2, .box 27 (.tmp 0), none⟩,
    ⟨some 3, .box 27 (.tmp 1), none⟩,
    ⟨some 4, .alloc 27, none⟩])
  (.seq (.dreg [
    ⟨some 7, .load 27 (.tmp 2), none⟩,
    ⟨some 8, .call ⟨(.value (.func 89)), #[(.tmp 7)], #[27]⟩, none⟩,
    ⟨some 9, .load 27 (.tmp 3), none⟩,
    ⟨some 10, .call ⟨(.value (.func 91)), #[(.tmp 9)], #[27]⟩, none⟩,
    ⟨some 11, .call ⟨(.value (.func 90)), #[(.const (.bool false)), (.tmp 10)], #[4, 23]⟩, none⟩,
    ⟨some 12, .call ⟨(.value (.func 88)), #[(.tmp 8), (.tmp 11)], #[25, 25]⟩, none⟩,
    ⟨some 5, .alloc 25, none⟩,
    ⟨none, .store 25 (.tmp 5) (.tmp 12), none⟩])
  (.seq (.dreg [
    ⟨some 13, .load 27 (.tmp 3), none⟩,
    ⟨some 14, .call ⟨(.value (.func 89)), #[(.tmp 13)], #[27]⟩, none⟩,
    ⟨some 15, .load 27 (.tmp 2), none⟩,
    ⟨some 16, .call ⟨(.value (.func 91)), #[(.tmp 15)], #[27]⟩, none⟩,
    ⟨some 17, .call ⟨(.value (.func 90)), #[(.const (.bool false)), (.tmp 16)], #[4, 23]⟩, none⟩,
    ⟨some 18, .call ⟨(.value (.func 88)), #[(.tmp 14), (.tmp 17)], #[25, 25]⟩, none⟩,
    ⟨some 6, .alloc 25, none⟩,
    ⟨none, .store 25 (.tmp 6) (.tmp 18), none⟩])
  (.seq (.dreg [
    ⟨some 19, .load 25 (.tmp 5), none⟩,
    ⟨some 20, .load 25 (.tmp 6), none⟩,
    ⟨some 21, .call ⟨(.value (.func 93)), #[(.tmp 19), (.tmp 20)], #[25, 25]⟩, none⟩,
    ⟨some 22, .load 27 (.tmp 2), none⟩,
    ⟨some 23, .call ⟨(.value (.func 91)), #[(.tmp 22)], #[27]⟩, none⟩,
    ⟨some 24, .load 27 (.tmp 3), none⟩,
    ⟨some 25, .call ⟨(.value (.func 91)), #[(.tmp 24)], #[27]⟩, none⟩,
    ⟨some 26, .call ⟨(.value (.func 94)), #[(.tmp 23), (.tmp 25)], #[23, 23]⟩, none⟩,
    ⟨some 27, .call ⟨(.value (.func 92)), #[(.tmp 21), (.tmp 26)], #[25, 23]⟩, none⟩,
    ⟨none, .store 27 (.tmp 4) (.tmp 27), none⟩])
  .ret))))⟩
theorem c47 : fcomp Tryz.prog 47 = ⟨b47.n, b47.np, b47.res, b47.body.bare⟩ := by kernel_rfl
theorem k47 : fok Tryz.prog 47 = true := by kernel_rfl
theorem rr_Add (n : Bool) (m d : List Int) (n' : Bool) (m' d' : List Int) (hm : Lim m) (hd : Lim d) (hm' : Lim m') (hd' : Lim d') (lm : m.length < 68719476736) (ld : d.length < 68719476736) (lm' : m'.length < 68719476736) (ld' : d'.length < 68719476736) :
    AFun Tryz.prog 47 [.agg [.lit (.bool n), natD m, natD d], .agg [.lit (.bool n'), natD m', natD d']] [.agg (ratC (rv n m d + rv n' m' d'))] := by
  refine afun_intro mo_ _ _ c47 k47 _ _ rfl (by decide) ?_
  unfold b47
  have p1 := pD_pos d
  have p2 := pD_pos d'
  rw [← rv_tp n m d, ← rv_tp n' m' d', mk_add _ _ p1 p2]
  have k1 : zl (tp n m d) ≤ m.length := zl_tp hm
  have k2 : zl (tp n' m' d') ≤ m'.length := zl_tp hm'
  have k3 := pD_len hd
  have k4 := pD_len hd'
  have k7 := zl_mul (tp n m d) (pD d' : Int)
  have k8 := zl_mul (tp n' m' d') (pD d : Int)
  have k9 := zl_nat (pD d)
  have k10 := zl_nat (pD d')
  have k11 := zl_mul (pD d : Int) (pD d' : Int)
  rw [← Int.natCast_mul] at k11
  have k12 := zl_nat (pD d * pD d')
  have p3 := Nat.mul_pos p1 p2
  have c1 := rr_top n m d hm hd (by omega) (by omega)
  have c2 := rr_top n' m' d' hm' hd' (by omega) (by omega)
  have c3 := rr_low n m d hd (by omega)
  have c4 := rr_low n' m' d' hd' (by omega)
  generalize tp n m d = x at *
  generalize tp n' m' d' = y at *
  generalize pD d = u at *
  generalize pD d' = v at *
  generalize hX : x * (v : Int) = X at *
  generalize hY : y * (u : Int) = Y at *
  have k13 := zl_add X Y
  simp (maxSteps := 1000000) (disch := first | omega | (simp only [LL]; omega)) only [W, V, TY, CC, reduceIte, Nat.reduceEqDiff, Nat.reduceAdd, Nat.reduceLeDiff, Nat.reduceLT, Int.reduceLE, Int.reduceLT, Int.reduceAdd, Int.reduceSub, Int.reduceToNat, Nat.reduceMul]
  refine a_call _ _ c1 (by simp (maxSteps := 1000000) (disch := first | omega | (simp only [LL]; omega)) only [W, V, TY, CC, reduceIte, Nat.reduceEqDiff, Nat.reduceAdd, Nat.reduceLeDiff, Nat.reduceLT, Int.reduceLE, Int.reduceLT, Int.reduceAdd, Int.reduceSub, Int.reduceToNat, Nat.reduceMul]) ?_
  simp (maxSteps := 1000000) (disch := first | omega | (simp only [LL]; omega)) only [W, V, TY, CC, reduceIte, Nat.reduceEqDiff, Nat.reduceAdd, Nat.reduceLeDiff, Nat.reduceLT, Int.reduceLE, Int.reduceLT, Int.reduceAdd, Int.reduceSub, Int.reduceToNat, Nat.reduceMul, intC]
  refine a_call _ _ c4 (by simp (maxSteps := 1000000) (disch := first | omega | (simp only [LL]; omega)) only [W, V, TY, CC, reduceIte, Nat.reduceEqDiff, Nat.reduceAdd, Nat.reduceLeDiff, Nat.reduceLT, Int.reduceLE, Int.reduceLT, Int.reduceAdd, Int.reduceSub, Int.reduceToNat, Nat.reduceMul]) ?_
  simp (maxSteps := 1000000) (disch := first | omega | (simp only [LL]; omega)) only [W, V, TY, CC, reduceIte, Nat.reduceEqDiff, Nat.reduceAdd, Nat.reduceLeDiff, Nat.reduceLT, Int.reduceLE, Int.reduceLT, Int.reduceAdd, Int.reduceSub, Int.reduceToNat, Nat.reduceMul]
  refine a_call _ _ (ri_Make false (nl v) (nl_lim _) (by omega)) (by simp (maxSteps := 1000000) (disch := first | omega | (simp only [LL]; omega)) only [W, V, TY, CC, reduceIte, Nat.reduceEqDiff, Nat.reduceAdd, Nat.reduceLeDiff, Nat.reduceLT, Int.reduceLE, Int.reduceLT, Int.reduceAdd, Int.reduceSub, Int.reduceToNat, Nat.reduceMul]) ?_
  rw [iv_nat]
  simp (maxSteps := 1000000) (disch := first | omega | (simp only [LL]; omega)) only [W, V, TY, CC, reduceIte, Nat.reduceEqDiff, Nat.reduceAdd, Nat.reduceLeDiff, Nat.reduceLT, Int.reduceLE, Int.reduceLT, Int.reduceAdd, Int.reduceSub, Int.reduceToNat, Nat.reduceMul, intC_nat]
  refine a_call _ _ (ri_Mul (decide (x < 0)) false (nl x.natAbs) (nl v) (nl_lim _) (nl_lim _) (show zl x < _ by omega) (by omega)) (by simp (maxSteps := 1000000) (disch := first | omega | (simp only [LL]; omega)) only [W, V, TY, CC, reduceIte, Nat.reduceEqDiff, Nat.reduceAdd, Nat.reduceLeDiff, Nat.reduceLT, Int.reduceLE, Int.reduceLT, Int.reduceAdd, Int.reduceSub, Int.reduceToNat, Nat.reduceMul]) ?_
  rw [iv_nat, iv_nl, hX]
  simp (maxSteps := 1000000) (disch := first | omega | (simp only [LL]; omega)) only [W, V, TY, CC, reduceIte, Nat.reduceEqDiff, Nat.reduceAdd, Nat.reduceLeDiff, Nat.reduceLT, Int.reduceLE, Int.reduceLT, Int.reduceAdd, Int.reduceSub, Int.reduceToNat, Nat.reduceMul, intC]
  refine a_call _ _ c2 (by simp (maxSteps := 1000000) (disch := first | omega | (simp only [LL]; omega)) only [W, V, TY, CC, reduceIte, Nat.reduceEqDiff, Nat.reduceAdd, Nat.reduceLeDiff, Nat.reduceLT, Int.reduceLE, Int.reduceLT, Int.reduceAdd, Int.reduceSub, Int.reduceToNat, Nat.reduceMul]) ?_
  simp (maxSteps := 1000000) (disch := first | omega | (simp only [LL]; omega)) only [W, V, TY, CC, reduceIte, Nat.reduceEqDiff, Nat.reduceAdd, Nat.reduceLeDiff, Nat.reduceLT, Int.reduceLE, Int.reduceLT, Int.reduceAdd, Int.reduceSub, Int.reduceToNat, Nat.reduceMul, intC]
  refine a_call _ _ c3 (by simp (maxSteps := 1000000) (disch := first | omega | (simp only [LL]; omega)) only [W, V, TY, CC, reduceIte, Nat.reduceEqDiff, Nat.reduceAdd, Nat.reduceLeDiff, Nat.reduceLT, Int.reduceLE, Int.reduceLT, Int.reduceAdd, Int.reduceSub, Int.reduceToNat, Nat.reduceMul]) ?_
  simp (maxSteps := 1000000) (disch := first | omega | (simp only [LL]; omega)) only [W, V, TY, CC, reduceIte, Nat.reduceEqDiff, Nat.reduceAdd, Nat.reduceLeDiff, Nat.reduceLT, Int.reduceLE, Int.reduceLT, Int.reduceAdd, Int.reduceSub, Int.reduceToNat, Nat.reduceMul]
  refine a_call _ _ (ri_Make false (nl u) (nl_lim _) (by omega)) (by simp (maxSteps := 1000000) (disch := first | omega | (simp only [LL]; omega)) only [W, V, TY, CC, reduceIte, Nat.reduceEqDiff, Nat.reduceAdd, Nat.reduceLeDiff, Nat.reduceLT, Int.reduceLE, Int.reduceLT, Int.reduceAdd, Int.reduceSub, Int.reduceToNat, Nat.reduceMul]) ?_
  rw [iv_nat]
  simp (maxSteps := 1000000) (disch := first | omega | (simp only [LL]; omega)) only [W, V, TY, CC, reduceIte, Nat.reduceEqDiff, Nat.reduceAdd, Nat.reduceLeDiff, Nat.reduceLT, Int.reduceLE, Int.reduceLT, Int.reduceAdd, Int.reduceSub, Int.reduceToNat, Nat.reduceMul, intC_nat]
  refine a_call _ _ (ri_Mul (decide (y < 0)) false (nl y.natAbs) (nl u) (nl_lim _) (nl_lim _) (show zl y < _ by omega) (by omega)) (by simp (maxSteps := 1000000) (disch := first | omega | (simp only [LL]; omega)) only [W, V, TY, CC, reduceIte, Nat.reduceEqDiff, Nat.reduceAdd, Nat.reduceLeDiff, Nat.reduceLT, Int.reduceLE, Int.reduceLT, Int.reduceAdd, Int.reduceSub, Int.reduceToNat, Nat.reduceMul]) ?_
  rw [iv_nat, iv_nl, hY]
  simp (maxSteps := 1000000) (disch := first | omega | (simp only [LL]; omega)) only [W, V, TY, CC, reduceIte, Nat.reduceEqDiff, Nat.reduceAdd, Nat.reduceLeDiff, Nat.reduceLT, Int.reduceLE, Int.reduceLT, Int.reduceAdd, Int.reduceSub, Int.reduceToNat, Nat.reduceMul, intC]
  refine a_call _ _ (ri_Add (decide (X < 0)) (decide (Y < 0)) (nl X.natAbs) (nl Y.natAbs) (nl_lim _) (nl_lim _) (show zl X < _ by omega) (show zl Y < _ by omega)) (by simp (maxSteps := 1000000) (disch := first | omega | (simp only [LL]; omega)) only [W, V, TY, CC, reduceIte, Nat.reduceEqDiff, Nat.reduceAdd, Nat.reduceLeDiff, Nat.reduceLT, Int.reduceLE, Int.reduceLT, Int.reduceAdd, Int.reduceSub, Int.reduceToNat, Nat.reduceMul]) ?_
  rw [iv_nl, iv_nl]
  simp (maxSteps := 1000000) (disch := first | omega | (simp only [LL]; omega)) only [W, V, TY, CC, reduceIte, Nat.reduceEqDiff, Nat.reduceAdd, Nat.reduceLeDiff, Nat.reduceLT, Int.reduceLE, Int.reduceLT, Int.reduceAdd, Int.reduceSub, Int.reduceToNat, Nat.reduceMul, intC]
  refine a_call _ _ c3 (by simp (maxSteps := 1000000) (disch := first | omega | (simp only [LL]; omega)) only [W, V, TY, CC, reduceIte, Nat.reduceEqDiff, Nat.reduceAdd, Nat.reduceLeDiff, Nat.reduceLT, Int.reduceLE, Int.reduceLT, Int.reduceAdd, Int.reduceSub, Int.reduceToNat, Nat.reduceMul]) ?_
  simp (maxSteps := 1000000) (disch := first | omega | (simp only [LL]; omega)) only [W, V, TY, CC, reduceIte, Nat.reduceEqDiff, Nat.reduceAdd, Nat.reduceLeDiff, Nat.reduceLT, Int.reduceLE, Int.reduceLT, Int.reduceAdd, Int.reduceSub, Int.reduceToNat, Nat.reduceMul]
  refine a_call _ _ c4 (by simp (maxSteps := 1000000) (disch := first | omega | (simp only [LL]; omega)) only [W, V, TY, CC, reduceIte, Nat.reduceEqDiff, Nat.reduceAdd, Nat.reduceLeDiff, Nat.reduceLT, Int.reduceLE, Int.reduceLT, Int.reduceAdd, Int.reduceSub, Int.reduceToNat, Nat.reduceMul]) ?_
  simp (maxSteps := 1000000) (disch := first | omega | (simp only [LL]; omega)) only [W, V, TY, CC, reduceIte, Nat.reduceEqDiff, Nat.reduceAdd, Nat.reduceLeDiff, Nat.reduceLT, Int.reduceLE, Int.reduceLT, Int.reduceAdd, Int.reduceSub, Int.reduceToNat, Nat.reduceMul]
  refine a_call _ _ (ref_Mul (nl u) (nl v) (nl_lim _) (nl_lim _) (by omega) (by omega)) (by simp (maxSteps := 1000000) (disch := first | omega | (simp only [LL]; omega)) only [W, V, TY, CC, reduceIte, Nat.reduceEqDiff, Nat.reduceAdd, Nat.reduceLeDiff, Nat.reduceLT, Int.reduceLE, Int.reduceLT, Int.reduceAdd, Int.reduceSub, Int.reduceToNat, Nat.reduceMul]) ?_
  rw [nv_nl, nv_nl]
  simp (maxSteps := 1000000) (disch := first | omega | (simp only [LL]; omega)) only [W, V, TY, CC, reduceIte, Nat.reduceEqDiff, Nat.reduceAdd, Nat.reduceLeDiff, Nat.reduceLT, Int.reduceLE, Int.reduceLT, Int.reduceAdd, Int.reduceSub, Int.reduceToNat, Nat.reduceMul]
  refine a_call _ _ (rr_reduce (decide (X + Y < 0)) (nl (X + Y).natAbs) (nl (u * v)) (nl_lim _) (nl_lim _) (show zl (X + Y) < _ by omega) (by omega) (by rw [nv_nl]; omega)) (by simp (maxSteps := 1000000) (disch := first | omega | (simp only [LL]; omega)) only [W, V, TY, CC, reduceIte, Nat.reduceEqDiff, Nat.reduceAdd, Nat.reduceLeDiff, Nat.reduceLT, Int.reduceLE, Int.reduceLT, Int.reduceAdd, Int.reduceSub, Int.reduceToNat, Nat.reduceMul]) ?_
  rw [rv_mk]
  simp (maxSteps := 1000000) (disch := first | omega | (simp only [LL]; omega)) only [W, V, TY, CC, reduceIte, Nat.reduceEqDiff, Nat.reduceAdd, Nat.reduceLeDiff, Nat.reduceLT, Int.reduceLE, Int.reduceLT, Int.reduceAdd, Int.reduceSub, Int.reduceToNat, Nat.reduceMul, ratC]
  refine f_ret _ _ _ ?_
  simp (maxSteps := 1000000) (disch := first | omega | (simp only [LL]; omega)) only [W, V, TY, CC, reduceIte, Nat.reduceEqDiff, Nat.reduceAdd, Nat.reduceLeDiff, Nat.reduceLT, Int.reduceLE, Int.reduceLT, Int.reduceAdd, Int.reduceSub, Int.reduceToNat, Nat.reduceMul, ratC]
/-- examboard/examboardref03.Mul -/
def b52 : AF := ⟨16, 2, [.cell 4 27],
  (.seq (.reg [
    ⟨some 2, .box 27 (.tmp 0), none⟩,
    ⟨some 3, .box 27 (.tmp 1), none⟩,
    ⟨some 4, .alloc 27, none⟩])
  (.seq (.dreg [
    ⟨some 5, .load 27 (.tmp 2), none⟩,
    ⟨some 6, .call ⟨(.value (.func 89)), #[(.tmp 5)], #[27]⟩, none⟩,
    ⟨some 7, .load 27 (.tmp 3), none⟩,
    ⟨some 8, .call ⟨(.value (.func 89)), #[(.tmp 7)], #[27]⟩, none⟩,
    ⟨some 9, .call ⟨(.value (.func 88)), #[(.tmp 6), (.tmp 8)], #[25, 25]⟩, none⟩,
    ⟨some 10, .load 27 (.tmp 2), none⟩,
    ⟨some 11, .call ⟨(.value (.func 91)), #[(.tmp 10)], #[27]⟩, none⟩,
    ⟨some 12, .load 27 (.tmp 3), none⟩,
    ⟨some 13, .call ⟨(.value (.func 91)), #[(.tmp 12)], #[27]⟩, none⟩,
    ⟨some 14, .call ⟨(.value (.func 94)), #[(.tmp 11), (.tmp 13)], #[23, 23]⟩, none⟩,
    ⟨some 15, .call ⟨(.value (.func 92)), #[(.tmp 9), (.tmp 14)], #[25, 23]⟩, none⟩,
    ⟨none, .store 27 (.tmp 4) (.tmp 15), none⟩])
  .ret))⟩
theorem c52 : fcomp Tryz.prog 52 = ⟨b52.n, b52.np, b52.res, b52.body.bare⟩ := by kernel_rfl
theorem k52 : fok Tryz.prog 52 = true := by kernel_rfl
theorem rr_Mul (n : Bool) (m d : List Int) (n' : Bool) (m' d' : List Int) (hm : Lim m) (hd : Lim d) (hm' : Lim m') (hd' : Lim d') (lm : m.length < 68719476736) (ld : d.length < 68719476736) (lm' : m'.length < 68719476736) (ld' : d'.length < 68719476736) :
    AFun Tryz.prog 52 [.agg [.lit (.bool n), natD m, natD d], .agg [.lit (.bool n'), natD m', natD d']] [.agg (ratC (rv n m d * rv n' m' d'))] := by
  refine afun_intro mo_ _ _ c52 k52 _ _ rfl (by decide) ?_
  unfold b52
  have p1 := pD_pos d
  have p2 := pD_pos d'
  rw [← rv_tp n m d, ← rv_tp n' m' d', Rat.mkRat_mul_mkRat]
  have k1 : zl (tp n m d) ≤ m.length := zl_tp hm
  have k2 : zl (tp n' m' d') ≤ m'.length := zl_tp hm'
  have k3 := pD_len hd
  have k4 := pD_len hd'
  have k7 := zl_mul (tp n m d) (tp n' m' d')
  have k9 := zl_nat (pD d)
  have k10 := zl_nat (pD d')
  have k11 := zl_mul (pD d : Int) (pD d' : Int)
  rw [← Int.natCast_mul] at k11
  have k12 := zl_nat (pD d * pD d')
  have p3 := Nat.mul_pos p1 p2
  have c1 := rr_top n m d hm hd (by omega) (by omega)
  have c2 := rr_top n' m' d' hm' hd' (by omega) (by omega)
  have c3 := rr_low n m d hd (by omega)
  have c4 := rr_low n' m' d' hd' (by omega)
  generalize tp n m d = x at *
  generalize tp n' m' d' = y at *
  generalize pD d = u at *
  generalize pD d' = v at *
  generalize hX : x * y = X at *
  simp (maxSteps := 1000000) (disch := first | omega | (simp only [LL]; omega)) only [W, V, TY, CC, reduceIte, Nat.reduceEqDiff, Nat.reduceAdd, Nat.reduceLeDiff, Nat.reduceLT, Int.reduceLE, Int.reduceLT, Int.reduceAdd, Int.reduceSub, Int.reduceToNat, Nat.reduceMul]
  refine a_call _ _ c1 (by simp (maxSteps := 1000000) (disch := first | omega | (simp only [LL]; omega)) only [W, V, TY, CC, reduceIte, Nat.reduceEqDiff, Nat.reduceAdd, Nat.reduceLeDiff, Nat.reduceLT, Int.reduceLE, Int.reduceLT, Int.reduceAdd, Int.reduceSub, Int.reduceToNat, Nat.reduceMul]) ?_
  simp (maxSteps := 1000000) (disch := first | omega | (simp only [LL]; omega)) only [W, V, TY, CC, reduceIte, Nat.reduceEqDiff, Nat.reduceAdd, Nat.reduceLeDiff, Nat.reduceLT, Int.reduceLE, Int.reduceLT, Int.reduceAdd, Int.reduceSub, Int.reduceToNat, Nat.reduceMul, intC]
  refine a_call _ _ c2 (by simp (maxSteps := 1000000) (disch := first | omega | (simp only [LL]; omega)) only [W, V, TY, CC, reduceIte, Nat.reduceEqDiff, Nat.reduceAdd, Nat.reduceLeDiff, Nat.reduceLT, Int.reduceLE, Int.reduceLT, Int.reduceAdd, Int.reduceSub, Int.reduceToNat, Nat.reduceMul]) ?_
  simp (maxSteps := 1000000) (disch := first | omega | (simp only [LL]; omega)) only [W, V, TY, CC, reduceIte, Nat.reduceEqDiff, Nat.reduceAdd, Nat.reduceLeDiff, Nat.reduceLT, Int.reduceLE, Int.reduceLT, Int.reduceAdd, Int.reduceSub, Int.reduceToNat, Nat.reduceMul, intC]
  refine a_call _ _ (ri_Mul (decide (x < 0)) (decide (y < 0)) (nl x.natAbs) (nl y.natAbs) (nl_lim _) (nl_lim _) (show zl x < _ by omega) (show zl y < _ by omega)) (by simp (maxSteps := 1000000) (disch := first | omega | (simp only [LL]; omega)) only [W, V, TY, CC, reduceIte, Nat.reduceEqDiff, Nat.reduceAdd, Nat.reduceLeDiff, Nat.reduceLT, Int.reduceLE, Int.reduceLT, Int.reduceAdd, Int.reduceSub, Int.reduceToNat, Nat.reduceMul]) ?_
  rw [iv_nl, iv_nl, hX]
  simp (maxSteps := 1000000) (disch := first | omega | (simp only [LL]; omega)) only [W, V, TY, CC, reduceIte, Nat.reduceEqDiff, Nat.reduceAdd, Nat.reduceLeDiff, Nat.reduceLT, Int.reduceLE, Int.reduceLT, Int.reduceAdd, Int.reduceSub, Int.reduceToNat, Nat.reduceMul, intC]
  refine a_call _ _ c3 (by simp (maxSteps := 1000000) (disch := first | omega | (simp only [LL]; omega)) only [W, V, TY, CC, reduceIte, Nat.reduceEqDiff, Nat.reduceAdd, Nat.reduceLeDiff, Nat.reduceLT, Int.reduceLE, Int.reduceLT, Int.reduceAdd, Int.reduceSub, Int.reduceToNat, Nat.reduceMul]) ?_
  simp (maxSteps := 1000000) (disch := first | omega | (simp only [LL]; omega)) only [W, V, TY, CC, reduceIte, Nat.reduceEqDiff, Nat.reduceAdd, Nat.reduceLeDiff, Nat.reduceLT, Int.reduceLE, Int.reduceLT, Int.reduceAdd, Int.reduceSub, Int.reduceToNat, Nat.reduceMul]
  refine a_call _ _ c4 (by simp (maxSteps := 1000000) (disch := first | omega | (simp only [LL]; omega)) only [W, V, TY, CC, reduceIte, Nat.reduceEqDiff, Nat.reduceAdd, Nat.reduceLeDiff, Nat.reduceLT, Int.reduceLE, Int.reduceLT, Int.reduceAdd, Int.reduceSub, Int.reduceToNat, Nat.reduceMul]) ?_
  simp (maxSteps := 1000000) (disch := first | omega | (simp only [LL]; omega)) only [W, V, TY, CC, reduceIte, Nat.reduceEqDiff, Nat.reduceAdd, Nat.reduceLeDiff, Nat.reduceLT, Int.reduceLE, Int.reduceLT, Int.reduceAdd, Int.reduceSub, Int.reduceToNat, Nat.reduceMul]
  refine a_call _ _ (ref_Mul (nl u) (nl v) (nl_lim _) (nl_lim _) (by omega) (by omega)) (by simp (maxSteps := 1000000) (disch := first | omega | (simp only [LL]; omega)) only [W, V, TY, CC, reduceIte, Nat.reduceEqDiff, Nat.reduceAdd, Nat.reduceLeDiff, Nat.reduceLT, Int.reduceLE, Int.reduceLT, Int.reduceAdd, Int.reduceSub, Int.reduceToNat, Nat.reduceMul]) ?_
  rw [nv_nl, nv_nl]
  simp (maxSteps := 1000000) (disch := first | omega | (simp only [LL]; omega)) only [W, V, TY, CC, reduceIte, Nat.reduceEqDiff, Nat.reduceAdd, Nat.reduceLeDiff, Nat.reduceLT, Int.reduceLE, Int.reduceLT, Int.reduceAdd, Int.reduceSub, Int.reduceToNat, Nat.reduceMul]
  refine a_call _ _ (rr_reduce (decide (X < 0)) (nl X.natAbs) (nl (u * v)) (nl_lim _) (nl_lim _) (show zl X < _ by omega) (by omega) (by rw [nv_nl]; omega)) (by simp (maxSteps := 1000000) (disch := first | omega | (simp only [LL]; omega)) only [W, V, TY, CC, reduceIte, Nat.reduceEqDiff, Nat.reduceAdd, Nat.reduceLeDiff, Nat.reduceLT, Int.reduceLE, Int.reduceLT, Int.reduceAdd, Int.reduceSub, Int.reduceToNat, Nat.reduceMul]) ?_
  rw [rv_mk]
  simp (maxSteps := 1000000) (disch := first | omega | (simp only [LL]; omega)) only [W, V, TY, CC, reduceIte, Nat.reduceEqDiff, Nat.reduceAdd, Nat.reduceLeDiff, Nat.reduceLT, Int.reduceLE, Int.reduceLT, Int.reduceAdd, Int.reduceSub, Int.reduceToNat, Nat.reduceMul, ratC]
  refine f_ret _ _ _ ?_
  simp (maxSteps := 1000000) (disch := first | omega | (simp only [LL]; omega)) only [W, V, TY, CC, reduceIte, Nat.reduceEqDiff, Nat.reduceAdd, Nat.reduceLeDiff, Nat.reduceLT, Int.reduceLE, Int.reduceLT, Int.reduceAdd, Int.reduceSub, Int.reduceToNat, Nat.reduceMul, ratC]
/-- the size of a rational number -/
theorem rv_size (n : Bool) {m d : List Int} (hm : Lim m) (hd : Lim d) : zl (rv n m d).num ≤ m.length ∧ (nl (rv n m d).den).length ≤ d.length + 1 := by
  by_cases h : nv d = 0
  · rw [rv_zero n m d (.inl h), Rat.zero_num, Rat.zero_den]
    refine ⟨?_, Nat.le_trans (nl_len (m := 1) (by decide)) (by omega)⟩
    unfold zl
    rw [show (0 : Int).natAbs = 0 from rfl, nl_zero]
    simp
  · obtain ⟨e1, e2⟩ := low_num n m d h
    rw [e1, e2]
    refine ⟨?_, Nat.le_succ_of_le (nl_len_le hd (Nat.div_le_self _ _))⟩
    unfold zl
    rw [iv_abs, nv_nl]
    exact nl_len_le hm (Nat.div_le_self _ _)
/-- examboard/examboardref03.Sub -/
def b49 : AF := ⟨9, 2, [.cell 4 27],
  (.seq (.reg [
    ⟨some 2, .box 27 (.tmp 0), none⟩,
    ⟨some 3, .box 27 (.tmp 1), none⟩,
    ⟨some 4, .alloc 27, none⟩])
  (.seq (.dreg [
    ⟨some 5, .load 27 (.tmp 2), none⟩,
    ⟨some 6, .load 27 (.tmp 3), none⟩,
    ⟨some 7, .call ⟨(.value (.func 63)), #[(.tmp 6)], #[27]⟩, none⟩,
    ⟨some 8, .call ⟨(.value (.func 47)), #[(.tmp 5), (.tmp 7)], #[27, 27]⟩, none⟩,
    ⟨none, .store 27 (.tmp 4) (.tmp 8), none⟩])
  .ret))⟩
theorem c49 : fcomp Tryz.prog 49 = ⟨b49.n, b49.np, b49.res, b49.body.bare⟩ := by kernel_rfl
theorem k49 : fok Tryz.prog 49 = true := by kernel_rfl
theorem rr_Sub (n : Bool) (m d : List Int) (n' : Bool) (m' d' : List Int) (hm : Lim m) (hd : Lim d) (hm' : Lim m') (hd' : Lim d') (lm : m.length < 68719476736) (ld : d.length < 68719476736) (lm' : m'.length < 68719476736) (ld' : d'.length < 68719476735) :
    AFun Tryz.prog 49 [.agg [.lit (.bool n), natD m, natD d], .agg [.lit (.bool n'), natD m', natD d']] [.agg (ratC (rv n m d - rv n' m' d'))] := by
  refine afun_intro mo_ _ _ c49 k49 _ _ rfl (by decide) ?_
  unfold b49
  obtain ⟨s1, s2⟩ := rv_size n' hm' hd'
  have s3 : zl (-rv n' m' d').num = zl (rv n' m' d').num := by rw [Rat.neg_num, zl_neg]
  have s4 : (-rv n' m' d').den = (rv n' m' d').den := Rat.neg_den _
  rw [Rat.sub_eq_add_neg]
  have hc := rr_Neg n' m' d' hm' hd' lm' (by omega)
  have hb := rv_ratC (-rv n' m' d')
  generalize -rv n' m' d' = q at *
  rw [← s4] at s2
  simp (maxSteps := 1000000) (disch := first | omega | (simp only [LL]; omega)) only [W, V, TY, CC, reduceIte, Nat.reduceEqDiff, Nat.reduceAdd, Nat.reduceLeDiff, Nat.reduceLT, Int.reduceLE, Int.reduceLT, Int.reduceAdd, Int.reduceSub, Int.reduceToNat, Nat.reduceMul]
  refine a_call _ _ hc (by simp (maxSteps := 1000000) (disch := first | omega | (simp only [LL]; omega)) only [W, V, TY, CC, reduceIte, Nat.reduceEqDiff, Nat.reduceAdd, Nat.reduceLeDiff, Nat.reduceLT, Int.reduceLE, Int.reduceLT, Int.reduceAdd, Int.reduceSub, Int.reduceToNat, Nat.reduceMul]) ?_
  simp (maxSteps := 1000000) (disch := first | omega | (simp only [LL]; omega)) only [W, V, TY, CC, reduceIte, Nat.reduceEqDiff, Nat.reduceAdd, Nat.reduceLeDiff, Nat.reduceLT, Int.reduceLE, Int.reduceLT, Int.reduceAdd, Int.reduceSub, Int.reduceToNat, Nat.reduceMul, ratC]
  refine a_call _ _ (rr_Add n m d (decide (q.num < 0)) (nl q.num.natAbs) (nl q.den) hm hd (nl_lim _) (nl_lim _) lm ld (show zl q.num < _ by omega) (by omega)) (by simp (maxSteps := 1000000) (disch := first | omega | (simp only [LL]; omega)) only [W, V, TY, CC, reduceIte, Nat.reduceEqDiff, Nat.reduceAdd, Nat.reduceLeDiff, Nat.reduceLT, Int.reduceLE, Int.reduceLT, Int.reduceAdd, Int.reduceSub, Int.reduceToNat, Nat.reduceMul]) ?_
  rw [hb]
  simp (maxSteps := 1000000) (disch := first | omega | (simp only [LL]; omega)) only [W, V, TY, CC, reduceIte, Nat.reduceEqDiff, Nat.reduceAdd, Nat.reduceLeDiff, Nat.reduceLT, Int.reduceLE, Int.reduceLT, Int.reduceAdd, Int.reduceSub, Int.reduceToNat, Nat.reduceMul, ratC]
  refine f_ret _ _ _ ?_
  simp (maxSteps := 1000000) (disch := first | omega | (simp only [LL]; omega)) only [W, V, TY, CC, reduceIte, Nat.reduceEqDiff, Nat.reduceAdd, Nat.reduceLeDiff, Nat.reduceLT, Int.reduceLE, Int.reduceLT, Int.reduceAdd, Int.reduceSub, Int.reduceToNat, Nat.reduceMul, ratC]
end Go.Proofs.YtljmgdepldpmdaaGreatDoor.E

set_option linter.unusedSimpArgs false
set_option linter.unusedVariables false
set_option maxHeartbeats 2000000
namespace Go.Proofs.YtljmgdepldpmdaaGreatDoor.E
open Go.RowKit Limbs
/-- the limbs of a number in lowest terms -/
def qs (q : Rat) : Nat := max (zl q.num) (nl q.den).length
theorem qs_num (q : Rat) : (nl q.num.natAbs).length ≤ qs q := Nat.le_max_left _ _
theorem qs_den (q : Rat) : (nl q.den).length ≤ qs q := Nat.le_max_right _ _
theorem qs_rv (n : Bool) {m d : List Int} (hm : Lim m) (hd : Lim d) : qs (rv n m d) ≤ max m.length (d.length + 1) := by
  obtain ⟨h1, h2⟩ := rv_size n hm hd
  unfold qs
  omega
theorem qs_mk (x : Int) (k : Nat) : qs (mkRat x k) ≤ max (zl x) ((nl k).length + 1) := by
  rw [← rv_mk]
  exact qs_rv _ (nl_lim _) (nl_lim _)
theorem qs_sub (a b : Rat) : qs (a - b) ≤ qs a + qs b + 1 := by
  have ha := a.den_pos
  have hb := b.den_pos
  have e : a - b = mkRat (a.num * b.den - b.num * a.den) (a.den * b.den) := Rat.sub_def' a b
  rw [e]
  refine Nat.le_trans (qs_mk _ _) ?_
  have h1 := zl_sub (a.num * (b.den : Int)) (b.num * (a.den : Int))
  have h2 := zl_mul a.num (b.den : Int)
  have h3 := zl_mul b.num (a.den : Int)
  have h4 := zl_mul (a.den : Int) (b.den : Int)
  rw [← Int.natCast_mul] at h4
  have e1 := zl_nat a.den
  have e2 := zl_nat b.den
  have e3 := zl_nat (a.den * b.den)
  unfold qs
  omega
theorem qs_add (a b : Rat) : qs (a + b) ≤ qs a + qs b + 1 := by
  have e : a + b = mkRat (a.num * b.den + b.num * a.den) (a.den * b.den) := Rat.add_def' a b
  rw [e]
  refine Nat.le_trans (qs_mk _ _) ?_
  have h1 := zl_add (a.num * (b.den : Int)) (b.num * (a.den : Int))
  have h2 := zl_mul a.num (b.den : Int)
  have h3 := zl_mul b.num (a.den : Int)
  have h4 := zl_mul (a.den : Int) (b.den : Int)
  rw [← Int.natCast_mul] at h4
  have e1 := zl_nat a.den
  have e2 := zl_nat b.den
  have e3 := zl_nat (a.den * b.den)
  unfold qs
  omega
theorem qs_mul (a b : Rat) : qs (a * b) ≤ qs a + qs b + 1 := by
  have e : a * b = mkRat (a.num * b.num) (a.den * b.den) := Rat.mul_def' a b
  rw [e]
  refine Nat.le_trans (qs_mk _ _) ?_
  have h2 := zl_mul a.num b.num
  have h4 := zl_mul (a.den : Int) (b.den : Int)
  rw [← Int.natCast_mul] at h4
  have e1 := zl_nat a.den
  have e2 := zl_nat b.den
  have e3 := zl_nat (a.den * b.den)
  unfold qs
  omega
theorem qs_div (x y : Int) : qs (Rat.divInt x y) ≤ max (zl x) (zl y + 1) := by
  by_cases h : y = 0
  · rw [h, Rat.divInt_zero]
    refine Nat.le_trans ?_ (Nat.le_max_right _ _)
    unfold qs zl
    rw [Rat.zero_num, Rat.zero_den, show (0 : Int).natAbs = 0 from rfl, nl_zero]
    have : (nl 1).length ≤ 1 := nl_len (by decide)
    simp
    omega
  · rw [divInt_abs x y h]
    refine Nat.le_trans (qs_mk _ _) ?_
    have : zl (if y < 0 then -x else x) = zl x := by split; exact zl_neg x; rfl
    rw [this]
    exact Nat.le_refl _
theorem zl_i64 {x : Int} (x0 : -9223372036854775808 ≤ x) (x1 : x < 9223372036854775808) : zl x ≤ 2 := nl_len (by omega)
section
variable {a b : Rat} (ha : qs a < 68719476730) (hb : qs b < 68719476730)
theorem rat_Cmp' (n : Bool) (m d : List Int) (hm : Lim m) (hd : Lim d) (lm : m.length < 68719476736) (ld : d.length < 68719476736) (hb : qs b < 68719476730) : AFun Tryz.prog 51 [.agg [.lit (.bool n), natD m, natD d], .agg (ratC b)] [.one (.lit (.int .i64 (cmpQ (rv n m d) b)))] := by
  have h3 := qs_num b
  have h4 := qs_den b
  have := rat_Cmp n m d (decide (b.num < 0)) (nl b.num.natAbs) (nl b.den) hm hd (nl_lim _) (nl_lim _) lm ld (by omega) (by omega)
  rwa [rv_ratC] at this
include ha hb
theorem rat_Cmp2 : AFun Tryz.prog 51 [.agg (ratC a), .agg (ratC b)] [.one (.lit (.int .i64 (cmpQ a b)))] := by
  have h1 := qs_num a
  have h2 := qs_den a
  have := rat_Cmp' (b := b) (decide (a.num < 0)) (nl a.num.natAbs) (nl a.den) (nl_lim _) (nl_lim _) (by omega) (by omega) hb
  rwa [rv_ratC] at this
theorem rat_Sub2 : AFun Tryz.prog 48 [.agg (ratC a), .agg (ratC b)] [.agg (ratC (a - b))] := by
  have h1 := qs_num a
  have h2 := qs_den a
  have h3 := qs_num b
  have h4 := qs_den b
  have := rat_Sub (decide (a.num < 0)) (nl a.num.natAbs) (nl a.den) (decide (b.num < 0)) (nl b.num.natAbs) (nl b.den) (nl_lim _) (nl_lim _) (nl_lim _) (nl_lim _) (by omega) (by omega) (by omega) (by omega)
  rwa [rv_ratC, rv_ratC] at this
theorem rat_Mul2 : AFun Tryz.prog 50 [.agg (ratC a), .agg (ratC b)] [.agg (ratC (a * b))] := by
  have h1 := qs_num a
  have h2 := qs_den a
  have h3 := qs_num b
  have h4 := qs_den b
  have := rat_Mul (decide (a.num < 0)) (nl a.num.natAbs) (nl a.den) (decide (b.num < 0)) (nl b.num.natAbs) (nl b.den) (nl_lim _) (nl_lim _) (nl_lim _) (nl_lim _) (by omega) (by omega) (by omega) (by omega)
  rwa [rv_ratC, rv_ratC] at this
theorem rr_Cmp2 : AFun Tryz.prog 80 [.agg (ratC a), .agg (ratC b)] [.one (.lit (.int .i64 (cmpQ a b)))] := by
  have h1 := qs_num a
  have h2 := qs_den a
  have h3 := qs_num b
  have h4 := qs_den b
  have := rr_Cmp (decide (a.num < 0)) (nl a.num.natAbs) (nl a.den) (decide (b.num < 0)) (nl b.num.natAbs) (nl b.den) (nl_lim _) (nl_lim _) (nl_lim _) (nl_lim _) (by omega) (by omega) (by omega) (by omega)
  rwa [rv_ratC, rv_ratC] at this
theorem rr_Sub2 : AFun Tryz.prog 49 [.agg (ratC a), .agg (ratC b)] [.agg (ratC (a - b))] := by
  have h1 := qs_num a
  have h2 := qs_den a
  have h3 := qs_num b
  have h4 := qs_den b
  have := rr_Sub (decide (a.num < 0)) (nl a.num.natAbs) (nl a.den) (decide (b.num < 0)) (nl b.num.natAbs) (nl b.den) (nl_lim _) (nl_lim _) (nl_lim _) (nl_lim _) (by omega) (by omega) (by omega) (by omega)
  rwa [rv_ratC, rv_ratC] at this
theorem rr_Mul2 : AFun Tryz.prog 52 [.agg (ratC a), .agg (ratC b)] [.agg (ratC (a * b))] := by
  have h1 := qs_num a
  have h2 := qs_den a
  have h3 := qs_num b
  have h4 := qs_den b
  have := rr_Mul (decide (a.num < 0)) (nl a.num.natAbs) (nl a.den) (decide (b.num < 0)) (nl b.num.natAbs) (nl b.den) (nl_lim _) (nl_lim _) (nl_lim _) (nl_lim _) (by omega) (by omega) (by omega) (by omega)
  rwa [rv_ratC, rv_ratC] at this
end
end Go.Proofs.YtljmgdepldpmdaaGreatDoor.E

set_option linter.unusedSimpArgs false
set_option linter.unusedVariables false
set_option maxHeartbeats 2000000
namespace Go.Proofs.YtljmgdepldpmdaaGreatDoor.E
open Go.RowKit Limbs
theorem divInt_one (x : Int) : Rat.divInt x 1 = (x : Rat) := by rw [Rat.divInt_eq_div]; show (x : Rat) / ((1 : Int) : Rat) = x; rw [show ((1 : Int) : Rat) = 1 from rfl]; grind
theorem cmpQ_lt (a b : Rat) : cmpQ a b < 0 ↔ a < b := by
  unfold cmpQ
  by_cases h1 : a < b
  · rw [if_pos h1]; exact ⟨fun _ => h1, fun _ => by decide⟩
  · rw [if_neg h1]
    split
    · exact ⟨fun h => absurd h (by decide), fun h => absurd h h1⟩
    · exact ⟨fun h => absurd h (by decide), fun h => absurd h h1⟩
end Go.Proofs.YtljmgdepldpmdaaGreatDoor.E
