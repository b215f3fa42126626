/- grid.within, nat.Of; no condition. -/
import Derived.Test.YthhaoojgfbofnaaUTrim
set_option linter.unusedSimpArgs false
set_option linter.unusedVariables false
namespace Go.Proofs.Ythhaoojgfbofnaa.E
open Go.RowKit Limbs
/-- examboard/grid.within -/
def b31 : AF := ⟨15, 3, [.tmp 6],
  (.seq (.reg [
    ⟨some 6, .assign (.const (.bool false)), none⟩])
  (.seq (.reg [
    ⟨some 7, .move (.tmp 0), none⟩,
    ⟨some 8, .move (.tmp 1), none⟩,
    ⟨some 9, .binOp .geq 3 (.tmp 7) (.tmp 8) 3, none⟩,
    ⟨some 10, .move (.tmp 9), none⟩,
    ⟨some 11, .move (.tmp 0), some (10, true)⟩,
    ⟨some 12, .move (.tmp 2), some (10, true)⟩,
    ⟨some 13, .binOp .leq 3 (.tmp 11) (.tmp 12) 3, some (10, true)⟩,
    ⟨some 14, .pick (.tmp 10) (.tmp 13) (.const (.bool false)), none⟩,
    ⟨some 6, .assign (.tmp 14), none⟩])
  .ret))⟩
theorem c31 : fcomp Try.prog 31 = ⟨b31.n, b31.np, b31.res, b31.body.bare⟩ := by kernel_rfl
theorem k31 : fok Try.prog 31 = true := by kernel_rfl
/-- examboard/nat.Of -/
def b29 : AF := ⟨11, 1, [.tmp 2],
  (.seq (.reg [
    ⟨some 2, .assign (.const (.slice none 0 0)), none⟩])
  (.seq (.reg [
    ⟨some 3, .move (.tmp 0), none⟩,
    ⟨some 4, .binOp .and 55 (.tmp 3) (.const (.int .u64 4294967295)) 55, none⟩,
    ⟨some 5, .convert 55 56 (.tmp 4), none⟩,
    ⟨some 6, .move (.tmp 0), none⟩,
    ⟨some 7, .binOp .shr 55 (.tmp 6) (.const (.int .u64 32)) 68, none⟩,
    ⟨some 8, .convert 55 56 (.tmp 7), none⟩,
    ⟨some 9, .buildSlice 36 2 #[(0, (.tmp 5)), (1, (.tmp 8))], none⟩,
    ⟨some 10, .call ⟨(.value (.func 48)), #[(.tmp 9)], #[36]⟩, none⟩,
    ⟨some 2, .assign (.tmp 10), none⟩])
  .ret))⟩
theorem c29 : fcomp Try.prog 29 = ⟨b29.n, b29.np, b29.res, b29.body.bare⟩ := by kernel_rfl
theorem k29 : fok Try.prog 29 = true := by kernel_rfl
theorem grid_within (a lo hi : Int) : AFun Try.prog 31 [.one (.lit (.int .i64 a)), .one (.lit (.int .i64 lo)), .one (.lit (.int .i64 hi))] [.one (.lit (.bool (decide (lo ≤ a ∧ a ≤ hi))))] := by
  refine afun_intro mo_ _ _ c31 k31 _ _ rfl (by decide) ?_
  unfold b31
  simp (maxSteps := 1000000) (disch := first | omega | (simp only [List.length_set, List.length_append, List.length_replicate, List.length_take, List.length_drop, List.length_cons, List.length_nil, List.length_map]; omega)) only [W, V, TY, reduceIte, Nat.reduceEqDiff, Option.isSome_some, true_and, and_true, and_self, decide_true, decide_false, if_true, if_false, Bool.false_eq_true, Bool.true_eq_false, Option.map_some, Option.map_none, Option.some.injEq, eq_self, Int.toNat_natCast, List.length_cons, List.length_nil, Nat.reduceAdd, Nat.reduceLeDiff, Nat.reduceLT, Nat.zero_add, List.take_succ_cons, List.take_zero, List.drop_succ_cons, Int.toNat_zero, List.drop_zero, forall_const, imp_self, List.replicate_succ, List.replicate_zero, List.flatten_cons, List.flatten_nil, List.cons_append, List.nil_append, List.append_nil, Nat.zero_mul, Nat.one_mul, Nat.mul_one, Int.reduceLE, Int.reduceLT, List.toList_toArray, Int.add_sub_cancel, Int.reduceAdd, Int.reduceSub, Int.reduceToNat, List.take_length, List.length_drop, List.map_cons, List.map_nil, Classical.not_not, not_true_eq_false, not_false_eq_true, List.length_set, List.length_replicate, Nat.reduceMul]
  refine g_split (fun hc => ?_) (fun hc => ?_)
  · simp (maxSteps := 1000000) (disch := first | omega | (simp only [List.length_set, List.length_append, List.length_replicate, List.length_take, List.length_drop, List.length_cons, List.length_nil, List.length_map]; omega)) only [W, V, TY, reduceIte, Nat.reduceEqDiff, Option.isSome_some, true_and, and_true, and_self, decide_true, decide_false, if_true, if_false, Bool.false_eq_true, Bool.true_eq_false, Option.map_some, Option.map_none, Option.some.injEq, eq_self, Int.toNat_natCast, List.length_cons, List.length_nil, Nat.reduceAdd, Nat.reduceLeDiff, Nat.reduceLT, Nat.zero_add, List.take_succ_cons, List.take_zero, List.drop_succ_cons, Int.toNat_zero, List.drop_zero, forall_const, imp_self, List.replicate_succ, List.replicate_zero, List.flatten_cons, List.flatten_nil, List.cons_append, List.nil_append, List.append_nil, Nat.zero_mul, Nat.one_mul, Nat.mul_one, Int.reduceLE, Int.reduceLT, List.toList_toArray, Int.add_sub_cancel, Int.reduceAdd, Int.reduceSub, Int.reduceToNat, List.take_length, List.length_drop, List.map_cons, List.map_nil, Classical.not_not, not_true_eq_false, not_false_eq_true, List.length_set, List.length_replicate, Nat.reduceMul, hc]
    refine f_ret _ _ _ ?_
    simp (maxSteps := 1000000) (disch := first | omega | (simp only [List.length_set, List.length_append, List.length_replicate, List.length_take, List.length_drop, List.length_cons, List.length_nil, List.length_map]; omega)) only [W, V, TY, reduceIte, Nat.reduceEqDiff, Option.isSome_some, true_and, and_true, and_self, decide_true, decide_false, if_true, if_false, Bool.false_eq_true, Bool.true_eq_false, Option.map_some, Option.map_none, Option.some.injEq, eq_self, Int.toNat_natCast, List.length_cons, List.length_nil, Nat.reduceAdd, Nat.reduceLeDiff, Nat.reduceLT, Nat.zero_add, List.take_succ_cons, List.take_zero, List.drop_succ_cons, Int.toNat_zero, List.drop_zero, forall_const, imp_self, List.replicate_succ, List.replicate_zero, List.flatten_cons, List.flatten_nil, List.cons_append, List.nil_append, List.append_nil, Nat.zero_mul, Nat.one_mul, Nat.mul_one, Int.reduceLE, Int.reduceLT, List.toList_toArray, Int.add_sub_cancel, Int.reduceAdd, Int.reduceSub, Int.reduceToNat, List.take_length, List.length_drop, List.map_cons, List.map_nil, Classical.not_not, not_true_eq_false, not_false_eq_true, List.length_set, List.length_replicate, Nat.reduceMul]
  · simp (maxSteps := 1000000) (disch := first | omega | (simp only [List.length_set, List.length_append, List.length_replicate, List.length_take, List.length_drop, List.length_cons, List.length_nil, List.length_map]; omega)) only [W, V, TY, reduceIte, Nat.reduceEqDiff, Option.isSome_some, true_and, and_true, and_self, decide_true, decide_false, if_true, if_false, Bool.false_eq_true, Bool.true_eq_false, Option.map_some, Option.map_none, Option.some.injEq, eq_self, Int.toNat_natCast, List.length_cons, List.length_nil, Nat.reduceAdd, Nat.reduceLeDiff, Nat.reduceLT, Nat.zero_add, List.take_succ_cons, List.take_zero, List.drop_succ_cons, Int.toNat_zero, List.drop_zero, forall_const, imp_self, List.replicate_succ, List.replicate_zero, List.flatten_cons, List.flatten_nil, List.cons_append, List.nil_append, List.append_nil, Nat.zero_mul, Nat.one_mul, Nat.mul_one, Int.reduceLE, Int.reduceLT, List.toList_toArray, Int.add_sub_cancel, Int.reduceAdd, Int.reduceSub, Int.reduceToNat, List.take_length, List.length_drop, List.map_cons, List.map_nil, Classical.not_not, not_true_eq_false, not_false_eq_true, List.length_set, List.length_replicate, Nat.reduceMul, hc]
    refine f_ret _ _ _ ?_
    simp (maxSteps := 1000000) (disch := first | omega | (simp only [List.length_set, List.length_append, List.length_replicate, List.length_take, List.length_drop, List.length_cons, List.length_nil, List.length_map]; omega)) only [W, V, TY, reduceIte, Nat.reduceEqDiff, Option.isSome_some, true_and, and_true, and_self, decide_true, decide_false, if_true, if_false, Bool.false_eq_true, Bool.true_eq_false, Option.map_some, Option.map_none, Option.some.injEq, eq_self, Int.toNat_natCast, List.length_cons, List.length_nil, Nat.reduceAdd, Nat.reduceLeDiff, Nat.reduceLT, Nat.zero_add, List.take_succ_cons, List.take_zero, List.drop_succ_cons, Int.toNat_zero, List.drop_zero, forall_const, imp_self, List.replicate_succ, List.replicate_zero, List.flatten_cons, List.flatten_nil, List.cons_append, List.nil_append, List.append_nil, Nat.zero_mul, Nat.one_mul, Nat.mul_one, Int.reduceLE, Int.reduceLT, List.toList_toArray, Int.add_sub_cancel, Int.reduceAdd, Int.reduceSub, Int.reduceToNat, List.take_length, List.length_drop, List.map_cons, List.map_nil, Classical.not_not, not_true_eq_false, not_false_eq_true, List.length_set, List.length_replicate, Nat.reduceMul, false_and]
theorem nat_Of (n : Int) (h0 : 0 ≤ n) (h1 : n < 18446744073709551616) : AFun Try.prog 29 [.one (.lit (.int .u64 n))] [.one (natD (nl n.toNat))] := by
  refine afun_intro mo_ _ _ c29 k29 _ _ rfl (by decide) ?_
  unfold b29
  simp (maxSteps := 1000000) (disch := first | omega | (simp only [List.length_set, List.length_append, List.length_replicate, List.length_take, List.length_drop, List.length_cons, List.length_nil, List.length_map]; omega)) only [W, V, TY, reduceIte, Nat.reduceEqDiff, Option.isSome_some, true_and, and_true, and_self, decide_true, decide_false, if_true, if_false, Bool.false_eq_true, Bool.true_eq_false, Option.map_some, Option.map_none, Option.some.injEq, eq_self, Int.toNat_natCast, List.length_cons, List.length_nil, Nat.reduceAdd, Nat.reduceLeDiff, Nat.reduceLT, Nat.zero_add, List.take_succ_cons, List.take_zero, List.drop_succ_cons, Int.toNat_zero, List.drop_zero, forall_const, imp_self, List.replicate_succ, List.replicate_zero, List.flatten_cons, List.flatten_nil, List.cons_append, List.nil_append, List.append_nil, Nat.zero_mul, Nat.one_mul, Nat.mul_one, Int.reduceLE, Int.reduceLT, List.toList_toArray, Int.add_sub_cancel, Int.reduceAdd, Int.reduceSub, Int.reduceToNat, List.take_length, List.length_drop, List.map_cons, List.map_nil, Classical.not_not, not_true_eq_false, not_false_eq_true, List.length_set, List.length_replicate, Nat.reduceMul]
  refine a_call _ _ (nat_trim [n % 4294967296, n / 4294967296] (Lim.cons (by omega) (by omega) (Lim.one (by omega) (by omega))) (by simp)) rfl ?_
  simp (maxSteps := 1000000) (disch := first | omega | (simp only [List.length_set, List.length_append, List.length_replicate, List.length_take, List.length_drop, List.length_cons, List.length_nil, List.length_map]; omega)) only [W, V, TY, reduceIte, Nat.reduceEqDiff, Option.isSome_some, true_and, and_true, and_self, decide_true, decide_false, if_true, if_false, Bool.false_eq_true, Bool.true_eq_false, Option.map_some, Option.map_none, Option.some.injEq, eq_self, Int.toNat_natCast, List.length_cons, List.length_nil, Nat.reduceAdd, Nat.reduceLeDiff, Nat.reduceLT, Nat.zero_add, List.take_succ_cons, List.take_zero, List.drop_succ_cons, Int.toNat_zero, List.drop_zero, forall_const, imp_self, List.replicate_succ, List.replicate_zero, List.flatten_cons, List.flatten_nil, List.cons_append, List.nil_append, List.append_nil, Nat.zero_mul, Nat.one_mul, Nat.mul_one, Int.reduceLE, Int.reduceLT, List.toList_toArray, Int.add_sub_cancel, Int.reduceAdd, Int.reduceSub, Int.reduceToNat, List.take_length, List.length_drop, List.map_cons, List.map_nil, Classical.not_not, not_true_eq_false, not_false_eq_true, List.length_set, List.length_replicate, Nat.reduceMul]
  refine f_ret _ _ _ ?_
  simp (maxSteps := 1000000) (disch := first | omega | (simp only [List.length_set, List.length_append, List.length_replicate, List.length_take, List.length_drop, List.length_cons, List.length_nil, List.length_map]; omega)) only [W, V, TY, reduceIte, Nat.reduceEqDiff, Option.isSome_some, true_and, and_true, and_self, decide_true, decide_false, if_true, if_false, Bool.false_eq_true, Bool.true_eq_false, Option.map_some, Option.map_none, Option.some.injEq, eq_self, Int.toNat_natCast, List.length_cons, List.length_nil, Nat.reduceAdd, Nat.reduceLeDiff, Nat.reduceLT, Nat.zero_add, List.take_succ_cons, List.take_zero, List.drop_succ_cons, Int.toNat_zero, List.drop_zero, forall_const, imp_self, List.replicate_succ, List.replicate_zero, List.flatten_cons, List.flatten_nil, List.cons_append, List.nil_append, List.append_nil, Nat.zero_mul, Nat.one_mul, Nat.mul_one, Int.reduceLE, Int.reduceLT, List.toList_toArray, Int.add_sub_cancel, Int.reduceAdd, Int.reduceSub, Int.reduceToNat, List.take_length, List.length_drop, List.map_cons, List.map_nil, Classical.not_not, not_true_eq_false, not_false_eq_true, List.length_set, List.length_replicate, Nat.reduceMul]
  rw [show tr [n % 4294967296, n / 4294967296] = nl n.toNat by unfold tr nv; simp only [val]; congr 1; omega]

/-- examboard/examboardref01.Norm -/
def b49 : AF := ⟨25, 1, [.tmp 2],
  (.seq (.reg [
    ⟨some 2, .assign (.const (.slice none 0 0)), none⟩])
  (.seq (.reg [
    ⟨some 5, .move (.tmp 0), none⟩,
    ⟨some 6, .call ⟨(.builtin .len), #[(.tmp 5)], #[36]⟩, none⟩,
    ⟨some 3, .assign (.tmp 6), none⟩])
  (.seq (.block 0 (.loop (.seq (.seq (.reg [
    ⟨some 7, .move (.tmp 3), none⟩,
    ⟨some 8, .binOp .gtr 3 (.tmp 7) (.const (.int .i64 0)) 3, none⟩,
    ⟨some 9, .move (.tmp 8), none⟩,
    ⟨some 10, .move (.tmp 0), some (9, true)⟩,
    ⟨some 11, .move (.tmp 3), some (9, true)⟩,
    ⟨some 12, .binOp .sub 3 (.tmp 11) (.const (.int .i64 1)) 3, some (9, true)⟩,
    ⟨some 13, .indexAddr 36 (.tmp 10) (.tmp 12), some (9, true)⟩,
    ⟨some 14, .load 56 (.tmp 13), some (9, true)⟩,
    ⟨some 15, .binOp .eql 56 (.tmp 14) (.const (.int .u32 0)) 56, some (9, true)⟩,
    ⟨some 16, .pick (.tmp 9) (.tmp 15) (.const (.bool false)), none⟩])
  (.cond (.tmp 16)
    .skip
    (.exit 0)))
  (.block 1 (.reg [
    ⟨some 17, .move (.tmp 3), none⟩,
    ⟨some 18, .binOp .sub 3 (.tmp 17) (.const (.int .i64 1)) 3, none⟩,
    ⟨some 3, .assign (.tmp 18), none⟩])))))
  (.seq (.reg [
    ⟨some 19, .move (.tmp 3), none⟩,
    ⟨some 20, .makeSlice 36 (.tmp 19) (.tmp 19), none⟩,
    ⟨some 4, .assign (.tmp 20), none⟩])
  (.seq (.reg [
    ⟨some 21, .move (.tmp 4), none⟩,
    ⟨some 22, .move (.tmp 0), none⟩,
    ⟨some 23, .call ⟨(.builtin .copy), #[(.tmp 21), (.tmp 22)], #[36, 36]⟩, none⟩])
  (.seq (.reg [
    ⟨some 24, .move (.tmp 4), none⟩,
    ⟨some 2, .assign (.tmp 24), none⟩])
  .ret))))))⟩
theorem c49 : fcomp Try.prog 49 = ⟨b49.n, b49.np, b49.res, b49.body.bare⟩ := by kernel_rfl
theorem k49 : fok Try.prog 49 = true := by kernel_rfl
theorem ref_Norm (l : List Int) (hl : Lim l) (hb : l.length < 17592186044416) : AFun Try.prog 49 [.one (natD l)] [.one (natD (tr l))] := by
  refine afun_intro mo_ _ _ c49 k49 _ _ rfl (by decide) ?_
  unfold b49
  simp (maxSteps := 1000000) (disch := first | omega | (simp only [List.length_set, List.length_append, List.length_replicate, List.length_take, List.length_drop, List.length_cons, List.length_nil, List.length_map]; omega)) only [W, V, TY, reduceIte, Nat.reduceEqDiff, Option.isSome_some, true_and, and_true, and_self, decide_true, decide_false, if_true, if_false, Bool.false_eq_true, Bool.true_eq_false, Option.map_some, Option.map_none, Option.some.injEq, eq_self, Int.toNat_natCast, List.length_cons, List.length_nil, Nat.reduceAdd, Nat.reduceLeDiff, Nat.reduceLT, Nat.zero_add, List.take_succ_cons, List.take_zero, List.drop_succ_cons, Int.toNat_zero, List.drop_zero, forall_const, imp_self, List.replicate_succ, List.replicate_zero, List.flatten_cons, List.flatten_nil, List.cons_append, List.nil_append, List.append_nil, Nat.zero_mul, Nat.one_mul, Nat.mul_one, Int.reduceLE, Int.reduceLT, List.toList_toArray, Int.add_sub_cancel, Int.reduceAdd, Int.reduceSub, Int.reduceToNat, List.take_length, List.length_drop, List.map_cons, List.map_nil, Classical.not_not, not_true_eq_false, not_false_eq_true, List.length_set, List.length_replicate, Nat.reduceMul]
  refine w_loop (fun n s => ∃ i : Nat, n = i ∧ s.t 0 = .one (.dt (natD l)) ∧ s.t 3 = .one (.dt (.lit (.int .i64 i))) ∧ i ≤ l.length ∧ val (l.drop i) = 0 ∧ s.g 20 = 0) l.length ⟨l.length, rfl, ?_, ?_, Nat.le_refl _, by simp [val], ?_⟩ ?_
  · simp (maxSteps := 1000000) (disch := first | omega | (simp only [List.length_set, List.length_append, List.length_replicate, List.length_take, List.length_drop, List.length_cons, List.length_nil, List.length_map]; omega)) only [W, V, TY, reduceIte, Nat.reduceEqDiff, Option.isSome_some, true_and, and_true, and_self, decide_true, decide_false, if_true, if_false, Bool.false_eq_true, Bool.true_eq_false, Option.map_some, Option.map_none, Option.some.injEq, eq_self, Int.toNat_natCast, List.length_cons, List.length_nil, Nat.reduceAdd, Nat.reduceLeDiff, Nat.reduceLT, Nat.zero_add, List.take_succ_cons, List.take_zero, List.drop_succ_cons, Int.toNat_zero, List.drop_zero, forall_const, imp_self, List.replicate_succ, List.replicate_zero, List.flatten_cons, List.flatten_nil, List.cons_append, List.nil_append, List.append_nil, Nat.zero_mul, Nat.one_mul, Nat.mul_one, Int.reduceLE, Int.reduceLT, List.toList_toArray, Int.add_sub_cancel, Int.reduceAdd, Int.reduceSub, Int.reduceToNat, List.take_length, List.length_drop, List.map_cons, List.map_nil, Classical.not_not, not_true_eq_false, not_false_eq_true, List.length_set, List.length_replicate, Nat.reduceMul]
  · simp (maxSteps := 1000000) (disch := first | omega | (simp only [List.length_set, List.length_append, List.length_replicate, List.length_take, List.length_drop, List.length_cons, List.length_nil, List.length_map]; omega)) only [W, V, TY, reduceIte, Nat.reduceEqDiff, Option.isSome_some, true_and, and_true, and_self, decide_true, decide_false, if_true, if_false, Bool.false_eq_true, Bool.true_eq_false, Option.map_some, Option.map_none, Option.some.injEq, eq_self, Int.toNat_natCast, List.length_cons, List.length_nil, Nat.reduceAdd, Nat.reduceLeDiff, Nat.reduceLT, Nat.zero_add, List.take_succ_cons, List.take_zero, List.drop_succ_cons, Int.toNat_zero, List.drop_zero, forall_const, imp_self, List.replicate_succ, List.replicate_zero, List.flatten_cons, List.flatten_nil, List.cons_append, List.nil_append, List.append_nil, Nat.zero_mul, Nat.one_mul, Nat.mul_one, Int.reduceLE, Int.reduceLT, List.toList_toArray, Int.add_sub_cancel, Int.reduceAdd, Int.reduceSub, Int.reduceToNat, List.take_length, List.length_drop, List.map_cons, List.map_nil, Classical.not_not, not_true_eq_false, not_false_eq_true, List.length_set, List.length_replicate, Nat.reduceMul]
  · simp (maxSteps := 1000000) (disch := first | omega | (simp only [List.length_set, List.length_append, List.length_replicate, List.length_take, List.length_drop, List.length_cons, List.length_nil, List.length_map]; omega)) only [W, V, TY, reduceIte, Nat.reduceEqDiff, Option.isSome_some, true_and, and_true, and_self, decide_true, decide_false, if_true, if_false, Bool.false_eq_true, Bool.true_eq_false, Option.map_some, Option.map_none, Option.some.injEq, eq_self, Int.toNat_natCast, List.length_cons, List.length_nil, Nat.reduceAdd, Nat.reduceLeDiff, Nat.reduceLT, Nat.zero_add, List.take_succ_cons, List.take_zero, List.drop_succ_cons, Int.toNat_zero, List.drop_zero, forall_const, imp_self, List.replicate_succ, List.replicate_zero, List.flatten_cons, List.flatten_nil, List.cons_append, List.nil_append, List.append_nil, Nat.zero_mul, Nat.one_mul, Nat.mul_one, Int.reduceLE, Int.reduceLT, List.toList_toArray, Int.add_sub_cancel, Int.reduceAdd, Int.reduceSub, Int.reduceToNat, List.take_length, List.length_drop, List.map_cons, List.map_nil, Classical.not_not, not_true_eq_false, not_false_eq_true, List.length_set, List.length_replicate, Nat.reduceMul]
  intro n s _ ⟨i, e, h0, h3, hi, hz, hg⟩
  simp (maxSteps := 1000000) (disch := first | omega | (simp only [List.length_set, List.length_append, List.length_replicate, List.length_take, List.length_drop, List.length_cons, List.length_nil, List.length_map]; omega)) only [W, V, TY, reduceIte, Nat.reduceEqDiff, Option.isSome_some, true_and, and_true, and_self, decide_true, decide_false, if_true, if_false, Bool.false_eq_true, Bool.true_eq_false, Option.map_some, Option.map_none, Option.some.injEq, eq_self, Int.toNat_natCast, List.length_cons, List.length_nil, Nat.reduceAdd, Nat.reduceLeDiff, Nat.reduceLT, Nat.zero_add, List.take_succ_cons, List.take_zero, List.drop_succ_cons, Int.toNat_zero, List.drop_zero, forall_const, imp_self, List.replicate_succ, List.replicate_zero, List.flatten_cons, List.flatten_nil, List.cons_append, List.nil_append, List.append_nil, Nat.zero_mul, Nat.one_mul, Nat.mul_one, Int.reduceLE, Int.reduceLT, List.toList_toArray, Int.add_sub_cancel, Int.reduceAdd, Int.reduceSub, Int.reduceToNat, List.take_length, List.length_drop, List.map_cons, List.map_nil, Classical.not_not, not_true_eq_false, not_false_eq_true, List.length_set, List.length_replicate, Nat.reduceMul, h0, h3]
  refine g_split (fun hc => ?_) (fun hc => ?_)
  · simp (maxSteps := 1000000) (disch := first | omega | (simp only [List.length_set, List.length_append, List.length_replicate, List.length_take, List.length_drop, List.length_cons, List.length_nil, List.length_map]; omega)) only [W, V, TY, reduceIte, Nat.reduceEqDiff, Option.isSome_some, true_and, and_true, and_self, decide_true, decide_false, if_true, if_false, Bool.false_eq_true, Bool.true_eq_false, Option.map_some, Option.map_none, Option.some.injEq, eq_self, Int.toNat_natCast, List.length_cons, List.length_nil, Nat.reduceAdd, Nat.reduceLeDiff, Nat.reduceLT, Nat.zero_add, List.take_succ_cons, List.take_zero, List.drop_succ_cons, Int.toNat_zero, List.drop_zero, forall_const, imp_self, List.replicate_succ, List.replicate_zero, List.flatten_cons, List.flatten_nil, List.cons_append, List.nil_append, List.append_nil, Nat.zero_mul, Nat.one_mul, Nat.mul_one, Int.reduceLE, Int.reduceLT, List.toList_toArray, Int.add_sub_cancel, Int.reduceAdd, Int.reduceSub, Int.reduceToNat, List.take_length, List.length_drop, List.map_cons, List.map_nil, Classical.not_not, not_true_eq_false, not_false_eq_true, List.length_set, List.length_replicate, Nat.reduceMul, h0, h3, hc]
    refine c_split (fun hx => ?_) (fun hx => ?_)
    · simp (maxSteps := 1000000) (disch := first | omega | (simp only [List.length_set, List.length_append, List.length_replicate, List.length_take, List.length_drop, List.length_cons, List.length_nil, List.length_map]; omega)) only [W, V, TY, reduceIte, Nat.reduceEqDiff, Option.isSome_some, true_and, and_true, and_self, decide_true, decide_false, if_true, if_false, Bool.false_eq_true, Bool.true_eq_false, Option.map_some, Option.map_none, Option.some.injEq, eq_self, Int.toNat_natCast, List.length_cons, List.length_nil, Nat.reduceAdd, Nat.reduceLeDiff, Nat.reduceLT, Nat.zero_add, List.take_succ_cons, List.take_zero, List.drop_succ_cons, Int.toNat_zero, List.drop_zero, forall_const, imp_self, List.replicate_succ, List.replicate_zero, List.flatten_cons, List.flatten_nil, List.cons_append, List.nil_append, List.append_nil, Nat.zero_mul, Nat.one_mul, Nat.mul_one, Int.reduceLE, Int.reduceLT, List.toList_toArray, Int.add_sub_cancel, Int.reduceAdd, Int.reduceSub, Int.reduceToNat, List.take_length, List.length_drop, List.map_cons, List.map_nil, Classical.not_not, not_true_eq_false, not_false_eq_true, List.length_set, List.length_replicate, Nat.reduceMul, h0, h3]
      refine ⟨i - 1, by omega, i - 1, rfl, ?_⟩
      refine ⟨by rw [show (((i - 1 : Nat) : Int)) = i - 1 by omega], by omega, ?_, hg⟩
      have hi1 : i - 1 < l.length := by omega
      rw [val_drop hi1, show i - 1 + 1 = i by omega, hz]
      rw [List.getD_eq_getElem?_getD, List.getElem?_eq_getElem hi1] at hx
      simp only [Option.getD_some] at hx
      omega
    · simp (maxSteps := 1000000) (disch := first | omega | (simp only [List.length_set, List.length_append, List.length_replicate, List.length_take, List.length_drop, List.length_cons, List.length_nil, List.length_map]; omega)) only [W, V, TY, reduceIte, Nat.reduceEqDiff, Option.isSome_some, true_and, and_true, and_self, decide_true, decide_false, if_true, if_false, Bool.false_eq_true, Bool.true_eq_false, Option.map_some, Option.map_none, Option.some.injEq, eq_self, Int.toNat_natCast, List.length_cons, List.length_nil, Nat.reduceAdd, Nat.reduceLeDiff, Nat.reduceLT, Nat.zero_add, List.take_succ_cons, List.take_zero, List.drop_succ_cons, Int.toNat_zero, List.drop_zero, forall_const, imp_self, List.replicate_succ, List.replicate_zero, List.flatten_cons, List.flatten_nil, List.cons_append, List.nil_append, List.append_nil, Nat.zero_mul, Nat.one_mul, Nat.mul_one, Int.reduceLE, Int.reduceLT, List.toList_toArray, Int.add_sub_cancel, Int.reduceAdd, Int.reduceSub, Int.reduceToNat, List.take_length, List.length_drop, List.map_cons, List.map_nil, Classical.not_not, not_true_eq_false, not_false_eq_true, List.length_set, List.length_replicate, Nat.reduceMul, h0, h3, hg]
      refine f_retg _ _ _ [.frz 2] ?_
      simp (maxSteps := 1000000) (disch := first | omega | (simp only [List.length_set, List.length_append, List.length_replicate, List.length_take, List.length_drop, List.length_cons, List.length_nil, List.length_map]; omega)) only [W, V, TY, reduceIte, Nat.reduceEqDiff, Option.isSome_some, true_and, and_true, and_self, decide_true, decide_false, if_true, if_false, Bool.false_eq_true, Bool.true_eq_false, Option.map_some, Option.map_none, Option.some.injEq, eq_self, Int.toNat_natCast, List.length_cons, List.length_nil, Nat.reduceAdd, Nat.reduceLeDiff, Nat.reduceLT, Nat.zero_add, List.take_succ_cons, List.take_zero, List.drop_succ_cons, Int.toNat_zero, List.drop_zero, forall_const, imp_self, List.replicate_succ, List.replicate_zero, List.flatten_cons, List.flatten_nil, List.cons_append, List.nil_append, List.append_nil, Nat.zero_mul, Nat.one_mul, Nat.mul_one, Int.reduceLE, Int.reduceLT, List.toList_toArray, Int.add_sub_cancel, Int.reduceAdd, Int.reduceSub, Int.reduceToNat, List.take_length, List.length_drop, List.map_cons, List.map_nil, Classical.not_not, not_true_eq_false, not_false_eq_true, List.length_set, List.length_replicate, Nat.reduceMul]
      rw [Nat.min_eq_right hi, List.drop_replicate, Nat.sub_self, List.replicate_zero, List.append_nil, tr_of_take hl hi hz (nrm_take (by omega) hi hx)]
  · simp (maxSteps := 1000000) (disch := first | omega | (simp only [List.length_set, List.length_append, List.length_replicate, List.length_take, List.length_drop, List.length_cons, List.length_nil, List.length_map]; omega)) only [W, V, TY, reduceIte, Nat.reduceEqDiff, Option.isSome_some, true_and, and_true, and_self, decide_true, decide_false, if_true, if_false, Bool.false_eq_true, Bool.true_eq_false, Option.map_some, Option.map_none, Option.some.injEq, eq_self, Int.toNat_natCast, List.length_cons, List.length_nil, Nat.reduceAdd, Nat.reduceLeDiff, Nat.reduceLT, Nat.zero_add, List.take_succ_cons, List.take_zero, List.drop_succ_cons, Int.toNat_zero, List.drop_zero, forall_const, imp_self, List.replicate_succ, List.replicate_zero, List.flatten_cons, List.flatten_nil, List.cons_append, List.nil_append, List.append_nil, Nat.zero_mul, Nat.one_mul, Nat.mul_one, Int.reduceLE, Int.reduceLT, List.toList_toArray, Int.add_sub_cancel, Int.reduceAdd, Int.reduceSub, Int.reduceToNat, List.take_length, List.length_drop, List.map_cons, List.map_nil, Classical.not_not, not_true_eq_false, not_false_eq_true, List.length_set, List.length_replicate, Nat.reduceMul, h0, h3, hc, hg]
    refine f_retg _ _ _ [.frz 2] ?_
    simp (maxSteps := 1000000) (disch := first | omega | (simp only [List.length_set, List.length_append, List.length_replicate, List.length_take, List.length_drop, List.length_cons, List.length_nil, List.length_map]; omega)) only [W, V, TY, reduceIte, Nat.reduceEqDiff, Option.isSome_some, true_and, and_true, and_self, decide_true, decide_false, if_true, if_false, Bool.false_eq_true, Bool.true_eq_false, Option.map_some, Option.map_none, Option.some.injEq, eq_self, Int.toNat_natCast, List.length_cons, List.length_nil, Nat.reduceAdd, Nat.reduceLeDiff, Nat.reduceLT, Nat.zero_add, List.take_succ_cons, List.take_zero, List.drop_succ_cons, Int.toNat_zero, List.drop_zero, forall_const, imp_self, List.replicate_succ, List.replicate_zero, List.flatten_cons, List.flatten_nil, List.cons_append, List.nil_append, List.append_nil, Nat.zero_mul, Nat.one_mul, Nat.mul_one, Int.reduceLE, Int.reduceLT, List.toList_toArray, Int.add_sub_cancel, Int.reduceAdd, Int.reduceSub, Int.reduceToNat, List.take_length, List.length_drop, List.map_cons, List.map_nil, Classical.not_not, not_true_eq_false, not_false_eq_true, List.length_set, List.length_replicate, Nat.reduceMul]
    have : i = 0 := by omega
    subst this
    rw [Nat.min_eq_right hi, List.drop_replicate, Nat.sub_self, List.replicate_zero, List.append_nil, tr_of_take hl hi hz (by simp [Nrm])]

/-- examboard/examboardref01.Of -/
def b30 : AF := ⟨10, 1, [.tmp 2],
  (.seq (.reg [
    ⟨some 2, .assign (.const (.slice none 0 0)), none⟩])
  (.seq (.reg [
    ⟨some 3, .move (.tmp 0), none⟩,
    ⟨some 4, .convert 55 56 (.tmp 3), none⟩,
    ⟨some 5, .move (.tmp 0), none⟩,
    ⟨some 6, .binOp .shr 55 (.tmp 5) (.const (.int .u64 32)) 68, none⟩,
    ⟨some 7, .convert 55 56 (.tmp 6), none⟩,
    ⟨some 8, .buildSlice 36 2 #[(0, (.tmp 4)), (1, (.tmp 7))], none⟩,
    ⟨some 9, .call ⟨(.value (.func 49)), #[(.tmp 8)], #[36]⟩, none⟩,
    ⟨some 2, .assign (.tmp 9), none⟩])
  .ret))⟩
theorem c30 : fcomp Try.prog 30 = ⟨b30.n, b30.np, b30.res, b30.body.bare⟩ := by kernel_rfl
theorem k30 : fok Try.prog 30 = true := by kernel_rfl
theorem ref_Of (n : Int) (h0 : 0 ≤ n) (h1 : n < 18446744073709551616) : AFun Try.prog 30 [.one (.lit (.int .u64 n))] [.one (natD (nl n.toNat))] := by
  refine afun_intro mo_ _ _ c30 k30 _ _ rfl (by decide) ?_
  unfold b30
  simp (maxSteps := 1000000) (disch := first | omega | (simp only [List.length_set, List.length_append, List.length_replicate, List.length_take, List.length_drop, List.length_cons, List.length_nil, List.length_map]; omega)) only [W, V, TY, reduceIte, Nat.reduceEqDiff, Option.isSome_some, true_and, and_true, and_self, decide_true, decide_false, if_true, if_false, Bool.false_eq_true, Bool.true_eq_false, Option.map_some, Option.map_none, Option.some.injEq, eq_self, Int.toNat_natCast, List.length_cons, List.length_nil, Nat.reduceAdd, Nat.reduceLeDiff, Nat.reduceLT, Nat.zero_add, List.take_succ_cons, List.take_zero, List.drop_succ_cons, Int.toNat_zero, List.drop_zero, forall_const, imp_self, List.replicate_succ, List.replicate_zero, List.flatten_cons, List.flatten_nil, List.cons_append, List.nil_append, List.append_nil, Nat.zero_mul, Nat.one_mul, Nat.mul_one, Int.reduceLE, Int.reduceLT, List.toList_toArray, Int.add_sub_cancel, Int.reduceAdd, Int.reduceSub, Int.reduceToNat, List.take_length, List.length_drop, List.map_cons, List.map_nil, Classical.not_not, not_true_eq_false, not_false_eq_true, List.length_set, List.length_replicate, Nat.reduceMul, IntKind.wrap_u32]
  refine a_call _ _ (ref_Norm [n % 4294967296, n / 4294967296] (Lim.cons (by omega) (by omega) (Lim.one (by omega) (by omega))) (by simp)) rfl ?_
  simp (maxSteps := 1000000) (disch := first | omega | (simp only [List.length_set, List.length_append, List.length_replicate, List.length_take, List.length_drop, List.length_cons, List.length_nil, List.length_map]; omega)) only [W, V, TY, reduceIte, Nat.reduceEqDiff, Option.isSome_some, true_and, and_true, and_self, decide_true, decide_false, if_true, if_false, Bool.false_eq_true, Bool.true_eq_false, Option.map_some, Option.map_none, Option.some.injEq, eq_self, Int.toNat_natCast, List.length_cons, List.length_nil, Nat.reduceAdd, Nat.reduceLeDiff, Nat.reduceLT, Nat.zero_add, List.take_succ_cons, List.take_zero, List.drop_succ_cons, Int.toNat_zero, List.drop_zero, forall_const, imp_self, List.replicate_succ, List.replicate_zero, List.flatten_cons, List.flatten_nil, List.cons_append, List.nil_append, List.append_nil, Nat.zero_mul, Nat.one_mul, Nat.mul_one, Int.reduceLE, Int.reduceLT, List.toList_toArray, Int.add_sub_cancel, Int.reduceAdd, Int.reduceSub, Int.reduceToNat, List.take_length, List.length_drop, List.map_cons, List.map_nil, Classical.not_not, not_true_eq_false, not_false_eq_true, List.length_set, List.length_replicate, Nat.reduceMul]
  refine f_ret _ _ _ ?_
  simp (maxSteps := 1000000) (disch := first | omega | (simp only [List.length_set, List.length_append, List.length_replicate, List.length_take, List.length_drop, List.length_cons, List.length_nil, List.length_map]; omega)) only [W, V, TY, reduceIte, Nat.reduceEqDiff, Option.isSome_some, true_and, and_true, and_self, decide_true, decide_false, if_true, if_false, Bool.false_eq_true, Bool.true_eq_false, Option.map_some, Option.map_none, Option.some.injEq, eq_self, Int.toNat_natCast, List.length_cons, List.length_nil, Nat.reduceAdd, Nat.reduceLeDiff, Nat.reduceLT, Nat.zero_add, List.take_succ_cons, List.take_zero, List.drop_succ_cons, Int.toNat_zero, List.drop_zero, forall_const, imp_self, List.replicate_succ, List.replicate_zero, List.flatten_cons, List.flatten_nil, List.cons_append, List.nil_append, List.append_nil, Nat.zero_mul, Nat.one_mul, Nat.mul_one, Int.reduceLE, Int.reduceLT, List.toList_toArray, Int.add_sub_cancel, Int.reduceAdd, Int.reduceSub, Int.reduceToNat, List.take_length, List.length_drop, List.map_cons, List.map_nil, Classical.not_not, not_true_eq_false, not_false_eq_true, List.length_set, List.length_replicate, Nat.reduceMul]
  rw [show tr [n % 4294967296, n / 4294967296] = nl n.toNat by unfold tr nv; simp only [val]; congr 1; omega]

/-- what both checks of a grid say -/
def gridOK (p w : List Int) : Prop := ∀ i : Nat, i < p.length → (-1000 ≤ p.getD i 0 ∧ p.getD i 0 ≤ 1000) ∧ (1 ≤ w.getD i 0 ∧ w.getD i 0 ≤ 1000)
def gridUp (p : List Int) : Prop := ∀ i : Nat, i + 1 < p.length → p.getD i 0 < p.getD (i + 1) 0
open Classical in
noncomputable def gridV (p w : List Int) : Int := if 21 < (p.length : Int) then 5 else if (p.length : Int) = 0 then 20 else if ¬ (w.length : Int) = p.length then 1 else if ¬ gridOK p w then 3 else if ¬ gridUp p then 23 else 0

end Go.Proofs.Ythhaoojgfbofnaa.E
