/- nat.trim; no condition. -/
import Derived.Test.YthhaoojgfbofnaaUTy
import Derived.Test.YthhaoojgfbofnaaLimbs
set_option linter.unusedSimpArgs false
set_option linter.unusedVariables false
namespace Go.Proofs.Ythhaoojgfbofnaa.E
open Go.RowKit Limbs
/-- examboard/nat.trim -/
def b48 : AF := ⟨22, 1, [.tmp 2],
  (.seq (.reg [
    ⟨some 2, .assign (.const (.slice none 0 0)), none⟩])
  (.seq (.reg [
    ⟨some 4, .move (.tmp 0), none⟩,
    ⟨some 5, .call ⟨(.builtin .len), #[(.tmp 4)], #[36]⟩, none⟩,
    ⟨some 3, .assign (.tmp 5), none⟩])
  (.seq (.block 0 (.loop (.seq (.seq (.reg [
    ⟨some 6, .move (.tmp 3), none⟩,
    ⟨some 7, .binOp .gtr 3 (.tmp 6) (.const (.int .i64 0)) 3, none⟩,
    ⟨some 8, .move (.tmp 7), none⟩,
    ⟨some 9, .move (.tmp 0), some (8, true)⟩,
    ⟨some 10, .move (.tmp 3), some (8, true)⟩,
    ⟨some 11, .binOp .sub 3 (.tmp 10) (.const (.int .i64 1)) 3, some (8, true)⟩,
    ⟨some 12, .indexAddr 36 (.tmp 9) (.tmp 11), some (8, true)⟩,
    ⟨some 13, .load 56 (.tmp 12), some (8, true)⟩,
    ⟨some 14, .binOp .eql 56 (.tmp 13) (.const (.int .u32 0)) 56, some (8, true)⟩,
    ⟨some 15, .pick (.tmp 8) (.tmp 14) (.const (.bool false)), none⟩])
  (.cond (.tmp 15)
    .skip
    (.exit 0)))
  (.block 1 (.reg [
    ⟨some 16, .move (.tmp 3), none⟩,
    ⟨some 17, .binOp .sub 3 (.tmp 16) (.const (.int .i64 1)) 3, none⟩,
    ⟨some 3, .assign (.tmp 17), none⟩])))))
  (.seq (.reg [
    ⟨some 18, .move (.tmp 0), none⟩,
    ⟨some 19, .move (.tmp 3), none⟩,
    ⟨some 20, .move (.tmp 3), none⟩,
    ⟨some 21, .slice 36 (.tmp 18) none (some (.tmp 19)) (some (.tmp 20)), none⟩,
    ⟨some 2, .assign (.tmp 21), none⟩])
  .ret))))⟩
theorem c48 : fcomp Try.prog 48 = ⟨b48.n, b48.np, b48.res, b48.body.bare⟩ := by kernel_rfl
theorem k48 : fok Try.prog 48 = true := by kernel_rfl
theorem mo_ : Try.prog.follows .mixedOrders = true := by kernel_rfl
theorem nat_trim (l : List Int) (hl : Lim l) (hb : l.length < 4611686018427387904) : AFun Try.prog 48 [.one (natD l)] [.one (natD (tr l))] := by
  refine afun_intro mo_ 48 b48 c48 k48 _ _ rfl (by decide) ?_
  unfold b48
  simp (maxSteps := 1000000) (disch := first | omega | (simp only [List.length_set, List.length_append, List.length_replicate, List.length_take, List.length_drop, List.length_cons, List.length_nil, List.length_map]; omega)) only [W, V, TY, reduceIte, Nat.reduceEqDiff, Option.isSome_some, true_and, and_true, and_self, decide_true, decide_false, if_true, if_false, Bool.false_eq_true, Bool.true_eq_false, Option.map_some, Option.map_none, Option.some.injEq, eq_self, Int.toNat_natCast, List.length_cons, List.length_nil, Nat.reduceAdd, Nat.reduceLeDiff, Nat.reduceLT, Nat.zero_add, List.take_succ_cons, List.take_zero, List.drop_succ_cons, Int.toNat_zero, List.drop_zero, forall_const, imp_self, List.replicate_succ, List.replicate_zero, List.flatten_cons, List.flatten_nil, List.cons_append, List.nil_append, List.append_nil, Nat.zero_mul, Nat.one_mul, Nat.mul_one, Int.reduceLE, Int.reduceLT, List.toList_toArray, Int.add_sub_cancel, Int.reduceAdd, Int.reduceSub, Int.reduceToNat, List.take_length, List.length_drop, List.map_cons, List.map_nil, Classical.not_not, not_true_eq_false, not_false_eq_true, List.length_set, List.length_replicate, Nat.reduceMul]
  refine w_loop (fun n s => ∃ i : Nat, n = i ∧ s.t 0 = .one (.dt (natD l)) ∧ s.t 3 = .one (.dt (.lit (.int .i64 i))) ∧ i ≤ l.length ∧ val (l.drop i) = 0) l.length ⟨l.length, rfl, ?_, ?_, Nat.le_refl _, by simp [val]⟩ ?_
  · simp (maxSteps := 1000000) (disch := first | omega | (simp only [List.length_set, List.length_append, List.length_replicate, List.length_take, List.length_drop, List.length_cons, List.length_nil, List.length_map]; omega)) only [W, V, TY, reduceIte, Nat.reduceEqDiff, Option.isSome_some, true_and, and_true, and_self, decide_true, decide_false, if_true, if_false, Bool.false_eq_true, Bool.true_eq_false, Option.map_some, Option.map_none, Option.some.injEq, eq_self, Int.toNat_natCast, List.length_cons, List.length_nil, Nat.reduceAdd, Nat.reduceLeDiff, Nat.reduceLT, Nat.zero_add, List.take_succ_cons, List.take_zero, List.drop_succ_cons, Int.toNat_zero, List.drop_zero, forall_const, imp_self, List.replicate_succ, List.replicate_zero, List.flatten_cons, List.flatten_nil, List.cons_append, List.nil_append, List.append_nil, Nat.zero_mul, Nat.one_mul, Nat.mul_one, Int.reduceLE, Int.reduceLT, List.toList_toArray, Int.add_sub_cancel, Int.reduceAdd, Int.reduceSub, Int.reduceToNat, List.take_length, List.length_drop, List.map_cons, List.map_nil, Classical.not_not, not_true_eq_false, not_false_eq_true, List.length_set, List.length_replicate, Nat.reduceMul]
  · simp (maxSteps := 1000000) (disch := first | omega | (simp only [List.length_set, List.length_append, List.length_replicate, List.length_take, List.length_drop, List.length_cons, List.length_nil, List.length_map]; omega)) only [W, V, TY, reduceIte, Nat.reduceEqDiff, Option.isSome_some, true_and, and_true, and_self, decide_true, decide_false, if_true, if_false, Bool.false_eq_true, Bool.true_eq_false, Option.map_some, Option.map_none, Option.some.injEq, eq_self, Int.toNat_natCast, List.length_cons, List.length_nil, Nat.reduceAdd, Nat.reduceLeDiff, Nat.reduceLT, Nat.zero_add, List.take_succ_cons, List.take_zero, List.drop_succ_cons, Int.toNat_zero, List.drop_zero, forall_const, imp_self, List.replicate_succ, List.replicate_zero, List.flatten_cons, List.flatten_nil, List.cons_append, List.nil_append, List.append_nil, Nat.zero_mul, Nat.one_mul, Nat.mul_one, Int.reduceLE, Int.reduceLT, List.toList_toArray, Int.add_sub_cancel, Int.reduceAdd, Int.reduceSub, Int.reduceToNat, List.take_length, List.length_drop, List.map_cons, List.map_nil, Classical.not_not, not_true_eq_false, not_false_eq_true, List.length_set, List.length_replicate, Nat.reduceMul]
  intro n s _ ⟨i, e, h0, h3, hi, hz⟩
  simp (maxSteps := 1000000) (disch := first | omega | (simp only [List.length_set, List.length_append, List.length_replicate, List.length_take, List.length_drop, List.length_cons, List.length_nil, List.length_map]; omega)) only [W, V, TY, reduceIte, Nat.reduceEqDiff, Option.isSome_some, true_and, and_true, and_self, decide_true, decide_false, if_true, if_false, Bool.false_eq_true, Bool.true_eq_false, Option.map_some, Option.map_none, Option.some.injEq, eq_self, Int.toNat_natCast, List.length_cons, List.length_nil, Nat.reduceAdd, Nat.reduceLeDiff, Nat.reduceLT, Nat.zero_add, List.take_succ_cons, List.take_zero, List.drop_succ_cons, Int.toNat_zero, List.drop_zero, forall_const, imp_self, List.replicate_succ, List.replicate_zero, List.flatten_cons, List.flatten_nil, List.cons_append, List.nil_append, List.append_nil, Nat.zero_mul, Nat.one_mul, Nat.mul_one, Int.reduceLE, Int.reduceLT, List.toList_toArray, Int.add_sub_cancel, Int.reduceAdd, Int.reduceSub, Int.reduceToNat, List.take_length, List.length_drop, List.map_cons, List.map_nil, Classical.not_not, not_true_eq_false, not_false_eq_true, List.length_set, List.length_replicate, Nat.reduceMul, h0, h3]
  refine g_split (fun hc => ?_) (fun hc => ?_)
  · simp (maxSteps := 1000000) (disch := first | omega | (simp only [List.length_set, List.length_append, List.length_replicate, List.length_take, List.length_drop, List.length_cons, List.length_nil, List.length_map]; omega)) only [W, V, TY, reduceIte, Nat.reduceEqDiff, Option.isSome_some, true_and, and_true, and_self, decide_true, decide_false, if_true, if_false, Bool.false_eq_true, Bool.true_eq_false, Option.map_some, Option.map_none, Option.some.injEq, eq_self, Int.toNat_natCast, List.length_cons, List.length_nil, Nat.reduceAdd, Nat.reduceLeDiff, Nat.reduceLT, Nat.zero_add, List.take_succ_cons, List.take_zero, List.drop_succ_cons, Int.toNat_zero, List.drop_zero, forall_const, imp_self, List.replicate_succ, List.replicate_zero, List.flatten_cons, List.flatten_nil, List.cons_append, List.nil_append, List.append_nil, Nat.zero_mul, Nat.one_mul, Nat.mul_one, Int.reduceLE, Int.reduceLT, List.toList_toArray, Int.add_sub_cancel, Int.reduceAdd, Int.reduceSub, Int.reduceToNat, List.take_length, List.length_drop, List.map_cons, List.map_nil, Classical.not_not, not_true_eq_false, not_false_eq_true, List.length_set, List.length_replicate, Nat.reduceMul, h0, h3, hc]
    refine c_split (fun hx => ?_) (fun hx => ?_)
    · simp (maxSteps := 1000000) (disch := first | omega | (simp only [List.length_set, List.length_append, List.length_replicate, List.length_take, List.length_drop, List.length_cons, List.length_nil, List.length_map]; omega)) only [W, V, TY, reduceIte, Nat.reduceEqDiff, Option.isSome_some, true_and, and_true, and_self, decide_true, decide_false, if_true, if_false, Bool.false_eq_true, Bool.true_eq_false, Option.map_some, Option.map_none, Option.some.injEq, eq_self, Int.toNat_natCast, List.length_cons, List.length_nil, Nat.reduceAdd, Nat.reduceLeDiff, Nat.reduceLT, Nat.zero_add, List.take_succ_cons, List.take_zero, List.drop_succ_cons, Int.toNat_zero, List.drop_zero, forall_const, imp_self, List.replicate_succ, List.replicate_zero, List.flatten_cons, List.flatten_nil, List.cons_append, List.nil_append, List.append_nil, Nat.zero_mul, Nat.one_mul, Nat.mul_one, Int.reduceLE, Int.reduceLT, List.toList_toArray, Int.add_sub_cancel, Int.reduceAdd, Int.reduceSub, Int.reduceToNat, List.take_length, List.length_drop, List.map_cons, List.map_nil, Classical.not_not, not_true_eq_false, not_false_eq_true, List.length_set, List.length_replicate, Nat.reduceMul, h0, h3]
      refine ⟨i - 1, by omega, i - 1, rfl, ?_⟩
      refine ⟨by rw [show (((i - 1 : Nat) : Int)) = i - 1 by omega], by omega, ?_⟩
      have hi1 : i - 1 < l.length := by omega
      rw [val_drop hi1, show i - 1 + 1 = i by omega, hz]
      rw [List.getD_eq_getElem?_getD, List.getElem?_eq_getElem hi1] at hx
      simp only [Option.getD_some] at hx
      omega
    · simp (maxSteps := 1000000) (disch := first | omega | (simp only [List.length_set, List.length_append, List.length_replicate, List.length_take, List.length_drop, List.length_cons, List.length_nil, List.length_map]; omega)) only [W, V, TY, reduceIte, Nat.reduceEqDiff, Option.isSome_some, true_and, and_true, and_self, decide_true, decide_false, if_true, if_false, Bool.false_eq_true, Bool.true_eq_false, Option.map_some, Option.map_none, Option.some.injEq, eq_self, Int.toNat_natCast, List.length_cons, List.length_nil, Nat.reduceAdd, Nat.reduceLeDiff, Nat.reduceLT, Nat.zero_add, List.take_succ_cons, List.take_zero, List.drop_succ_cons, Int.toNat_zero, List.drop_zero, forall_const, imp_self, List.replicate_succ, List.replicate_zero, List.flatten_cons, List.flatten_nil, List.cons_append, List.nil_append, List.append_nil, Nat.zero_mul, Nat.one_mul, Nat.mul_one, Int.reduceLE, Int.reduceLT, List.toList_toArray, Int.add_sub_cancel, Int.reduceAdd, Int.reduceSub, Int.reduceToNat, List.take_length, List.length_drop, List.map_cons, List.map_nil, Classical.not_not, not_true_eq_false, not_false_eq_true, List.length_set, List.length_replicate, Nat.reduceMul, h0, h3]
      refine f_ret _ _ _ ?_
      simp (maxSteps := 1000000) (disch := first | omega | (simp only [List.length_set, List.length_append, List.length_replicate, List.length_take, List.length_drop, List.length_cons, List.length_nil, List.length_map]; omega)) only [W, V, TY, reduceIte, Nat.reduceEqDiff, Option.isSome_some, true_and, and_true, and_self, decide_true, decide_false, if_true, if_false, Bool.false_eq_true, Bool.true_eq_false, Option.map_some, Option.map_none, Option.some.injEq, eq_self, Int.toNat_natCast, List.length_cons, List.length_nil, Nat.reduceAdd, Nat.reduceLeDiff, Nat.reduceLT, Nat.zero_add, List.take_succ_cons, List.take_zero, List.drop_succ_cons, Int.toNat_zero, List.drop_zero, forall_const, imp_self, List.replicate_succ, List.replicate_zero, List.flatten_cons, List.flatten_nil, List.cons_append, List.nil_append, List.append_nil, Nat.zero_mul, Nat.one_mul, Nat.mul_one, Int.reduceLE, Int.reduceLT, List.toList_toArray, Int.add_sub_cancel, Int.reduceAdd, Int.reduceSub, Int.reduceToNat, List.take_length, List.length_drop, List.map_cons, List.map_nil, Classical.not_not, not_true_eq_false, not_false_eq_true, List.length_set, List.length_replicate, Nat.reduceMul]
      rw [tr_of_take hl hi hz (nrm_take (by omega) hi hx)]
  · simp (maxSteps := 1000000) (disch := first | omega | (simp only [List.length_set, List.length_append, List.length_replicate, List.length_take, List.length_drop, List.length_cons, List.length_nil, List.length_map]; omega)) only [W, V, TY, reduceIte, Nat.reduceEqDiff, Option.isSome_some, true_and, and_true, and_self, decide_true, decide_false, if_true, if_false, Bool.false_eq_true, Bool.true_eq_false, Option.map_some, Option.map_none, Option.some.injEq, eq_self, Int.toNat_natCast, List.length_cons, List.length_nil, Nat.reduceAdd, Nat.reduceLeDiff, Nat.reduceLT, Nat.zero_add, List.take_succ_cons, List.take_zero, List.drop_succ_cons, Int.toNat_zero, List.drop_zero, forall_const, imp_self, List.replicate_succ, List.replicate_zero, List.flatten_cons, List.flatten_nil, List.cons_append, List.nil_append, List.append_nil, Nat.zero_mul, Nat.one_mul, Nat.mul_one, Int.reduceLE, Int.reduceLT, List.toList_toArray, Int.add_sub_cancel, Int.reduceAdd, Int.reduceSub, Int.reduceToNat, List.take_length, List.length_drop, List.map_cons, List.map_nil, Classical.not_not, not_true_eq_false, not_false_eq_true, List.length_set, List.length_replicate, Nat.reduceMul, h0, h3, hc]
    refine f_ret _ _ _ ?_
    simp (maxSteps := 1000000) (disch := first | omega | (simp only [List.length_set, List.length_append, List.length_replicate, List.length_take, List.length_drop, List.length_cons, List.length_nil, List.length_map]; omega)) only [W, V, TY, reduceIte, Nat.reduceEqDiff, Option.isSome_some, true_and, and_true, and_self, decide_true, decide_false, if_true, if_false, Bool.false_eq_true, Bool.true_eq_false, Option.map_some, Option.map_none, Option.some.injEq, eq_self, Int.toNat_natCast, List.length_cons, List.length_nil, Nat.reduceAdd, Nat.reduceLeDiff, Nat.reduceLT, Nat.zero_add, List.take_succ_cons, List.take_zero, List.drop_succ_cons, Int.toNat_zero, List.drop_zero, forall_const, imp_self, List.replicate_succ, List.replicate_zero, List.flatten_cons, List.flatten_nil, List.cons_append, List.nil_append, List.append_nil, Nat.zero_mul, Nat.one_mul, Nat.mul_one, Int.reduceLE, Int.reduceLT, List.toList_toArray, Int.add_sub_cancel, Int.reduceAdd, Int.reduceSub, Int.reduceToNat, List.take_length, List.length_drop, List.map_cons, List.map_nil, Classical.not_not, not_true_eq_false, not_false_eq_true, List.length_set, List.length_replicate, Nat.reduceMul]
    have : i = 0 := by omega
    subst this
    rw [tr_of_take hl hi hz (by simp [Nrm])]
end Go.Proofs.Ythhaoojgfbofnaa.E
