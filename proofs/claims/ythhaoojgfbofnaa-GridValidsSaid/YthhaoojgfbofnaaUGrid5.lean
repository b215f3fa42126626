/- GridValids; no condition. -/
import Derived.Test.YthhaoojgfbofnaaUGrid4
set_option linter.unusedSimpArgs false
set_option linter.unusedVariables false
namespace Go.Proofs.Ythhaoojgfbofnaa.E
open Go.RowKit Limbs
theorem getD_mem_or {α : Type} (l : List α) (i : Nat) (d : α) : l.getD i d ∈ l ∨ l.getD i d = d := by
  rw [List.getD_eq_getElem?_getD]
  cases h : l[i]? with
  | none => exact .inr rfl
  | some x => exact .inl (List.mem_of_getElem? h)
theorem priorR_form (p w : List Int) : ∃ (L : List (List Int)) (c : Int), priorR p w = [.one (natsD L), .one (.lit (.int .i64 c))] ∧ L.length ≤ 21 ∧ ∀ l ∈ L, l.length ≤ 1 := by
  unfold priorR
  by_cases h0 : gridV p w = 0
  · obtain ⟨g1, g2, g3, g4⟩ := gridV_zero h0
    rw [if_pos h0]
    refine ⟨_, _, rfl, by simp; omega, fun l hl => ?_⟩
    obtain ⟨x, hx, rfl⟩ := List.mem_map.1 hl
    obtain ⟨i, hi, hix⟩ := List.getElem_of_mem hx
    have := (g3 i (by omega)).2
    rw [List.getD_eq_getElem?_getD, List.getElem?_eq_getElem hi] at this
    simp only [Option.getD_some, hix] at this
    exact nl_len (by omega)
  · rw [if_neg h0]
    exact ⟨_, _, rfl, by simp, fun l hl => by simp at hl⟩
/-- examboard/examboardlaw18.GridValids -/
def b4 : AF := ⟨51, 1, [.tmp 2],
  (.seq (.reg [
    ⟨some 1, .box 24 (.tmp 0), none⟩,
    ⟨some 2, .assign (.const (.bool false)), none⟩])
  (.seq (.reg [
    ⟨some 9, .load 24 (.tmp 1), none⟩,
    ⟨some 10, .call ⟨(.value (.func 13)), #[(.tmp 9)], #[24]⟩, none⟩,
    ⟨some 8, .move (.tmp 10), none⟩,
    ⟨some 11, .extract (.tmp 8) 0, none⟩,
    ⟨some 12, .extract (.tmp 8) 1, none⟩,
    ⟨some 3, .assign (.tmp 11), none⟩,
    ⟨some 4, .assign (.tmp 12), none⟩])
  (.seq (.reg [
    ⟨some 14, .load 24 (.tmp 1), none⟩,
    ⟨some 15, .call ⟨(.value (.func 14)), #[(.tmp 14)], #[24]⟩, none⟩,
    ⟨some 13, .move (.tmp 15), none⟩,
    ⟨some 16, .extract (.tmp 13) 0, none⟩,
    ⟨some 17, .extract (.tmp 13) 1, none⟩,
    ⟨some 5, .assign (.tmp 16), none⟩,
    ⟨some 6, .assign (.tmp 17), none⟩])
  (.seq (.seq (.reg [
    ⟨some 18, .load 24 (.tmp 1), none⟩,
    ⟨some 19, .call ⟨(.value (.func 15)), #[(.tmp 18)], #[24]⟩, none⟩,
    ⟨some 20, .load 24 (.tmp 1), none⟩,
    ⟨some 21, .call ⟨(.value (.func 16)), #[(.tmp 20)], #[24]⟩, none⟩,
    ⟨some 22, .binOp .neq 25 (.tmp 19) (.tmp 21) 25, none⟩,
    ⟨some 23, .move (.tmp 22), none⟩,
    ⟨some 24, .move (.tmp 4), some (23, false)⟩,
    ⟨some 25, .move (.tmp 6), some (23, false)⟩,
    ⟨some 26, .binOp .neq 25 (.tmp 24) (.tmp 25) 25, some (23, false)⟩,
    ⟨some 27, .pick (.tmp 23) (.const (.bool true)) (.tmp 26), none⟩,
    ⟨some 28, .move (.tmp 27), none⟩,
    ⟨some 29, .move (.tmp 3), some (28, false)⟩,
    ⟨some 30, .call ⟨(.builtin .len), #[(.tmp 29)], #[30]⟩, some (28, false)⟩,
    ⟨some 31, .move (.tmp 5), some (28, false)⟩,
    ⟨some 32, .call ⟨(.builtin .len), #[(.tmp 31)], #[30]⟩, some (28, false)⟩,
    ⟨some 33, .binOp .neq 3 (.tmp 30) (.tmp 32) 3, some (28, false)⟩,
    ⟨some 34, .pick (.tmp 28) (.const (.bool true)) (.tmp 33), none⟩])
  (.cond (.tmp 34)
    (.seq (.reg [
      ⟨some 2, .assign (.const (.bool false)), none⟩])
    .ret)
    .skip))
  (.seq (.seq (.reg [
    ⟨some 7, .assign (.const (.int .i64 0)), none⟩])
  (.block 0 (.loop (.seq (.seq (.reg [
    ⟨some 35, .move (.tmp 7), none⟩,
    ⟨some 36, .move (.tmp 3), none⟩,
    ⟨some 37, .call ⟨(.builtin .len), #[(.tmp 36)], #[30]⟩, none⟩,
    ⟨some 38, .binOp .lss 3 (.tmp 35) (.tmp 37) 3, none⟩])
  (.cond (.tmp 38)
    .skip
    (.exit 0)))
  (.seq (.block 1 (.seq (.reg [
    ⟨some 41, .move (.tmp 3), none⟩,
    ⟨some 42, .move (.tmp 7), none⟩,
    ⟨some 43, .indexAddr 30 (.tmp 41) (.tmp 42), none⟩,
    ⟨some 44, .load 36 (.tmp 43), none⟩,
    ⟨some 45, .move (.tmp 5), none⟩,
    ⟨some 46, .move (.tmp 7), none⟩,
    ⟨some 47, .indexAddr 30 (.tmp 45) (.tmp 46), none⟩,
    ⟨some 48, .load 36 (.tmp 47), none⟩,
    ⟨some 49, .call ⟨(.value (.func 17)), #[(.tmp 44), (.tmp 48)], #[36, 36]⟩, none⟩,
    ⟨some 50, .unOp .not 4 (.tmp 49), none⟩])
  (.cond (.tmp 50)
    (.seq (.reg [
      ⟨some 2, .assign (.const (.bool false)), none⟩])
    .ret)
    .skip)))
  (.reg [
    ⟨some 39, .move (.tmp 7), none⟩,
    ⟨some 40, .binOp .add 3 (.tmp 39) (.const (.int .i64 1)) 3, none⟩,
    ⟨some 7, .assign (.tmp 40), none⟩]))))))
  (.seq (.reg [
    ⟨some 2, .assign (.const (.bool true)), none⟩])
  .ret))))))⟩
theorem c4 : fcomp Try.prog 4 = ⟨b4.n, b4.np, b4.res, b4.body.bare⟩ := by kernel_rfl
theorem k4 : fok Try.prog 4 = true := by kernel_rfl
theorem law_GridValids (p w : List Int) : AFun Try.prog 4 [.agg [intsD p, intsD w]] [.one (.lit (.bool true))] := by
  refine afun_intro mo_ _ _ c4 k4 _ _ rfl (by decide) ?_
  unfold b4
  obtain ⟨L, c, hp, hL, hE⟩ := priorR_form p w
  simp (maxSteps := 1000000) (disch := first | omega | (simp only [List.length_set, List.length_append, List.length_replicate, List.length_take, List.length_drop, List.length_cons, List.length_nil, List.length_map]; omega)) only [W, V, TY, reduceIte, Nat.reduceEqDiff, Option.isSome_some, true_and, and_true, and_self, decide_true, decide_false, if_true, if_false, Bool.false_eq_true, Bool.true_eq_false, Option.map_some, Option.map_none, Option.some.injEq, eq_self, Int.toNat_natCast, List.length_cons, List.length_nil, Nat.reduceAdd, Nat.reduceLeDiff, Nat.reduceLT, Nat.zero_add, List.take_succ_cons, List.take_zero, List.drop_succ_cons, Int.toNat_zero, List.drop_zero, forall_const, imp_self, List.replicate_succ, List.replicate_zero, List.flatten_cons, List.flatten_nil, List.cons_append, List.nil_append, List.append_nil, Nat.zero_mul, Nat.one_mul, Nat.mul_one, Int.reduceLE, Int.reduceLT, List.toList_toArray, Int.add_sub_cancel, Int.reduceAdd, Int.reduceSub, Int.reduceToNat, List.take_length, List.length_drop, List.map_cons, List.map_nil, Classical.not_not, not_true_eq_false, not_false_eq_true, List.length_set, List.length_replicate, Nat.reduceMul]
  refine a_call _ _ (grid_Prior p w) rfl ?_
  simp (maxSteps := 1000000) (disch := first | omega | (simp only [List.length_set, List.length_append, List.length_replicate, List.length_take, List.length_drop, List.length_cons, List.length_nil, List.length_map]; omega)) only [W, V, TY, reduceIte, Nat.reduceEqDiff, Option.isSome_some, true_and, and_true, and_self, decide_true, decide_false, if_true, if_false, Bool.false_eq_true, Bool.true_eq_false, Option.map_some, Option.map_none, Option.some.injEq, eq_self, Int.toNat_natCast, List.length_cons, List.length_nil, Nat.reduceAdd, Nat.reduceLeDiff, Nat.reduceLT, Nat.zero_add, List.take_succ_cons, List.take_zero, List.drop_succ_cons, Int.toNat_zero, List.drop_zero, forall_const, imp_self, List.replicate_succ, List.replicate_zero, List.flatten_cons, List.flatten_nil, List.cons_append, List.nil_append, List.append_nil, Nat.zero_mul, Nat.one_mul, Nat.mul_one, Int.reduceLE, Int.reduceLT, List.toList_toArray, Int.add_sub_cancel, Int.reduceAdd, Int.reduceSub, Int.reduceToNat, List.take_length, List.length_drop, List.map_cons, List.map_nil, Classical.not_not, not_true_eq_false, not_false_eq_true, List.length_set, List.length_replicate, Nat.reduceMul, hp, List.getElem?_cons_zero, List.getElem?_cons_succ]
  refine a_call _ _ (ref_Prior p w) rfl ?_
  simp (maxSteps := 1000000) (disch := first | omega | (simp only [List.length_set, List.length_append, List.length_replicate, List.length_take, List.length_drop, List.length_cons, List.length_nil, List.length_map]; omega)) only [W, V, TY, reduceIte, Nat.reduceEqDiff, Option.isSome_some, true_and, and_true, and_self, decide_true, decide_false, if_true, if_false, Bool.false_eq_true, Bool.true_eq_false, Option.map_some, Option.map_none, Option.some.injEq, eq_self, Int.toNat_natCast, List.length_cons, List.length_nil, Nat.reduceAdd, Nat.reduceLeDiff, Nat.reduceLT, Nat.zero_add, List.take_succ_cons, List.take_zero, List.drop_succ_cons, Int.toNat_zero, List.drop_zero, forall_const, imp_self, List.replicate_succ, List.replicate_zero, List.flatten_cons, List.flatten_nil, List.cons_append, List.nil_append, List.append_nil, Nat.zero_mul, Nat.one_mul, Nat.mul_one, Int.reduceLE, Int.reduceLT, List.toList_toArray, Int.add_sub_cancel, Int.reduceAdd, Int.reduceSub, Int.reduceToNat, List.take_length, List.length_drop, List.map_cons, List.map_nil, Classical.not_not, not_true_eq_false, not_false_eq_true, List.length_set, List.length_replicate, Nat.reduceMul, hp, List.getElem?_cons_zero, List.getElem?_cons_succ]
  refine a_call _ _ (grid_Valid p w) rfl ?_
  simp (maxSteps := 1000000) (disch := first | omega | (simp only [List.length_set, List.length_append, List.length_replicate, List.length_take, List.length_drop, List.length_cons, List.length_nil, List.length_map]; omega)) only [W, V, TY, reduceIte, Nat.reduceEqDiff, Option.isSome_some, true_and, and_true, and_self, decide_true, decide_false, if_true, if_false, Bool.false_eq_true, Bool.true_eq_false, Option.map_some, Option.map_none, Option.some.injEq, eq_self, Int.toNat_natCast, List.length_cons, List.length_nil, Nat.reduceAdd, Nat.reduceLeDiff, Nat.reduceLT, Nat.zero_add, List.take_succ_cons, List.take_zero, List.drop_succ_cons, Int.toNat_zero, List.drop_zero, forall_const, imp_self, List.replicate_succ, List.replicate_zero, List.flatten_cons, List.flatten_nil, List.cons_append, List.nil_append, List.append_nil, Nat.zero_mul, Nat.one_mul, Nat.mul_one, Int.reduceLE, Int.reduceLT, List.toList_toArray, Int.add_sub_cancel, Int.reduceAdd, Int.reduceSub, Int.reduceToNat, List.take_length, List.length_drop, List.map_cons, List.map_nil, Classical.not_not, not_true_eq_false, not_false_eq_true, List.length_set, List.length_replicate, Nat.reduceMul]
  refine a_call _ _ (ref_Valid p w) rfl ?_
  simp (maxSteps := 1000000) (disch := first | omega | (simp only [List.length_set, List.length_append, List.length_replicate, List.length_take, List.length_drop, List.length_cons, List.length_nil, List.length_map]; omega)) only [W, V, TY, reduceIte, Nat.reduceEqDiff, Option.isSome_some, true_and, and_true, and_self, decide_true, decide_false, if_true, if_false, Bool.false_eq_true, Bool.true_eq_false, Option.map_some, Option.map_none, Option.some.injEq, eq_self, Int.toNat_natCast, List.length_cons, List.length_nil, Nat.reduceAdd, Nat.reduceLeDiff, Nat.reduceLT, Nat.zero_add, List.take_succ_cons, List.take_zero, List.drop_succ_cons, Int.toNat_zero, List.drop_zero, forall_const, imp_self, List.replicate_succ, List.replicate_zero, List.flatten_cons, List.flatten_nil, List.cons_append, List.nil_append, List.append_nil, Nat.zero_mul, Nat.one_mul, Nat.mul_one, Int.reduceLE, Int.reduceLT, List.toList_toArray, Int.add_sub_cancel, Int.reduceAdd, Int.reduceSub, Int.reduceToNat, List.take_length, List.length_drop, List.map_cons, List.map_nil, Classical.not_not, not_true_eq_false, not_false_eq_true, List.length_set, List.length_replicate, Nat.reduceMul]
  refine w_loop (fun n s => ∃ i : Nat, n + i = L.length ∧ s.t 3 = .one (.dt (natsD L)) ∧ s.t 5 = .one (.dt (natsD L)) ∧ s.t 7 = .one (.dt (.lit (.int .i64 i)))) L.length ⟨0, rfl, ?_, ?_, ?_⟩ ?_
  · simp (maxSteps := 1000000) (disch := first | omega | (simp only [List.length_set, List.length_append, List.length_replicate, List.length_take, List.length_drop, List.length_cons, List.length_nil, List.length_map]; omega)) only [W, V, TY, reduceIte, Nat.reduceEqDiff, Option.isSome_some, true_and, and_true, and_self, decide_true, decide_false, if_true, if_false, Bool.false_eq_true, Bool.true_eq_false, Option.map_some, Option.map_none, Option.some.injEq, eq_self, Int.toNat_natCast, List.length_cons, List.length_nil, Nat.reduceAdd, Nat.reduceLeDiff, Nat.reduceLT, Nat.zero_add, List.take_succ_cons, List.take_zero, List.drop_succ_cons, Int.toNat_zero, List.drop_zero, forall_const, imp_self, List.replicate_succ, List.replicate_zero, List.flatten_cons, List.flatten_nil, List.cons_append, List.nil_append, List.append_nil, Nat.zero_mul, Nat.one_mul, Nat.mul_one, Int.reduceLE, Int.reduceLT, List.toList_toArray, Int.add_sub_cancel, Int.reduceAdd, Int.reduceSub, Int.reduceToNat, List.take_length, List.length_drop, List.map_cons, List.map_nil, Classical.not_not, not_true_eq_false, not_false_eq_true, List.length_set, List.length_replicate, Nat.reduceMul]
  · simp (maxSteps := 1000000) (disch := first | omega | (simp only [List.length_set, List.length_append, List.length_replicate, List.length_take, List.length_drop, List.length_cons, List.length_nil, List.length_map]; omega)) only [W, V, TY, reduceIte, Nat.reduceEqDiff, Option.isSome_some, true_and, and_true, and_self, decide_true, decide_false, if_true, if_false, Bool.false_eq_true, Bool.true_eq_false, Option.map_some, Option.map_none, Option.some.injEq, eq_self, Int.toNat_natCast, List.length_cons, List.length_nil, Nat.reduceAdd, Nat.reduceLeDiff, Nat.reduceLT, Nat.zero_add, List.take_succ_cons, List.take_zero, List.drop_succ_cons, Int.toNat_zero, List.drop_zero, forall_const, imp_self, List.replicate_succ, List.replicate_zero, List.flatten_cons, List.flatten_nil, List.cons_append, List.nil_append, List.append_nil, Nat.zero_mul, Nat.one_mul, Nat.mul_one, Int.reduceLE, Int.reduceLT, List.toList_toArray, Int.add_sub_cancel, Int.reduceAdd, Int.reduceSub, Int.reduceToNat, List.take_length, List.length_drop, List.map_cons, List.map_nil, Classical.not_not, not_true_eq_false, not_false_eq_true, List.length_set, List.length_replicate, Nat.reduceMul]
  · simp (maxSteps := 1000000) (disch := first | omega | (simp only [List.length_set, List.length_append, List.length_replicate, List.length_take, List.length_drop, List.length_cons, List.length_nil, List.length_map]; omega)) only [W, V, TY, reduceIte, Nat.reduceEqDiff, Option.isSome_some, true_and, and_true, and_self, decide_true, decide_false, if_true, if_false, Bool.false_eq_true, Bool.true_eq_false, Option.map_some, Option.map_none, Option.some.injEq, eq_self, Int.toNat_natCast, List.length_cons, List.length_nil, Nat.reduceAdd, Nat.reduceLeDiff, Nat.reduceLT, Nat.zero_add, List.take_succ_cons, List.take_zero, List.drop_succ_cons, Int.toNat_zero, List.drop_zero, forall_const, imp_self, List.replicate_succ, List.replicate_zero, List.flatten_cons, List.flatten_nil, List.cons_append, List.nil_append, List.append_nil, Nat.zero_mul, Nat.one_mul, Nat.mul_one, Int.reduceLE, Int.reduceLT, List.toList_toArray, Int.add_sub_cancel, Int.reduceAdd, Int.reduceSub, Int.reduceToNat, List.take_length, List.length_drop, List.map_cons, List.map_nil, Classical.not_not, not_true_eq_false, not_false_eq_true, List.length_set, List.length_replicate, Nat.reduceMul]
  intro n s _ ⟨i, e, t3, t5, t7⟩
  simp (maxSteps := 1000000) (disch := first | omega | (simp only [List.length_set, List.length_append, List.length_replicate, List.length_take, List.length_drop, List.length_cons, List.length_nil, List.length_map]; omega)) only [W, V, TY, reduceIte, Nat.reduceEqDiff, Option.isSome_some, true_and, and_true, and_self, decide_true, decide_false, if_true, if_false, Bool.false_eq_true, Bool.true_eq_false, Option.map_some, Option.map_none, Option.some.injEq, eq_self, Int.toNat_natCast, List.length_cons, List.length_nil, Nat.reduceAdd, Nat.reduceLeDiff, Nat.reduceLT, Nat.zero_add, List.take_succ_cons, List.take_zero, List.drop_succ_cons, Int.toNat_zero, List.drop_zero, forall_const, imp_self, List.replicate_succ, List.replicate_zero, List.flatten_cons, List.flatten_nil, List.cons_append, List.nil_append, List.append_nil, Nat.zero_mul, Nat.one_mul, Nat.mul_one, Int.reduceLE, Int.reduceLT, List.toList_toArray, Int.add_sub_cancel, Int.reduceAdd, Int.reduceSub, Int.reduceToNat, List.take_length, List.length_drop, List.map_cons, List.map_nil, Classical.not_not, not_true_eq_false, not_false_eq_true, List.length_set, List.length_replicate, Nat.reduceMul, t3, t5, t7]
  refine c_split (fun hi => ?_) (fun hi => ?_)
  · simp (maxSteps := 1000000) (disch := first | omega | (simp only [List.length_set, List.length_append, List.length_replicate, List.length_take, List.length_drop, List.length_cons, List.length_nil, List.length_map]; omega)) only [W, V, TY, reduceIte, Nat.reduceEqDiff, Option.isSome_some, true_and, and_true, and_self, decide_true, decide_false, if_true, if_false, Bool.false_eq_true, Bool.true_eq_false, Option.map_some, Option.map_none, Option.some.injEq, eq_self, Int.toNat_natCast, List.length_cons, List.length_nil, Nat.reduceAdd, Nat.reduceLeDiff, Nat.reduceLT, Nat.zero_add, List.take_succ_cons, List.take_zero, List.drop_succ_cons, Int.toNat_zero, List.drop_zero, forall_const, imp_self, List.replicate_succ, List.replicate_zero, List.flatten_cons, List.flatten_nil, List.cons_append, List.nil_append, List.append_nil, Nat.zero_mul, Nat.one_mul, Nat.mul_one, Int.reduceLE, Int.reduceLT, List.toList_toArray, Int.add_sub_cancel, Int.reduceAdd, Int.reduceSub, Int.reduceToNat, List.take_length, List.length_drop, List.map_cons, List.map_nil, Classical.not_not, not_true_eq_false, not_false_eq_true, List.length_set, List.length_replicate, Nat.reduceMul, t3, t5, t7]
    have hl : (L.getD i []).length ≤ 1 := by
      rcases getD_mem_or L i [] with h | h
      · exact hE _ h
      · rw [h]; simp
    refine a_call _ _ (law_limbs (L.getD i []) (L.getD i []) (by omega)) (by simp (maxSteps := 1000000) (disch := first | omega | (simp only [List.length_set, List.length_append, List.length_replicate, List.length_take, List.length_drop, List.length_cons, List.length_nil, List.length_map]; omega)) only [W, V, TY, reduceIte, Nat.reduceEqDiff, Option.isSome_some, true_and, and_true, and_self, decide_true, decide_false, if_true, if_false, Bool.false_eq_true, Bool.true_eq_false, Option.map_some, Option.map_none, Option.some.injEq, eq_self, Int.toNat_natCast, List.length_cons, List.length_nil, Nat.reduceAdd, Nat.reduceLeDiff, Nat.reduceLT, Nat.zero_add, List.take_succ_cons, List.take_zero, List.drop_succ_cons, Int.toNat_zero, List.drop_zero, forall_const, imp_self, List.replicate_succ, List.replicate_zero, List.flatten_cons, List.flatten_nil, List.cons_append, List.nil_append, List.append_nil, Nat.zero_mul, Nat.one_mul, Nat.mul_one, Int.reduceLE, Int.reduceLT, List.toList_toArray, Int.add_sub_cancel, Int.reduceAdd, Int.reduceSub, Int.reduceToNat, List.take_length, List.length_drop, List.map_cons, List.map_nil, Classical.not_not, not_true_eq_false, not_false_eq_true, List.length_set, List.length_replicate, Nat.reduceMul, t3, t5, t7]) ?_
    simp (maxSteps := 1000000) (disch := first | omega | (simp only [List.length_set, List.length_append, List.length_replicate, List.length_take, List.length_drop, List.length_cons, List.length_nil, List.length_map]; omega)) only [W, V, TY, reduceIte, Nat.reduceEqDiff, Option.isSome_some, true_and, and_true, and_self, decide_true, decide_false, if_true, if_false, Bool.false_eq_true, Bool.true_eq_false, Option.map_some, Option.map_none, Option.some.injEq, eq_self, Int.toNat_natCast, List.length_cons, List.length_nil, Nat.reduceAdd, Nat.reduceLeDiff, Nat.reduceLT, Nat.zero_add, List.take_succ_cons, List.take_zero, List.drop_succ_cons, Int.toNat_zero, List.drop_zero, forall_const, imp_self, List.replicate_succ, List.replicate_zero, List.flatten_cons, List.flatten_nil, List.cons_append, List.nil_append, List.append_nil, Nat.zero_mul, Nat.one_mul, Nat.mul_one, Int.reduceLE, Int.reduceLT, List.toList_toArray, Int.add_sub_cancel, Int.reduceAdd, Int.reduceSub, Int.reduceToNat, List.take_length, List.length_drop, List.map_cons, List.map_nil, Classical.not_not, not_true_eq_false, not_false_eq_true, List.length_set, List.length_replicate, Nat.reduceMul, t3, t5, t7]
    exact ⟨n - 1, by omega, i + 1, by omega, rfl⟩
  · simp (maxSteps := 1000000) (disch := first | omega | (simp only [List.length_set, List.length_append, List.length_replicate, List.length_take, List.length_drop, List.length_cons, List.length_nil, List.length_map]; omega)) only [W, V, TY, reduceIte, Nat.reduceEqDiff, Option.isSome_some, true_and, and_true, and_self, decide_true, decide_false, if_true, if_false, Bool.false_eq_true, Bool.true_eq_false, Option.map_some, Option.map_none, Option.some.injEq, eq_self, Int.toNat_natCast, List.length_cons, List.length_nil, Nat.reduceAdd, Nat.reduceLeDiff, Nat.reduceLT, Nat.zero_add, List.take_succ_cons, List.take_zero, List.drop_succ_cons, Int.toNat_zero, List.drop_zero, forall_const, imp_self, List.replicate_succ, List.replicate_zero, List.flatten_cons, List.flatten_nil, List.cons_append, List.nil_append, List.append_nil, Nat.zero_mul, Nat.one_mul, Nat.mul_one, Int.reduceLE, Int.reduceLT, List.toList_toArray, Int.add_sub_cancel, Int.reduceAdd, Int.reduceSub, Int.reduceToNat, List.take_length, List.length_drop, List.map_cons, List.map_nil, Classical.not_not, not_true_eq_false, not_false_eq_true, List.length_set, List.length_replicate, Nat.reduceMul, t3, t5, t7]
    refine f_ret _ _ _ ?_
    simp (maxSteps := 1000000) (disch := first | omega | (simp only [List.length_set, List.length_append, List.length_replicate, List.length_take, List.length_drop, List.length_cons, List.length_nil, List.length_map]; omega)) only [W, V, TY, reduceIte, Nat.reduceEqDiff, Option.isSome_some, true_and, and_true, and_self, decide_true, decide_false, if_true, if_false, Bool.false_eq_true, Bool.true_eq_false, Option.map_some, Option.map_none, Option.some.injEq, eq_self, Int.toNat_natCast, List.length_cons, List.length_nil, Nat.reduceAdd, Nat.reduceLeDiff, Nat.reduceLT, Nat.zero_add, List.take_succ_cons, List.take_zero, List.drop_succ_cons, Int.toNat_zero, List.drop_zero, forall_const, imp_self, List.replicate_succ, List.replicate_zero, List.flatten_cons, List.flatten_nil, List.cons_append, List.nil_append, List.append_nil, Nat.zero_mul, Nat.one_mul, Nat.mul_one, Int.reduceLE, Int.reduceLT, List.toList_toArray, Int.add_sub_cancel, Int.reduceAdd, Int.reduceSub, Int.reduceToNat, List.take_length, List.length_drop, List.map_cons, List.map_nil, Classical.not_not, not_true_eq_false, not_false_eq_true, List.length_set, List.length_replicate, Nat.reduceMul]
end Go.Proofs.Ythhaoojgfbofnaa.E
