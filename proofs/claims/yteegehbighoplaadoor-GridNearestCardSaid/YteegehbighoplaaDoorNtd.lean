/- An abstract interpreter over data, and contracts of the program's functions, part 4; no condition. -/
import Derived.Test.YteegehbighoplaaDoorNtc
set_option linter.unusedSimpArgs false
set_option linter.unusedVariables false
set_option maxHeartbeats 2000000
namespace Go.Proofs.YteegehbighoplaaDoor.E
open Go.RowKit Limbs
theorem nl_small {v : Nat} (h0 : 0 < v) (h1 : v < 4294967296) : nl v = [(v : Int)] := by
  have hl : (nl v).length ≤ 1 := nl_len (by omega)
  have hn : nl v ≠ [] := fun e => by have := nl_eq_nil.1 e; omega
  have hv := nv_nl v
  match h : nl v, hn, hl with
  | [x], _, _ =>
    rw [h] at hv
    have hx := (nl_lim v)
    rw [h] at hx
    have := hx x (List.mem_singleton.2 rfl)
    unfold nv at hv
    simp only [val] at hv
    congr 1
    omega
  | _ :: _ :: _, _, hl => simp at hl
/-- examboard/nat.Print -/
def b51 : AF := ⟨60, 1, [.tmp 2],
  (.seq (.reg [
    ⟨some 2, .assign (.const (.string ⟨#[]⟩)), none⟩])
  (.seq (.reg [
    ⟨some 10, .move (.tmp 0), none⟩,
    ⟨some 11, .call ⟨(.value (.func 68)), #[(.tmp 10)], #[26]⟩, none⟩,
    ⟨some 3, .assign (.tmp 11), none⟩])
  (.seq (.reg [
    ⟨some 4, .assign (.const (.slice none 0 0)), none⟩])
  (.seq (.block 0 (.loop (.seq (.seq (.reg [
    ⟨some 12, .move (.tmp 3), none⟩,
    ⟨some 13, .call ⟨(.builtin .len), #[(.tmp 12)], #[26]⟩, none⟩,
    ⟨some 14, .binOp .gtr 3 (.tmp 13) (.const (.int .i64 0)) 3, none⟩])
  (.cond (.tmp 14)
    .skip
    (.exit 0)))
  (.block 1 (.seq (.reg [
    ⟨some 16, .move (.tmp 3), none⟩,
    ⟨some 17, .call ⟨(.value (.func 71)), #[(.tmp 16), (.const (.int .u32 1000000000))], #[26, 42]⟩, none⟩,
    ⟨some 15, .move (.tmp 17), none⟩,
    ⟨some 18, .extract (.tmp 15) 0, none⟩,
    ⟨some 19, .extract (.tmp 15) 1, none⟩,
    ⟨some 5, .assign (.tmp 18), none⟩,
    ⟨some 6, .assign (.tmp 19), none⟩])
  (.seq (.reg [
    ⟨some 20, .move (.tmp 4), none⟩,
    ⟨some 21, .move (.tmp 6), none⟩,
    ⟨some 22, .buildSlice 25 1 #[(0, (.tmp 21))], none⟩,
    ⟨some 23, .call ⟨(.builtin .append), #[(.tmp 20), (.tmp 22)], #[25, 25]⟩, none⟩,
    ⟨some 4, .assign (.tmp 23), none⟩])
  (.reg [
    ⟨some 24, .move (.tmp 5), none⟩,
    ⟨some 3, .assign (.tmp 24), none⟩])))))))
  (.seq (.seq (.reg [
    ⟨some 25, .move (.tmp 4), none⟩,
    ⟨some 26, .call ⟨(.builtin .len), #[(.tmp 25)], #[25]⟩, none⟩,
    ⟨some 27, .binOp .eql 3 (.tmp 26) (.const (.int .i64 0)) 3, none⟩])
  (.cond (.tmp 27)
    (.seq (.reg [
      ⟨some 2, .assign (.const (.string ⟨#[48]⟩)), none⟩])
    .ret)
    .skip))
  (.seq (.reg [
    ⟨some 7, .assign (.const (.slice none 0 0)), none⟩])
  (.seq (.seq (.reg [
    ⟨some 28, .move (.tmp 4), none⟩,
    ⟨some 29, .call ⟨(.builtin .len), #[(.tmp 28)], #[25]⟩, none⟩,
    ⟨some 30, .binOp .sub 3 (.tmp 29) (.const (.int .i64 1)) 3, none⟩,
    ⟨some 8, .assign (.tmp 30), none⟩])
  (.block 2 (.loop (.seq (.seq (.reg [
    ⟨some 31, .move (.tmp 8), none⟩,
    ⟨some 32, .binOp .geq 3 (.tmp 31) (.const (.int .i64 0)) 3, none⟩])
  (.cond (.tmp 32)
    .skip
    (.exit 2)))
  (.seq (.block 3 (.seq (.reg [
    ⟨some 35, .move (.tmp 4), none⟩,
    ⟨some 36, .move (.tmp 8), none⟩,
    ⟨some 37, .indexAddr 25 (.tmp 35) (.tmp 36), none⟩,
    ⟨some 38, .load 42 (.tmp 37), none⟩,
    ⟨some 39, .convert 42 48 (.tmp 38), none⟩,
    ⟨some 40, .call ⟨(.value (.func 72)), #[(.tmp 39), (.const (.int .i64 10))], #[48, 3]⟩, none⟩,
    ⟨some 9, .assign (.tmp 40), none⟩])
  (.seq (.seq (.reg [
    ⟨some 41, .move (.tmp 8), none⟩,
    ⟨some 42, .move (.tmp 4), none⟩,
    ⟨some 43, .call ⟨(.builtin .len), #[(.tmp 42)], #[25]⟩, none⟩,
    ⟨some 44, .binOp .sub 3 (.tmp 43) (.const (.int .i64 1)) 3, none⟩,
    ⟨some 45, .binOp .lss 3 (.tmp 41) (.tmp 44) 3, none⟩])
  (.cond (.tmp 45)
    (.seq (.reg [
      ⟨some 46, .move (.tmp 9), none⟩,
      ⟨some 47, .call ⟨(.builtin .len), #[(.tmp 46)], #[9]⟩, none⟩,
      ⟨some 48, .binOp .sub 3 (.const (.int .i64 9)) (.tmp 47) 3, none⟩,
      ⟨some 49, .move (.const (.int .i64 0)), none⟩])
    (.block 4 (.loop (.seq (.reg [
      ⟨some 50, .binOp .lss 3 (.tmp 49) (.tmp 48) 3, none⟩])
    (.seq (.cond (.tmp 50)
      .skip
      (.exit 4))
    (.seq (.block 5 (.reg [
      ⟨some 51, .move (.tmp 7), none⟩,
      ⟨some 52, .buildSlice 103 1 #[(0, (.const (.int .u8 48)))], none⟩,
      ⟨some 53, .call ⟨(.builtin .append), #[(.tmp 51), (.tmp 52)], #[103, 103]⟩, none⟩,
      ⟨some 7, .assign (.tmp 53), none⟩]))
    (.reg [
      ⟨some 54, .binOp .add 3 (.tmp 49) (.const (.int .i64 1)) 3, none⟩,
      ⟨some 49, .move (.tmp 54), none⟩])))))))
    .skip))
  (.reg [
    ⟨some 55, .move (.tmp 7), none⟩,
    ⟨some 56, .move (.tmp 9), none⟩,
    ⟨some 57, .call ⟨(.builtin .append), #[(.tmp 55), (.tmp 56)], #[103, 9]⟩, none⟩,
    ⟨some 7, .assign (.tmp 57), none⟩]))))
  (.reg [
    ⟨some 33, .move (.tmp 8), none⟩,
    ⟨some 34, .binOp .sub 3 (.tmp 33) (.const (.int .i64 1)) 3, none⟩,
    ⟨some 8, .assign (.tmp 34), none⟩]))))))
  (.seq (.seq (.gh [.frz 7])
  (.reg [
    ⟨some 58, .move (.tmp 7), none⟩,
    ⟨some 59, .convert 103 9 (.tmp 58), none⟩,
    ⟨some 2, .assign (.tmp 59), none⟩]))
  .ret))))))))⟩
theorem c51 : fcomp Tryd.prog 51 = ⟨b51.n, b51.np, b51.res, b51.body.bare⟩ := by kernel_rfl
theorem k51 : fok Tryd.prog 51 = true := by kernel_rfl
theorem nat_Print (v : Nat) (b : ByteArray) (h0 : 0 < v) (h1 : v < 1000000000) (hb : b.size ≤ 9) (hF : AFun Tryd.prog 72 [.one (.lit (.int .u64 v)), .one (.lit (.int .i64 10))] [.one (.lit (.string b))]) : AFun Tryd.prog 51 [.one (natD (nl v))] [.one (.lit (.string b))] := by
  refine afun_intro mo_ _ _ c51 k51 _ _ rfl (by decide) ?_
  unfold b51
  have e := nl_small h0 (by omega)
  have hlim := nl_lim v
  have hlen : (nl v).length = 1 := by rw [e]; rfl
  simp (maxSteps := 1000000) (disch := first | omega | (simp only [LL]; omega)) only [W, V, TY, CC, reduceIte, Nat.reduceEqDiff, Nat.reduceAdd, Nat.reduceLeDiff, Nat.reduceLT, Int.reduceLE, Int.reduceLT, Int.reduceAdd, Int.reduceSub, Int.reduceToNat, Nat.reduceMul]
  refine a_call _ _ (nat_Norm (nl v) hlim (by omega)) (by simp (maxSteps := 1000000) (disch := first | omega | (simp only [LL]; omega)) only [W, V, TY, CC, reduceIte, Nat.reduceEqDiff, Nat.reduceAdd, Nat.reduceLeDiff, Nat.reduceLT, Int.reduceLE, Int.reduceLT, Int.reduceAdd, Int.reduceSub, Int.reduceToNat, Nat.reduceMul]) ?_
  rw [show tr (nl v) = nl v by unfold tr; rw [nv_nl]]
  simp (maxSteps := 1000000) (disch := first | omega | (simp only [LL]; omega)) only [W, V, TY, CC, reduceIte, Nat.reduceEqDiff, Nat.reduceAdd, Nat.reduceLeDiff, Nat.reduceLT, Int.reduceLE, Int.reduceLT, Int.reduceAdd, Int.reduceSub, Int.reduceToNat, Nat.reduceMul]
  refine w_loop (fun k s => (k = 1 ∧ s.t 3 = .one (.dt (natD (nl v))) ∧ s.t 4 = .one .z ∧ s.g 23 = 0 ∧ s.g 57 = 0) ∨ (k = 0 ∧ s.t 3 = .one (.dt (natD (nl 0))) ∧ s.t 4 = .one (.row (23, 0) 0) ∧ s.r (23, 0) = some ⟨42, 1, 1, natC [(v : Int)], 0, true⟩ ∧ s.g 57 = 0)) 1 (.inl ⟨rfl, ?_, ?_, ?_, ?_⟩) ?_
  · simp (maxSteps := 1000000) (disch := first | omega | (simp only [LL]; omega)) only [W, V, TY, CC, reduceIte, Nat.reduceEqDiff, Nat.reduceAdd, Nat.reduceLeDiff, Nat.reduceLT, Int.reduceLE, Int.reduceLT, Int.reduceAdd, Int.reduceSub, Int.reduceToNat, Nat.reduceMul]
  · simp (maxSteps := 1000000) (disch := first | omega | (simp only [LL]; omega)) only [W, V, TY, CC, reduceIte, Nat.reduceEqDiff, Nat.reduceAdd, Nat.reduceLeDiff, Nat.reduceLT, Int.reduceLE, Int.reduceLT, Int.reduceAdd, Int.reduceSub, Int.reduceToNat, Nat.reduceMul]
  · simp (maxSteps := 1000000) (disch := first | omega | (simp only [LL]; omega)) only [W, V, TY, CC, reduceIte, Nat.reduceEqDiff, Nat.reduceAdd, Nat.reduceLeDiff, Nat.reduceLT, Int.reduceLE, Int.reduceLT, Int.reduceAdd, Int.reduceSub, Int.reduceToNat, Nat.reduceMul]
  · simp (maxSteps := 1000000) (disch := first | omega | (simp only [LL]; omega)) only [W, V, TY, CC, reduceIte, Nat.reduceEqDiff, Nat.reduceAdd, Nat.reduceLeDiff, Nat.reduceLT, Int.reduceLE, Int.reduceLT, Int.reduceAdd, Int.reduceSub, Int.reduceToNat, Nat.reduceMul]
  intro k s hwf hi
  rcases hi with ⟨rfl, t3, t4, g23, g57⟩ | ⟨rfl, t3, t4, r23, g57⟩
  · simp (maxSteps := 1000000) (disch := first | omega | (simp only [LL]; omega)) only [W, V, TY, CC, reduceIte, Nat.reduceEqDiff, Nat.reduceAdd, Nat.reduceLeDiff, Nat.reduceLT, Int.reduceLE, Int.reduceLT, Int.reduceAdd, Int.reduceSub, Int.reduceToNat, Nat.reduceMul, t3, t4, g23, g57, hlen]
    refine a_call _ _ (nat_divSmall (nl v) 1000000000 hlim (by omega) (by decide) (by decide)) (by simp (maxSteps := 1000000) (disch := first | omega | (simp only [LL]; omega)) only [W, V, TY, CC, reduceIte, Nat.reduceEqDiff, Nat.reduceAdd, Nat.reduceLeDiff, Nat.reduceLT, Int.reduceLE, Int.reduceLT, Int.reduceAdd, Int.reduceSub, Int.reduceToNat, Nat.reduceMul, t3]) ?_
    rw [nv_nl, show v / (Int.toNat 1000000000) = 0 from Nat.div_eq_of_lt h1, show v % (Int.toNat 1000000000) = v from Nat.mod_eq_of_lt h1]
    have ec : [Dt.lit (.int .u32 (v : Int))] = natC [(v : Int)] := rfl
    simp (maxSteps := 1000000) (disch := first | omega | (simp only [LL]; omega)) only [W, V, TY, CC, reduceIte, Nat.reduceEqDiff, Nat.reduceAdd, Nat.reduceLeDiff, Nat.reduceLT, Int.reduceLE, Int.reduceLT, Int.reduceAdd, Int.reduceSub, Int.reduceToNat, Nat.reduceMul, t3, t4, g23, g57, ap_z, as_z, maxLen_eq, ec]
    refine ⟨0, by omega, .inr rfl⟩
  · have z1 : ((1 : Int) = 0) = False := eq_false (by decide)
    simp (maxSteps := 1000000) (disch := first | omega | (simp only [LL]; omega)) only [W, V, TY, CC, reduceIte, Nat.reduceEqDiff, Nat.reduceAdd, Nat.reduceLeDiff, Nat.reduceLT, Int.reduceLE, Int.reduceLT, Int.reduceAdd, Int.reduceSub, Int.reduceToNat, Nat.reduceMul, t3, t4, r23, g57, nl_zero, z1]
    refine w_loop (fun k s => (k = 1 ∧ s.t 8 = .one (.dt (.lit (.int .i64 0))) ∧ s.t 4 = .one (.row (23, 0) 0) ∧ s.r (23, 0) = some ⟨42, 1, 1, natC [(v : Int)], 0, true⟩ ∧ s.t 7 = .one .z ∧ s.g 57 = 0) ∨ (k = 0 ∧ s.t 8 = .one (.dt (.lit (.int .i64 (-1)))) ∧ s.t 7 = .one (.row (57, 0) 0) ∧ s.r (57, 0) = some ⟨5, 1, b.size, strD b, 0, true⟩)) 1 (.inl ⟨rfl, ?_, ?_, ?_, ?_, ?_⟩) ?_
    · simp (maxSteps := 1000000) (disch := first | omega | (simp only [LL]; omega)) only [W, V, TY, CC, reduceIte, Nat.reduceEqDiff, Nat.reduceAdd, Nat.reduceLeDiff, Nat.reduceLT, Int.reduceLE, Int.reduceLT, Int.reduceAdd, Int.reduceSub, Int.reduceToNat, Nat.reduceMul, t3, t4, r23, g57]
    · simp (maxSteps := 1000000) (disch := first | omega | (simp only [LL]; omega)) only [W, V, TY, CC, reduceIte, Nat.reduceEqDiff, Nat.reduceAdd, Nat.reduceLeDiff, Nat.reduceLT, Int.reduceLE, Int.reduceLT, Int.reduceAdd, Int.reduceSub, Int.reduceToNat, Nat.reduceMul, t3, t4, r23, g57]
    · simp (maxSteps := 1000000) (disch := first | omega | (simp only [LL]; omega)) only [W, V, TY, CC, reduceIte, Nat.reduceEqDiff, Nat.reduceAdd, Nat.reduceLeDiff, Nat.reduceLT, Int.reduceLE, Int.reduceLT, Int.reduceAdd, Int.reduceSub, Int.reduceToNat, Nat.reduceMul, t3, t4, r23, g57]
    · simp (maxSteps := 1000000) (disch := first | omega | (simp only [LL]; omega)) only [W, V, TY, CC, reduceIte, Nat.reduceEqDiff, Nat.reduceAdd, Nat.reduceLeDiff, Nat.reduceLT, Int.reduceLE, Int.reduceLT, Int.reduceAdd, Int.reduceSub, Int.reduceToNat, Nat.reduceMul, t3, t4, r23, g57]
    · simp (maxSteps := 1000000) (disch := first | omega | (simp only [LL]; omega)) only [W, V, TY, CC, reduceIte, Nat.reduceEqDiff, Nat.reduceAdd, Nat.reduceLeDiff, Nat.reduceLT, Int.reduceLE, Int.reduceLT, Int.reduceAdd, Int.reduceSub, Int.reduceToNat, Nat.reduceMul, t3, t4, r23, g57]
    clear t3 t4 r23 g57 hwf
    intro k s hwf hi
    rcases hi with ⟨rfl, t8, t4, r23, t7, g57⟩ | ⟨rfl, t8, t7, r57⟩
    · have ec : natC [(v : Int)] = [Dt.lit (.int .u32 (v : Int))] := rfl
      have wv : IntKind.u64.wrap (v : Int) = v := by rw [IntKind.wrap_u64]; omega
      simp (maxSteps := 1000000) (disch := first | omega | (simp only [LL]; omega)) only [W, V, TY, CC, reduceIte, Nat.reduceEqDiff, Nat.reduceAdd, Nat.reduceLeDiff, Nat.reduceLT, Int.reduceLE, Int.reduceLT, Int.reduceAdd, Int.reduceSub, Int.reduceToNat, Nat.reduceMul, t8, t4, r23, t7, g57, ec, wv]
      refine a_call _ _ hF (by simp (maxSteps := 1000000) (disch := first | omega | (simp only [LL]; omega)) only [W, V, TY, CC, reduceIte, Nat.reduceEqDiff, Nat.reduceAdd, Nat.reduceLeDiff, Nat.reduceLT, Int.reduceLE, Int.reduceLT, Int.reduceAdd, Int.reduceSub, Int.reduceToNat, Nat.reduceMul, t8, t4, r23, t7, g57]) ?_
      simp (maxSteps := 1000000) (disch := first | omega | (simp only [LL]; omega)) only [W, V, TY, CC, reduceIte, Nat.reduceEqDiff, Nat.reduceAdd, Nat.reduceLeDiff, Nat.reduceLT, Int.reduceLE, Int.reduceLT, Int.reduceAdd, Int.reduceSub, Int.reduceToNat, Nat.reduceMul, t8, t4, r23, t7, g57]
      refine a_sapp b 5 (by simp (maxSteps := 1000000) (disch := first | omega | (simp only [LL]; omega)) only [W, V, TY, CC, reduceIte, Nat.reduceEqDiff, Nat.reduceAdd, Nat.reduceLeDiff, Nat.reduceLT, Int.reduceLE, Int.reduceLT, Int.reduceAdd, Int.reduceSub, Int.reduceToNat, Nat.reduceMul]) (by simp (maxSteps := 1000000) (disch := first | omega | (simp only [LL]; omega)) only [W, V, TY, CC, reduceIte, Nat.reduceEqDiff, Nat.reduceAdd, Nat.reduceLeDiff, Nat.reduceLT, Int.reduceLE, Int.reduceLT, Int.reduceAdd, Int.reduceSub, Int.reduceToNat, Nat.reduceMul]) (by simp (maxSteps := 1000000) (disch := first | omega | (simp only [LL]; omega)) only [W, V, TY, CC, reduceIte, Nat.reduceEqDiff, Nat.reduceAdd, Nat.reduceLeDiff, Nat.reduceLT, Int.reduceLE, Int.reduceLT, Int.reduceAdd, Int.reduceSub, Int.reduceToNat, Nat.reduceMul]) (by simp (maxSteps := 1000000) (disch := first | omega | (simp only [LL]; omega)) only [W, V, TY, CC, reduceIte, Nat.reduceEqDiff, Nat.reduceAdd, Nat.reduceLeDiff, Nat.reduceLT, Int.reduceLE, Int.reduceLT, Int.reduceAdd, Int.reduceSub, Int.reduceToNat, Nat.reduceMul]) ?_ ?_
      · simp (maxSteps := 1000000) (disch := first | omega | (simp only [LL]; omega)) only [W, V, TY, CC, reduceIte, Nat.reduceEqDiff, Nat.reduceAdd, Nat.reduceLeDiff, Nat.reduceLT, Int.reduceLE, Int.reduceLT, Int.reduceAdd, Int.reduceSub, Int.reduceToNat, Nat.reduceMul, t7, ap_z, maxLen_eq, strD_len]
        omega
      simp (maxSteps := 1000000) (disch := first | omega | (simp only [LL]; omega)) only [W, V, TY, CC, reduceIte, Nat.reduceEqDiff, Nat.reduceAdd, Nat.reduceLeDiff, Nat.reduceLT, Int.reduceLE, Int.reduceLT, Int.reduceAdd, Int.reduceSub, Int.reduceToNat, Nat.reduceMul, t8, t4, r23, t7, g57, as_z]
      exact ⟨0, by omega, .inr rfl⟩
    · simp (maxSteps := 1000000) (disch := first | omega | (simp only [LL]; omega)) only [W, V, TY, CC, reduceIte, Nat.reduceEqDiff, Nat.reduceAdd, Nat.reduceLeDiff, Nat.reduceLT, Int.reduceLE, Int.reduceLT, Int.reduceAdd, Int.reduceSub, Int.reduceToNat, Nat.reduceMul, t8, t7, r57]
      refine a_sconv b 5 (by simp (maxSteps := 1000000) (disch := first | omega | (simp only [LL]; omega)) only [W, V, TY, CC, reduceIte, Nat.reduceEqDiff, Nat.reduceAdd, Nat.reduceLeDiff, Nat.reduceLT, Int.reduceLE, Int.reduceLT, Int.reduceAdd, Int.reduceSub, Int.reduceToNat, Nat.reduceMul]) (by simp (maxSteps := 1000000) (disch := first | omega | (simp only [LL]; omega)) only [W, V, TY, CC, reduceIte, Nat.reduceEqDiff, Nat.reduceAdd, Nat.reduceLeDiff, Nat.reduceLT, Int.reduceLE, Int.reduceLT, Int.reduceAdd, Int.reduceSub, Int.reduceToNat, Nat.reduceMul]) (by simp (maxSteps := 1000000) (disch := first | omega | (simp only [LL]; omega)) only [W, V, TY, CC, reduceIte, Nat.reduceEqDiff, Nat.reduceAdd, Nat.reduceLeDiff, Nat.reduceLT, Int.reduceLE, Int.reduceLT, Int.reduceAdd, Int.reduceSub, Int.reduceToNat, Nat.reduceMul]) ?_ ?_
      · simp (maxSteps := 1000000) (disch := first | omega | (simp only [LL]; omega)) only [W, V, TY, CC, reduceIte, Nat.reduceEqDiff, Nat.reduceAdd, Nat.reduceLeDiff, Nat.reduceLT, Int.reduceLE, Int.reduceLT, Int.reduceAdd, Int.reduceSub, Int.reduceToNat, Nat.reduceMul, t8, t7, r57]
        exact sd_row ⟨5, 1, b.size, strD b, 0, false⟩ (by simp (maxSteps := 1000000) (disch := first | omega | (simp only [LL]; omega)) only [W, V, TY, CC, reduceIte, Nat.reduceEqDiff, Nat.reduceAdd, Nat.reduceLeDiff, Nat.reduceLT, Int.reduceLE, Int.reduceLT, Int.reduceAdd, Int.reduceSub, Int.reduceToNat, Nat.reduceMul, r57]) rfl rfl
      simp (maxSteps := 1000000) (disch := first | omega | (simp only [LL]; omega)) only [W, V, TY, CC, reduceIte, Nat.reduceEqDiff, Nat.reduceAdd, Nat.reduceLeDiff, Nat.reduceLT, Int.reduceLE, Int.reduceLT, Int.reduceAdd, Int.reduceSub, Int.reduceToNat, Nat.reduceMul]
      refine f_ret _ _ _ ?_
      simp (maxSteps := 1000000) (disch := first | omega | (simp only [LL]; omega)) only [W, V, TY, CC, reduceIte, Nat.reduceEqDiff, Nat.reduceAdd, Nat.reduceLeDiff, Nat.reduceLT, Int.reduceLE, Int.reduceLT, Int.reduceAdd, Int.reduceSub, Int.reduceToNat, Nat.reduceMul]
theorem nat_Print0 : AFun Tryd.prog 51 [.one (natD (nl 0))] [.one (.lit (.string ⟨#[48]⟩))] := by
  refine afun_intro mo_ _ _ c51 k51 _ _ rfl (by decide) ?_
  unfold b51
  have hlim := nl_lim 0
  have hlen : (nl 0).length = 0 := by rw [nl_zero]; rfl
  simp (maxSteps := 1000000) (disch := first | omega | (simp only [LL]; omega)) only [W, V, TY, CC, reduceIte, Nat.reduceEqDiff, Nat.reduceAdd, Nat.reduceLeDiff, Nat.reduceLT, Int.reduceLE, Int.reduceLT, Int.reduceAdd, Int.reduceSub, Int.reduceToNat, Nat.reduceMul]
  refine a_call _ _ (nat_Norm (nl 0) hlim (by omega)) (by simp (maxSteps := 1000000) (disch := first | omega | (simp only [LL]; omega)) only [W, V, TY, CC, reduceIte, Nat.reduceEqDiff, Nat.reduceAdd, Nat.reduceLeDiff, Nat.reduceLT, Int.reduceLE, Int.reduceLT, Int.reduceAdd, Int.reduceSub, Int.reduceToNat, Nat.reduceMul]) ?_
  rw [show tr (nl 0) = nl 0 by unfold tr; rw [nv_nl]]
  simp (maxSteps := 1000000) (disch := first | omega | (simp only [LL]; omega)) only [W, V, TY, CC, reduceIte, Nat.reduceEqDiff, Nat.reduceAdd, Nat.reduceLeDiff, Nat.reduceLT, Int.reduceLE, Int.reduceLT, Int.reduceAdd, Int.reduceSub, Int.reduceToNat, Nat.reduceMul]
  refine w_loop (fun k s => s.t 3 = .one (.dt (natD (nl 0))) ∧ s.t 4 = .one .z) 0 ⟨?_, ?_⟩ ?_
  · simp (maxSteps := 1000000) (disch := first | omega | (simp only [LL]; omega)) only [W, V, TY, CC, reduceIte, Nat.reduceEqDiff, Nat.reduceAdd, Nat.reduceLeDiff, Nat.reduceLT, Int.reduceLE, Int.reduceLT, Int.reduceAdd, Int.reduceSub, Int.reduceToNat, Nat.reduceMul]
  · simp (maxSteps := 1000000) (disch := first | omega | (simp only [LL]; omega)) only [W, V, TY, CC, reduceIte, Nat.reduceEqDiff, Nat.reduceAdd, Nat.reduceLeDiff, Nat.reduceLT, Int.reduceLE, Int.reduceLT, Int.reduceAdd, Int.reduceSub, Int.reduceToNat, Nat.reduceMul]
  intro k s hwf ⟨t3, t4⟩
  simp (maxSteps := 1000000) (disch := first | omega | (simp only [LL]; omega)) only [W, V, TY, CC, reduceIte, Nat.reduceEqDiff, Nat.reduceAdd, Nat.reduceLeDiff, Nat.reduceLT, Int.reduceLE, Int.reduceLT, Int.reduceAdd, Int.reduceSub, Int.reduceToNat, Nat.reduceMul, t3, t4, hlen]
  refine f_ret _ _ _ ?_
  simp (maxSteps := 1000000) (disch := first | omega | (simp only [LL]; omega)) only [W, V, TY, CC, reduceIte, Nat.reduceEqDiff, Nat.reduceAdd, Nat.reduceLeDiff, Nat.reduceLT, Int.reduceLE, Int.reduceLT, Int.reduceAdd, Int.reduceSub, Int.reduceToNat, Nat.reduceMul]
/-- a natural number below 100, in digits -/
def dig (v : Nat) : ByteArray := if v = 0 then ⟨#[48]⟩ else smallS v
theorem smallS_size {i : Int} (h0 : 0 ≤ i) (h1 : i < 100) : (smallS i).size ≤ 2 := by
  unfold smallS
  split
  · rw [ByteArray.size_extract, digS_size]; omega
  · rw [ByteArray.size_extract, twoS_size]; omega
theorem dig_size {v : Nat} (h1 : v < 100) : (dig v).size ≤ 2 := by
  unfold dig
  split
  · decide
  · exact smallS_size (by omega) (by omega)
theorem nat_Print2 (v : Nat) (h1 : v < 100) : AFun Tryd.prog 51 [.one (natD (nl v))] [.one (.lit (.string (dig v)))] := by
  unfold dig
  split
  · rename_i h; subst h; exact nat_Print0
  · have := smallS_size (i := v) (by omega) (by omega)
    exact nat_Print v _ (by omega) (by omega) (by omega) (str_FormatUint v (by omega) (by omega))
/-- an integer, in digits -/
def digI (z : Int) : ByteArray := if z < 0 then ⟨#[45]⟩ ++ dig z.natAbs else dig z.natAbs
/-- examboard/integer.Print -/
def b49 : AF := ⟨13, 1, [.tmp 2],
  (.seq (.reg [
    ⟨some 1, .box 28 (.tmp 0), none⟩,
    ⟨some 2, .assign (.const (.string ⟨#[]⟩)), none⟩])
  (.seq (.seq (.reg [
    ⟨some 3, .load 28 (.tmp 1), none⟩,
    ⟨some 4, .call ⟨(.value (.func 60)), #[(.tmp 3)], #[28]⟩, none⟩,
    ⟨some 5, .binOp .lss 3 (.tmp 4) (.const (.int .i64 0)) 3, none⟩])
  (.cond (.tmp 5)
    (.seq (.reg [
      ⟨some 6, .fieldAddr 28 (.tmp 1) 1, none⟩,
      ⟨some 7, .load 26 (.tmp 6), none⟩,
      ⟨some 8, .call ⟨(.value (.func 51)), #[(.tmp 7)], #[26]⟩, none⟩,
      ⟨some 9, .binOp .add 9 (.const (.string ⟨#[45]⟩)) (.tmp 8) 9, none⟩,
      ⟨some 2, .assign (.tmp 9), none⟩])
    .ret)
    .skip))
  (.seq (.reg [
    ⟨some 10, .fieldAddr 28 (.tmp 1) 1, none⟩,
    ⟨some 11, .load 26 (.tmp 10), none⟩,
    ⟨some 12, .call ⟨(.value (.func 51)), #[(.tmp 11)], #[26]⟩, none⟩,
    ⟨some 2, .assign (.tmp 12), none⟩])
  .ret)))⟩
theorem c49 : fcomp Tryd.prog 49 = ⟨b49.n, b49.np, b49.res, b49.body.bare⟩ := by kernel_rfl
theorem k49 : fok Tryd.prog 49 = true := by kernel_rfl
theorem int_Print (z : Int) (h0 : -100 < z) (h1 : z < 100) : AFun Tryd.prog 49 [.agg (intC z)] [.one (.lit (.string (digI z)))] := by
  refine afun_intro mo_ _ _ c49 k49 _ _ rfl (by decide) ?_
  unfold b49
  have hl : (nl z.natAbs).length ≤ 1 := nl_len (by omega)
  have hz : (dig z.natAbs).size ≤ 2 := dig_size (by omega)
  have h45 : (⟨#[45]⟩ : ByteArray).size = 1 := rfl
  have cs : sgn z < 0 ↔ z < 0 := by unfold sgn; split <;> (try split) <;> omega
  unfold digI
  simp (maxSteps := 1000000) (disch := first | omega | (simp only [LL]; omega)) only [W, V, TY, CC, reduceIte, Nat.reduceEqDiff, Nat.reduceAdd, Nat.reduceLeDiff, Nat.reduceLT, Int.reduceLE, Int.reduceLT, Int.reduceAdd, Int.reduceSub, Int.reduceToNat, Nat.reduceMul, intC]
  refine a_call _ _ (int_Sign (decide (z < 0)) (nl z.natAbs) (nl_lim _) (by omega)) (by simp (maxSteps := 1000000) (disch := first | omega | (simp only [LL]; omega)) only [W, V, TY, CC, reduceIte, Nat.reduceEqDiff, Nat.reduceAdd, Nat.reduceLeDiff, Nat.reduceLT, Int.reduceLE, Int.reduceLT, Int.reduceAdd, Int.reduceSub, Int.reduceToNat, Nat.reduceMul]) ?_
  rw [iv_nl]
  simp (maxSteps := 1000000) (disch := first | omega | (simp only [LL]; omega)) only [W, V, TY, CC, reduceIte, Nat.reduceEqDiff, Nat.reduceAdd, Nat.reduceLeDiff, Nat.reduceLT, Int.reduceLE, Int.reduceLT, Int.reduceAdd, Int.reduceSub, Int.reduceToNat, Nat.reduceMul]
  refine c_split (fun h => ?_) (fun h => ?_)
  · rw [if_pos (cs.1 h)]
    simp (maxSteps := 1000000) (disch := first | omega | (simp only [LL]; omega)) only [W, V, TY, CC, reduceIte, Nat.reduceEqDiff, Nat.reduceAdd, Nat.reduceLeDiff, Nat.reduceLT, Int.reduceLE, Int.reduceLT, Int.reduceAdd, Int.reduceSub, Int.reduceToNat, Nat.reduceMul]
    refine a_call _ _ (nat_Print2 z.natAbs (by omega)) (by simp (maxSteps := 1000000) (disch := first | omega | (simp only [LL]; omega)) only [W, V, TY, CC, reduceIte, Nat.reduceEqDiff, Nat.reduceAdd, Nat.reduceLeDiff, Nat.reduceLT, Int.reduceLE, Int.reduceLT, Int.reduceAdd, Int.reduceSub, Int.reduceToNat, Nat.reduceMul]) ?_
    simp (maxSteps := 1000000) (disch := first | omega | (simp only [LL]; omega)) only [W, V, TY, CC, reduceIte, Nat.reduceEqDiff, Nat.reduceAdd, Nat.reduceLeDiff, Nat.reduceLT, Int.reduceLE, Int.reduceLT, Int.reduceAdd, Int.reduceSub, Int.reduceToNat, Nat.reduceMul, h45]
    refine ⟨by omega, f_ret _ _ _ ?_⟩
    simp (maxSteps := 1000000) (disch := first | omega | (simp only [LL]; omega)) only [W, V, TY, CC, reduceIte, Nat.reduceEqDiff, Nat.reduceAdd, Nat.reduceLeDiff, Nat.reduceLT, Int.reduceLE, Int.reduceLT, Int.reduceAdd, Int.reduceSub, Int.reduceToNat, Nat.reduceMul]
  · rw [if_neg (fun e => h (cs.2 e))]
    simp (maxSteps := 1000000) (disch := first | omega | (simp only [LL]; omega)) only [W, V, TY, CC, reduceIte, Nat.reduceEqDiff, Nat.reduceAdd, Nat.reduceLeDiff, Nat.reduceLT, Int.reduceLE, Int.reduceLT, Int.reduceAdd, Int.reduceSub, Int.reduceToNat, Nat.reduceMul]
    refine a_call _ _ (nat_Print2 z.natAbs (by omega)) (by simp (maxSteps := 1000000) (disch := first | omega | (simp only [LL]; omega)) only [W, V, TY, CC, reduceIte, Nat.reduceEqDiff, Nat.reduceAdd, Nat.reduceLeDiff, Nat.reduceLT, Int.reduceLE, Int.reduceLT, Int.reduceAdd, Int.reduceSub, Int.reduceToNat, Nat.reduceMul]) ?_
    simp (maxSteps := 1000000) (disch := first | omega | (simp only [LL]; omega)) only [W, V, TY, CC, reduceIte, Nat.reduceEqDiff, Nat.reduceAdd, Nat.reduceLeDiff, Nat.reduceLT, Int.reduceLE, Int.reduceLT, Int.reduceAdd, Int.reduceSub, Int.reduceToNat, Nat.reduceMul]
    refine f_ret _ _ _ ?_
    simp (maxSteps := 1000000) (disch := first | omega | (simp only [LL]; omega)) only [W, V, TY, CC, reduceIte, Nat.reduceEqDiff, Nat.reduceAdd, Nat.reduceLeDiff, Nat.reduceLT, Int.reduceLE, Int.reduceLT, Int.reduceAdd, Int.reduceSub, Int.reduceToNat, Nat.reduceMul]
/-- a number, in digits -/
def digQ (q : Rat) : ByteArray := if q.den = 1 then digI q.num else digI q.num ++ (⟨#[47]⟩ ++ dig q.den)
theorem digI_size {z : Int} (h0 : -100 < z) (h1 : z < 100) : (digI z).size ≤ 3 := by
  have hz : (dig z.natAbs).size ≤ 2 := dig_size (by omega)
  have h45 : (⟨#[45]⟩ : ByteArray).size = 1 := rfl
  unfold digI
  split
  · rw [ByteArray.size_append, h45]; omega
  · omega
/-- examboard/ratio.Print -/
def b15 : AF := ⟨22, 1, [.tmp 2],
  (.seq (.reg [
    ⟨some 1, .box 30 (.tmp 0), none⟩,
    ⟨some 2, .assign (.const (.string ⟨#[]⟩)), none⟩])
  (.seq (.reg [
    ⟨some 5, .load 30 (.tmp 1), none⟩,
    ⟨some 6, .call ⟨(.value (.func 48)), #[(.tmp 5)], #[30]⟩, none⟩,
    ⟨some 3, .alloc 30, none⟩,
    ⟨none, .store 30 (.tmp 3) (.tmp 6), none⟩])
  (.seq (.reg [
    ⟨some 7, .fieldAddr 30 (.tmp 3) 0, none⟩,
    ⟨some 8, .load 28 (.tmp 7), none⟩,
    ⟨some 9, .call ⟨(.value (.func 49)), #[(.tmp 8)], #[28]⟩, none⟩,
    ⟨some 4, .assign (.tmp 9), none⟩])
  (.seq (.seq (.dreg [
    ⟨some 10, .fieldAddr 30 (.tmp 3) 1, none⟩,
    ⟨some 11, .load 26 (.tmp 10), none⟩,
    ⟨some 12, .call ⟨(.value (.func 20)), #[(.const (.int .u64 1))], #[48]⟩, none⟩,
    ⟨some 13, .call ⟨(.value (.func 50)), #[(.tmp 11), (.tmp 12)], #[26, 26]⟩, none⟩,
    ⟨some 14, .binOp .neq 3 (.tmp 13) (.const (.int .i64 0)) 3, none⟩])
  (.cond (.tmp 14)
    (.reg [
      ⟨some 15, .move (.tmp 4), none⟩,
      ⟨some 16, .fieldAddr 30 (.tmp 3) 1, none⟩,
      ⟨some 17, .load 26 (.tmp 16), none⟩,
      ⟨some 18, .call ⟨(.value (.func 51)), #[(.tmp 17)], #[26]⟩, none⟩,
      ⟨some 19, .binOp .add 9 (.const (.string ⟨#[47]⟩)) (.tmp 18) 9, none⟩,
      ⟨some 20, .binOp .add 9 (.tmp 15) (.tmp 19) 9, none⟩,
      ⟨some 4, .assign (.tmp 20), none⟩])
    .skip))
  (.seq (.reg [
    ⟨some 21, .move (.tmp 4), none⟩,
    ⟨some 2, .assign (.tmp 21), none⟩])
  .ret)))))⟩
theorem c15 : fcomp Tryd.prog 15 = ⟨b15.n, b15.np, b15.res, b15.body.bare⟩ := by kernel_rfl
theorem k15 : fok Tryd.prog 15 = true := by kernel_rfl
theorem rat_Print (q : Rat) (h0 : -100 < q.num) (h1 : q.num < 100) (h2 : q.den < 100) : AFun Tryd.prog 15 [.agg (ratC q)] [.one (.lit (.string (digQ q)))] := by
  refine afun_intro mo_ _ _ c15 k15 _ _ rfl (by decide) ?_
  unfold b15
  have l1 : (nl q.num.natAbs).length ≤ 1 := nl_len (by omega)
  have l2 : (nl q.den).length ≤ 1 := nl_len (by omega)
  have l3 : (nl (Int.toNat 1)).length ≤ 1 := nl_len (by decide)
  have z1 := digI_size h0 h1
  have z2 := dig_size h2
  have h47 : (⟨#[47]⟩ : ByteArray).size = 1 := rfl
  have cn := rat_Norm (decide (q.num < 0)) (nl q.num.natAbs) (nl q.den) (nl_lim _) (nl_lim _) (by omega) (by omega)
  rw [rv_ratC] at cn
  have ci := int_Print q.num h0 h1
  simp only [intC] at ci
  unfold digQ
  simp (maxSteps := 1000000) (disch := first | omega | (simp only [LL]; omega)) only [W, V, TY, CC, reduceIte, Nat.reduceEqDiff, Nat.reduceAdd, Nat.reduceLeDiff, Nat.reduceLT, Int.reduceLE, Int.reduceLT, Int.reduceAdd, Int.reduceSub, Int.reduceToNat, Nat.reduceMul, ratC]
  refine a_call _ _ cn (by simp (maxSteps := 1000000) (disch := first | omega | (simp only [LL]; omega)) only [W, V, TY, CC, reduceIte, Nat.reduceEqDiff, Nat.reduceAdd, Nat.reduceLeDiff, Nat.reduceLT, Int.reduceLE, Int.reduceLT, Int.reduceAdd, Int.reduceSub, Int.reduceToNat, Nat.reduceMul]) ?_
  simp (maxSteps := 1000000) (disch := first | omega | (simp only [LL]; omega)) only [W, V, TY, CC, reduceIte, Nat.reduceEqDiff, Nat.reduceAdd, Nat.reduceLeDiff, Nat.reduceLT, Int.reduceLE, Int.reduceLT, Int.reduceAdd, Int.reduceSub, Int.reduceToNat, Nat.reduceMul, ratC]
  refine a_call _ _ ci (by simp (maxSteps := 1000000) (disch := first | omega | (simp only [LL]; omega)) only [W, V, TY, CC, reduceIte, Nat.reduceEqDiff, Nat.reduceAdd, Nat.reduceLeDiff, Nat.reduceLT, Int.reduceLE, Int.reduceLT, Int.reduceAdd, Int.reduceSub, Int.reduceToNat, Nat.reduceMul]) ?_
  simp (maxSteps := 1000000) (disch := first | omega | (simp only [LL]; omega)) only [W, V, TY, CC, reduceIte, Nat.reduceEqDiff, Nat.reduceAdd, Nat.reduceLeDiff, Nat.reduceLT, Int.reduceLE, Int.reduceLT, Int.reduceAdd, Int.reduceSub, Int.reduceToNat, Nat.reduceMul]
  refine a_call _ _ (nat_Of 1 (by decide) (by decide)) (by simp (maxSteps := 1000000) (disch := first | omega | (simp only [LL]; omega)) only [W, V, TY, CC, reduceIte, Nat.reduceEqDiff, Nat.reduceAdd, Nat.reduceLeDiff, Nat.reduceLT, Int.reduceLE, Int.reduceLT, Int.reduceAdd, Int.reduceSub, Int.reduceToNat, Nat.reduceMul]) ?_
  simp (maxSteps := 1000000) (disch := first | omega | (simp only [LL]; omega)) only [W, V, TY, CC, reduceIte, Nat.reduceEqDiff, Nat.reduceAdd, Nat.reduceLeDiff, Nat.reduceLT, Int.reduceLE, Int.reduceLT, Int.reduceAdd, Int.reduceSub, Int.reduceToNat, Nat.reduceMul]
  refine a_call _ _ (nat_Cmp (nl q.den) (nl (Int.toNat 1)) (nl_lim _) (nl_lim _) (by omega) (by omega)) (by simp (maxSteps := 1000000) (disch := first | omega | (simp only [LL]; omega)) only [W, V, TY, CC, reduceIte, Nat.reduceEqDiff, Nat.reduceAdd, Nat.reduceLeDiff, Nat.reduceLT, Int.reduceLE, Int.reduceLT, Int.reduceAdd, Int.reduceSub, Int.reduceToNat, Nat.reduceMul]) ?_
  rw [val_nl, val_nl]
  have hc : cmpZ (q.den : Int) ((Int.toNat 1 : Nat) : Int) = 0 ↔ q.den = 1 := by unfold cmpZ; split <;> (try split) <;> omega
  simp (maxSteps := 1000000) (disch := first | omega | (simp only [LL]; omega)) only [W, V, TY, CC, reduceIte, Nat.reduceEqDiff, Nat.reduceAdd, Nat.reduceLeDiff, Nat.reduceLT, Int.reduceLE, Int.reduceLT, Int.reduceAdd, Int.reduceSub, Int.reduceToNat, Nat.reduceMul]
  refine c_split (fun h => ?_) (fun h => ?_)
  · rw [if_neg (fun e => h (hc.2 e))]
    simp (maxSteps := 1000000) (disch := first | omega | (simp only [LL]; omega)) only [W, V, TY, CC, reduceIte, Nat.reduceEqDiff, Nat.reduceAdd, Nat.reduceLeDiff, Nat.reduceLT, Int.reduceLE, Int.reduceLT, Int.reduceAdd, Int.reduceSub, Int.reduceToNat, Nat.reduceMul]
    refine a_call _ _ (nat_Print2 q.den h2) (by simp (maxSteps := 1000000) (disch := first | omega | (simp only [LL]; omega)) only [W, V, TY, CC, reduceIte, Nat.reduceEqDiff, Nat.reduceAdd, Nat.reduceLeDiff, Nat.reduceLT, Int.reduceLE, Int.reduceLT, Int.reduceAdd, Int.reduceSub, Int.reduceToNat, Nat.reduceMul]) ?_
    have z3 : (⟨#[47]⟩ ++ dig q.den : ByteArray).size ≤ 3 := by rw [ByteArray.size_append, h47]; omega
    simp (maxSteps := 1000000) (disch := first | omega | (simp only [LL]; omega)) only [W, V, TY, CC, reduceIte, Nat.reduceEqDiff, Nat.reduceAdd, Nat.reduceLeDiff, Nat.reduceLT, Int.reduceLE, Int.reduceLT, Int.reduceAdd, Int.reduceSub, Int.reduceToNat, Nat.reduceMul, h47]
    refine ⟨by omega, by omega, f_ret _ _ _ ?_⟩
    simp (maxSteps := 1000000) (disch := first | omega | (simp only [LL]; omega)) only [W, V, TY, CC, reduceIte, Nat.reduceEqDiff, Nat.reduceAdd, Nat.reduceLeDiff, Nat.reduceLT, Int.reduceLE, Int.reduceLT, Int.reduceAdd, Int.reduceSub, Int.reduceToNat, Nat.reduceMul]
  · rw [if_pos (hc.1 (Classical.not_not.1 h))]
    simp (maxSteps := 1000000) (disch := first | omega | (simp only [LL]; omega)) only [W, V, TY, CC, reduceIte, Nat.reduceEqDiff, Nat.reduceAdd, Nat.reduceLeDiff, Nat.reduceLT, Int.reduceLE, Int.reduceLT, Int.reduceAdd, Int.reduceSub, Int.reduceToNat, Nat.reduceMul]
    refine f_ret _ _ _ ?_
    simp (maxSteps := 1000000) (disch := first | omega | (simp only [LL]; omega)) only [W, V, TY, CC, reduceIte, Nat.reduceEqDiff, Nat.reduceAdd, Nat.reduceLeDiff, Nat.reduceLT, Int.reduceLE, Int.reduceLT, Int.reduceAdd, Int.reduceSub, Int.reduceToNat, Nat.reduceMul]
end Go.Proofs.YteegehbighoplaaDoor.E

set_option linter.unusedSimpArgs false
set_option linter.unusedVariables false
set_option maxHeartbeats 2000000
namespace Go.Proofs.YteegehbighoplaaDoor.E
open Go.RowKit Limbs
theorem up_mono {p : List Int} (hup : gridUp p) : ∀ a b, a < b → b < p.length → p.getD a 0 < p.getD b 0 := by
  intro a b hab hb
  induction b with
  | zero => omega
  | succ b ih =>
    have h1 := hup b hb
    rcases Nat.lt_or_ge a b with h | h
    · have := ih h (by omega)
      omega
    · have : a = b := by omega
      subst this; exact h1
/-- no point is nearer, and no lower one as near -/
theorem near_best {q : Rat} {p : List Int} (hup : gridUp p) {j i : Nat} (hj : isNear q p j) (hi : i < p.length) :
    cmpQ (qabs ((p.getD i 0 : Int) - q)) (qabs ((p.getD j 0 : Int) - q)) = 1 ∨ (j ≤ i ∧ cmpQ (qabs ((p.getD i 0 : Int) - q)) (qabs ((p.getD j 0 : Int) - q)) = 0) := by
  have mono := up_mono hup
  have key : ∀ {a b : Rat}, b < a → cmpQ a b = 1 := fun {a b} h => by unfold cmpQ; rw [if_neg (Rat.not_lt.2 (Rat.le_of_lt h)), if_pos h]
  have key0 : ∀ {a b : Rat}, b ≤ a → cmpQ a b = 1 ∨ cmpQ a b = 0 := fun {a b} h => by
    unfold cmpQ
    rw [if_neg (Rat.not_lt.2 h)]
    split
    · exact .inl rfl
    · exact .inr rfl
  rcases Nat.lt_trichotomy i j with h | h | h
  · left
    refine key ?_
    have h1 := mono i j h hj.1
    rw [dist _ _ q (by exact_mod_cast h1)]
    have h2 := hj.2.1 (j - 1) (by omega)
    rw [show j - 1 + 1 = j by omega] at h2
    refine Rat.not_le.1 fun hc => absurd (Rat.le_trans hc ?_) (Rat.not_le.2 h2)
    have h3 : p.getD i 0 ≤ p.getD (j - 1) 0 := by
      rcases Nat.lt_or_ge i (j - 1) with h4 | h4
      · have := mono i (j - 1) h4 (by have := hj.1; omega); omega
      · have : i = j - 1 := by omega
        rw [this]; exact Int.le_refl _
    rw [← Rat.intCast_add]
    have h4 : p.getD i 0 + p.getD j 0 ≤ p.getD (j - 1) 0 + p.getD j 0 := by omega
    exact_mod_cast h4
  · subst h
    right
    refine ⟨Nat.le_refl _, ?_⟩
    unfold cmpQ
    rw [if_neg Rat.lt_irrefl, if_neg Rat.lt_irrefl]
  · have h1 := mono j i h hi
    have h2 := hj.2.2 (by omega)
    have h3 : p.getD (j + 1) 0 ≤ p.getD i 0 := by
      rcases Nat.lt_or_ge (j + 1) i with h | h
      · have := mono (j + 1) i h hi; omega
      · have : j + 1 = i := by omega
        rw [this]; exact Int.le_refl _
    have h4 : ¬ qabs ((p.getD i 0 : Int) - q) < qabs ((p.getD j 0 : Int) - q) := by
      rw [dist _ _ q (by exact_mod_cast h1)]
      refine Rat.not_lt.2 (Rat.le_trans h2 ?_)
      rw [← Rat.intCast_add]
      have h5 : p.getD j 0 + p.getD (j + 1) 0 ≤ p.getD j 0 + p.getD i 0 := by omega
      exact_mod_cast h5
    rcases key0 (Rat.not_lt.1 h4) with h5 | h5
    · exact .inl h5
    · exact .inr ⟨by omega, h5⟩
/-- examboard/examboardlaw18.whole -/
def b13 : AF := ⟨11, 1, [.cell 2 30],
  (.seq (.reg [
    ⟨some 2, .alloc 30, none⟩])
  (.seq (.reg [
    ⟨some 6, .move (.tmp 0), none⟩,
    ⟨some 7, .call ⟨(.value (.func 40)), #[(.tmp 6), (.const (.int .i64 1))], #[2, 2]⟩, none⟩,
    ⟨some 5, .move (.tmp 7), none⟩,
    ⟨some 8, .extract (.tmp 5) 0, none⟩,
    ⟨some 9, .extract (.tmp 5) 1, none⟩,
    ⟨some 3, .alloc 30, none⟩,
    ⟨none, .store 30 (.tmp 3) (.tmp 8), none⟩,
    ⟨some 4, .assign (.tmp 9), none⟩])
  (.seq (.reg [
    ⟨some 10, .load 30 (.tmp 3), none⟩,
    ⟨none, .store 30 (.tmp 2) (.tmp 10), none⟩])
  .ret)))⟩
theorem c13 : fcomp Tryd.prog 13 = ⟨b13.n, b13.np, b13.res, b13.body.bare⟩ := by kernel_rfl
theorem k13 : fok Tryd.prog 13 = true := by kernel_rfl
theorem law_whole (x : Int) (h0 : -9223372036854775808 ≤ x) (h1 : x < 9223372036854775808) : AFun Tryd.prog 13 [.one (.lit (.int .i64 x))] [.agg (ratC (x : Rat))] := by
  refine afun_intro mo_ _ _ c13 k13 _ _ rfl (by decide) ?_
  unfold b13
  rw [← divInt_one]
  simp (maxSteps := 1000000) (disch := first | omega | (simp only [LL]; omega)) only [W, V, TY, CC, reduceIte, Nat.reduceEqDiff, Nat.reduceAdd, Nat.reduceLeDiff, Nat.reduceLT, Int.reduceLE, Int.reduceLT, Int.reduceAdd, Int.reduceSub, Int.reduceToNat, Nat.reduceMul]
  refine a_call _ _ (rat_Of x 1 h0 h1 (by decide) (by decide)) (by simp (maxSteps := 1000000) (disch := first | omega | (simp only [LL]; omega)) only [W, V, TY, CC, reduceIte, Nat.reduceEqDiff, Nat.reduceAdd, Nat.reduceLeDiff, Nat.reduceLT, Int.reduceLE, Int.reduceLT, Int.reduceAdd, Int.reduceSub, Int.reduceToNat, Nat.reduceMul]) ?_
  simp (maxSteps := 1000000) (disch := first | omega | (simp only [LL]; omega)) only [W, V, TY, CC, reduceIte, Nat.reduceEqDiff, Nat.reduceAdd, Nat.reduceLeDiff, Nat.reduceLT, Int.reduceLE, Int.reduceLT, Int.reduceAdd, Int.reduceSub, Int.reduceToNat, Nat.reduceMul, ratC]
  refine f_ret _ _ _ ?_
  simp (maxSteps := 1000000) (disch := first | omega | (simp only [LL]; omega)) only [W, V, TY, CC, reduceIte, Nat.reduceEqDiff, Nat.reduceAdd, Nat.reduceLeDiff, Nat.reduceLT, Int.reduceLE, Int.reduceLT, Int.reduceAdd, Int.reduceSub, Int.reduceToNat, Nat.reduceMul, ratC]
/-- examboard/examboardlaw18.GridNearest -/
def b3 : AF := ⟨93, 2, [.tmp 4],
  (.seq (.reg [
    ⟨some 2, .box 24 (.tmp 0), none⟩,
    ⟨some 3, .box 30 (.tmp 1), none⟩,
    ⟨some 4, .assign (.const (.bool false)), none⟩])
  (.seq (.seq (.reg [
    ⟨some 10, .fieldAddr 30 (.tmp 3) 0, none⟩,
    ⟨some 11, .fieldAddr 28 (.tmp 10) 1, none⟩,
    ⟨some 12, .load 26 (.tmp 11), none⟩,
    ⟨some 13, .call ⟨(.builtin .len), #[(.tmp 12)], #[26]⟩, none⟩,
    ⟨some 14, .binOp .gtr 3 (.tmp 13) (.const (.int .i64 20)) 3, none⟩,
    ⟨some 15, .move (.tmp 14), none⟩,
    ⟨some 16, .fieldAddr 30 (.tmp 3) 1, some (15, false)⟩,
    ⟨some 17, .load 26 (.tmp 16), some (15, false)⟩,
    ⟨some 18, .call ⟨(.builtin .len), #[(.tmp 17)], #[26]⟩, some (15, false)⟩,
    ⟨some 19, .binOp .gtr 3 (.tmp 18) (.const (.int .i64 20)) 3, some (15, false)⟩,
    ⟨some 20, .pick (.tmp 15) (.const (.bool true)) (.tmp 19), none⟩])
  (.cond (.tmp 20)
    (.seq (.reg [
      ⟨some 4, .assign (.const (.bool true)), none⟩])
    .ret)
    .skip))
  (.seq (.reg [
    ⟨some 22, .load 24 (.tmp 2), none⟩,
    ⟨some 23, .load 30 (.tmp 3), none⟩,
    ⟨some 24, .call ⟨(.value (.func 9)), #[(.tmp 22), (.tmp 23)], #[24, 30]⟩, none⟩,
    ⟨some 21, .move (.tmp 24), none⟩,
    ⟨some 25, .extract (.tmp 21) 0, none⟩,
    ⟨some 26, .extract (.tmp 21) 1, none⟩,
    ⟨some 5, .assign (.tmp 25), none⟩,
    ⟨some 6, .assign (.tmp 26), none⟩])
  (.seq (.seq (.reg [
    ⟨some 27, .move (.tmp 6), none⟩,
    ⟨some 28, .binOp .neq 31 (.tmp 27) (.const (.int .i64 0)) 31, none⟩,
    ⟨some 29, .move (.tmp 28), none⟩,
    ⟨some 30, .move (.tmp 5), some (29, false)⟩,
    ⟨some 31, .binOp .lss 3 (.tmp 30) (.const (.int .i64 0)) 3, some (29, false)⟩,
    ⟨some 32, .pick (.tmp 29) (.const (.bool true)) (.tmp 31), none⟩,
    ⟨some 33, .move (.tmp 32), none⟩,
    ⟨some 34, .move (.tmp 5), some (33, false)⟩,
    ⟨some 35, .fieldAddr 24 (.tmp 2) 0, some (33, false)⟩,
    ⟨some 36, .load 22 (.tmp 35), some (33, false)⟩,
    ⟨some 37, .call ⟨(.builtin .len), #[(.tmp 36)], #[22]⟩, some (33, false)⟩,
    ⟨some 38, .binOp .geq 3 (.tmp 34) (.tmp 37) 3, some (33, false)⟩,
    ⟨some 39, .pick (.tmp 33) (.const (.bool true)) (.tmp 38), none⟩])
  (.cond (.tmp 39)
    (.seq (.reg [
      ⟨some 40, .move (.tmp 6), none⟩,
      ⟨some 41, .binOp .neq 31 (.tmp 40) (.const (.int .i64 0)) 31, none⟩,
      ⟨some 42, .move (.tmp 41), none⟩,
      ⟨some 43, .move (.tmp 6), some (42, true)⟩,
      ⟨some 44, .load 24 (.tmp 2), some (42, true)⟩,
      ⟨some 45, .call ⟨(.value (.func 10)), #[(.tmp 44)], #[24]⟩, some (42, true)⟩,
      ⟨some 46, .binOp .eql 31 (.tmp 43) (.tmp 45) 31, some (42, true)⟩,
      ⟨some 47, .pick (.tmp 42) (.tmp 46) (.const (.bool false)), none⟩,
      ⟨some 48, .move (.tmp 47), none⟩,
      ⟨some 49, .move (.tmp 5), some (48, true)⟩,
      ⟨some 50, .binOp .eql 3 (.tmp 49) (.const (.int .i64 0)) 3, some (48, true)⟩,
      ⟨some 51, .pick (.tmp 48) (.tmp 50) (.const (.bool false)), none⟩,
      ⟨some 4, .assign (.tmp 51), none⟩])
    .ret)
    .skip))
  (.seq (.dreg [
    ⟨some 52, .fieldAddr 24 (.tmp 2) 0, none⟩,
    ⟨some 53, .load 22 (.tmp 52), none⟩,
    ⟨some 54, .move (.tmp 5), none⟩,
    ⟨some 55, .indexAddr 22 (.tmp 53) (.tmp 54), none⟩,
    ⟨some 56, .load 3 (.tmp 55), none⟩,
    ⟨some 57, .call ⟨(.value (.func 13)), #[(.tmp 56)], #[3]⟩, none⟩,
    ⟨some 58, .load 30 (.tmp 3), none⟩,
    ⟨some 59, .call ⟨(.value (.func 12)), #[(.tmp 57), (.tmp 58)], #[30, 30]⟩, none⟩,
    ⟨some 60, .call ⟨(.value (.func 11)), #[(.tmp 59)], #[30]⟩, none⟩,
    ⟨some 7, .alloc 30, none⟩,
    ⟨none, .store 30 (.tmp 7) (.tmp 60), none⟩])
  (.seq (.seq (.reg [
    ⟨some 8, .assign (.const (.int .i64 0)), none⟩])
  (.block 0 (.loop (.seq (.seq (.reg [
    ⟨some 61, .move (.tmp 8), none⟩,
    ⟨some 62, .fieldAddr 24 (.tmp 2) 0, none⟩,
    ⟨some 63, .load 22 (.tmp 62), none⟩,
    ⟨some 64, .call ⟨(.builtin .len), #[(.tmp 63)], #[22]⟩, none⟩,
    ⟨some 65, .binOp .lss 3 (.tmp 61) (.tmp 64) 3, none⟩])
  (.cond (.tmp 65)
    .skip
    (.exit 0)))
  (.seq (.block 1 (.seq (.dreg [
    ⟨some 68, .fieldAddr 24 (.tmp 2) 0, none⟩,
    ⟨some 69, .load 22 (.tmp 68), none⟩,
    ⟨some 70, .move (.tmp 8), none⟩,
    ⟨some 71, .indexAddr 22 (.tmp 69) (.tmp 70), none⟩,
    ⟨some 72, .load 3 (.tmp 71), none⟩,
    ⟨some 73, .call ⟨(.value (.func 13)), #[(.tmp 72)], #[3]⟩, none⟩,
    ⟨some 74, .load 30 (.tmp 3), none⟩,
    ⟨some 75, .call ⟨(.value (.func 12)), #[(.tmp 73), (.tmp 74)], #[30, 30]⟩, none⟩,
    ⟨some 76, .call ⟨(.value (.func 11)), #[(.tmp 75)], #[30]⟩, none⟩,
    ⟨some 77, .load 30 (.tmp 7), none⟩,
    ⟨some 78, .call ⟨(.value (.func 14)), #[(.tmp 76), (.tmp 77)], #[30, 30]⟩, none⟩,
    ⟨some 9, .assign (.tmp 78), none⟩])
  (.seq (.reg [
    ⟨some 79, .move (.tmp 9), none⟩,
    ⟨some 80, .binOp .lss 3 (.tmp 79) (.const (.int .i64 0)) 3, none⟩,
    ⟨some 81, .move (.tmp 80), none⟩,
    ⟨some 82, .move (.tmp 8), some (81, false)⟩,
    ⟨some 83, .move (.tmp 5), some (81, false)⟩,
    ⟨some 84, .binOp .lss 3 (.tmp 82) (.tmp 83) 3, some (81, false)⟩,
    ⟨some 85, .move (.tmp 84), some (81, false)⟩,
    ⟨some 86, .move (.tmp 9), some (85, true)⟩,
    ⟨some 87, .binOp .eql 3 (.tmp 86) (.const (.int .i64 0)) 3, some (85, true)⟩,
    ⟨some 88, .pick (.tmp 85) (.tmp 87) (.const (.bool false)), some (81, false)⟩,
    ⟨some 89, .pick (.tmp 81) (.const (.bool true)) (.tmp 88), none⟩])
  (.cond (.tmp 89)
    (.seq (.reg [
      ⟨some 4, .assign (.const (.bool false)), none⟩])
    .ret)
    .skip))))
  (.reg [
    ⟨some 66, .move (.tmp 8), none⟩,
    ⟨some 67, .binOp .add 3 (.tmp 66) (.const (.int .i64 1)) 3, none⟩,
    ⟨some 8, .assign (.tmp 67), none⟩]))))))
  (.seq (.reg [
    ⟨some 90, .call ⟨(.value (.func 13)), #[(.const (.int .i64 1))], #[3]⟩, none⟩,
    ⟨some 91, .call ⟨(.value (.func 15)), #[(.tmp 90)], #[30]⟩, none⟩,
    ⟨some 92, .binOp .eql 9 (.tmp 91) (.const (.string ⟨#[49]⟩)) 9, none⟩,
    ⟨some 4, .assign (.tmp 92), none⟩])
  .ret)))))))⟩
theorem c3 : fcomp Tryd.prog 3 = ⟨b3.n, b3.np, b3.res, b3.body.bare⟩ := by kernel_rfl
theorem k3 : fok Tryd.prog 3 = true := by kernel_rfl
theorem law_GridNearest (p w : List Int) (n : Bool) (m d : List Int) (hm : Lim m) (hd : Lim d) : AFun Tryd.prog 3 [.agg [intsD p, intsD w], .agg [.lit (.bool n), natD m, natD d]] [.one (.lit (.bool true))] := by
  refine afun_intro mo_ _ _ c3 k3 _ _ rfl (by decide) ?_
  unfold b3
  simp (maxSteps := 1000000) (disch := first | omega | (simp only [LL]; omega)) only [W, V, TY, CC, reduceIte, Nat.reduceEqDiff, Nat.reduceAdd, Nat.reduceLeDiff, Nat.reduceLT, Int.reduceLE, Int.reduceLT, Int.reduceAdd, Int.reduceSub, Int.reduceToNat, Nat.reduceMul]
  refine g_split (fun hc => ?_) (fun hc => ?_)
  · simp (maxSteps := 1000000) (disch := first | omega | (simp only [LL]; omega)) only [W, V, TY, CC, reduceIte, Nat.reduceEqDiff, Nat.reduceAdd, Nat.reduceLeDiff, Nat.reduceLT, Int.reduceLE, Int.reduceLT, Int.reduceAdd, Int.reduceSub, Int.reduceToNat, Nat.reduceMul, hc]
    refine f_ret _ _ _ ?_
    simp (maxSteps := 1000000) (disch := first | omega | (simp only [LL]; omega)) only [W, V, TY, CC, reduceIte, Nat.reduceEqDiff, Nat.reduceAdd, Nat.reduceLeDiff, Nat.reduceLT, Int.reduceLE, Int.reduceLT, Int.reduceAdd, Int.reduceSub, Int.reduceToNat, Nat.reduceMul]
  simp (maxSteps := 1000000) (disch := first | omega | (simp only [LL]; omega)) only [W, V, TY, CC, reduceIte, Nat.reduceEqDiff, Nat.reduceAdd, Nat.reduceLeDiff, Nat.reduceLT, Int.reduceLE, Int.reduceLT, Int.reduceAdd, Int.reduceSub, Int.reduceToNat, Nat.reduceMul, hc]
  refine c_split (fun hc2 => ?_) (fun hc2 => ?_)
  · simp (maxSteps := 1000000) (disch := first | omega | (simp only [LL]; omega)) only [W, V, TY, CC, reduceIte, Nat.reduceEqDiff, Nat.reduceAdd, Nat.reduceLeDiff, Nat.reduceLT, Int.reduceLE, Int.reduceLT, Int.reduceAdd, Int.reduceSub, Int.reduceToNat, Nat.reduceMul]
    refine f_ret _ _ _ ?_
    simp (maxSteps := 1000000) (disch := first | omega | (simp only [LL]; omega)) only [W, V, TY, CC, reduceIte, Nat.reduceEqDiff, Nat.reduceAdd, Nat.reduceLeDiff, Nat.reduceLT, Int.reduceLE, Int.reduceLT, Int.reduceAdd, Int.reduceSub, Int.reduceToNat, Nat.reduceMul]
  have lm : m.length ≤ 20 := by omega
  have ld : d.length ≤ 20 := by omega
  have cn := grid_Near p w n m d hm hd (by omega) (by omega)
  simp (maxSteps := 1000000) (disch := first | omega | (simp only [LL]; omega)) only [W, V, TY, CC, reduceIte, Nat.reduceEqDiff, Nat.reduceAdd, Nat.reduceLeDiff, Nat.reduceLT, Int.reduceLE, Int.reduceLT, Int.reduceAdd, Int.reduceSub, Int.reduceToNat, Nat.reduceMul]
  refine a_call _ _ cn (by simp (maxSteps := 1000000) (disch := first | omega | (simp only [LL]; omega)) only [W, V, TY, CC, reduceIte, Nat.reduceEqDiff, Nat.reduceAdd, Nat.reduceLeDiff, Nat.reduceLT, Int.reduceLE, Int.reduceLT, Int.reduceAdd, Int.reduceSub, Int.reduceToNat, Nat.reduceMul]) ?_
  unfold nearR
  by_cases h0 : gridV p w = 0
  case neg =>
    rw [if_neg h0]
    simp (maxSteps := 1000000) (disch := first | omega | (simp only [LL]; omega)) only [W, V, TY, CC, reduceIte, Nat.reduceEqDiff, Nat.reduceAdd, Nat.reduceLeDiff, Nat.reduceLT, Int.reduceLE, Int.reduceLT, Int.reduceAdd, Int.reduceSub, Int.reduceToNat, Nat.reduceMul, h0]
    refine a_call _ _ (grid_Valid p w) (by simp (maxSteps := 1000000) (disch := first | omega | (simp only [LL]; omega)) only [W, V, TY, CC, reduceIte, Nat.reduceEqDiff, Nat.reduceAdd, Nat.reduceLeDiff, Nat.reduceLT, Int.reduceLE, Int.reduceLT, Int.reduceAdd, Int.reduceSub, Int.reduceToNat, Nat.reduceMul]) ?_
    simp (maxSteps := 1000000) (disch := first | omega | (simp only [LL]; omega)) only [W, V, TY, CC, reduceIte, Nat.reduceEqDiff, Nat.reduceAdd, Nat.reduceLeDiff, Nat.reduceLT, Int.reduceLE, Int.reduceLT, Int.reduceAdd, Int.reduceSub, Int.reduceToNat, Nat.reduceMul, h0]
    refine f_ret _ _ _ ?_
    simp (maxSteps := 1000000) (disch := first | omega | (simp only [LL]; omega)) only [W, V, TY, CC, reduceIte, Nat.reduceEqDiff, Nat.reduceAdd, Nat.reduceLeDiff, Nat.reduceLT, Int.reduceLE, Int.reduceLT, Int.reduceAdd, Int.reduceSub, Int.reduceToNat, Nat.reduceMul, h0]
  case pos =>
    rw [if_pos h0]
    obtain ⟨g1, g2, g3, g4⟩ := gridV_zero h0
    have gp := gridV_pos h0
    have hj := near_spec (rv n m d) gp
    have hqs : qs (rv n m d) ≤ 30 := by have := qs_rv n hm hd; omega
    have cs : ∀ x : Int, -1000 ≤ x → x ≤ 1000 → AFun Tryd.prog 12 [.agg (ratC (x : Rat)), .agg [.lit (.bool n), natD m, natD d]] [.agg (ratC (x - rv n m d))] := fun x hx0 hx1 => rat_Sub3 (a := (x : Rat)) (by have := qs_int (x := x) (by omega) (by omega); omega) n m d hm hd (by omega) (by omega)
    generalize rv n m d = q at *
    generalize near q p = j at *
    have hjl := hj.1
    have hq : qs q ≤ 30 := hqs
    have b0 := (g3 j hjl).1
    have qd : qs (qabs ((p.getD j 0 : Int) - q)) ≤ 60 := by
      have := qs_int (x := p.getD j 0) (by omega) (by omega)
      have := qs_sub ((p.getD j 0 : Int) : Rat) q
      rw [qs_abs]
      omega
    have zj : ((j : Int) < 0) = False := eq_false (by omega)
    have zl1 : ((p.length : Int) ≤ j) = False := eq_false (by omega)
    have qa : qs ((p.getD j 0 : Int) - q : Rat) ≤ 60 := by
      have := qs_int (x := p.getD j 0) (by omega) (by omega)
      have := qs_sub ((p.getD j 0 : Int) : Rat) q
      omega
    simp (maxSteps := 1000000) (disch := first | omega | (simp only [LL]; omega)) only [W, V, TY, CC, reduceIte, Nat.reduceEqDiff, Nat.reduceAdd, Nat.reduceLeDiff, Nat.reduceLT, Int.reduceLE, Int.reduceLT, Int.reduceAdd, Int.reduceSub, Int.reduceToNat, Nat.reduceMul, zj, zl1]
    refine a_call _ _ (law_whole (p.getD j 0) (by omega) (by omega)) (by simp (maxSteps := 1000000) (disch := first | omega | (simp only [LL]; omega)) only [W, V, TY, CC, reduceIte, Nat.reduceEqDiff, Nat.reduceAdd, Nat.reduceLeDiff, Nat.reduceLT, Int.reduceLE, Int.reduceLT, Int.reduceAdd, Int.reduceSub, Int.reduceToNat, Nat.reduceMul, zj, zl1]) ?_
    simp (maxSteps := 1000000) (disch := first | omega | (simp only [LL]; omega)) only [W, V, TY, CC, reduceIte, Nat.reduceEqDiff, Nat.reduceAdd, Nat.reduceLeDiff, Nat.reduceLT, Int.reduceLE, Int.reduceLT, Int.reduceAdd, Int.reduceSub, Int.reduceToNat, Nat.reduceMul, ratC]
    refine a_call _ _ (cs (p.getD j 0) b0.1 b0.2) (by simp (maxSteps := 1000000) (disch := first | omega | (simp only [LL]; omega)) only [W, V, TY, CC, reduceIte, Nat.reduceEqDiff, Nat.reduceAdd, Nat.reduceLeDiff, Nat.reduceLT, Int.reduceLE, Int.reduceLT, Int.reduceAdd, Int.reduceSub, Int.reduceToNat, Nat.reduceMul, ratC]) ?_
    simp (maxSteps := 1000000) (disch := first | omega | (simp only [LL]; omega)) only [W, V, TY, CC, reduceIte, Nat.reduceEqDiff, Nat.reduceAdd, Nat.reduceLeDiff, Nat.reduceLT, Int.reduceLE, Int.reduceLT, Int.reduceAdd, Int.reduceSub, Int.reduceToNat, Nat.reduceMul, ratC]
    refine a_call _ _ (rat_Abs2 (a := (p.getD j 0 : Int) - q) (by omega)) (by simp (maxSteps := 1000000) (disch := first | omega | (simp only [LL]; omega)) only [W, V, TY, CC, reduceIte, Nat.reduceEqDiff, Nat.reduceAdd, Nat.reduceLeDiff, Nat.reduceLT, Int.reduceLE, Int.reduceLT, Int.reduceAdd, Int.reduceSub, Int.reduceToNat, Nat.reduceMul, ratC]) ?_
    simp (maxSteps := 1000000) (disch := first | omega | (simp only [LL]; omega)) only [W, V, TY, CC, reduceIte, Nat.reduceEqDiff, Nat.reduceAdd, Nat.reduceLeDiff, Nat.reduceLT, Int.reduceLE, Int.reduceLT, Int.reduceAdd, Int.reduceSub, Int.reduceToNat, Nat.reduceMul, ratC]
    refine w_loop (fun k s => ∃ i : Nat, k + i = p.length ∧ s.t 2 = .ptr (2, 0) 0 ∧ s.v (2, 0) = some [.dt (intsD p), .dt (intsD w)] ∧ s.t 3 = .ptr (3, 0) 0 ∧ s.v (3, 0) = some [.dt (.lit (.bool n)), .dt (natD m), .dt (natD d)] ∧ s.t 5 = .one (.dt (.lit (.int .i64 j))) ∧ s.t 7 = .ptr (7, 0) 0 ∧ s.v (7, 0) = some ((ratC (qabs ((p.getD j 0 : Int) - q))).map .dt) ∧ s.t 8 = .one (.dt (.lit (.int .i64 i)))) p.length ⟨0, rfl, ?_, ?_, ?_, ?_, ?_, ?_, ?_, ?_⟩ ?_
    · simp (maxSteps := 1000000) (disch := first | omega | (simp only [LL]; omega)) only [W, V, TY, CC, reduceIte, Nat.reduceEqDiff, Nat.reduceAdd, Nat.reduceLeDiff, Nat.reduceLT, Int.reduceLE, Int.reduceLT, Int.reduceAdd, Int.reduceSub, Int.reduceToNat, Nat.reduceMul]
    · simp (maxSteps := 1000000) (disch := first | omega | (simp only [LL]; omega)) only [W, V, TY, CC, reduceIte, Nat.reduceEqDiff, Nat.reduceAdd, Nat.reduceLeDiff, Nat.reduceLT, Int.reduceLE, Int.reduceLT, Int.reduceAdd, Int.reduceSub, Int.reduceToNat, Nat.reduceMul]
    · simp (maxSteps := 1000000) (disch := first | omega | (simp only [LL]; omega)) only [W, V, TY, CC, reduceIte, Nat.reduceEqDiff, Nat.reduceAdd, Nat.reduceLeDiff, Nat.reduceLT, Int.reduceLE, Int.reduceLT, Int.reduceAdd, Int.reduceSub, Int.reduceToNat, Nat.reduceMul]
    · simp (maxSteps := 1000000) (disch := first | omega | (simp only [LL]; omega)) only [W, V, TY, CC, reduceIte, Nat.reduceEqDiff, Nat.reduceAdd, Nat.reduceLeDiff, Nat.reduceLT, Int.reduceLE, Int.reduceLT, Int.reduceAdd, Int.reduceSub, Int.reduceToNat, Nat.reduceMul]
    · simp (maxSteps := 1000000) (disch := first | omega | (simp only [LL]; omega)) only [W, V, TY, CC, reduceIte, Nat.reduceEqDiff, Nat.reduceAdd, Nat.reduceLeDiff, Nat.reduceLT, Int.reduceLE, Int.reduceLT, Int.reduceAdd, Int.reduceSub, Int.reduceToNat, Nat.reduceMul]
    · simp (maxSteps := 1000000) (disch := first | omega | (simp only [LL]; omega)) only [W, V, TY, CC, reduceIte, Nat.reduceEqDiff, Nat.reduceAdd, Nat.reduceLeDiff, Nat.reduceLT, Int.reduceLE, Int.reduceLT, Int.reduceAdd, Int.reduceSub, Int.reduceToNat, Nat.reduceMul]
    · simp (maxSteps := 1000000) (disch := first | omega | (simp only [LL]; omega)) only [W, V, TY, CC, reduceIte, Nat.reduceEqDiff, Nat.reduceAdd, Nat.reduceLeDiff, Nat.reduceLT, Int.reduceLE, Int.reduceLT, Int.reduceAdd, Int.reduceSub, Int.reduceToNat, Nat.reduceMul, ratC]
    · simp (maxSteps := 1000000) (disch := first | omega | (simp only [LL]; omega)) only [W, V, TY, CC, reduceIte, Nat.reduceEqDiff, Nat.reduceAdd, Nat.reduceLeDiff, Nat.reduceLT, Int.reduceLE, Int.reduceLT, Int.reduceAdd, Int.reduceSub, Int.reduceToNat, Nat.reduceMul]
    intro k s hwf ⟨i, e, t2, v2, t3, v3, t5, t7, v7, t8⟩
    simp only [ratC, List.map_cons, List.map_nil] at v7
    simp (maxSteps := 1000000) (disch := first | omega | (simp only [LL]; omega)) only [W, V, TY, CC, reduceIte, Nat.reduceEqDiff, Nat.reduceAdd, Nat.reduceLeDiff, Nat.reduceLT, Int.reduceLE, Int.reduceLT, Int.reduceAdd, Int.reduceSub, Int.reduceToNat, Nat.reduceMul, t2, v2, t3, v3, t5, t7, v7, t8]
    refine c_split (fun hi => ?_) (fun hi => ?_)
    · have b1 := (g3 i (by omega)).1
      have qb : qs ((p.getD i 0 : Int) - q : Rat) ≤ 60 := by
        have := qs_int (x := p.getD i 0) (by omega) (by omega)
        have := qs_sub ((p.getD i 0 : Int) : Rat) q
        omega
      have nb := near_best g4 hj (i := i) (by omega)
      simp (maxSteps := 1000000) (disch := first | omega | (simp only [LL]; omega)) only [W, V, TY, CC, reduceIte, Nat.reduceEqDiff, Nat.reduceAdd, Nat.reduceLeDiff, Nat.reduceLT, Int.reduceLE, Int.reduceLT, Int.reduceAdd, Int.reduceSub, Int.reduceToNat, Nat.reduceMul, t2, v2, t3, v3, t5, t7, v7, t8]
      refine a_call _ _ (law_whole (p.getD i 0) (by omega) (by omega)) (by simp (maxSteps := 1000000) (disch := first | omega | (simp only [LL]; omega)) only [W, V, TY, CC, reduceIte, Nat.reduceEqDiff, Nat.reduceAdd, Nat.reduceLeDiff, Nat.reduceLT, Int.reduceLE, Int.reduceLT, Int.reduceAdd, Int.reduceSub, Int.reduceToNat, Nat.reduceMul, t2, v2, t3, v3, t5, t7, v7, t8]) ?_
      simp (maxSteps := 1000000) (disch := first | omega | (simp only [LL]; omega)) only [W, V, TY, CC, reduceIte, Nat.reduceEqDiff, Nat.reduceAdd, Nat.reduceLeDiff, Nat.reduceLT, Int.reduceLE, Int.reduceLT, Int.reduceAdd, Int.reduceSub, Int.reduceToNat, Nat.reduceMul, ratC, t2, v2, t3, v3, t5, t7, v7, t8]
      refine a_call _ _ (cs (p.getD i 0) b1.1 b1.2) (by simp (maxSteps := 1000000) (disch := first | omega | (simp only [LL]; omega)) only [W, V, TY, CC, reduceIte, Nat.reduceEqDiff, Nat.reduceAdd, Nat.reduceLeDiff, Nat.reduceLT, Int.reduceLE, Int.reduceLT, Int.reduceAdd, Int.reduceSub, Int.reduceToNat, Nat.reduceMul, ratC, t2, v2, t3, v3, t5, t7, v7, t8]) ?_
      simp (maxSteps := 1000000) (disch := first | omega | (simp only [LL]; omega)) only [W, V, TY, CC, reduceIte, Nat.reduceEqDiff, Nat.reduceAdd, Nat.reduceLeDiff, Nat.reduceLT, Int.reduceLE, Int.reduceLT, Int.reduceAdd, Int.reduceSub, Int.reduceToNat, Nat.reduceMul, ratC, t2, v2, t3, v3, t5, t7, v7, t8]
      refine a_call _ _ (rat_Abs2 (a := (p.getD i 0 : Int) - q) (by omega)) (by simp (maxSteps := 1000000) (disch := first | omega | (simp only [LL]; omega)) only [W, V, TY, CC, reduceIte, Nat.reduceEqDiff, Nat.reduceAdd, Nat.reduceLeDiff, Nat.reduceLT, Int.reduceLE, Int.reduceLT, Int.reduceAdd, Int.reduceSub, Int.reduceToNat, Nat.reduceMul, ratC, t2, v2, t3, v3, t5, t7, v7, t8]) ?_
      simp (maxSteps := 1000000) (disch := first | omega | (simp only [LL]; omega)) only [W, V, TY, CC, reduceIte, Nat.reduceEqDiff, Nat.reduceAdd, Nat.reduceLeDiff, Nat.reduceLT, Int.reduceLE, Int.reduceLT, Int.reduceAdd, Int.reduceSub, Int.reduceToNat, Nat.reduceMul, ratC, t2, v2, t3, v3, t5, t7, v7, t8]
      refine a_call _ _ (rat_Cmp2 (a := qabs ((p.getD i 0 : Int) - q)) (b := qabs ((p.getD j 0 : Int) - q)) (by rw [qs_abs]; omega) (by rw [qs_abs]; omega)) (by simp (maxSteps := 1000000) (disch := first | omega | (simp only [LL]; omega)) only [W, V, TY, CC, reduceIte, Nat.reduceEqDiff, Nat.reduceAdd, Nat.reduceLeDiff, Nat.reduceLT, Int.reduceLE, Int.reduceLT, Int.reduceAdd, Int.reduceSub, Int.reduceToNat, Nat.reduceMul, ratC, t2, v2, t3, v3, t5, t7, v7, t8]) ?_
      generalize cmpQ (qabs ((p.getD i 0 : Int) - q)) (qabs ((p.getD j 0 : Int) - q)) = cc at *
      have z1 : ((1 : Int) = 0) = False := eq_false (by decide)
      rcases nb with rfl | ⟨hji, rfl⟩
      · simp (maxSteps := 1000000) (disch := first | omega | (simp only [LL]; omega)) only [W, V, TY, CC, reduceIte, Nat.reduceEqDiff, Nat.reduceAdd, Nat.reduceLeDiff, Nat.reduceLT, Int.reduceLE, Int.reduceLT, Int.reduceAdd, Int.reduceSub, Int.reduceToNat, Nat.reduceMul, t2, v2, t3, v3, t5, t7, v7, t8]
        refine g_split (fun hij => ?_) (fun hij => ?_)
        · simp (maxSteps := 1000000) (disch := first | omega | (simp only [LL]; omega)) only [W, V, TY, CC, reduceIte, Nat.reduceEqDiff, Nat.reduceAdd, Nat.reduceLeDiff, Nat.reduceLT, Int.reduceLE, Int.reduceLT, Int.reduceAdd, Int.reduceSub, Int.reduceToNat, Nat.reduceMul, t2, v2, t3, v3, t5, t7, v7, t8, hij, z1]
          exact ⟨k - 1, by omega, i + 1, by omega, rfl⟩
        · simp (maxSteps := 1000000) (disch := first | omega | (simp only [LL]; omega)) only [W, V, TY, CC, reduceIte, Nat.reduceEqDiff, Nat.reduceAdd, Nat.reduceLeDiff, Nat.reduceLT, Int.reduceLE, Int.reduceLT, Int.reduceAdd, Int.reduceSub, Int.reduceToNat, Nat.reduceMul, t2, v2, t3, v3, t5, t7, v7, t8, hij, z1]
          exact ⟨k - 1, by omega, i + 1, by omega, rfl⟩
      · have zij : ((i : Int) < j) = False := eq_false (by omega)
        simp (maxSteps := 1000000) (disch := first | omega | (simp only [LL]; omega)) only [W, V, TY, CC, reduceIte, Nat.reduceEqDiff, Nat.reduceAdd, Nat.reduceLeDiff, Nat.reduceLT, Int.reduceLE, Int.reduceLT, Int.reduceAdd, Int.reduceSub, Int.reduceToNat, Nat.reduceMul, t2, v2, t3, v3, t5, t7, v7, t8, zij]
        exact ⟨k - 1, by omega, i + 1, by omega, rfl⟩
    · simp (maxSteps := 1000000) (disch := first | omega | (simp only [LL]; omega)) only [W, V, TY, CC, reduceIte, Nat.reduceEqDiff, Nat.reduceAdd, Nat.reduceLeDiff, Nat.reduceLT, Int.reduceLE, Int.reduceLT, Int.reduceAdd, Int.reduceSub, Int.reduceToNat, Nat.reduceMul, t2, v2, t3, v3, t5, t7, v7, t8]
      refine a_call _ _ (law_whole 1 (by decide) (by decide)) (by simp (maxSteps := 1000000) (disch := first | omega | (simp only [LL]; omega)) only [W, V, TY, CC, reduceIte, Nat.reduceEqDiff, Nat.reduceAdd, Nat.reduceLeDiff, Nat.reduceLT, Int.reduceLE, Int.reduceLT, Int.reduceAdd, Int.reduceSub, Int.reduceToNat, Nat.reduceMul]) ?_
      simp (maxSteps := 1000000) (disch := first | omega | (simp only [LL]; omega)) only [W, V, TY, CC, reduceIte, Nat.reduceEqDiff, Nat.reduceAdd, Nat.reduceLeDiff, Nat.reduceLT, Int.reduceLE, Int.reduceLT, Int.reduceAdd, Int.reduceSub, Int.reduceToNat, Nat.reduceMul, ratC]
      have dq : digQ ((1 : Int) : Rat) = ⟨#[49]⟩ := by decide +kernel
      refine a_call _ _ (rat_Print ((1 : Int) : Rat) (by decide +kernel) (by decide +kernel) (by decide +kernel)) (by simp (maxSteps := 1000000) (disch := first | omega | (simp only [LL]; omega)) only [W, V, TY, CC, reduceIte, Nat.reduceEqDiff, Nat.reduceAdd, Nat.reduceLeDiff, Nat.reduceLT, Int.reduceLE, Int.reduceLT, Int.reduceAdd, Int.reduceSub, Int.reduceToNat, Nat.reduceMul, ratC]) ?_
      rw [dq]
      simp (maxSteps := 1000000) (disch := first | omega | (simp only [LL]; omega)) only [W, V, TY, CC, reduceIte, Nat.reduceEqDiff, Nat.reduceAdd, Nat.reduceLeDiff, Nat.reduceLT, Int.reduceLE, Int.reduceLT, Int.reduceAdd, Int.reduceSub, Int.reduceToNat, Nat.reduceMul]
      refine f_ret _ _ _ ?_
      simp (maxSteps := 1000000) (disch := first | omega | (simp only [LL]; omega)) only [W, V, TY, CC, reduceIte, Nat.reduceEqDiff, Nat.reduceAdd, Nat.reduceLeDiff, Nat.reduceLT, Int.reduceLE, Int.reduceLT, Int.reduceAdd, Int.reduceSub, Int.reduceToNat, Nat.reduceMul, beq_self_eq_true]
end Go.Proofs.YteegehbighoplaaDoor.E
