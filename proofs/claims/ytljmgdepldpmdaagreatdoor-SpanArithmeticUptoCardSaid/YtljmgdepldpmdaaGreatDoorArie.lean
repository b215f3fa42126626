/- An abstract interpreter over data, and contracts of the program's functions, part 5; no condition. -/
import Derived.Test.YtljmgdepldpmdaaGreatDoorRows
import Derived.Test.YtljmgdepldpmdaaGreatDoorArid
set_option linter.unusedSimpArgs false
set_option linter.unusedVariables false
set_option maxHeartbeats 2000000
namespace Go.Proofs.YtljmgdepldpmdaaGreatDoor.E
open Go.RowKit Limbs
theorem maxLen_eq : maxLen = 9223372036854775807 := rfl
theorem sd_row {s : AS} {r : Nat × Nat} {ver : Nat} (row : Row) (h : s.r r = some row) (hv : row.ver = ver) (hl : row.live = false) : srcD s (.one (.row r ver)) = some (row.n, row.cells) := by
  unfold srcD toD
  simp only [h]
  rw [if_pos ⟨hv, hl⟩]
def digS : ByteArray := ⟨#[48, 49, 50, 51, 52, 53, 54, 55, 56, 57, 97, 98, 99, 100, 101, 102, 103, 104, 105, 106, 107, 108, 109, 110, 111, 112, 113, 114, 115, 116, 117, 118, 119, 120, 121, 122]⟩
def twoS : ByteArray := ⟨#[48, 48, 48, 49, 48, 50, 48, 51, 48, 52, 48, 53, 48, 54, 48, 55, 48, 56, 48, 57, 49, 48, 49, 49, 49, 50, 49, 51, 49, 52, 49, 53, 49, 54, 49, 55, 49, 56, 49, 57, 50, 48, 50, 49, 50, 50, 50, 51, 50, 52, 50, 53, 50, 54, 50, 55, 50, 56, 50, 57, 51, 48, 51, 49, 51, 50, 51, 51, 51, 52, 51, 53, 51, 54, 51, 55, 51, 56, 51, 57, 52, 48, 52, 49, 52, 50, 52, 51, 52, 52, 52, 53, 52, 54, 52, 55, 52, 56, 52, 57, 53, 48, 53, 49, 53, 50, 53, 51, 53, 52, 53, 53, 53, 54, 53, 55, 53, 56, 53, 57, 54, 48, 54, 49, 54, 50, 54, 51, 54, 52, 54, 53, 54, 54, 54, 55, 54, 56, 54, 57, 55, 48, 55, 49, 55, 50, 55, 51, 55, 52, 55, 53, 55, 54, 55, 55, 55, 56, 55, 57, 56, 48, 56, 49, 56, 50, 56, 51, 56, 52, 56, 53, 56, 54, 56, 55, 56, 56, 56, 57, 57, 48, 57, 49, 57, 50, 57, 51, 57, 52, 57, 53, 57, 54, 57, 55, 57, 56, 57, 57]⟩
theorem digS_size : digS.size = 36 := by decide +kernel
theorem twoS_size : twoS.size = 200 := by decide +kernel
/-- the digits of a number below 100 -/
def smallS (i : Int) : ByteArray := if i < 10 then digS.extract i.toNat (i + 1).toNat else twoS.extract (i * 2).toNat (i * 2 + 2).toNat
/-- internal/strconv.small -/
def b148 : AF := ⟨15, 1, [.tmp 2],
  (.seq (.reg [
    ⟨some 2, .assign (.const (.string ⟨#[]⟩)), none⟩])
  (.seq (.seq (.reg [
    ⟨some 3, .move (.tmp 0), none⟩,
    ⟨some 4, .binOp .lss 3 (.tmp 3) (.const (.int .i64 10)) 3, none⟩])
  (.cond (.tmp 4)
    (.seq (.reg [
      ⟨some 5, .move (.tmp 0), none⟩,
      ⟨some 6, .move (.tmp 0), none⟩,
      ⟨some 7, .binOp .add 3 (.tmp 6) (.const (.int .i64 1)) 3, none⟩,
      ⟨some 8, .slice 9 (.const (.string ⟨#[48, 49, 50, 51, 52, 53, 54, 55, 56, 57, 97, 98, 99, 100, 101, 102, 103, 104, 105, 106, 107, 108, 109, 110, 111, 112, 113, 114, 115, 116, 117, 118, 119, 120, 121, 122]⟩)) (some (.tmp 5)) (some (.tmp 7)) none, none⟩,
      ⟨some 2, .assign (.tmp 8), none⟩])
    .ret)
    .skip))
  (.seq (.reg [
    ⟨some 9, .move (.tmp 0), none⟩,
    ⟨some 10, .binOp .mul 3 (.tmp 9) (.const (.int .i64 2)) 3, none⟩,
    ⟨some 11, .move (.tmp 0), none⟩,
    ⟨some 12, .binOp .mul 3 (.tmp 11) (.const (.int .i64 2)) 3, none⟩,
    ⟨some 13, .binOp .add 3 (.tmp 12) (.const (.int .i64 2)) 3, none⟩,
    ⟨some 14, .slice 9 (.const (.string ⟨#[48, 48, 48, 49, 48, 50, 48, 51, 48, 52, 48, 53, 48, 54, 48, 55, 48, 56, 48, 57, 49, 48, 49, 49, 49, 50, 49, 51, 49, 52, 49, 53, 49, 54, 49, 55, 49, 56, 49, 57, 50, 48, 50, 49, 50, 50, 50, 51, 50, 52, 50, 53, 50, 54, 50, 55, 50, 56, 50, 57, 51, 48, 51, 49, 51, 50, 51, 51, 51, 52, 51, 53, 51, 54, 51, 55, 51, 56, 51, 57, 52, 48, 52, 49, 52, 50, 52, 51, 52, 52, 52, 53, 52, 54, 52, 55, 52, 56, 52, 57, 53, 48, 53, 49, 53, 50, 53, 51, 53, 52, 53, 53, 53, 54, 53, 55, 53, 56, 53, 57, 54, 48, 54, 49, 54, 50, 54, 51, 54, 52, 54, 53, 54, 54, 54, 55, 54, 56, 54, 57, 55, 48, 55, 49, 55, 50, 55, 51, 55, 52, 55, 53, 55, 54, 55, 55, 55, 56, 55, 57, 56, 48, 56, 49, 56, 50, 56, 51, 56, 52, 56, 53, 56, 54, 56, 55, 56, 56, 56, 57, 57, 48, 57, 49, 57, 50, 57, 51, 57, 52, 57, 53, 57, 54, 57, 55, 57, 56, 57, 57]⟩)) (some (.tmp 10)) (some (.tmp 13)) none, none⟩,
    ⟨some 2, .assign (.tmp 14), none⟩])
  .ret)))⟩
theorem c148 : fcomp Tryz.prog 148 = ⟨b148.n, b148.np, b148.res, b148.body.bare⟩ := by kernel_rfl
theorem k148 : fok Tryz.prog 148 = true := by kernel_rfl
theorem str_small (i : Int) (h0 : 0 ≤ i) (h1 : i < 100) : AFun Tryz.prog 148 [.one (.lit (.int .i64 i))] [.one (.lit (.string (smallS i)))] := by
  refine afun_intro mo_ _ _ c148 k148 _ _ rfl (by decide) ?_
  unfold b148
  simp (maxSteps := 1000000) (disch := first | omega | (simp only [LL]; omega)) only [W, V, TY, CC, reduceIte, Nat.reduceEqDiff, Nat.reduceAdd, Nat.reduceLeDiff, Nat.reduceLT, Int.reduceLE, Int.reduceLT, Int.reduceAdd, Int.reduceSub, Int.reduceToNat, Nat.reduceMul]
  unfold smallS
  have z1 := digS_size
  have z2 := twoS_size
  refine c_split (fun h => ?_) (fun h => ?_)
  · rw [if_pos h]
    simp (maxSteps := 1000000) (disch := first | omega | (simp only [LL]; omega)) only [W, V, TY, CC, reduceIte, Nat.reduceEqDiff, Nat.reduceAdd, Nat.reduceLeDiff, Nat.reduceLT, Int.reduceLE, Int.reduceLT, Int.reduceAdd, Int.reduceSub, Int.reduceToNat, Nat.reduceMul]
    refine a_sslice digS i (i + 1) (by simp (maxSteps := 1000000) (disch := first | omega | (simp only [LL]; omega)) only [W, V, TY, CC, reduceIte, Nat.reduceEqDiff, Nat.reduceAdd, Nat.reduceLeDiff, Nat.reduceLT, Int.reduceLE, Int.reduceLT, Int.reduceAdd, Int.reduceSub, Int.reduceToNat, Nat.reduceMul]) (by simp (maxSteps := 1000000) (disch := first | omega | (simp only [LL]; omega)) only [W, V, TY, CC, reduceIte, Nat.reduceEqDiff, Nat.reduceAdd, Nat.reduceLeDiff, Nat.reduceLT, Int.reduceLE, Int.reduceLT, Int.reduceAdd, Int.reduceSub, Int.reduceToNat, Nat.reduceMul, digS]) (by simp (maxSteps := 1000000) (disch := first | omega | (simp only [LL]; omega)) only [W, V, TY, CC, reduceIte, Nat.reduceEqDiff, Nat.reduceAdd, Nat.reduceLeDiff, Nat.reduceLT, Int.reduceLE, Int.reduceLT, Int.reduceAdd, Int.reduceSub, Int.reduceToNat, Nat.reduceMul]) (by simp (maxSteps := 1000000) (disch := first | omega | (simp only [LL]; omega)) only [W, V, TY, CC, reduceIte, Nat.reduceEqDiff, Nat.reduceAdd, Nat.reduceLeDiff, Nat.reduceLT, Int.reduceLE, Int.reduceLT, Int.reduceAdd, Int.reduceSub, Int.reduceToNat, Nat.reduceMul]) ⟨by omega, by omega, by omega⟩ ?_
    simp (maxSteps := 1000000) (disch := first | omega | (simp only [LL]; omega)) only [W, V, TY, CC, reduceIte, Nat.reduceEqDiff, Nat.reduceAdd, Nat.reduceLeDiff, Nat.reduceLT, Int.reduceLE, Int.reduceLT, Int.reduceAdd, Int.reduceSub, Int.reduceToNat, Nat.reduceMul]
    refine f_ret _ _ _ ?_
    simp (maxSteps := 1000000) (disch := first | omega | (simp only [LL]; omega)) only [W, V, TY, CC, reduceIte, Nat.reduceEqDiff, Nat.reduceAdd, Nat.reduceLeDiff, Nat.reduceLT, Int.reduceLE, Int.reduceLT, Int.reduceAdd, Int.reduceSub, Int.reduceToNat, Nat.reduceMul]
  · rw [if_neg h]
    simp (maxSteps := 1000000) (disch := first | omega | (simp only [LL]; omega)) only [W, V, TY, CC, reduceIte, Nat.reduceEqDiff, Nat.reduceAdd, Nat.reduceLeDiff, Nat.reduceLT, Int.reduceLE, Int.reduceLT, Int.reduceAdd, Int.reduceSub, Int.reduceToNat, Nat.reduceMul]
    refine a_sslice twoS (i * 2) (i * 2 + 2) (by simp (maxSteps := 1000000) (disch := first | omega | (simp only [LL]; omega)) only [W, V, TY, CC, reduceIte, Nat.reduceEqDiff, Nat.reduceAdd, Nat.reduceLeDiff, Nat.reduceLT, Int.reduceLE, Int.reduceLT, Int.reduceAdd, Int.reduceSub, Int.reduceToNat, Nat.reduceMul]) (by simp (maxSteps := 1000000) (disch := first | omega | (simp only [LL]; omega)) only [W, V, TY, CC, reduceIte, Nat.reduceEqDiff, Nat.reduceAdd, Nat.reduceLeDiff, Nat.reduceLT, Int.reduceLE, Int.reduceLT, Int.reduceAdd, Int.reduceSub, Int.reduceToNat, Nat.reduceMul, twoS]) (by simp (maxSteps := 1000000) (disch := first | omega | (simp only [LL]; omega)) only [W, V, TY, CC, reduceIte, Nat.reduceEqDiff, Nat.reduceAdd, Nat.reduceLeDiff, Nat.reduceLT, Int.reduceLE, Int.reduceLT, Int.reduceAdd, Int.reduceSub, Int.reduceToNat, Nat.reduceMul]) (by simp (maxSteps := 1000000) (disch := first | omega | (simp only [LL]; omega)) only [W, V, TY, CC, reduceIte, Nat.reduceEqDiff, Nat.reduceAdd, Nat.reduceLeDiff, Nat.reduceLT, Int.reduceLE, Int.reduceLT, Int.reduceAdd, Int.reduceSub, Int.reduceToNat, Nat.reduceMul]) ⟨by omega, by omega, by omega⟩ ?_
    simp (maxSteps := 1000000) (disch := first | omega | (simp only [LL]; omega)) only [W, V, TY, CC, reduceIte, Nat.reduceEqDiff, Nat.reduceAdd, Nat.reduceLeDiff, Nat.reduceLT, Int.reduceLE, Int.reduceLT, Int.reduceAdd, Int.reduceSub, Int.reduceToNat, Nat.reduceMul]
    refine f_ret _ _ _ ?_
    simp (maxSteps := 1000000) (disch := first | omega | (simp only [LL]; omega)) only [W, V, TY, CC, reduceIte, Nat.reduceEqDiff, Nat.reduceAdd, Nat.reduceLeDiff, Nat.reduceLT, Int.reduceLE, Int.reduceLT, Int.reduceAdd, Int.reduceSub, Int.reduceToNat, Nat.reduceMul]
/-- internal/strconv.FormatUint -/
def b147 : AF := ⟨32, 2, [.tmp 4],
  (.seq (.reg [
    ⟨some 4, .assign (.const (.string ⟨#[]⟩)), none⟩])
  (.seq (.seq (.reg [
    ⟨some 9, .move (.tmp 1), none⟩,
    ⟨some 10, .binOp .eql 3 (.tmp 9) (.const (.int .i64 10)) 3, none⟩])
  (.cond (.tmp 10)
    (.seq (.seq (.reg [
      ⟨some 11, .move (.tmp 0), none⟩,
      ⟨some 12, .binOp .lss 97 (.tmp 11) (.const (.int .u64 100)) 97, none⟩])
    (.cond (.tmp 12)
      (.seq (.reg [
        ⟨some 13, .move (.tmp 0), none⟩,
        ⟨some 14, .convert 97 3 (.tmp 13), none⟩,
        ⟨some 15, .call ⟨(.value (.func 148)), #[(.tmp 14)], #[3]⟩, none⟩,
        ⟨some 4, .assign (.tmp 15), none⟩])
      .ret)
      .skip))
    (.seq (.reg [
      ⟨some 5, .alloc 128, none⟩])
    (.seq (.reg [
      ⟨some 16, .move (.tmp 0), none⟩,
      ⟨some 17, .call ⟨(.value (.func 149)), #[(.tmp 16)], #[97]⟩, none⟩,
      ⟨some 6, .assign (.tmp 17), none⟩])
    (.seq (.reg [
      ⟨some 18, .move (.tmp 6), none⟩,
      ⟨some 19, .slice 128 (.tmp 5) none (some (.tmp 18)) none, none⟩,
      ⟨some 20, .move (.tmp 0), none⟩,
      ⟨some 21, .call ⟨(.value (.func 150)), #[(.tmp 19), (.tmp 20)], #[116, 97]⟩, none⟩])
    (.seq (.reg [
      ⟨some 22, .move (.tmp 6), none⟩,
      ⟨some 23, .slice 128 (.tmp 5) none (some (.tmp 22)) none, none⟩,
      ⟨some 24, .convert 116 9 (.tmp 23), none⟩,
      ⟨some 4, .assign (.tmp 24), none⟩])
    .ret)))))
    .skip))
  (.seq (.reg [
    ⟨some 26, .move (.tmp 0), none⟩,
    ⟨some 27, .move (.tmp 1), none⟩,
    ⟨some 28, .call ⟨(.value (.func 151)), #[(.const (.slice none 0 0)), (.tmp 26), (.tmp 27), (.const (.bool false)), (.const (.bool false))], #[116, 97, 3, 4, 4]⟩, none⟩,
    ⟨some 25, .move (.tmp 28), none⟩,
    ⟨some 29, .extract (.tmp 25) 0, none⟩,
    ⟨some 30, .extract (.tmp 25) 1, none⟩,
    ⟨some 7, .assign (.tmp 29), none⟩,
    ⟨some 8, .assign (.tmp 30), none⟩])
  (.seq (.reg [
    ⟨some 31, .move (.tmp 8), none⟩,
    ⟨some 4, .assign (.tmp 31), none⟩])
  .ret))))⟩
theorem c147 : fcomp Tryz.prog 147 = ⟨b147.n, b147.np, b147.res, b147.body.bare⟩ := by kernel_rfl
theorem k147 : fok Tryz.prog 147 = true := by kernel_rfl
theorem istr_FormatUint (i : Int) (h0 : 0 ≤ i) (h1 : i < 100) : AFun Tryz.prog 147 [.one (.lit (.int .u64 i)), .one (.lit (.int .i64 10))] [.one (.lit (.string (smallS i)))] := by
  refine afun_intro mo_ _ _ c147 k147 _ _ rfl (by decide) ?_
  unfold b147
  simp (maxSteps := 1000000) (disch := first | omega | (simp only [LL]; omega)) only [W, V, TY, CC, reduceIte, Nat.reduceEqDiff, Nat.reduceAdd, Nat.reduceLeDiff, Nat.reduceLT, Int.reduceLE, Int.reduceLT, Int.reduceAdd, Int.reduceSub, Int.reduceToNat, Nat.reduceMul]
  refine c_split (fun h => ?_) (fun h => by omega)
  simp (maxSteps := 1000000) (disch := first | omega | (simp only [LL]; omega)) only [W, V, TY, CC, reduceIte, Nat.reduceEqDiff, Nat.reduceAdd, Nat.reduceLeDiff, Nat.reduceLT, Int.reduceLE, Int.reduceLT, Int.reduceAdd, Int.reduceSub, Int.reduceToNat, Nat.reduceMul]
  refine a_call _ _ (str_small i h0 h1) (by simp (maxSteps := 1000000) (disch := first | omega | (simp only [LL]; omega)) only [W, V, TY, CC, reduceIte, Nat.reduceEqDiff, Nat.reduceAdd, Nat.reduceLeDiff, Nat.reduceLT, Int.reduceLE, Int.reduceLT, Int.reduceAdd, Int.reduceSub, Int.reduceToNat, Nat.reduceMul]) ?_
  simp (maxSteps := 1000000) (disch := first | omega | (simp only [LL]; omega)) only [W, V, TY, CC, reduceIte, Nat.reduceEqDiff, Nat.reduceAdd, Nat.reduceLeDiff, Nat.reduceLT, Int.reduceLE, Int.reduceLT, Int.reduceAdd, Int.reduceSub, Int.reduceToNat, Nat.reduceMul]
  refine f_ret _ _ _ ?_
  simp (maxSteps := 1000000) (disch := first | omega | (simp only [LL]; omega)) only [W, V, TY, CC, reduceIte, Nat.reduceEqDiff, Nat.reduceAdd, Nat.reduceLeDiff, Nat.reduceLT, Int.reduceLE, Int.reduceLT, Int.reduceAdd, Int.reduceSub, Int.reduceToNat, Nat.reduceMul]
/-- strconv.FormatUint -/
def b133 : AF := ⟨8, 2, [.tmp 4],
  (.seq (.reg [
    ⟨some 4, .assign (.const (.string ⟨#[]⟩)), none⟩])
  (.seq (.reg [
    ⟨some 5, .move (.tmp 0), none⟩,
    ⟨some 6, .move (.tmp 1), none⟩,
    ⟨some 7, .call ⟨(.value (.func 147)), #[(.tmp 5), (.tmp 6)], #[97, 3]⟩, none⟩,
    ⟨some 4, .assign (.tmp 7), none⟩])
  .ret))⟩
theorem c133 : fcomp Tryz.prog 133 = ⟨b133.n, b133.np, b133.res, b133.body.bare⟩ := by kernel_rfl
theorem k133 : fok Tryz.prog 133 = true := by kernel_rfl
theorem str_FormatUint (i : Int) (h0 : 0 ≤ i) (h1 : i < 100) : AFun Tryz.prog 133 [.one (.lit (.int .u64 i)), .one (.lit (.int .i64 10))] [.one (.lit (.string (smallS i)))] := by
  refine afun_intro mo_ _ _ c133 k133 _ _ rfl (by decide) ?_
  unfold b133
  simp (maxSteps := 1000000) (disch := first | omega | (simp only [LL]; omega)) only [W, V, TY, CC, reduceIte, Nat.reduceEqDiff, Nat.reduceAdd, Nat.reduceLeDiff, Nat.reduceLT, Int.reduceLE, Int.reduceLT, Int.reduceAdd, Int.reduceSub, Int.reduceToNat, Nat.reduceMul]
  refine a_call _ _ (istr_FormatUint i h0 h1) (by simp (maxSteps := 1000000) (disch := first | omega | (simp only [LL]; omega)) only [W, V, TY, CC, reduceIte, Nat.reduceEqDiff, Nat.reduceAdd, Nat.reduceLeDiff, Nat.reduceLT, Int.reduceLE, Int.reduceLT, Int.reduceAdd, Int.reduceSub, Int.reduceToNat, Nat.reduceMul]) ?_
  simp (maxSteps := 1000000) (disch := first | omega | (simp only [LL]; omega)) only [W, V, TY, CC, reduceIte, Nat.reduceEqDiff, Nat.reduceAdd, Nat.reduceLeDiff, Nat.reduceLT, Int.reduceLE, Int.reduceLT, Int.reduceAdd, Int.reduceSub, Int.reduceToNat, Nat.reduceMul]
  refine f_ret _ _ _ ?_
  simp (maxSteps := 1000000) (disch := first | omega | (simp only [LL]; omega)) only [W, V, TY, CC, reduceIte, Nat.reduceEqDiff, Nat.reduceAdd, Nat.reduceLeDiff, Nat.reduceLT, Int.reduceLE, Int.reduceLT, Int.reduceAdd, Int.reduceSub, Int.reduceToNat, Nat.reduceMul]
end Go.Proofs.YtljmgdepldpmdaaGreatDoor.E

set_option linter.unusedSimpArgs false
set_option linter.unusedVariables false
set_option maxHeartbeats 2000000
namespace Go.Proofs.YtljmgdepldpmdaaGreatDoor.E
open Go.RowKit Limbs
theorem nl_small {v : Nat} (h0 : 0 < v) (h1 : v < 4294967296) : nl v = [(v : Int)] := by
  have hl : (nl v).length ≤ 1 := nl_len (by omega)
  have hn : nl v ≠ [] := fun e => by have := nl_eq_nil.1 e; omega
  have hv := nv_nl v
  match h : nl v, hn, hl with
  | [x], _, _ =>
    rw [h] at hv
    have hx := (nl_lim v)
    rw [h] at hx
    have := hx x (List.mem_singleton.2 rfl)
    unfold nv at hv
    simp only [val] at hv
    congr 1
    omega
  | _ :: _ :: _, _, hl => simp at hl
/-- examboard/nat.Print -/
def b100 : AF := ⟨60, 1, [.tmp 2],
  (.seq (.reg [
    ⟨some 2, .assign (.const (.string ⟨#[]⟩)), none⟩])
  (.seq (.reg [
    ⟨some 10, .move (.tmp 0), none⟩,
    ⟨some 11, .call ⟨(.value (.func 131)), #[(.tmp 10)], #[23]⟩, none⟩,
    ⟨some 3, .assign (.tmp 11), none⟩])
  (.seq (.reg [
    ⟨some 4, .assign (.const (.slice none 0 0)), none⟩])
  (.seq (.block 0 (.loop (.seq (.seq (.reg [
    ⟨some 12, .move (.tmp 3), none⟩,
    ⟨some 13, .call ⟨(.builtin .len), #[(.tmp 12)], #[23]⟩, none⟩,
    ⟨some 14, .binOp .gtr 3 (.tmp 13) (.const (.int .i64 0)) 3, none⟩])
  (.cond (.tmp 14)
    .skip
    (.exit 0)))
  (.block 1 (.seq (.reg [
    ⟨some 16, .move (.tmp 3), none⟩,
    ⟨some 17, .call ⟨(.value (.func 132)), #[(.tmp 16), (.const (.int .u32 1000000000))], #[23, 103]⟩, none⟩,
    ⟨some 15, .move (.tmp 17), none⟩,
    ⟨some 18, .extract (.tmp 15) 0, none⟩,
    ⟨some 19, .extract (.tmp 15) 1, none⟩,
    ⟨some 5, .assign (.tmp 18), none⟩,
    ⟨some 6, .assign (.tmp 19), none⟩])
  (.seq (.reg [
    ⟨some 20, .move (.tmp 4), none⟩,
    ⟨some 21, .move (.tmp 6), none⟩,
    ⟨some 22, .buildSlice 22 1 #[(0, (.tmp 21))], none⟩,
    ⟨some 23, .call ⟨(.builtin .append), #[(.tmp 20), (.tmp 22)], #[22, 22]⟩, none⟩,
    ⟨some 4, .assign (.tmp 23), none⟩])
  (.reg [
    ⟨some 24, .move (.tmp 5), none⟩,
    ⟨some 3, .assign (.tmp 24), none⟩])))))))
  (.seq (.seq (.reg [
    ⟨some 25, .move (.tmp 4), none⟩,
    ⟨some 26, .call ⟨(.builtin .len), #[(.tmp 25)], #[22]⟩, none⟩,
    ⟨some 27, .binOp .eql 3 (.tmp 26) (.const (.int .i64 0)) 3, none⟩])
  (.cond (.tmp 27)
    (.seq (.reg [
      ⟨some 2, .assign (.const (.string ⟨#[48]⟩)), none⟩])
    .ret)
    .skip))
  (.seq (.reg [
    ⟨some 7, .assign (.const (.slice none 0 0)), none⟩])
  (.seq (.seq (.reg [
    ⟨some 28, .move (.tmp 4), none⟩,
    ⟨some 29, .call ⟨(.builtin .len), #[(.tmp 28)], #[22]⟩, none⟩,
    ⟨some 30, .binOp .sub 3 (.tmp 29) (.const (.int .i64 1)) 3, none⟩,
    ⟨some 8, .assign (.tmp 30), none⟩])
  (.block 2 (.loop (.seq (.seq (.reg [
    ⟨some 31, .move (.tmp 8), none⟩,
    ⟨some 32, .binOp .geq 3 (.tmp 31) (.const (.int .i64 0)) 3, none⟩])
  (.cond (.tmp 32)
    .skip
    (.exit 2)))
  (.seq (.block 3 (.seq (.reg [
    ⟨some 35, .move (.tmp 4), none⟩,
    ⟨some 36, .move (.tmp 8), none⟩,
    ⟨some 37, .indexAddr 22 (.tmp 35) (.tmp 36), none⟩,
    ⟨some 38, .load 103 (.tmp 37), none⟩,
    ⟨some 39, .convert 103 97 (.tmp 38), none⟩,
    ⟨some 40, .call ⟨(.value (.func 133)), #[(.tmp 39), (.const (.int .i64 10))], #[97, 3]⟩, none⟩,
    ⟨some 9, .assign (.tmp 40), none⟩])
  (.seq (.seq (.reg [
    ⟨some 41, .move (.tmp 8), none⟩,
    ⟨some 42, .move (.tmp 4), none⟩,
    ⟨some 43, .call ⟨(.builtin .len), #[(.tmp 42)], #[22]⟩, none⟩,
    ⟨some 44, .binOp .sub 3 (.tmp 43) (.const (.int .i64 1)) 3, none⟩,
    ⟨some 45, .binOp .lss 3 (.tmp 41) (.tmp 44) 3, none⟩])
  (.cond (.tmp 45)
    (.seq (.reg [
      ⟨some 46, .move (.tmp 9), none⟩,
      ⟨some 47, .call ⟨(.builtin .len), #[(.tmp 46)], #[9]⟩, none⟩,
      ⟨some 48, .binOp .sub 3 (.const (.int .i64 9)) (.tmp 47) 3, none⟩,
      ⟨some 49, .move (.const (.int .i64 0)), none⟩])
    (.block 4 (.loop (.seq (.reg [
      ⟨some 50, .binOp .lss 3 (.tmp 49) (.tmp 48) 3, none⟩])
    (.seq (.cond (.tmp 50)
      .skip
      (.exit 4))
    (.seq (.block 5 (.reg [
      ⟨some 51, .move (.tmp 7), none⟩,
      ⟨some 52, .buildSlice 116 1 #[(0, (.const (.int .u8 48)))], none⟩,
      ⟨some 53, .call ⟨(.builtin .append), #[(.tmp 51), (.tmp 52)], #[116, 116]⟩, none⟩,
      ⟨some 7, .assign (.tmp 53), none⟩]))
    (.reg [
      ⟨some 54, .binOp .add 3 (.tmp 49) (.const (.int .i64 1)) 3, none⟩,
      ⟨some 49, .move (.tmp 54), none⟩])))))))
    .skip))
  (.reg [
    ⟨some 55, .move (.tmp 7), none⟩,
    ⟨some 56, .move (.tmp 9), none⟩,
    ⟨some 57, .call ⟨(.builtin .append), #[(.tmp 55), (.tmp 56)], #[116, 9]⟩, none⟩,
    ⟨some 7, .assign (.tmp 57), none⟩]))))
  (.reg [
    ⟨some 33, .move (.tmp 8), none⟩,
    ⟨some 34, .binOp .sub 3 (.tmp 33) (.const (.int .i64 1)) 3, none⟩,
    ⟨some 8, .assign (.tmp 34), none⟩]))))))
  (.seq (.seq (.gh [.frz 7])
  (.reg [
    ⟨some 58, .move (.tmp 7), none⟩,
    ⟨some 59, .convert 116 9 (.tmp 58), none⟩,
    ⟨some 2, .assign (.tmp 59), none⟩]))
  .ret))))))))⟩
theorem c100 : fcomp Tryz.prog 100 = ⟨b100.n, b100.np, b100.res, b100.body.bare⟩ := by kernel_rfl
theorem k100 : fok Tryz.prog 100 = true := by kernel_rfl
theorem nat_Print (v : Nat) (b : ByteArray) (h0 : 0 < v) (h1 : v < 1000000000) (hb : b.size ≤ 9) (hF : AFun Tryz.prog 133 [.one (.lit (.int .u64 v)), .one (.lit (.int .i64 10))] [.one (.lit (.string b))]) : AFun Tryz.prog 100 [.one (natD (nl v))] [.one (.lit (.string b))] := by
  refine afun_intro mo_ _ _ c100 k100 _ _ rfl (by decide) ?_
  unfold b100
  have e := nl_small h0 (by omega)
  have hlim := nl_lim v
  have hlen : (nl v).length = 1 := by rw [e]; rfl
  simp (maxSteps := 1000000) (disch := first | omega | (simp only [LL]; omega)) only [W, V, TY, CC, reduceIte, Nat.reduceEqDiff, Nat.reduceAdd, Nat.reduceLeDiff, Nat.reduceLT, Int.reduceLE, Int.reduceLT, Int.reduceAdd, Int.reduceSub, Int.reduceToNat, Nat.reduceMul]
  refine a_call _ _ (nat_Norm (nl v) hlim (by omega)) (by simp (maxSteps := 1000000) (disch := first | omega | (simp only [LL]; omega)) only [W, V, TY, CC, reduceIte, Nat.reduceEqDiff, Nat.reduceAdd, Nat.reduceLeDiff, Nat.reduceLT, Int.reduceLE, Int.reduceLT, Int.reduceAdd, Int.reduceSub, Int.reduceToNat, Nat.reduceMul]) ?_
  rw [show tr (nl v) = nl v by unfold tr; rw [nv_nl]]
  simp (maxSteps := 1000000) (disch := first | omega | (simp only [LL]; omega)) only [W, V, TY, CC, reduceIte, Nat.reduceEqDiff, Nat.reduceAdd, Nat.reduceLeDiff, Nat.reduceLT, Int.reduceLE, Int.reduceLT, Int.reduceAdd, Int.reduceSub, Int.reduceToNat, Nat.reduceMul]
  refine w_loop (fun k s => (k = 1 ∧ s.t 3 = .one (.dt (natD (nl v))) ∧ s.t 4 = .one .z ∧ s.g 23 = 0 ∧ s.g 57 = 0) ∨ (k = 0 ∧ s.t 3 = .one (.dt (natD (nl 0))) ∧ s.t 4 = .one (.row (23, 0) 0) ∧ s.r (23, 0) = some ⟨103, 1, 1, natC [(v : Int)], 0, true⟩ ∧ s.g 57 = 0)) 1 (.inl ⟨rfl, ?_, ?_, ?_, ?_⟩) ?_
  · simp (maxSteps := 1000000) (disch := first | omega | (simp only [LL]; omega)) only [W, V, TY, CC, reduceIte, Nat.reduceEqDiff, Nat.reduceAdd, Nat.reduceLeDiff, Nat.reduceLT, Int.reduceLE, Int.reduceLT, Int.reduceAdd, Int.reduceSub, Int.reduceToNat, Nat.reduceMul]
  · simp (maxSteps := 1000000) (disch := first | omega | (simp only [LL]; omega)) only [W, V, TY, CC, reduceIte, Nat.reduceEqDiff, Nat.reduceAdd, Nat.reduceLeDiff, Nat.reduceLT, Int.reduceLE, Int.reduceLT, Int.reduceAdd, Int.reduceSub, Int.reduceToNat, Nat.reduceMul]
  · simp (maxSteps := 1000000) (disch := first | omega | (simp only [LL]; omega)) only [W, V, TY, CC, reduceIte, Nat.reduceEqDiff, Nat.reduceAdd, Nat.reduceLeDiff, Nat.reduceLT, Int.reduceLE, Int.reduceLT, Int.reduceAdd, Int.reduceSub, Int.reduceToNat, Nat.reduceMul]
  · simp (maxSteps := 1000000) (disch := first | omega | (simp only [LL]; omega)) only [W, V, TY, CC, reduceIte, Nat.reduceEqDiff, Nat.reduceAdd, Nat.reduceLeDiff, Nat.reduceLT, Int.reduceLE, Int.reduceLT, Int.reduceAdd, Int.reduceSub, Int.reduceToNat, Nat.reduceMul]
  intro k s hwf hi
  rcases hi with ⟨rfl, t3, t4, g23, g57⟩ | ⟨rfl, t3, t4, r23, g57⟩
  · simp (maxSteps := 1000000) (disch := first | omega | (simp only [LL]; omega)) only [W, V, TY, CC, reduceIte, Nat.reduceEqDiff, Nat.reduceAdd, Nat.reduceLeDiff, Nat.reduceLT, Int.reduceLE, Int.reduceLT, Int.reduceAdd, Int.reduceSub, Int.reduceToNat, Nat.reduceMul, t3, t4, g23, g57, hlen]
    refine a_call _ _ (nat_divSmall (nl v) 1000000000 hlim (by omega) (by decide) (by decide)) (by simp (maxSteps := 1000000) (disch := first | omega | (simp only [LL]; omega)) only [W, V, TY, CC, reduceIte, Nat.reduceEqDiff, Nat.reduceAdd, Nat.reduceLeDiff, Nat.reduceLT, Int.reduceLE, Int.reduceLT, Int.reduceAdd, Int.reduceSub, Int.reduceToNat, Nat.reduceMul, t3]) ?_
    rw [nv_nl, show v / (Int.toNat 1000000000) = 0 from Nat.div_eq_of_lt h1, show v % (Int.toNat 1000000000) = v from Nat.mod_eq_of_lt h1]
    have ec : [Dt.lit (.int .u32 (v : Int))] = natC [(v : Int)] := rfl
    simp (maxSteps := 1000000) (disch := first | omega | (simp only [LL]; omega)) only [W, V, TY, CC, reduceIte, Nat.reduceEqDiff, Nat.reduceAdd, Nat.reduceLeDiff, Nat.reduceLT, Int.reduceLE, Int.reduceLT, Int.reduceAdd, Int.reduceSub, Int.reduceToNat, Nat.reduceMul, t3, t4, g23, g57, maxLen_eq, ec]
    refine ⟨0, by omega, .inr rfl⟩
  · have z1 : ((1 : Int) = 0) = False := eq_false (by decide)
    simp (maxSteps := 1000000) (disch := first | omega | (simp only [LL]; omega)) only [W, V, TY, CC, reduceIte, Nat.reduceEqDiff, Nat.reduceAdd, Nat.reduceLeDiff, Nat.reduceLT, Int.reduceLE, Int.reduceLT, Int.reduceAdd, Int.reduceSub, Int.reduceToNat, Nat.reduceMul, t3, t4, r23, g57, nl_zero, z1]
    refine w_loop (fun k s => (k = 1 ∧ s.t 8 = .one (.dt (.lit (.int .i64 0))) ∧ s.t 4 = .one (.row (23, 0) 0) ∧ s.r (23, 0) = some ⟨103, 1, 1, natC [(v : Int)], 0, true⟩ ∧ s.t 7 = .one .z ∧ s.g 57 = 0) ∨ (k = 0 ∧ s.t 8 = .one (.dt (.lit (.int .i64 (-1)))) ∧ s.t 7 = .one (.row (57, 0) 0) ∧ s.r (57, 0) = some ⟨5, 1, b.size, strD b, 0, true⟩)) 1 (.inl ⟨rfl, ?_, ?_, ?_, ?_, ?_⟩) ?_
    · simp (maxSteps := 1000000) (disch := first | omega | (simp only [LL]; omega)) only [W, V, TY, CC, reduceIte, Nat.reduceEqDiff, Nat.reduceAdd, Nat.reduceLeDiff, Nat.reduceLT, Int.reduceLE, Int.reduceLT, Int.reduceAdd, Int.reduceSub, Int.reduceToNat, Nat.reduceMul, t3, t4, r23, g57]
    · simp (maxSteps := 1000000) (disch := first | omega | (simp only [LL]; omega)) only [W, V, TY, CC, reduceIte, Nat.reduceEqDiff, Nat.reduceAdd, Nat.reduceLeDiff, Nat.reduceLT, Int.reduceLE, Int.reduceLT, Int.reduceAdd, Int.reduceSub, Int.reduceToNat, Nat.reduceMul, t3, t4, r23, g57]
    · simp (maxSteps := 1000000) (disch := first | omega | (simp only [LL]; omega)) only [W, V, TY, CC, reduceIte, Nat.reduceEqDiff, Nat.reduceAdd, Nat.reduceLeDiff, Nat.reduceLT, Int.reduceLE, Int.reduceLT, Int.reduceAdd, Int.reduceSub, Int.reduceToNat, Nat.reduceMul, t3, t4, r23, g57]
    · simp (maxSteps := 1000000) (disch := first | omega | (simp only [LL]; omega)) only [W, V, TY, CC, reduceIte, Nat.reduceEqDiff, Nat.reduceAdd, Nat.reduceLeDiff, Nat.reduceLT, Int.reduceLE, Int.reduceLT, Int.reduceAdd, Int.reduceSub, Int.reduceToNat, Nat.reduceMul, t3, t4, r23, g57]
    · simp (maxSteps := 1000000) (disch := first | omega | (simp only [LL]; omega)) only [W, V, TY, CC, reduceIte, Nat.reduceEqDiff, Nat.reduceAdd, Nat.reduceLeDiff, Nat.reduceLT, Int.reduceLE, Int.reduceLT, Int.reduceAdd, Int.reduceSub, Int.reduceToNat, Nat.reduceMul, t3, t4, r23, g57]
    clear t3 t4 r23 g57 hwf
    intro k s hwf hi
    rcases hi with ⟨rfl, t8, t4, r23, t7, g57⟩ | ⟨rfl, t8, t7, r57⟩
    · have ec : natC [(v : Int)] = [Dt.lit (.int .u32 (v : Int))] := rfl
      have wv : IntKind.u64.wrap (v : Int) = v := by rw [IntKind.wrap_u64]; omega
      simp (maxSteps := 1000000) (disch := first | omega | (simp only [LL]; omega)) only [W, V, TY, CC, reduceIte, Nat.reduceEqDiff, Nat.reduceAdd, Nat.reduceLeDiff, Nat.reduceLT, Int.reduceLE, Int.reduceLT, Int.reduceAdd, Int.reduceSub, Int.reduceToNat, Nat.reduceMul, t8, t4, r23, t7, g57, ec, wv]
      refine a_call _ _ hF (by simp (maxSteps := 1000000) (disch := first | omega | (simp only [LL]; omega)) only [W, V, TY, CC, reduceIte, Nat.reduceEqDiff, Nat.reduceAdd, Nat.reduceLeDiff, Nat.reduceLT, Int.reduceLE, Int.reduceLT, Int.reduceAdd, Int.reduceSub, Int.reduceToNat, Nat.reduceMul, t8, t4, r23, t7, g57]) ?_
      simp (maxSteps := 1000000) (disch := first | omega | (simp only [LL]; omega)) only [W, V, TY, CC, reduceIte, Nat.reduceEqDiff, Nat.reduceAdd, Nat.reduceLeDiff, Nat.reduceLT, Int.reduceLE, Int.reduceLT, Int.reduceAdd, Int.reduceSub, Int.reduceToNat, Nat.reduceMul, t8, t4, r23, t7, g57]
      refine a_sapp b 5 (by simp (maxSteps := 1000000) (disch := first | omega | (simp only [LL]; omega)) only [W, V, TY, CC, reduceIte, Nat.reduceEqDiff, Nat.reduceAdd, Nat.reduceLeDiff, Nat.reduceLT, Int.reduceLE, Int.reduceLT, Int.reduceAdd, Int.reduceSub, Int.reduceToNat, Nat.reduceMul]) (by simp (maxSteps := 1000000) (disch := first | omega | (simp only [LL]; omega)) only [W, V, TY, CC, reduceIte, Nat.reduceEqDiff, Nat.reduceAdd, Nat.reduceLeDiff, Nat.reduceLT, Int.reduceLE, Int.reduceLT, Int.reduceAdd, Int.reduceSub, Int.reduceToNat, Nat.reduceMul]) (by simp (maxSteps := 1000000) (disch := first | omega | (simp only [LL]; omega)) only [W, V, TY, CC, reduceIte, Nat.reduceEqDiff, Nat.reduceAdd, Nat.reduceLeDiff, Nat.reduceLT, Int.reduceLE, Int.reduceLT, Int.reduceAdd, Int.reduceSub, Int.reduceToNat, Nat.reduceMul]) (by simp (maxSteps := 1000000) (disch := first | omega | (simp only [LL]; omega)) only [W, V, TY, CC, reduceIte, Nat.reduceEqDiff, Nat.reduceAdd, Nat.reduceLeDiff, Nat.reduceLT, Int.reduceLE, Int.reduceLT, Int.reduceAdd, Int.reduceSub, Int.reduceToNat, Nat.reduceMul]) ?_ ?_
      · simp (maxSteps := 1000000) (disch := first | omega | (simp only [LL]; omega)) only [W, V, TY, CC, reduceIte, Nat.reduceEqDiff, Nat.reduceAdd, Nat.reduceLeDiff, Nat.reduceLT, Int.reduceLE, Int.reduceLT, Int.reduceAdd, Int.reduceSub, Int.reduceToNat, Nat.reduceMul, t7, maxLen_eq, strD_len]
        omega
      simp (maxSteps := 1000000) (disch := first | omega | (simp only [LL]; omega)) only [W, V, TY, CC, reduceIte, Nat.reduceEqDiff, Nat.reduceAdd, Nat.reduceLeDiff, Nat.reduceLT, Int.reduceLE, Int.reduceLT, Int.reduceAdd, Int.reduceSub, Int.reduceToNat, Nat.reduceMul, t8, t4, r23, t7, g57]
      exact ⟨0, by omega, .inr rfl⟩
    · simp (maxSteps := 1000000) (disch := first | omega | (simp only [LL]; omega)) only [W, V, TY, CC, reduceIte, Nat.reduceEqDiff, Nat.reduceAdd, Nat.reduceLeDiff, Nat.reduceLT, Int.reduceLE, Int.reduceLT, Int.reduceAdd, Int.reduceSub, Int.reduceToNat, Nat.reduceMul, t8, t7, r57]
      refine a_sconv b 5 (by simp (maxSteps := 1000000) (disch := first | omega | (simp only [LL]; omega)) only [W, V, TY, CC, reduceIte, Nat.reduceEqDiff, Nat.reduceAdd, Nat.reduceLeDiff, Nat.reduceLT, Int.reduceLE, Int.reduceLT, Int.reduceAdd, Int.reduceSub, Int.reduceToNat, Nat.reduceMul]) (by simp (maxSteps := 1000000) (disch := first | omega | (simp only [LL]; omega)) only [W, V, TY, CC, reduceIte, Nat.reduceEqDiff, Nat.reduceAdd, Nat.reduceLeDiff, Nat.reduceLT, Int.reduceLE, Int.reduceLT, Int.reduceAdd, Int.reduceSub, Int.reduceToNat, Nat.reduceMul]) (by simp (maxSteps := 1000000) (disch := first | omega | (simp only [LL]; omega)) only [W, V, TY, CC, reduceIte, Nat.reduceEqDiff, Nat.reduceAdd, Nat.reduceLeDiff, Nat.reduceLT, Int.reduceLE, Int.reduceLT, Int.reduceAdd, Int.reduceSub, Int.reduceToNat, Nat.reduceMul]) ?_ ?_
      · simp (maxSteps := 1000000) (disch := first | omega | (simp only [LL]; omega)) only [W, V, TY, CC, reduceIte, Nat.reduceEqDiff, Nat.reduceAdd, Nat.reduceLeDiff, Nat.reduceLT, Int.reduceLE, Int.reduceLT, Int.reduceAdd, Int.reduceSub, Int.reduceToNat, Nat.reduceMul, t8, t7, r57]
        exact sd_row ⟨5, 1, b.size, strD b, 0, false⟩ (by simp (maxSteps := 1000000) (disch := first | omega | (simp only [LL]; omega)) only [W, V, TY, CC, reduceIte, Nat.reduceEqDiff, Nat.reduceAdd, Nat.reduceLeDiff, Nat.reduceLT, Int.reduceLE, Int.reduceLT, Int.reduceAdd, Int.reduceSub, Int.reduceToNat, Nat.reduceMul, r57]) rfl rfl
      simp (maxSteps := 1000000) (disch := first | omega | (simp only [LL]; omega)) only [W, V, TY, CC, reduceIte, Nat.reduceEqDiff, Nat.reduceAdd, Nat.reduceLeDiff, Nat.reduceLT, Int.reduceLE, Int.reduceLT, Int.reduceAdd, Int.reduceSub, Int.reduceToNat, Nat.reduceMul]
      refine f_ret _ _ _ ?_
      simp (maxSteps := 1000000) (disch := first | omega | (simp only [LL]; omega)) only [W, V, TY, CC, reduceIte, Nat.reduceEqDiff, Nat.reduceAdd, Nat.reduceLeDiff, Nat.reduceLT, Int.reduceLE, Int.reduceLT, Int.reduceAdd, Int.reduceSub, Int.reduceToNat, Nat.reduceMul]
theorem nat_Print0 : AFun Tryz.prog 100 [.one (natD (nl 0))] [.one (.lit (.string ⟨#[48]⟩))] := by
  refine afun_intro mo_ _ _ c100 k100 _ _ rfl (by decide) ?_
  unfold b100
  have hlim := nl_lim 0
  have hlen : (nl 0).length = 0 := by rw [nl_zero]; rfl
  simp (maxSteps := 1000000) (disch := first | omega | (simp only [LL]; omega)) only [W, V, TY, CC, reduceIte, Nat.reduceEqDiff, Nat.reduceAdd, Nat.reduceLeDiff, Nat.reduceLT, Int.reduceLE, Int.reduceLT, Int.reduceAdd, Int.reduceSub, Int.reduceToNat, Nat.reduceMul]
  refine a_call _ _ (nat_Norm (nl 0) hlim (by omega)) (by simp (maxSteps := 1000000) (disch := first | omega | (simp only [LL]; omega)) only [W, V, TY, CC, reduceIte, Nat.reduceEqDiff, Nat.reduceAdd, Nat.reduceLeDiff, Nat.reduceLT, Int.reduceLE, Int.reduceLT, Int.reduceAdd, Int.reduceSub, Int.reduceToNat, Nat.reduceMul]) ?_
  rw [show tr (nl 0) = nl 0 by unfold tr; rw [nv_nl]]
  simp (maxSteps := 1000000) (disch := first | omega | (simp only [LL]; omega)) only [W, V, TY, CC, reduceIte, Nat.reduceEqDiff, Nat.reduceAdd, Nat.reduceLeDiff, Nat.reduceLT, Int.reduceLE, Int.reduceLT, Int.reduceAdd, Int.reduceSub, Int.reduceToNat, Nat.reduceMul]
  refine w_loop (fun k s => s.t 3 = .one (.dt (natD (nl 0))) ∧ s.t 4 = .one .z) 0 ⟨?_, ?_⟩ ?_
  · simp (maxSteps := 1000000) (disch := first | omega | (simp only [LL]; omega)) only [W, V, TY, CC, reduceIte, Nat.reduceEqDiff, Nat.reduceAdd, Nat.reduceLeDiff, Nat.reduceLT, Int.reduceLE, Int.reduceLT, Int.reduceAdd, Int.reduceSub, Int.reduceToNat, Nat.reduceMul]
  · simp (maxSteps := 1000000) (disch := first | omega | (simp only [LL]; omega)) only [W, V, TY, CC, reduceIte, Nat.reduceEqDiff, Nat.reduceAdd, Nat.reduceLeDiff, Nat.reduceLT, Int.reduceLE, Int.reduceLT, Int.reduceAdd, Int.reduceSub, Int.reduceToNat, Nat.reduceMul]
  intro k s hwf ⟨t3, t4⟩
  simp (maxSteps := 1000000) (disch := first | omega | (simp only [LL]; omega)) only [W, V, TY, CC, reduceIte, Nat.reduceEqDiff, Nat.reduceAdd, Nat.reduceLeDiff, Nat.reduceLT, Int.reduceLE, Int.reduceLT, Int.reduceAdd, Int.reduceSub, Int.reduceToNat, Nat.reduceMul, t3, t4, hlen]
  refine f_ret _ _ _ ?_
  simp (maxSteps := 1000000) (disch := first | omega | (simp only [LL]; omega)) only [W, V, TY, CC, reduceIte, Nat.reduceEqDiff, Nat.reduceAdd, Nat.reduceLeDiff, Nat.reduceLT, Int.reduceLE, Int.reduceLT, Int.reduceAdd, Int.reduceSub, Int.reduceToNat, Nat.reduceMul]
/-- a natural number below 100, in digits -/
def dig (v : Nat) : ByteArray := if v = 0 then ⟨#[48]⟩ else smallS v
theorem smallS_size {i : Int} (h0 : 0 ≤ i) (h1 : i < 100) : (smallS i).size ≤ 2 := by
  unfold smallS
  split
  · rw [ByteArray.size_extract, digS_size]; omega
  · rw [ByteArray.size_extract, twoS_size]; omega
theorem dig_size {v : Nat} (h1 : v < 100) : (dig v).size ≤ 2 := by
  unfold dig
  split
  · decide
  · exact smallS_size (by omega) (by omega)
theorem nat_Print2 (v : Nat) (h1 : v < 100) : AFun Tryz.prog 100 [.one (natD (nl v))] [.one (.lit (.string (dig v)))] := by
  unfold dig
  split
  · rename_i h; subst h; exact nat_Print0
  · have := smallS_size (i := v) (by omega) (by omega)
    exact nat_Print v _ (by omega) (by omega) (by omega) (str_FormatUint v (by omega) (by omega))
/-- an integer, in digits -/
def digI (z : Int) : ByteArray := if z < 0 then ⟨#[45]⟩ ++ dig z.natAbs else dig z.natAbs
/-- examboard/integer.Print -/
def b97 : AF := ⟨13, 1, [.tmp 2],
  (.seq (.reg [
    ⟨some 1, .box 25 (.tmp 0), none⟩,
    ⟨some 2, .assign (.const (.string ⟨#[]⟩)), none⟩])
  (.seq (.seq (.reg [
    ⟨some 3, .load 25 (.tmp 1), none⟩,
    ⟨some 4, .call ⟨(.value (.func 108)), #[(.tmp 3)], #[25]⟩, none⟩,
    ⟨some 5, .binOp .lss 3 (.tmp 4) (.const (.int .i64 0)) 3, none⟩])
  (.cond (.tmp 5)
    (.seq (.reg [
      ⟨some 6, .fieldAddr 25 (.tmp 1) 1, none⟩,
      ⟨some 7, .load 23 (.tmp 6), none⟩,
      ⟨some 8, .call ⟨(.value (.func 100)), #[(.tmp 7)], #[23]⟩, none⟩,
      ⟨some 9, .binOp .add 9 (.const (.string ⟨#[45]⟩)) (.tmp 8) 9, none⟩,
      ⟨some 2, .assign (.tmp 9), none⟩])
    .ret)
    .skip))
  (.seq (.reg [
    ⟨some 10, .fieldAddr 25 (.tmp 1) 1, none⟩,
    ⟨some 11, .load 23 (.tmp 10), none⟩,
    ⟨some 12, .call ⟨(.value (.func 100)), #[(.tmp 11)], #[23]⟩, none⟩,
    ⟨some 2, .assign (.tmp 12), none⟩])
  .ret)))⟩
theorem c97 : fcomp Tryz.prog 97 = ⟨b97.n, b97.np, b97.res, b97.body.bare⟩ := by kernel_rfl
theorem k97 : fok Tryz.prog 97 = true := by kernel_rfl
theorem int_Print (z : Int) (h0 : -100 < z) (h1 : z < 100) : AFun Tryz.prog 97 [.agg (intC z)] [.one (.lit (.string (digI z)))] := by
  refine afun_intro mo_ _ _ c97 k97 _ _ rfl (by decide) ?_
  unfold b97
  have hl : (nl z.natAbs).length ≤ 1 := nl_len (by omega)
  have hz : (dig z.natAbs).size ≤ 2 := dig_size (by omega)
  have h45 : (⟨#[45]⟩ : ByteArray).size = 1 := rfl
  have cs : sgn z < 0 ↔ z < 0 := by unfold sgn; split <;> (try split) <;> omega
  unfold digI
  simp (maxSteps := 1000000) (disch := first | omega | (simp only [LL]; omega)) only [W, V, TY, CC, reduceIte, Nat.reduceEqDiff, Nat.reduceAdd, Nat.reduceLeDiff, Nat.reduceLT, Int.reduceLE, Int.reduceLT, Int.reduceAdd, Int.reduceSub, Int.reduceToNat, Nat.reduceMul, intC]
  refine a_call _ _ (int_Sign (decide (z < 0)) (nl z.natAbs) (nl_lim _) (by omega)) (by simp (maxSteps := 1000000) (disch := first | omega | (simp only [LL]; omega)) only [W, V, TY, CC, reduceIte, Nat.reduceEqDiff, Nat.reduceAdd, Nat.reduceLeDiff, Nat.reduceLT, Int.reduceLE, Int.reduceLT, Int.reduceAdd, Int.reduceSub, Int.reduceToNat, Nat.reduceMul]) ?_
  rw [iv_nl]
  simp (maxSteps := 1000000) (disch := first | omega | (simp only [LL]; omega)) only [W, V, TY, CC, reduceIte, Nat.reduceEqDiff, Nat.reduceAdd, Nat.reduceLeDiff, Nat.reduceLT, Int.reduceLE, Int.reduceLT, Int.reduceAdd, Int.reduceSub, Int.reduceToNat, Nat.reduceMul]
  refine c_split (fun h => ?_) (fun h => ?_)
  · rw [if_pos (cs.1 h)]
    simp (maxSteps := 1000000) (disch := first | omega | (simp only [LL]; omega)) only [W, V, TY, CC, reduceIte, Nat.reduceEqDiff, Nat.reduceAdd, Nat.reduceLeDiff, Nat.reduceLT, Int.reduceLE, Int.reduceLT, Int.reduceAdd, Int.reduceSub, Int.reduceToNat, Nat.reduceMul]
    refine a_call _ _ (nat_Print2 z.natAbs (by omega)) (by simp (maxSteps := 1000000) (disch := first | omega | (simp only [LL]; omega)) only [W, V, TY, CC, reduceIte, Nat.reduceEqDiff, Nat.reduceAdd, Nat.reduceLeDiff, Nat.reduceLT, Int.reduceLE, Int.reduceLT, Int.reduceAdd, Int.reduceSub, Int.reduceToNat, Nat.reduceMul]) ?_
    simp (maxSteps := 1000000) (disch := first | omega | (simp only [LL]; omega)) only [W, V, TY, CC, reduceIte, Nat.reduceEqDiff, Nat.reduceAdd, Nat.reduceLeDiff, Nat.reduceLT, Int.reduceLE, Int.reduceLT, Int.reduceAdd, Int.reduceSub, Int.reduceToNat, Nat.reduceMul, h45]
    refine ⟨by omega, f_ret _ _ _ ?_⟩
    simp (maxSteps := 1000000) (disch := first | omega | (simp only [LL]; omega)) only [W, V, TY, CC, reduceIte, Nat.reduceEqDiff, Nat.reduceAdd, Nat.reduceLeDiff, Nat.reduceLT, Int.reduceLE, Int.reduceLT, Int.reduceAdd, Int.reduceSub, Int.reduceToNat, Nat.reduceMul]
  · rw [if_neg (fun e => h (cs.2 e))]
    simp (maxSteps := 1000000) (disch := first | omega | (simp only [LL]; omega)) only [W, V, TY, CC, reduceIte, Nat.reduceEqDiff, Nat.reduceAdd, Nat.reduceLeDiff, Nat.reduceLT, Int.reduceLE, Int.reduceLT, Int.reduceAdd, Int.reduceSub, Int.reduceToNat, Nat.reduceMul]
    refine a_call _ _ (nat_Print2 z.natAbs (by omega)) (by simp (maxSteps := 1000000) (disch := first | omega | (simp only [LL]; omega)) only [W, V, TY, CC, reduceIte, Nat.reduceEqDiff, Nat.reduceAdd, Nat.reduceLeDiff, Nat.reduceLT, Int.reduceLE, Int.reduceLT, Int.reduceAdd, Int.reduceSub, Int.reduceToNat, Nat.reduceMul]) ?_
    simp (maxSteps := 1000000) (disch := first | omega | (simp only [LL]; omega)) only [W, V, TY, CC, reduceIte, Nat.reduceEqDiff, Nat.reduceAdd, Nat.reduceLeDiff, Nat.reduceLT, Int.reduceLE, Int.reduceLT, Int.reduceAdd, Int.reduceSub, Int.reduceToNat, Nat.reduceMul]
    refine f_ret _ _ _ ?_
    simp (maxSteps := 1000000) (disch := first | omega | (simp only [LL]; omega)) only [W, V, TY, CC, reduceIte, Nat.reduceEqDiff, Nat.reduceAdd, Nat.reduceLeDiff, Nat.reduceLT, Int.reduceLE, Int.reduceLT, Int.reduceAdd, Int.reduceSub, Int.reduceToNat, Nat.reduceMul]
/-- a number, in digits -/
def digQ (q : Rat) : ByteArray := if q.den = 1 then digI q.num else digI q.num ++ (⟨#[47]⟩ ++ dig q.den)
theorem digI_size {z : Int} (h0 : -100 < z) (h1 : z < 100) : (digI z).size ≤ 3 := by
  have hz : (dig z.natAbs).size ≤ 2 := dig_size (by omega)
  have h45 : (⟨#[45]⟩ : ByteArray).size = 1 := rfl
  unfold digI
  split
  · rw [ByteArray.size_append, h45]; omega
  · omega
/-- examboard/ratio.Print -/
def b56 : AF := ⟨22, 1, [.tmp 2],
  (.seq (.reg [
    ⟨some 1, .box 27 (.tmp 0), none⟩,
    ⟨some 2, .assign (.const (.string ⟨#[]⟩)), none⟩])
  (.seq (.reg [
    ⟨some 5, .load 27 (.tmp 1), none⟩,
    ⟨some 6, .call ⟨(.value (.func 42)), #[(.tmp 5)], #[27]⟩, none⟩,
    ⟨some 3, .alloc 27, none⟩,
    ⟨none, .store 27 (.tmp 3) (.tmp 6), none⟩])
  (.seq (.reg [
    ⟨some 7, .fieldAddr 27 (.tmp 3) 0, none⟩,
    ⟨some 8, .load 25 (.tmp 7), none⟩,
    ⟨some 9, .call ⟨(.value (.func 97)), #[(.tmp 8)], #[25]⟩, none⟩,
    ⟨some 4, .assign (.tmp 9), none⟩])
  (.seq (.seq (.dreg [
    ⟨some 10, .fieldAddr 27 (.tmp 3) 1, none⟩,
    ⟨some 11, .load 23 (.tmp 10), none⟩,
    ⟨some 12, .call ⟨(.value (.func 99)), #[(.const (.int .u64 1))], #[97]⟩, none⟩,
    ⟨some 13, .call ⟨(.value (.func 98)), #[(.tmp 11), (.tmp 12)], #[23, 23]⟩, none⟩,
    ⟨some 14, .binOp .neq 3 (.tmp 13) (.const (.int .i64 0)) 3, none⟩])
  (.cond (.tmp 14)
    (.reg [
      ⟨some 15, .move (.tmp 4), none⟩,
      ⟨some 16, .fieldAddr 27 (.tmp 3) 1, none⟩,
      ⟨some 17, .load 23 (.tmp 16), none⟩,
      ⟨some 18, .call ⟨(.value (.func 100)), #[(.tmp 17)], #[23]⟩, none⟩,
      ⟨some 19, .binOp .add 9 (.const (.string ⟨#[47]⟩)) (.tmp 18) 9, none⟩,
      ⟨some 20, .binOp .add 9 (.tmp 15) (.tmp 19) 9, none⟩,
      ⟨some 4, .assign (.tmp 20), none⟩])
    .skip))
  (.seq (.reg [
    ⟨some 21, .move (.tmp 4), none⟩,
    ⟨some 2, .assign (.tmp 21), none⟩])
  .ret)))))⟩
theorem c56 : fcomp Tryz.prog 56 = ⟨b56.n, b56.np, b56.res, b56.body.bare⟩ := by kernel_rfl
theorem k56 : fok Tryz.prog 56 = true := by kernel_rfl
theorem rat_Print (q : Rat) (h0 : -100 < q.num) (h1 : q.num < 100) (h2 : q.den < 100) : AFun Tryz.prog 56 [.agg (ratC q)] [.one (.lit (.string (digQ q)))] := by
  refine afun_intro mo_ _ _ c56 k56 _ _ rfl (by decide) ?_
  unfold b56
  have l1 : (nl q.num.natAbs).length ≤ 1 := nl_len (by omega)
  have l2 : (nl q.den).length ≤ 1 := nl_len (by omega)
  have l3 : (nl (Int.toNat 1)).length ≤ 1 := nl_len (by decide)
  have z1 := digI_size h0 h1
  have z2 := dig_size h2
  have h47 : (⟨#[47]⟩ : ByteArray).size = 1 := rfl
  have cn := rat_Norm (decide (q.num < 0)) (nl q.num.natAbs) (nl q.den) (nl_lim _) (nl_lim _) (by omega) (by omega)
  rw [rv_ratC] at cn
  have ci := int_Print q.num h0 h1
  simp only [intC] at ci
  unfold digQ
  simp (maxSteps := 1000000) (disch := first | omega | (simp only [LL]; omega)) only [W, V, TY, CC, reduceIte, Nat.reduceEqDiff, Nat.reduceAdd, Nat.reduceLeDiff, Nat.reduceLT, Int.reduceLE, Int.reduceLT, Int.reduceAdd, Int.reduceSub, Int.reduceToNat, Nat.reduceMul, ratC]
  refine a_call _ _ cn (by simp (maxSteps := 1000000) (disch := first | omega | (simp only [LL]; omega)) only [W, V, TY, CC, reduceIte, Nat.reduceEqDiff, Nat.reduceAdd, Nat.reduceLeDiff, Nat.reduceLT, Int.reduceLE, Int.reduceLT, Int.reduceAdd, Int.reduceSub, Int.reduceToNat, Nat.reduceMul]) ?_
  simp (maxSteps := 1000000) (disch := first | omega | (simp only [LL]; omega)) only [W, V, TY, CC, reduceIte, Nat.reduceEqDiff, Nat.reduceAdd, Nat.reduceLeDiff, Nat.reduceLT, Int.reduceLE, Int.reduceLT, Int.reduceAdd, Int.reduceSub, Int.reduceToNat, Nat.reduceMul, ratC]
  refine a_call _ _ ci (by simp (maxSteps := 1000000) (disch := first | omega | (simp only [LL]; omega)) only [W, V, TY, CC, reduceIte, Nat.reduceEqDiff, Nat.reduceAdd, Nat.reduceLeDiff, Nat.reduceLT, Int.reduceLE, Int.reduceLT, Int.reduceAdd, Int.reduceSub, Int.reduceToNat, Nat.reduceMul]) ?_
  simp (maxSteps := 1000000) (disch := first | omega | (simp only [LL]; omega)) only [W, V, TY, CC, reduceIte, Nat.reduceEqDiff, Nat.reduceAdd, Nat.reduceLeDiff, Nat.reduceLT, Int.reduceLE, Int.reduceLT, Int.reduceAdd, Int.reduceSub, Int.reduceToNat, Nat.reduceMul]
  refine a_call _ _ (nat_Of 1 (by decide) (by decide)) (by simp (maxSteps := 1000000) (disch := first | omega | (simp only [LL]; omega)) only [W, V, TY, CC, reduceIte, Nat.reduceEqDiff, Nat.reduceAdd, Nat.reduceLeDiff, Nat.reduceLT, Int.reduceLE, Int.reduceLT, Int.reduceAdd, Int.reduceSub, Int.reduceToNat, Nat.reduceMul]) ?_
  simp (maxSteps := 1000000) (disch := first | omega | (simp only [LL]; omega)) only [W, V, TY, CC, reduceIte, Nat.reduceEqDiff, Nat.reduceAdd, Nat.reduceLeDiff, Nat.reduceLT, Int.reduceLE, Int.reduceLT, Int.reduceAdd, Int.reduceSub, Int.reduceToNat, Nat.reduceMul]
  refine a_call _ _ (nat_Cmp (nl q.den) (nl (Int.toNat 1)) (nl_lim _) (nl_lim _) (by omega) (by omega)) (by simp (maxSteps := 1000000) (disch := first | omega | (simp only [LL]; omega)) only [W, V, TY, CC, reduceIte, Nat.reduceEqDiff, Nat.reduceAdd, Nat.reduceLeDiff, Nat.reduceLT, Int.reduceLE, Int.reduceLT, Int.reduceAdd, Int.reduceSub, Int.reduceToNat, Nat.reduceMul]) ?_
  rw [val_nl, val_nl]
  have hc : cmpZ (q.den : Int) ((Int.toNat 1 : Nat) : Int) = 0 ↔ q.den = 1 := by unfold cmpZ; split <;> (try split) <;> omega
  simp (maxSteps := 1000000) (disch := first | omega | (simp only [LL]; omega)) only [W, V, TY, CC, reduceIte, Nat.reduceEqDiff, Nat.reduceAdd, Nat.reduceLeDiff, Nat.reduceLT, Int.reduceLE, Int.reduceLT, Int.reduceAdd, Int.reduceSub, Int.reduceToNat, Nat.reduceMul]
  refine c_split (fun h => ?_) (fun h => ?_)
  · rw [if_neg (fun e => h (hc.2 e))]
    simp (maxSteps := 1000000) (disch := first | omega | (simp only [LL]; omega)) only [W, V, TY, CC, reduceIte, Nat.reduceEqDiff, Nat.reduceAdd, Nat.reduceLeDiff, Nat.reduceLT, Int.reduceLE, Int.reduceLT, Int.reduceAdd, Int.reduceSub, Int.reduceToNat, Nat.reduceMul]
    refine a_call _ _ (nat_Print2 q.den h2) (by simp (maxSteps := 1000000) (disch := first | omega | (simp only [LL]; omega)) only [W, V, TY, CC, reduceIte, Nat.reduceEqDiff, Nat.reduceAdd, Nat.reduceLeDiff, Nat.reduceLT, Int.reduceLE, Int.reduceLT, Int.reduceAdd, Int.reduceSub, Int.reduceToNat, Nat.reduceMul]) ?_
    have z3 : (⟨#[47]⟩ ++ dig q.den : ByteArray).size ≤ 3 := by rw [ByteArray.size_append, h47]; omega
    simp (maxSteps := 1000000) (disch := first | omega | (simp only [LL]; omega)) only [W, V, TY, CC, reduceIte, Nat.reduceEqDiff, Nat.reduceAdd, Nat.reduceLeDiff, Nat.reduceLT, Int.reduceLE, Int.reduceLT, Int.reduceAdd, Int.reduceSub, Int.reduceToNat, Nat.reduceMul, h47]
    refine ⟨by omega, by omega, f_ret _ _ _ ?_⟩
    simp (maxSteps := 1000000) (disch := first | omega | (simp only [LL]; omega)) only [W, V, TY, CC, reduceIte, Nat.reduceEqDiff, Nat.reduceAdd, Nat.reduceLeDiff, Nat.reduceLT, Int.reduceLE, Int.reduceLT, Int.reduceAdd, Int.reduceSub, Int.reduceToNat, Nat.reduceMul]
  · rw [if_pos (hc.1 (Classical.not_not.1 h))]
    simp (maxSteps := 1000000) (disch := first | omega | (simp only [LL]; omega)) only [W, V, TY, CC, reduceIte, Nat.reduceEqDiff, Nat.reduceAdd, Nat.reduceLeDiff, Nat.reduceLT, Int.reduceLE, Int.reduceLT, Int.reduceAdd, Int.reduceSub, Int.reduceToNat, Nat.reduceMul]
    refine f_ret _ _ _ ?_
    simp (maxSteps := 1000000) (disch := first | omega | (simp only [LL]; omega)) only [W, V, TY, CC, reduceIte, Nat.reduceEqDiff, Nat.reduceAdd, Nat.reduceLeDiff, Nat.reduceLT, Int.reduceLE, Int.reduceLT, Int.reduceAdd, Int.reduceSub, Int.reduceToNat, Nat.reduceMul]
end Go.Proofs.YtljmgdepldpmdaaGreatDoor.E

set_option linter.unusedSimpArgs false
set_option linter.unusedVariables false
set_option maxHeartbeats 2000000
namespace Go.Proofs.YtljmgdepldpmdaaGreatDoor.E
open Go.RowKit Limbs
theorem qs_int {x : Int} (h0 : -9223372036854775808 ≤ x) (h1 : x < 9223372036854775808) : qs ((x : Int) : Rat) ≤ 10 := by
  rw [← divInt_one]
  refine Nat.le_trans (qs_div _ _) ?_
  have := zl_i64 h0 h1
  have := zl_i64 (x := 1) (by omega) (by omega)
  omega
end Go.Proofs.YtljmgdepldpmdaaGreatDoor.E

set_option linter.unusedSimpArgs false
set_option linter.unusedVariables false
set_option maxHeartbeats 2000000
namespace Go.Proofs.YtljmgdepldpmdaaGreatDoor.E
open Go.RowKit Limbs
/-! ### the lesser and the greater -/
def qmin (p q : Rat) : Rat := if q < p then q else p
def qmax (p q : Rat) : Rat := if q < p then p else q
theorem qmin_le_qmax (p q : Rat) : qmin p q ≤ qmax p q := by unfold qmin qmax; split <;> rename_i h; exact Rat.le_of_lt h; exact Rat.not_lt.1 h
theorem qmin_eq {p q : Rat} (h : p ≤ q) : qmin p q = p := if_neg (Rat.not_lt.2 h)
theorem qmax_eq {p q : Rat} (h : p ≤ q) : qmax p q = q := if_neg (Rat.not_lt.2 h)
theorem qs_min {k : Nat} {p q : Rat} (hp : qs p ≤ k) (hq : qs q ≤ k) : qs (qmin p q) ≤ k := by unfold qmin; split <;> assumption
theorem qs_max {k : Nat} {p q : Rat} (hp : qs p ≤ k) (hq : qs q ≤ k) : qs (qmax p q) ≤ k := by unfold qmax; split <;> assumption
theorem qmin_le_l (p q : Rat) : qmin p q ≤ p := by unfold qmin; split <;> grind
theorem qmin_le_r (p q : Rat) : qmin p q ≤ q := by unfold qmin; split <;> grind
theorem qmax_ge_l (p q : Rat) : p ≤ qmax p q := by unfold qmax; split <;> grind
theorem qmax_ge_r (p q : Rat) : q ≤ qmax p q := by unfold qmax; split <;> grind
theorem le_qmin {a p q : Rat} (h : a ≤ p) (h' : a ≤ q) : a ≤ qmin p q := by unfold qmin; split <;> assumption
theorem qmax_le {a p q : Rat} (h : p ≤ a) (h' : q ≤ a) : qmax p q ≤ a := by unfold qmax; split <;> assumption
theorem cmpQ_gt (a b : Rat) : 0 < cmpQ a b ↔ b < a := by
  unfold cmpQ
  by_cases h1 : a < b
  · rw [if_pos h1]; exact ⟨fun h => absurd h (by decide), fun h => absurd (Rat.le_of_lt h) (Rat.not_le.2 h1)⟩
  · rw [if_neg h1]
    by_cases h2 : b < a
    · rw [if_pos h2]; exact ⟨fun _ => h2, fun _ => by decide⟩
    · rw [if_neg h2]; exact ⟨fun h => absurd h (by decide), fun h => absurd h h2⟩
/-! ### widths -/
/-! ### a number in an interval -/
def inI (x y z : Rat) : Prop := qmin x y ≤ z ∧ z ≤ qmax x y
instance (x y z : Rat) : Decidable (inI x y z) := by unfold inI; infer_instance
/-- the least and the greatest of the four products -/
def m4 (a b c d : Rat) : Rat := qmin (qmin (qmin a b) c) d
def M4 (a b c d : Rat) : Rat := qmax (qmax (qmax a b) c) d
theorem m4_le (a b c d : Rat) : m4 a b c d ≤ a ∧ m4 a b c d ≤ b ∧ m4 a b c d ≤ c ∧ m4 a b c d ≤ d := by
  unfold m4
  have h1 := qmin_le_l a b
  have h2 := qmin_le_r a b
  have h3 := qmin_le_l (qmin a b) c
  have h4 := qmin_le_r (qmin a b) c
  have h5 := qmin_le_l (qmin (qmin a b) c) d
  have h6 := qmin_le_r (qmin (qmin a b) c) d
  grind
theorem M4_ge (a b c d : Rat) : a ≤ M4 a b c d ∧ b ≤ M4 a b c d ∧ c ≤ M4 a b c d ∧ d ≤ M4 a b c d := by
  unfold M4
  have h1 := qmax_ge_l a b
  have h2 := qmax_ge_r a b
  have h3 := qmax_ge_l (qmax a b) c
  have h4 := qmax_ge_r (qmax a b) c
  have h5 := qmax_ge_l (qmax (qmax a b) c) d
  have h6 := qmax_ge_r (qmax (qmax a b) c) d
  grind
theorem m4_le_M4 (a b c d : Rat) : m4 a b c d ≤ M4 a b c d := Rat.le_trans (m4_le a b c d).1 (M4_ge a b c d).1
def mlo (x y u v : Rat) : Rat := m4 (x * u) (x * v) (y * u) (y * v)
def mhi (x y u v : Rat) : Rat := M4 (x * u) (x * v) (y * u) (y * v)
/-! ### an interval in an interval -/
def subI (x y u v : Rat) : Prop := inI u v x ∧ inI u v y
instance (x y u v : Rat) : Decidable (subI x y u v) := by unfold subI; infer_instance
/-! ### between -/
/-! ### the intersection and the hull -/
def ordI (x y u v : Rat) : Int := if qmax x y < qmin u v then -1 else if qmax u v < qmin x y then 1 else 0
def meetLo (x y u v : Rat) : Rat := qmax (qmin x y) (qmin u v)
def meetHi (x y u v : Rat) : Rat := qmin (qmax x y) (qmax u v)
end Go.Proofs.YtljmgdepldpmdaaGreatDoor.E

set_option linter.unusedSimpArgs false
set_option linter.unusedVariables false
set_option maxHeartbeats 2000000
namespace Go.Proofs.YtljmgdepldpmdaaGreatDoor.E
open Go.RowKit Limbs
/-! ### numbers as they were handed over -/
structure RR where
  n : Bool
  m : List Int
  d : List Int
def rC (x : RR) : List Dt := [.lit (.bool x.n), natD x.m, natD x.d]
def RR.q (x : RR) : Rat := rv x.n x.m x.d
structure rok (k : Nat) (x : RR) : Prop where
  m : Lim x.m
  d : Lim x.d
  lm : x.m.length ≤ k
  ld : x.d.length ≤ k
theorem rok.mono {a b : Nat} {x : RR} (h : rok a x) (hab : a ≤ b) : rok b x := ⟨h.m, h.d, Nat.le_trans h.lm hab, Nat.le_trans h.ld hab⟩
/-- a number in lowest terms -/
def nr (q : Rat) : RR := ⟨decide (q.num < 0), nl q.num.natAbs, nl q.den⟩
theorem rC_nr (q : Rat) : rC (nr q) = ratC q := rfl
theorem nr_q (q : Rat) : (nr q).q = q := rv_ratC q
theorem rok_nr {k : Nat} {q : Rat} (h : qs q ≤ k) : rok k (nr q) := ⟨nl_lim _, nl_lim _, Nat.le_trans (qs_num q) h, Nat.le_trans (qs_den q) h⟩
theorem qs_rr {k : Nat} {x : RR} (h : rok k x) : qs x.q ≤ k + 1 := by
  have := qs_rv x.n h.m h.d
  have := h.lm
  have := h.ld
  unfold RR.q
  omega
section
variable {x y : RR} (hx : rok 68719476600 x) (hy : rok 68719476600 y)
include hx hy
theorem R_Cmp : AFun Tryz.prog 51 [.agg (rC x), .agg (rC y)] [.one (.lit (.int .i64 (cmpQ x.q y.q)))] := by
  obtain ⟨h1, h2, h3, h4⟩ := hx
  obtain ⟨k1, k2, k3, k4⟩ := hy
  exact rat_Cmp x.n x.m x.d y.n y.m y.d h1 h2 k1 k2 (by omega) (by omega) (by omega) (by omega)
theorem R_Add : AFun Tryz.prog 45 [.agg (rC x), .agg (rC y)] [.agg (ratC (x.q + y.q))] := by
  obtain ⟨h1, h2, h3, h4⟩ := hx
  obtain ⟨k1, k2, k3, k4⟩ := hy
  exact rat_Add x.n x.m x.d y.n y.m y.d h1 h2 k1 k2 (by omega) (by omega) (by omega) (by omega)
theorem R_Sub : AFun Tryz.prog 48 [.agg (rC x), .agg (rC y)] [.agg (ratC (x.q - y.q))] := by
  obtain ⟨h1, h2, h3, h4⟩ := hx
  obtain ⟨k1, k2, k3, k4⟩ := hy
  exact rat_Sub x.n x.m x.d y.n y.m y.d h1 h2 k1 k2 (by omega) (by omega) (by omega) (by omega)
theorem R_Mul : AFun Tryz.prog 50 [.agg (rC x), .agg (rC y)] [.agg (ratC (x.q * y.q))] := by
  obtain ⟨h1, h2, h3, h4⟩ := hx
  obtain ⟨k1, k2, k3, k4⟩ := hy
  exact rat_Mul x.n x.m x.d y.n y.m y.d h1 h2 k1 k2 (by omega) (by omega) (by omega) (by omega)
omit hy
theorem R_Norm : AFun Tryz.prog 42 [.agg (rC x)] [.agg (ratC x.q)] := by
  obtain ⟨h1, h2, h3, h4⟩ := hx
  exact rat_Norm x.n x.m x.d h1 h2 (by omega) (by omega)
end
/-! ### the lesser and the greater -/
def elo (x y : RR) : RR := if y.q < x.q then y else x
def ehi (x y : RR) : RR := if y.q < x.q then x else y
theorem elo_q (x y : RR) : (elo x y).q = qmin x.q y.q := by unfold elo qmin; split <;> rfl
theorem ehi_q (x y : RR) : (ehi x y).q = qmax x.q y.q := by unfold ehi qmax; split <;> rfl
theorem rok_elo {k : Nat} {x y : RR} (hx : rok k x) (hy : rok k y) : rok k (elo x y) := by unfold elo; split; exact hy; exact hx
theorem rok_ehi {k : Nat} {x y : RR} (hx : rok k x) (hy : rok k y) : rok k (ehi x y) := by unfold ehi; split; exact hx; exact hy
def sQ (p q : Rat) : List Dt := ratC p ++ ratC q
/-- examboard/span.ends -/
def b41 : AF := ⟨18, 1, [.cell 2 27, .cell 3 27],
  (.seq (.reg [
    ⟨some 1, .box 29 (.tmp 0), none⟩,
    ⟨some 2, .alloc 27, none⟩,
    ⟨some 3, .alloc 27, none⟩])
  (.seq (.seq (.reg [
    ⟨some 4, .fieldAddr 29 (.tmp 1) 0, none⟩,
    ⟨some 5, .load 27 (.tmp 4), none⟩,
    ⟨some 6, .fieldAddr 29 (.tmp 1) 1, none⟩,
    ⟨some 7, .load 27 (.tmp 6), none⟩,
    ⟨some 8, .call ⟨(.value (.func 51)), #[(.tmp 5), (.tmp 7)], #[27, 27]⟩, none⟩,
    ⟨some 9, .binOp .gtr 3 (.tmp 8) (.const (.int .i64 0)) 3, none⟩])
  (.cond (.tmp 9)
    (.seq (.xreg (.br ⟨some 10, .fieldAddr 29 (.tmp 1) 1, none⟩ (.br ⟨some 11, .load 27 (.tmp 10), none⟩ (.br ⟨some 12, .fieldAddr 29 (.tmp 1) 0, none⟩ (.br ⟨some 13, .load 27 (.tmp 12), none⟩ (.br ⟨none, .store 27 (.tmp 2) (.tmp 11), none⟩ (.br ⟨none, .store 27 (.tmp 3) (.tmp 13), none⟩ .leaf
 .nil)
 .nil)
 (.br ⟨none, .store 27 (.tmp 2) (.tmp 11), none⟩ (.br ⟨some 13, .load 27 (.tmp 12), none⟩ (.br ⟨none, .store 27 (.tmp 3) (.tmp 13), none⟩ .leaf
 .nil)
 .nil)
 .nil))
 (.br ⟨none, .store 27 (.tmp 2) (.tmp 11), none⟩ (.br ⟨some 12, .fieldAddr 29 (.tmp 1) 0, none⟩ (.br ⟨some 13, .load 27 (.tmp 12), none⟩ (.br ⟨none, .store 27 (.tmp 3) (.tmp 13), none⟩ .leaf
 .nil)
 .nil)
 .nil)
 .nil))
 .nil)
 .nil))
    .ret)
    .skip))
  (.seq (.xreg (.br ⟨some 14, .fieldAddr 29 (.tmp 1) 0, none⟩ (.br ⟨some 15, .load 27 (.tmp 14), none⟩ (.br ⟨some 16, .fieldAddr 29 (.tmp 1) 1, none⟩ (.br ⟨some 17, .load 27 (.tmp 16), none⟩ (.br ⟨none, .store 27 (.tmp 2) (.tmp 15), none⟩ (.br ⟨none, .store 27 (.tmp 3) (.tmp 17), none⟩ .leaf
 .nil)
 .nil)
 (.br ⟨none, .store 27 (.tmp 2) (.tmp 15), none⟩ (.br ⟨some 17, .load 27 (.tmp 16), none⟩ (.br ⟨none, .store 27 (.tmp 3) (.tmp 17), none⟩ .leaf
 .nil)
 .nil)
 .nil))
 (.br ⟨none, .store 27 (.tmp 2) (.tmp 15), none⟩ (.br ⟨some 16, .fieldAddr 29 (.tmp 1) 1, none⟩ (.br ⟨some 17, .load 27 (.tmp 16), none⟩ (.br ⟨none, .store 27 (.tmp 3) (.tmp 17), none⟩ .leaf
 .nil)
 .nil)
 .nil)
 .nil))
 .nil)
 .nil))
  .ret)))⟩
theorem c41 : fcomp Tryz.prog 41 = ⟨b41.n, b41.np, b41.res, b41.body.bare⟩ := by kernel_rfl
theorem k41 : fok Tryz.prog 41 = true := by kernel_rfl
/-- examboard/span.Of -/
def b8 : AF := ⟨19, 2, [.cell 4 29],
  (.seq (.reg [
    ⟨some 2, .box 27 (.tmp 0), none⟩,
    ⟨some 3, .box 27 (.tmp 1), none⟩,
    ⟨some 4, .alloc 29, none⟩])
  (.seq (.reg [
    ⟨some 8, .load 27 (.tmp 2), none⟩,
    ⟨some 9, .load 27 (.tmp 3), none⟩,
    ⟨some 10, .build 29 #[(0, (.tmp 8)), (1, (.tmp 9))], none⟩,
    ⟨some 11, .call ⟨(.value (.func 41)), #[(.tmp 10)], #[29]⟩, none⟩,
    ⟨some 7, .move (.tmp 11), none⟩,
    ⟨some 12, .extract (.tmp 7) 0, none⟩,
    ⟨some 13, .extract (.tmp 7) 1, none⟩,
    ⟨some 5, .alloc 27, none⟩,
    ⟨some 6, .alloc 27, none⟩,
    ⟨none, .store 27 (.tmp 5) (.tmp 12), none⟩,
    ⟨none, .store 27 (.tmp 6) (.tmp 13), none⟩])
  (.seq (.dreg [
    ⟨some 14, .load 27 (.tmp 5), none⟩,
    ⟨some 15, .call ⟨(.value (.func 42)), #[(.tmp 14)], #[27]⟩, none⟩,
    ⟨some 16, .load 27 (.tmp 6), none⟩,
    ⟨some 17, .call ⟨(.value (.func 42)), #[(.tmp 16)], #[27]⟩, none⟩,
    ⟨some 18, .build 29 #[(0, (.tmp 15)), (1, (.tmp 17))], none⟩,
    ⟨none, .store 29 (.tmp 4) (.tmp 18), none⟩])
  .ret)))⟩
theorem c8 : fcomp Tryz.prog 8 = ⟨b8.n, b8.np, b8.res, b8.body.bare⟩ := by kernel_rfl
theorem k8 : fok Tryz.prog 8 = true := by kernel_rfl
/-- examboard/span.Scale -/
def b16 : AF := ⟨14, 2, [.cell 4 29],
  (.seq (.reg [
    ⟨some 2, .box 29 (.tmp 0), none⟩,
    ⟨some 3, .box 27 (.tmp 1), none⟩,
    ⟨some 4, .alloc 29, none⟩])
  (.seq (.dreg [
    ⟨some 5, .fieldAddr 29 (.tmp 2) 0, none⟩,
    ⟨some 6, .load 27 (.tmp 5), none⟩,
    ⟨some 7, .load 27 (.tmp 3), none⟩,
    ⟨some 8, .call ⟨(.value (.func 50)), #[(.tmp 6), (.tmp 7)], #[27, 27]⟩, none⟩,
    ⟨some 9, .fieldAddr 29 (.tmp 2) 1, none⟩,
    ⟨some 10, .load 27 (.tmp 9), none⟩,
    ⟨some 11, .load 27 (.tmp 3), none⟩,
    ⟨some 12, .call ⟨(.value (.func 50)), #[(.tmp 10), (.tmp 11)], #[27, 27]⟩, none⟩,
    ⟨some 13, .call ⟨(.value (.func 8)), #[(.tmp 8), (.tmp 12)], #[27, 27]⟩, none⟩,
    ⟨none, .store 29 (.tmp 4) (.tmp 13), none⟩])
  .ret))⟩
theorem c16 : fcomp Tryz.prog 16 = ⟨b16.n, b16.np, b16.res, b16.body.bare⟩ := by kernel_rfl
theorem k16 : fok Tryz.prog 16 = true := by kernel_rfl
/-- examboard/span.Add -/
def b10 : AF := ⟨26, 2, [.cell 4 29],
  (.seq (.reg [
    ⟨some 2, .box 29 (.tmp 0), none⟩,
    ⟨some 3, .box 29 (.tmp 1), none⟩,
    ⟨some 4, .alloc 29, none⟩])
  (.seq (.reg [
    ⟨some 10, .load 29 (.tmp 2), none⟩,
    ⟨some 11, .call ⟨(.value (.func 41)), #[(.tmp 10)], #[29]⟩, none⟩,
    ⟨some 9, .move (.tmp 11), none⟩,
    ⟨some 12, .extract (.tmp 9) 0, none⟩,
    ⟨some 13, .extract (.tmp 9) 1, none⟩,
    ⟨some 5, .alloc 27, none⟩,
    ⟨some 6, .alloc 27, none⟩,
    ⟨none, .store 27 (.tmp 5) (.tmp 12), none⟩,
    ⟨none, .store 27 (.tmp 6) (.tmp 13), none⟩])
  (.seq (.reg [
    ⟨some 15, .load 29 (.tmp 3), none⟩,
    ⟨some 16, .call ⟨(.value (.func 41)), #[(.tmp 15)], #[29]⟩, none⟩,
    ⟨some 14, .move (.tmp 16), none⟩,
    ⟨some 17, .extract (.tmp 14) 0, none⟩,
    ⟨some 18, .extract (.tmp 14) 1, none⟩,
    ⟨some 7, .alloc 27, none⟩,
    ⟨some 8, .alloc 27, none⟩,
    ⟨none, .store 27 (.tmp 7) (.tmp 17), none⟩,
    ⟨none, .store 27 (.tmp 8) (.tmp 18), none⟩])
  (.seq (.dreg [
    ⟨some 19, .load 27 (.tmp 5), none⟩,
    ⟨some 20, .load 27 (.tmp 7), none⟩,
    ⟨some 21, .call ⟨(.value (.func 45)), #[(.tmp 19), (.tmp 20)], #[27, 27]⟩, none⟩,
    ⟨some 22, .load 27 (.tmp 6), none⟩,
    ⟨some 23, .load 27 (.tmp 8), none⟩,
    ⟨some 24, .call ⟨(.value (.func 45)), #[(.tmp 22), (.tmp 23)], #[27, 27]⟩, none⟩,
    ⟨some 25, .build 29 #[(0, (.tmp 21)), (1, (.tmp 24))], none⟩,
    ⟨none, .store 29 (.tmp 4) (.tmp 25), none⟩])
  .ret))))⟩
theorem c10 : fcomp Tryz.prog 10 = ⟨b10.n, b10.np, b10.res, b10.body.bare⟩ := by kernel_rfl
theorem k10 : fok Tryz.prog 10 = true := by kernel_rfl
/-- examboard/span.Sub -/
def b12 : AF := ⟨26, 2, [.cell 4 29],
  (.seq (.reg [
    ⟨some 2, .box 29 (.tmp 0), none⟩,
    ⟨some 3, .box 29 (.tmp 1), none⟩,
    ⟨some 4, .alloc 29, none⟩])
  (.seq (.reg [
    ⟨some 10, .load 29 (.tmp 2), none⟩,
    ⟨some 11, .call ⟨(.value (.func 41)), #[(.tmp 10)], #[29]⟩, none⟩,
    ⟨some 9, .move (.tmp 11), none⟩,
    ⟨some 12, .extract (.tmp 9) 0, none⟩,
    ⟨some 13, .extract (.tmp 9) 1, none⟩,
    ⟨some 5, .alloc 27, none⟩,
    ⟨some 6, .alloc 27, none⟩,
    ⟨none, .store 27 (.tmp 5) (.tmp 12), none⟩,
    ⟨none, .store 27 (.tmp 6) (.tmp 13), none⟩])
  (.seq (.reg [
    ⟨some 15, .load 29 (.tmp 3), none⟩,
    ⟨some 16, .call ⟨(.value (.func 41)), #[(.tmp 15)], #[29]⟩, none⟩,
    ⟨some 14, .move (.tmp 16), none⟩,
    ⟨some 17, .extract (.tmp 14) 0, none⟩,
    ⟨some 18, .extract (.tmp 14) 1, none⟩,
    ⟨some 7, .alloc 27, none⟩,
    ⟨some 8, .alloc 27, none⟩,
    ⟨none, .store 27 (.tmp 7) (.tmp 17), none⟩,
    ⟨none, .store 27 (.tmp 8) (.tmp 18), none⟩])
  (.seq (.dreg [
    ⟨some 19, .load 27 (.tmp 5), none⟩,
    ⟨some 20, .load 27 (.tmp 8), none⟩,
    ⟨some 21, .call ⟨(.value (.func 48)), #[(.tmp 19), (.tmp 20)], #[27, 27]⟩, none⟩,
    ⟨some 22, .load 27 (.tmp 6), none⟩,
    ⟨some 23, .load 27 (.tmp 7), none⟩,
    ⟨some 24, .call ⟨(.value (.func 48)), #[(.tmp 22), (.tmp 23)], #[27, 27]⟩, none⟩,
    ⟨some 25, .build 29 #[(0, (.tmp 21)), (1, (.tmp 24))], none⟩,
    ⟨none, .store 29 (.tmp 4) (.tmp 25), none⟩])
  .ret))))⟩
theorem c12 : fcomp Tryz.prog 12 = ⟨b12.n, b12.np, b12.res, b12.body.bare⟩ := by kernel_rfl
theorem k12 : fok Tryz.prog 12 = true := by kernel_rfl
/-- examboard/span.Order -/
def b55 : AF := ⟨29, 2, [.tmp 4],
  (.seq (.reg [
    ⟨some 2, .box 29 (.tmp 0), none⟩,
    ⟨some 3, .box 29 (.tmp 1), none⟩,
    ⟨some 4, .assign (.const (.int .i64 0)), none⟩])
  (.seq (.reg [
    ⟨some 10, .load 29 (.tmp 2), none⟩,
    ⟨some 11, .call ⟨(.value (.func 41)), #[(.tmp 10)], #[29]⟩, none⟩,
    ⟨some 9, .move (.tmp 11), none⟩,
    ⟨some 12, .extract (.tmp 9) 0, none⟩,
    ⟨some 13, .extract (.tmp 9) 1, none⟩,
    ⟨some 5, .alloc 27, none⟩,
    ⟨some 6, .alloc 27, none⟩,
    ⟨none, .store 27 (.tmp 5) (.tmp 12), none⟩,
    ⟨none, .store 27 (.tmp 6) (.tmp 13), none⟩])
  (.seq (.reg [
    ⟨some 15, .load 29 (.tmp 3), none⟩,
    ⟨some 16, .call ⟨(.value (.func 41)), #[(.tmp 15)], #[29]⟩, none⟩,
    ⟨some 14, .move (.tmp 16), none⟩,
    ⟨some 17, .extract (.tmp 14) 0, none⟩,
    ⟨some 18, .extract (.tmp 14) 1, none⟩,
    ⟨some 7, .alloc 27, none⟩,
    ⟨some 8, .alloc 27, none⟩,
    ⟨none, .store 27 (.tmp 7) (.tmp 17), none⟩,
    ⟨none, .store 27 (.tmp 8) (.tmp 18), none⟩])
  (.seq (.block 0 (.seq (.reg [
    ⟨some 20, .load 27 (.tmp 6), none⟩,
    ⟨some 21, .load 27 (.tmp 7), none⟩,
    ⟨some 22, .call ⟨(.value (.func 51)), #[(.tmp 20), (.tmp 21)], #[27, 27]⟩, none⟩,
    ⟨some 23, .binOp .lss 3 (.tmp 22) (.const (.int .i64 0)) 3, none⟩,
    ⟨some 19, .assign (.tmp 23), none⟩])
  (.cond (.tmp 19)
    (.seq (.reg [
      ⟨some 4, .assign (.const (.int .i64 (-1))), none⟩])
    .ret)
    (.seq (.reg [
      ⟨some 25, .load 27 (.tmp 5), none⟩,
      ⟨some 26, .load 27 (.tmp 8), none⟩,
      ⟨some 27, .call ⟨(.value (.func 51)), #[(.tmp 25), (.tmp 26)], #[27, 27]⟩, none⟩,
      ⟨some 28, .binOp .gtr 3 (.tmp 27) (.const (.int .i64 0)) 3, none⟩,
      ⟨some 24, .assign (.tmp 28), none⟩])
    (.cond (.tmp 24)
      (.seq (.reg [
        ⟨some 4, .assign (.const (.int .i64 1)), none⟩])
      .ret)
      .skip)))))
  (.seq (.reg [
    ⟨some 4, .assign (.const (.int .i64 0)), none⟩])
  .ret)))))⟩
theorem c55 : fcomp Tryz.prog 55 = ⟨b55.n, b55.np, b55.res, b55.body.bare⟩ := by kernel_rfl
theorem k55 : fok Tryz.prog 55 = true := by kernel_rfl
/-- examboard/span.Width -/
def b57 : AF := ⟨9, 1, [.cell 2 27],
  (.seq (.reg [
    ⟨some 1, .box 29 (.tmp 0), none⟩,
    ⟨some 2, .alloc 27, none⟩])
  (.seq (.reg [
    ⟨some 3, .fieldAddr 29 (.tmp 1) 1, none⟩,
    ⟨some 4, .load 27 (.tmp 3), none⟩,
    ⟨some 5, .fieldAddr 29 (.tmp 1) 0, none⟩,
    ⟨some 6, .load 27 (.tmp 5), none⟩,
    ⟨some 7, .call ⟨(.value (.func 48)), #[(.tmp 4), (.tmp 6)], #[27, 27]⟩, none⟩,
    ⟨some 8, .call ⟨(.value (.func 101)), #[(.tmp 7)], #[27]⟩, none⟩,
    ⟨none, .store 27 (.tmp 2) (.tmp 8), none⟩])
  .ret))⟩
theorem c57 : fcomp Tryz.prog 57 = ⟨b57.n, b57.np, b57.res, b57.body.bare⟩ := by kernel_rfl
theorem k57 : fok Tryz.prog 57 = true := by kernel_rfl
section
variable {x y : RR} (hx : rok 68719476600 x) (hy : rok 68719476600 y)
include hx hy
theorem S_ends : AFun Tryz.prog 41 [.agg (rC x ++ rC y)] [.agg (rC (elo x y)), .agg (rC (ehi x y))] := by
  refine afun_intro mo_ _ _ c41 k41 _ _ rfl (by decide) ?_
  unfold b41
  have cc := R_Cmp hx hy
  have hg := cmpQ_gt x.q y.q
  unfold elo ehi
  simp (maxSteps := 1000000) (disch := first | omega | (simp only [LL]; omega)) only [W, V, TY, CC, reduceIte, Nat.reduceEqDiff, Nat.reduceAdd, Nat.reduceLeDiff, Nat.reduceLT, Int.reduceLE, Int.reduceLT, Int.reduceAdd, Int.reduceSub, Int.reduceToNat, Nat.reduceMul, rC]
  refine a_call _ _ cc (by simp (maxSteps := 1000000) (disch := first | omega | (simp only [LL]; omega)) only [W, V, TY, CC, reduceIte, Nat.reduceEqDiff, Nat.reduceAdd, Nat.reduceLeDiff, Nat.reduceLT, Int.reduceLE, Int.reduceLT, Int.reduceAdd, Int.reduceSub, Int.reduceToNat, Nat.reduceMul, rC]) ?_
  simp (maxSteps := 1000000) (disch := first | omega | (simp only [LL]; omega)) only [W, V, TY, CC, reduceIte, Nat.reduceEqDiff, Nat.reduceAdd, Nat.reduceLeDiff, Nat.reduceLT, Int.reduceLE, Int.reduceLT, Int.reduceAdd, Int.reduceSub, Int.reduceToNat, Nat.reduceMul]
  refine c_split (fun h => ?_) (fun h => ?_)
  · rw [if_pos (hg.1 h), if_pos (hg.1 h)]
    simp (maxSteps := 1000000) (disch := first | omega | (simp only [LL]; omega)) only [W, V, TY, CC, reduceIte, Nat.reduceEqDiff, Nat.reduceAdd, Nat.reduceLeDiff, Nat.reduceLT, Int.reduceLE, Int.reduceLT, Int.reduceAdd, Int.reduceSub, Int.reduceToNat, Nat.reduceMul]
    repeat' apply And.intro
    all_goals
      refine f_ret _ _ _ ?_
      simp (maxSteps := 1000000) (disch := first | omega | (simp only [LL]; omega)) only [W, V, TY, CC, reduceIte, Nat.reduceEqDiff, Nat.reduceAdd, Nat.reduceLeDiff, Nat.reduceLT, Int.reduceLE, Int.reduceLT, Int.reduceAdd, Int.reduceSub, Int.reduceToNat, Nat.reduceMul]
  · rw [if_neg (fun e => h (hg.2 e)), if_neg (fun e => h (hg.2 e))]
    simp (maxSteps := 1000000) (disch := first | omega | (simp only [LL]; omega)) only [W, V, TY, CC, reduceIte, Nat.reduceEqDiff, Nat.reduceAdd, Nat.reduceLeDiff, Nat.reduceLT, Int.reduceLE, Int.reduceLT, Int.reduceAdd, Int.reduceSub, Int.reduceToNat, Nat.reduceMul]
    repeat' apply And.intro
    all_goals
      refine f_ret _ _ _ ?_
      simp (maxSteps := 1000000) (disch := first | omega | (simp only [LL]; omega)) only [W, V, TY, CC, reduceIte, Nat.reduceEqDiff, Nat.reduceAdd, Nat.reduceLeDiff, Nat.reduceLT, Int.reduceLE, Int.reduceLT, Int.reduceAdd, Int.reduceSub, Int.reduceToNat, Nat.reduceMul]
theorem S_Of : AFun Tryz.prog 8 [.agg (rC x), .agg (rC y)] [.agg (sQ (qmin x.q y.q) (qmax x.q y.q))] := by
  refine afun_intro mo_ _ _ c8 k8 _ _ rfl (by decide) ?_
  unfold b8
  have c0 := S_ends hx hy
  have c1 := R_Norm (rok_elo hx hy)
  have c2 := R_Norm (rok_ehi hx hy)
  rw [elo_q] at c1
  rw [ehi_q] at c2
  simp (maxSteps := 1000000) (disch := first | omega | (simp only [LL]; omega)) only [W, V, TY, CC, reduceIte, Nat.reduceEqDiff, Nat.reduceAdd, Nat.reduceLeDiff, Nat.reduceLT, Int.reduceLE, Int.reduceLT, Int.reduceAdd, Int.reduceSub, Int.reduceToNat, Nat.reduceMul, rC, sQ]
  refine a_call _ _ c0 (by simp (maxSteps := 1000000) (disch := first | omega | (simp only [LL]; omega)) only [W, V, TY, CC, reduceIte, Nat.reduceEqDiff, Nat.reduceAdd, Nat.reduceLeDiff, Nat.reduceLT, Int.reduceLE, Int.reduceLT, Int.reduceAdd, Int.reduceSub, Int.reduceToNat, Nat.reduceMul, rC]) ?_
  simp (maxSteps := 1000000) (disch := first | omega | (simp only [LL]; omega)) only [W, V, TY, CC, reduceIte, Nat.reduceEqDiff, Nat.reduceAdd, Nat.reduceLeDiff, Nat.reduceLT, Int.reduceLE, Int.reduceLT, Int.reduceAdd, Int.reduceSub, Int.reduceToNat, Nat.reduceMul, rC]
  refine a_call _ _ c1 (by simp (maxSteps := 1000000) (disch := first | omega | (simp only [LL]; omega)) only [W, V, TY, CC, reduceIte, Nat.reduceEqDiff, Nat.reduceAdd, Nat.reduceLeDiff, Nat.reduceLT, Int.reduceLE, Int.reduceLT, Int.reduceAdd, Int.reduceSub, Int.reduceToNat, Nat.reduceMul, rC]) ?_
  simp (maxSteps := 1000000) (disch := first | omega | (simp only [LL]; omega)) only [W, V, TY, CC, reduceIte, Nat.reduceEqDiff, Nat.reduceAdd, Nat.reduceLeDiff, Nat.reduceLT, Int.reduceLE, Int.reduceLT, Int.reduceAdd, Int.reduceSub, Int.reduceToNat, Nat.reduceMul, ratC]
  refine a_call _ _ c2 (by simp (maxSteps := 1000000) (disch := first | omega | (simp only [LL]; omega)) only [W, V, TY, CC, reduceIte, Nat.reduceEqDiff, Nat.reduceAdd, Nat.reduceLeDiff, Nat.reduceLT, Int.reduceLE, Int.reduceLT, Int.reduceAdd, Int.reduceSub, Int.reduceToNat, Nat.reduceMul, rC]) ?_
  simp (maxSteps := 1000000) (disch := first | omega | (simp only [LL]; omega)) only [W, V, TY, CC, reduceIte, Nat.reduceEqDiff, Nat.reduceAdd, Nat.reduceLeDiff, Nat.reduceLT, Int.reduceLE, Int.reduceLT, Int.reduceAdd, Int.reduceSub, Int.reduceToNat, Nat.reduceMul, ratC]
  refine f_ret _ _ _ ?_
  simp (maxSteps := 1000000) (disch := first | omega | (simp only [LL]; omega)) only [W, V, TY, CC, reduceIte, Nat.reduceEqDiff, Nat.reduceAdd, Nat.reduceLeDiff, Nat.reduceLT, Int.reduceLE, Int.reduceLT, Int.reduceAdd, Int.reduceSub, Int.reduceToNat, Nat.reduceMul, ratC]
end
theorem S_Of2 {p q : Rat} (hp : qs p ≤ 68719476600) (hq : qs q ≤ 68719476600) : AFun Tryz.prog 8 [.agg (ratC p), .agg (ratC q)] [.agg (sQ (qmin p q) (qmax p q))] := by
  have := S_Of (rok_nr hp) (rok_nr hq)
  rwa [nr_q, nr_q] at this
theorem S_Scale {x y r : RR} (hx : rok 68719476600 x) (hy : rok 68719476600 y) (hr : rok 68719476600 r) (hq : qs (x.q * r.q) ≤ 68719476600) (hq' : qs (y.q * r.q) ≤ 68719476600) : AFun Tryz.prog 16 [.agg (rC x ++ rC y), .agg (rC r)] [.agg (sQ (qmin (x.q * r.q) (y.q * r.q)) (qmax (x.q * r.q) (y.q * r.q)))] := by
  refine afun_intro mo_ _ _ c16 k16 _ _ rfl (by decide) ?_
  unfold b16
  have c0 := R_Mul hx hr
  have c1 := R_Mul hy hr
  have c2 := S_Of2 hq hq'
  simp (maxSteps := 1000000) (disch := first | omega | (simp only [LL]; omega)) only [W, V, TY, CC, reduceIte, Nat.reduceEqDiff, Nat.reduceAdd, Nat.reduceLeDiff, Nat.reduceLT, Int.reduceLE, Int.reduceLT, Int.reduceAdd, Int.reduceSub, Int.reduceToNat, Nat.reduceMul, rC, sQ]
  refine a_call _ _ c0 (by simp (maxSteps := 1000000) (disch := first | omega | (simp only [LL]; omega)) only [W, V, TY, CC, reduceIte, Nat.reduceEqDiff, Nat.reduceAdd, Nat.reduceLeDiff, Nat.reduceLT, Int.reduceLE, Int.reduceLT, Int.reduceAdd, Int.reduceSub, Int.reduceToNat, Nat.reduceMul, rC]) ?_
  simp (maxSteps := 1000000) (disch := first | omega | (simp only [LL]; omega)) only [W, V, TY, CC, reduceIte, Nat.reduceEqDiff, Nat.reduceAdd, Nat.reduceLeDiff, Nat.reduceLT, Int.reduceLE, Int.reduceLT, Int.reduceAdd, Int.reduceSub, Int.reduceToNat, Nat.reduceMul, ratC]
  refine a_call _ _ c1 (by simp (maxSteps := 1000000) (disch := first | omega | (simp only [LL]; omega)) only [W, V, TY, CC, reduceIte, Nat.reduceEqDiff, Nat.reduceAdd, Nat.reduceLeDiff, Nat.reduceLT, Int.reduceLE, Int.reduceLT, Int.reduceAdd, Int.reduceSub, Int.reduceToNat, Nat.reduceMul, rC]) ?_
  simp (maxSteps := 1000000) (disch := first | omega | (simp only [LL]; omega)) only [W, V, TY, CC, reduceIte, Nat.reduceEqDiff, Nat.reduceAdd, Nat.reduceLeDiff, Nat.reduceLT, Int.reduceLE, Int.reduceLT, Int.reduceAdd, Int.reduceSub, Int.reduceToNat, Nat.reduceMul, ratC]
  refine a_call _ _ c2 (by simp (maxSteps := 1000000) (disch := first | omega | (simp only [LL]; omega)) only [W, V, TY, CC, reduceIte, Nat.reduceEqDiff, Nat.reduceAdd, Nat.reduceLeDiff, Nat.reduceLT, Int.reduceLE, Int.reduceLT, Int.reduceAdd, Int.reduceSub, Int.reduceToNat, Nat.reduceMul, ratC]) ?_
  simp (maxSteps := 1000000) (disch := first | omega | (simp only [LL]; omega)) only [W, V, TY, CC, reduceIte, Nat.reduceEqDiff, Nat.reduceAdd, Nat.reduceLeDiff, Nat.reduceLT, Int.reduceLE, Int.reduceLT, Int.reduceAdd, Int.reduceSub, Int.reduceToNat, Nat.reduceMul, sQ, ratC]
  refine f_ret _ _ _ ?_
  simp (maxSteps := 1000000) (disch := first | omega | (simp only [LL]; omega)) only [W, V, TY, CC, reduceIte, Nat.reduceEqDiff, Nat.reduceAdd, Nat.reduceLeDiff, Nat.reduceLT, Int.reduceLE, Int.reduceLT, Int.reduceAdd, Int.reduceSub, Int.reduceToNat, Nat.reduceMul, ratC]
section
variable {x y u v : RR} (hx : rok 68719476600 x) (hy : rok 68719476600 y) (hu : rok 68719476600 u) (hv : rok 68719476600 v)
include hx hy hu hv
theorem S_Add : AFun Tryz.prog 10 [.agg (rC x ++ rC y), .agg (rC u ++ rC v)] [.agg (sQ (qmin x.q y.q + qmin u.q v.q) (qmax x.q y.q + qmax u.q v.q))] := by
  refine afun_intro mo_ _ _ c10 k10 _ _ rfl (by decide) ?_
  unfold b10
  have c0 := S_ends hx hy
  have c1 := S_ends hu hv
  have c2 := R_Add (rok_elo hx hy) (rok_elo hu hv)
  have c3 := R_Add (rok_ehi hx hy) (rok_ehi hu hv)
  rw [elo_q, elo_q] at c2
  rw [ehi_q, ehi_q] at c3
  simp (maxSteps := 1000000) (disch := first | omega | (simp only [LL]; omega)) only [W, V, TY, CC, reduceIte, Nat.reduceEqDiff, Nat.reduceAdd, Nat.reduceLeDiff, Nat.reduceLT, Int.reduceLE, Int.reduceLT, Int.reduceAdd, Int.reduceSub, Int.reduceToNat, Nat.reduceMul, rC, sQ]
  refine a_call _ _ c0 (by simp (maxSteps := 1000000) (disch := first | omega | (simp only [LL]; omega)) only [W, V, TY, CC, reduceIte, Nat.reduceEqDiff, Nat.reduceAdd, Nat.reduceLeDiff, Nat.reduceLT, Int.reduceLE, Int.reduceLT, Int.reduceAdd, Int.reduceSub, Int.reduceToNat, Nat.reduceMul, rC]) ?_
  simp (maxSteps := 1000000) (disch := first | omega | (simp only [LL]; omega)) only [W, V, TY, CC, reduceIte, Nat.reduceEqDiff, Nat.reduceAdd, Nat.reduceLeDiff, Nat.reduceLT, Int.reduceLE, Int.reduceLT, Int.reduceAdd, Int.reduceSub, Int.reduceToNat, Nat.reduceMul, rC]
  refine a_call _ _ c1 (by simp (maxSteps := 1000000) (disch := first | omega | (simp only [LL]; omega)) only [W, V, TY, CC, reduceIte, Nat.reduceEqDiff, Nat.reduceAdd, Nat.reduceLeDiff, Nat.reduceLT, Int.reduceLE, Int.reduceLT, Int.reduceAdd, Int.reduceSub, Int.reduceToNat, Nat.reduceMul, rC]) ?_
  simp (maxSteps := 1000000) (disch := first | omega | (simp only [LL]; omega)) only [W, V, TY, CC, reduceIte, Nat.reduceEqDiff, Nat.reduceAdd, Nat.reduceLeDiff, Nat.reduceLT, Int.reduceLE, Int.reduceLT, Int.reduceAdd, Int.reduceSub, Int.reduceToNat, Nat.reduceMul, rC]
  refine a_call _ _ c2 (by simp (maxSteps := 1000000) (disch := first | omega | (simp only [LL]; omega)) only [W, V, TY, CC, reduceIte, Nat.reduceEqDiff, Nat.reduceAdd, Nat.reduceLeDiff, Nat.reduceLT, Int.reduceLE, Int.reduceLT, Int.reduceAdd, Int.reduceSub, Int.reduceToNat, Nat.reduceMul, rC]) ?_
  simp (maxSteps := 1000000) (disch := first | omega | (simp only [LL]; omega)) only [W, V, TY, CC, reduceIte, Nat.reduceEqDiff, Nat.reduceAdd, Nat.reduceLeDiff, Nat.reduceLT, Int.reduceLE, Int.reduceLT, Int.reduceAdd, Int.reduceSub, Int.reduceToNat, Nat.reduceMul, ratC]
  refine a_call _ _ c3 (by simp (maxSteps := 1000000) (disch := first | omega | (simp only [LL]; omega)) only [W, V, TY, CC, reduceIte, Nat.reduceEqDiff, Nat.reduceAdd, Nat.reduceLeDiff, Nat.reduceLT, Int.reduceLE, Int.reduceLT, Int.reduceAdd, Int.reduceSub, Int.reduceToNat, Nat.reduceMul, rC]) ?_
  simp (maxSteps := 1000000) (disch := first | omega | (simp only [LL]; omega)) only [W, V, TY, CC, reduceIte, Nat.reduceEqDiff, Nat.reduceAdd, Nat.reduceLeDiff, Nat.reduceLT, Int.reduceLE, Int.reduceLT, Int.reduceAdd, Int.reduceSub, Int.reduceToNat, Nat.reduceMul, ratC]
  refine f_ret _ _ _ ?_
  simp (maxSteps := 1000000) (disch := first | omega | (simp only [LL]; omega)) only [W, V, TY, CC, reduceIte, Nat.reduceEqDiff, Nat.reduceAdd, Nat.reduceLeDiff, Nat.reduceLT, Int.reduceLE, Int.reduceLT, Int.reduceAdd, Int.reduceSub, Int.reduceToNat, Nat.reduceMul, ratC]
theorem S_Sub : AFun Tryz.prog 12 [.agg (rC x ++ rC y), .agg (rC u ++ rC v)] [.agg (sQ (qmin x.q y.q - qmax u.q v.q) (qmax x.q y.q - qmin u.q v.q))] := by
  refine afun_intro mo_ _ _ c12 k12 _ _ rfl (by decide) ?_
  unfold b12
  have c0 := S_ends hx hy
  have c1 := S_ends hu hv
  have c2 := R_Sub (rok_elo hx hy) (rok_ehi hu hv)
  have c3 := R_Sub (rok_ehi hx hy) (rok_elo hu hv)
  rw [elo_q, ehi_q] at c2
  rw [ehi_q, elo_q] at c3
  simp (maxSteps := 1000000) (disch := first | omega | (simp only [LL]; omega)) only [W, V, TY, CC, reduceIte, Nat.reduceEqDiff, Nat.reduceAdd, Nat.reduceLeDiff, Nat.reduceLT, Int.reduceLE, Int.reduceLT, Int.reduceAdd, Int.reduceSub, Int.reduceToNat, Nat.reduceMul, rC, sQ]
  refine a_call _ _ c0 (by simp (maxSteps := 1000000) (disch := first | omega | (simp only [LL]; omega)) only [W, V, TY, CC, reduceIte, Nat.reduceEqDiff, Nat.reduceAdd, Nat.reduceLeDiff, Nat.reduceLT, Int.reduceLE, Int.reduceLT, Int.reduceAdd, Int.reduceSub, Int.reduceToNat, Nat.reduceMul, rC]) ?_
  simp (maxSteps := 1000000) (disch := first | omega | (simp only [LL]; omega)) only [W, V, TY, CC, reduceIte, Nat.reduceEqDiff, Nat.reduceAdd, Nat.reduceLeDiff, Nat.reduceLT, Int.reduceLE, Int.reduceLT, Int.reduceAdd, Int.reduceSub, Int.reduceToNat, Nat.reduceMul, rC]
  refine a_call _ _ c1 (by simp (maxSteps := 1000000) (disch := first | omega | (simp only [LL]; omega)) only [W, V, TY, CC, reduceIte, Nat.reduceEqDiff, Nat.reduceAdd, Nat.reduceLeDiff, Nat.reduceLT, Int.reduceLE, Int.reduceLT, Int.reduceAdd, Int.reduceSub, Int.reduceToNat, Nat.reduceMul, rC]) ?_
  simp (maxSteps := 1000000) (disch := first | omega | (simp only [LL]; omega)) only [W, V, TY, CC, reduceIte, Nat.reduceEqDiff, Nat.reduceAdd, Nat.reduceLeDiff, Nat.reduceLT, Int.reduceLE, Int.reduceLT, Int.reduceAdd, Int.reduceSub, Int.reduceToNat, Nat.reduceMul, rC]
  refine a_call _ _ c2 (by simp (maxSteps := 1000000) (disch := first | omega | (simp only [LL]; omega)) only [W, V, TY, CC, reduceIte, Nat.reduceEqDiff, Nat.reduceAdd, Nat.reduceLeDiff, Nat.reduceLT, Int.reduceLE, Int.reduceLT, Int.reduceAdd, Int.reduceSub, Int.reduceToNat, Nat.reduceMul, rC]) ?_
  simp (maxSteps := 1000000) (disch := first | omega | (simp only [LL]; omega)) only [W, V, TY, CC, reduceIte, Nat.reduceEqDiff, Nat.reduceAdd, Nat.reduceLeDiff, Nat.reduceLT, Int.reduceLE, Int.reduceLT, Int.reduceAdd, Int.reduceSub, Int.reduceToNat, Nat.reduceMul, ratC]
  refine a_call _ _ c3 (by simp (maxSteps := 1000000) (disch := first | omega | (simp only [LL]; omega)) only [W, V, TY, CC, reduceIte, Nat.reduceEqDiff, Nat.reduceAdd, Nat.reduceLeDiff, Nat.reduceLT, Int.reduceLE, Int.reduceLT, Int.reduceAdd, Int.reduceSub, Int.reduceToNat, Nat.reduceMul, rC]) ?_
  simp (maxSteps := 1000000) (disch := first | omega | (simp only [LL]; omega)) only [W, V, TY, CC, reduceIte, Nat.reduceEqDiff, Nat.reduceAdd, Nat.reduceLeDiff, Nat.reduceLT, Int.reduceLE, Int.reduceLT, Int.reduceAdd, Int.reduceSub, Int.reduceToNat, Nat.reduceMul, ratC]
  refine f_ret _ _ _ ?_
  simp (maxSteps := 1000000) (disch := first | omega | (simp only [LL]; omega)) only [W, V, TY, CC, reduceIte, Nat.reduceEqDiff, Nat.reduceAdd, Nat.reduceLeDiff, Nat.reduceLT, Int.reduceLE, Int.reduceLT, Int.reduceAdd, Int.reduceSub, Int.reduceToNat, Nat.reduceMul, ratC]
theorem S_Order : AFun Tryz.prog 55 [.agg (rC x ++ rC y), .agg (rC u ++ rC v)] [.one (.lit (.int .i64 (ordI x.q y.q u.q v.q)))] := by
  unfold ordI
  refine afun_intro mo_ _ _ c55 k55 _ _ rfl (by decide) ?_
  unfold b55
  have c0 := S_ends hx hy
  have c1 := S_ends hu hv
  have c2 := R_Cmp (rok_ehi hx hy) (rok_elo hu hv)
  have c3 := R_Cmp (rok_elo hx hy) (rok_ehi hu hv)
  rw [elo_q, ehi_q] at c2
  rw [ehi_q, elo_q] at c3
  have g2 := cmpQ_lt (qmax x.q y.q) (qmin u.q v.q)
  have g3 := cmpQ_gt (qmin x.q y.q) (qmax u.q v.q)
  simp (maxSteps := 1000000) (disch := first | omega | (simp only [LL]; omega)) only [W, V, TY, CC, reduceIte, Nat.reduceEqDiff, Nat.reduceAdd, Nat.reduceLeDiff, Nat.reduceLT, Int.reduceLE, Int.reduceLT, Int.reduceAdd, Int.reduceSub, Int.reduceToNat, Nat.reduceMul, rC]
  refine a_call _ _ c0 (by simp (maxSteps := 1000000) (disch := first | omega | (simp only [LL]; omega)) only [W, V, TY, CC, reduceIte, Nat.reduceEqDiff, Nat.reduceAdd, Nat.reduceLeDiff, Nat.reduceLT, Int.reduceLE, Int.reduceLT, Int.reduceAdd, Int.reduceSub, Int.reduceToNat, Nat.reduceMul, rC]) ?_
  simp (maxSteps := 1000000) (disch := first | omega | (simp only [LL]; omega)) only [W, V, TY, CC, reduceIte, Nat.reduceEqDiff, Nat.reduceAdd, Nat.reduceLeDiff, Nat.reduceLT, Int.reduceLE, Int.reduceLT, Int.reduceAdd, Int.reduceSub, Int.reduceToNat, Nat.reduceMul, rC]
  refine a_call _ _ c1 (by simp (maxSteps := 1000000) (disch := first | omega | (simp only [LL]; omega)) only [W, V, TY, CC, reduceIte, Nat.reduceEqDiff, Nat.reduceAdd, Nat.reduceLeDiff, Nat.reduceLT, Int.reduceLE, Int.reduceLT, Int.reduceAdd, Int.reduceSub, Int.reduceToNat, Nat.reduceMul, rC]) ?_
  simp (maxSteps := 1000000) (disch := first | omega | (simp only [LL]; omega)) only [W, V, TY, CC, reduceIte, Nat.reduceEqDiff, Nat.reduceAdd, Nat.reduceLeDiff, Nat.reduceLT, Int.reduceLE, Int.reduceLT, Int.reduceAdd, Int.reduceSub, Int.reduceToNat, Nat.reduceMul, rC]
  refine a_call _ _ c2 (by simp (maxSteps := 1000000) (disch := first | omega | (simp only [LL]; omega)) only [W, V, TY, CC, reduceIte, Nat.reduceEqDiff, Nat.reduceAdd, Nat.reduceLeDiff, Nat.reduceLT, Int.reduceLE, Int.reduceLT, Int.reduceAdd, Int.reduceSub, Int.reduceToNat, Nat.reduceMul, rC]) ?_
  simp (maxSteps := 1000000) (disch := first | omega | (simp only [LL]; omega)) only [W, V, TY, CC, reduceIte, Nat.reduceEqDiff, Nat.reduceAdd, Nat.reduceLeDiff, Nat.reduceLT, Int.reduceLE, Int.reduceLT, Int.reduceAdd, Int.reduceSub, Int.reduceToNat, Nat.reduceMul]
  refine c_split (fun h => ?_) (fun h => ?_)
  · rw [if_pos (g2.1 h)]
    simp (maxSteps := 1000000) (disch := first | omega | (simp only [LL]; omega)) only [W, V, TY, CC, reduceIte, Nat.reduceEqDiff, Nat.reduceAdd, Nat.reduceLeDiff, Nat.reduceLT, Int.reduceLE, Int.reduceLT, Int.reduceAdd, Int.reduceSub, Int.reduceToNat, Nat.reduceMul]
    refine f_ret _ _ _ ?_
    simp (maxSteps := 1000000) (disch := first | omega | (simp only [LL]; omega)) only [W, V, TY, CC, reduceIte, Nat.reduceEqDiff, Nat.reduceAdd, Nat.reduceLeDiff, Nat.reduceLT, Int.reduceLE, Int.reduceLT, Int.reduceAdd, Int.reduceSub, Int.reduceToNat, Nat.reduceMul]
  · rw [if_neg (fun e => h (g2.2 e))]
    simp (maxSteps := 1000000) (disch := first | omega | (simp only [LL]; omega)) only [W, V, TY, CC, reduceIte, Nat.reduceEqDiff, Nat.reduceAdd, Nat.reduceLeDiff, Nat.reduceLT, Int.reduceLE, Int.reduceLT, Int.reduceAdd, Int.reduceSub, Int.reduceToNat, Nat.reduceMul]
    refine a_call _ _ c3 (by simp (maxSteps := 1000000) (disch := first | omega | (simp only [LL]; omega)) only [W, V, TY, CC, reduceIte, Nat.reduceEqDiff, Nat.reduceAdd, Nat.reduceLeDiff, Nat.reduceLT, Int.reduceLE, Int.reduceLT, Int.reduceAdd, Int.reduceSub, Int.reduceToNat, Nat.reduceMul, rC]) ?_
    simp (maxSteps := 1000000) (disch := first | omega | (simp only [LL]; omega)) only [W, V, TY, CC, reduceIte, Nat.reduceEqDiff, Nat.reduceAdd, Nat.reduceLeDiff, Nat.reduceLT, Int.reduceLE, Int.reduceLT, Int.reduceAdd, Int.reduceSub, Int.reduceToNat, Nat.reduceMul]
    refine c_split (fun h' => ?_) (fun h' => ?_)
    · rw [if_pos (g3.1 h')]
      simp (maxSteps := 1000000) (disch := first | omega | (simp only [LL]; omega)) only [W, V, TY, CC, reduceIte, Nat.reduceEqDiff, Nat.reduceAdd, Nat.reduceLeDiff, Nat.reduceLT, Int.reduceLE, Int.reduceLT, Int.reduceAdd, Int.reduceSub, Int.reduceToNat, Nat.reduceMul]
      refine f_ret _ _ _ ?_
      simp (maxSteps := 1000000) (disch := first | omega | (simp only [LL]; omega)) only [W, V, TY, CC, reduceIte, Nat.reduceEqDiff, Nat.reduceAdd, Nat.reduceLeDiff, Nat.reduceLT, Int.reduceLE, Int.reduceLT, Int.reduceAdd, Int.reduceSub, Int.reduceToNat, Nat.reduceMul]
    · rw [if_neg (fun e => h' (g3.2 e))]
      simp (maxSteps := 1000000) (disch := first | omega | (simp only [LL]; omega)) only [W, V, TY, CC, reduceIte, Nat.reduceEqDiff, Nat.reduceAdd, Nat.reduceLeDiff, Nat.reduceLT, Int.reduceLE, Int.reduceLT, Int.reduceAdd, Int.reduceSub, Int.reduceToNat, Nat.reduceMul]
      refine f_ret _ _ _ ?_
      simp (maxSteps := 1000000) (disch := first | omega | (simp only [LL]; omega)) only [W, V, TY, CC, reduceIte, Nat.reduceEqDiff, Nat.reduceAdd, Nat.reduceLeDiff, Nat.reduceLT, Int.reduceLE, Int.reduceLT, Int.reduceAdd, Int.reduceSub, Int.reduceToNat, Nat.reduceMul]
end
section
variable {x y u v : RR} (hx : rok 68719476600 x) (hy : rok 68719476600 y) (hu : rok 68719476600 u) (hv : rok 68719476600 v)
include hx hy hu
include hv
end
theorem S_Width {x y : RR} (hx : rok 68719476600 x) (hy : rok 68719476600 y) (hq : qs (y.q - x.q) ≤ 68719476600) : AFun Tryz.prog 57 [.agg (rC x ++ rC y)] [.agg (ratC (qabs (y.q - x.q)))] := by
  refine afun_intro mo_ _ _ c57 k57 _ _ rfl (by decide) ?_
  unfold b57
  have c0 := R_Sub hy hx
  have c1 := rat_Abs2 (a := y.q - x.q) (by omega)
  simp (maxSteps := 1000000) (disch := first | omega | (simp only [LL]; omega)) only [W, V, TY, CC, reduceIte, Nat.reduceEqDiff, Nat.reduceAdd, Nat.reduceLeDiff, Nat.reduceLT, Int.reduceLE, Int.reduceLT, Int.reduceAdd, Int.reduceSub, Int.reduceToNat, Nat.reduceMul, rC]
  refine a_call _ _ c0 (by simp (maxSteps := 1000000) (disch := first | omega | (simp only [LL]; omega)) only [W, V, TY, CC, reduceIte, Nat.reduceEqDiff, Nat.reduceAdd, Nat.reduceLeDiff, Nat.reduceLT, Int.reduceLE, Int.reduceLT, Int.reduceAdd, Int.reduceSub, Int.reduceToNat, Nat.reduceMul, rC]) ?_
  simp (maxSteps := 1000000) (disch := first | omega | (simp only [LL]; omega)) only [W, V, TY, CC, reduceIte, Nat.reduceEqDiff, Nat.reduceAdd, Nat.reduceLeDiff, Nat.reduceLT, Int.reduceLE, Int.reduceLT, Int.reduceAdd, Int.reduceSub, Int.reduceToNat, Nat.reduceMul, ratC]
  refine a_call _ _ c1 (by simp (maxSteps := 1000000) (disch := first | omega | (simp only [LL]; omega)) only [W, V, TY, CC, reduceIte, Nat.reduceEqDiff, Nat.reduceAdd, Nat.reduceLeDiff, Nat.reduceLT, Int.reduceLE, Int.reduceLT, Int.reduceAdd, Int.reduceSub, Int.reduceToNat, Nat.reduceMul, ratC]) ?_
  simp (maxSteps := 1000000) (disch := first | omega | (simp only [LL]; omega)) only [W, V, TY, CC, reduceIte, Nat.reduceEqDiff, Nat.reduceAdd, Nat.reduceLeDiff, Nat.reduceLT, Int.reduceLE, Int.reduceLT, Int.reduceAdd, Int.reduceSub, Int.reduceToNat, Nat.reduceMul, ratC]
  refine f_ret _ _ _ ?_
  simp (maxSteps := 1000000) (disch := first | omega | (simp only [LL]; omega)) only [W, V, TY, CC, reduceIte, Nat.reduceEqDiff, Nat.reduceAdd, Nat.reduceLeDiff, Nat.reduceLT, Int.reduceLE, Int.reduceLT, Int.reduceAdd, Int.reduceSub, Int.reduceToNat, Nat.reduceMul, ratC]
end Go.Proofs.YtljmgdepldpmdaaGreatDoor.E

set_option linter.unusedSimpArgs false
set_option linter.unusedVariables false
set_option maxHeartbeats 2000000
namespace Go.Proofs.YtljmgdepldpmdaaGreatDoor.E
open Go.RowKit Limbs
/-- the interval of two zeros that aren't numbers -/
def zS : List Dt := [.lit (.bool false), natD [], natD [], .lit (.bool false), natD [], natD []]
/-- examboard/span.Meet -/
def b53 : AF := ⟨38, 2, [.cell 4 29, .tmp 5],
  (.seq (.reg [
    ⟨some 2, .box 29 (.tmp 0), none⟩,
    ⟨some 3, .box 29 (.tmp 1), none⟩,
    ⟨some 4, .alloc 29, none⟩,
    ⟨some 5, .assign (.const (.bool false)), none⟩])
  (.seq (.reg [
    ⟨some 11, .load 29 (.tmp 2), none⟩,
    ⟨some 12, .call ⟨(.value (.func 41)), #[(.tmp 11)], #[29]⟩, none⟩,
    ⟨some 10, .move (.tmp 12), none⟩,
    ⟨some 13, .extract (.tmp 10) 0, none⟩,
    ⟨some 14, .extract (.tmp 10) 1, none⟩,
    ⟨some 6, .alloc 27, none⟩,
    ⟨some 7, .alloc 27, none⟩,
    ⟨none, .store 27 (.tmp 6) (.tmp 13), none⟩,
    ⟨none, .store 27 (.tmp 7) (.tmp 14), none⟩])
  (.seq (.reg [
    ⟨some 16, .load 29 (.tmp 3), none⟩,
    ⟨some 17, .call ⟨(.value (.func 41)), #[(.tmp 16)], #[29]⟩, none⟩,
    ⟨some 15, .move (.tmp 17), none⟩,
    ⟨some 18, .extract (.tmp 15) 0, none⟩,
    ⟨some 19, .extract (.tmp 15) 1, none⟩,
    ⟨some 8, .alloc 27, none⟩,
    ⟨some 9, .alloc 27, none⟩,
    ⟨none, .store 27 (.tmp 8) (.tmp 18), none⟩,
    ⟨none, .store 27 (.tmp 9) (.tmp 19), none⟩])
  (.seq (.seq (.reg [
    ⟨some 20, .load 27 (.tmp 6), none⟩,
    ⟨some 21, .load 27 (.tmp 8), none⟩,
    ⟨some 22, .call ⟨(.value (.func 51)), #[(.tmp 20), (.tmp 21)], #[27, 27]⟩, none⟩,
    ⟨some 23, .binOp .lss 3 (.tmp 22) (.const (.int .i64 0)) 3, none⟩])
  (.cond (.tmp 23)
    (.reg [
      ⟨some 24, .load 27 (.tmp 8), none⟩,
      ⟨none, .store 27 (.tmp 6) (.tmp 24), none⟩])
    .skip))
  (.seq (.seq (.reg [
    ⟨some 25, .load 27 (.tmp 7), none⟩,
    ⟨some 26, .load 27 (.tmp 9), none⟩,
    ⟨some 27, .call ⟨(.value (.func 51)), #[(.tmp 25), (.tmp 26)], #[27, 27]⟩, none⟩,
    ⟨some 28, .binOp .gtr 3 (.tmp 27) (.const (.int .i64 0)) 3, none⟩])
  (.cond (.tmp 28)
    (.reg [
      ⟨some 29, .load 27 (.tmp 9), none⟩,
      ⟨none, .store 27 (.tmp 7) (.tmp 29), none⟩])
    .skip))
  (.seq (.seq (.reg [
    ⟨some 30, .load 27 (.tmp 6), none⟩,
    ⟨some 31, .load 27 (.tmp 7), none⟩,
    ⟨some 32, .call ⟨(.value (.func 51)), #[(.tmp 30), (.tmp 31)], #[27, 27]⟩, none⟩,
    ⟨some 33, .binOp .gtr 3 (.tmp 32) (.const (.int .i64 0)) 3, none⟩])
  (.cond (.tmp 33)
    (.seq (.reg [
      ⟨some 34, .build 29 #[], none⟩,
      ⟨none, .store 29 (.tmp 4) (.tmp 34), none⟩,
      ⟨some 5, .assign (.const (.bool false)), none⟩])
    .ret)
    .skip))
  (.seq (.reg [
    ⟨some 35, .load 27 (.tmp 6), none⟩,
    ⟨some 36, .load 27 (.tmp 7), none⟩,
    ⟨some 37, .call ⟨(.value (.func 8)), #[(.tmp 35), (.tmp 36)], #[27, 27]⟩, none⟩,
    ⟨none, .store 29 (.tmp 4) (.tmp 37), none⟩,
    ⟨some 5, .assign (.const (.bool true)), none⟩])
  .ret)))))))⟩
theorem c53 : fcomp Tryz.prog 53 = ⟨b53.n, b53.np, b53.res, b53.body.bare⟩ := by kernel_rfl
theorem k53 : fok Tryz.prog 53 = true := by kernel_rfl
/-- examboard/span.Mul -/
def b14 : AF := ⟨55, 2, [.cell 4 29],
  (.seq (.reg [
    ⟨some 2, .box 29 (.tmp 0), none⟩,
    ⟨some 3, .box 29 (.tmp 1), none⟩,
    ⟨some 4, .alloc 29, none⟩])
  (.seq (.dreg [
    ⟨some 10, .fieldAddr 29 (.tmp 2) 0, none⟩,
    ⟨some 11, .load 27 (.tmp 10), none⟩,
    ⟨some 12, .fieldAddr 29 (.tmp 3) 0, none⟩,
    ⟨some 13, .load 27 (.tmp 12), none⟩,
    ⟨some 14, .call ⟨(.value (.func 50)), #[(.tmp 11), (.tmp 13)], #[27, 27]⟩, none⟩,
    ⟨some 15, .fieldAddr 29 (.tmp 2) 0, none⟩,
    ⟨some 16, .load 27 (.tmp 15), none⟩,
    ⟨some 17, .fieldAddr 29 (.tmp 3) 1, none⟩,
    ⟨some 18, .load 27 (.tmp 17), none⟩,
    ⟨some 19, .call ⟨(.value (.func 50)), #[(.tmp 16), (.tmp 18)], #[27, 27]⟩, none⟩,
    ⟨some 20, .fieldAddr 29 (.tmp 2) 1, none⟩,
    ⟨some 21, .load 27 (.tmp 20), none⟩,
    ⟨some 22, .fieldAddr 29 (.tmp 3) 0, none⟩,
    ⟨some 23, .load 27 (.tmp 22), none⟩,
    ⟨some 24, .call ⟨(.value (.func 50)), #[(.tmp 21), (.tmp 23)], #[27, 27]⟩, none⟩,
    ⟨some 25, .fieldAddr 29 (.tmp 2) 1, none⟩,
    ⟨some 26, .load 27 (.tmp 25), none⟩,
    ⟨some 27, .fieldAddr 29 (.tmp 3) 1, none⟩,
    ⟨some 28, .load 27 (.tmp 27), none⟩,
    ⟨some 29, .call ⟨(.value (.func 50)), #[(.tmp 26), (.tmp 28)], #[27, 27]⟩, none⟩,
    ⟨some 30, .build 62 #[(0, (.tmp 14)), (1, (.tmp 19)), (2, (.tmp 24)), (3, (.tmp 29))], none⟩,
    ⟨some 5, .alloc 62, none⟩,
    ⟨none, .store 62 (.tmp 5) (.tmp 30), none⟩])
  (.seq (.xreg (.br ⟨some 31, .indexAddr 62 (.tmp 5) (.const (.int .i64 0)), none⟩ (.br ⟨some 32, .load 27 (.tmp 31), none⟩ (.br ⟨some 6, .alloc 27, none⟩ (.br ⟨some 7, .alloc 27, none⟩ (.br ⟨some 33, .indexAddr 62 (.tmp 5) (.const (.int .i64 0)), none⟩ (.br ⟨some 34, .load 27 (.tmp 33), none⟩ (.br ⟨none, .store 27 (.tmp 6) (.tmp 32), none⟩ (.br ⟨none, .store 27 (.tmp 7) (.tmp 34), none⟩ .leaf
 .nil)
 .nil)
 (.br ⟨none, .store 27 (.tmp 6) (.tmp 32), none⟩ (.br ⟨some 34, .load 27 (.tmp 33), none⟩ (.br ⟨none, .store 27 (.tmp 7) (.tmp 34), none⟩ .leaf
 .nil)
 .nil)
 .nil))
 (.br ⟨none, .store 27 (.tmp 6) (.tmp 32), none⟩ (.br ⟨some 33, .indexAddr 62 (.tmp 5) (.const (.int .i64 0)), none⟩ (.br ⟨some 34, .load 27 (.tmp 33), none⟩ (.br ⟨none, .store 27 (.tmp 7) (.tmp 34), none⟩ .leaf
 .nil)
 .nil)
 .nil)
 .nil))
 .nil)
 .nil)
 .nil)
 .nil))
  (.seq (.seq (.seq (.gh [.frzv 5])
  (.reg [
    ⟨some 35, .slice 62 (.tmp 5) (some (.const (.int .i64 1))) none none, none⟩,
    ⟨some 36, .call ⟨(.builtin .len), #[(.tmp 35)], #[63]⟩, none⟩,
    ⟨some 37, .move (.const (.int .i64 0)), none⟩]))
  (.block 0 (.loop (.seq (.reg [
    ⟨some 38, .binOp .lss 3 (.tmp 37) (.tmp 36) 3, none⟩])
  (.seq (.cond (.tmp 38)
    .skip
    (.exit 0))
  (.seq (.block 1 (.seq (.reg [
    ⟨some 39, .indexAddr 63 (.tmp 35) (.tmp 37), none⟩,
    ⟨some 40, .load 27 (.tmp 39), none⟩,
    ⟨some 9, .alloc 27, none⟩,
    ⟨none, .store 27 (.tmp 9) (.tmp 40), none⟩])
  (.seq (.seq (.reg [
    ⟨some 41, .load 27 (.tmp 9), none⟩,
    ⟨some 42, .load 27 (.tmp 6), none⟩,
    ⟨some 43, .call ⟨(.value (.func 51)), #[(.tmp 41), (.tmp 42)], #[27, 27]⟩, none⟩,
    ⟨some 44, .binOp .lss 3 (.tmp 43) (.const (.int .i64 0)) 3, none⟩])
  (.cond (.tmp 44)
    (.reg [
      ⟨some 45, .load 27 (.tmp 9), none⟩,
      ⟨none, .store 27 (.tmp 6) (.tmp 45), none⟩])
    .skip))
  (.seq (.reg [
    ⟨some 46, .load 27 (.tmp 9), none⟩,
    ⟨some 47, .load 27 (.tmp 7), none⟩,
    ⟨some 48, .call ⟨(.value (.func 51)), #[(.tmp 46), (.tmp 47)], #[27, 27]⟩, none⟩,
    ⟨some 49, .binOp .gtr 3 (.tmp 48) (.const (.int .i64 0)) 3, none⟩])
  (.cond (.tmp 49)
    (.reg [
      ⟨some 50, .load 27 (.tmp 9), none⟩,
      ⟨none, .store 27 (.tmp 7) (.tmp 50), none⟩])
    .skip)))))
  (.reg [
    ⟨some 51, .binOp .add 3 (.tmp 37) (.const (.int .i64 1)) 3, none⟩,
    ⟨some 37, .move (.tmp 51), none⟩])))))))
  (.seq (.reg [
    ⟨some 52, .load 27 (.tmp 6), none⟩,
    ⟨some 53, .load 27 (.tmp 7), none⟩,
    ⟨some 54, .call ⟨(.value (.func 8)), #[(.tmp 52), (.tmp 53)], #[27, 27]⟩, none⟩,
    ⟨none, .store 29 (.tmp 4) (.tmp 54), none⟩])
  .ret)))))⟩
theorem c14 : fcomp Tryz.prog 14 = ⟨b14.n, b14.np, b14.res, b14.body.bare⟩ := by kernel_rfl
theorem k14 : fok Tryz.prog 14 = true := by kernel_rfl
section
variable {x y u v : RR} (hx : rok 68719476600 x) (hy : rok 68719476600 y) (hu : rok 68719476600 u) (hv : rok 68719476600 v)
include hx hy hu hv
theorem S_Meet : AFun Tryz.prog 53 [.agg (rC x ++ rC y), .agg (rC u ++ rC v)] [.agg (if meetHi x.q y.q u.q v.q < meetLo x.q y.q u.q v.q then zS else sQ (meetLo x.q y.q u.q v.q) (meetHi x.q y.q u.q v.q)), .one (.lit (.bool (decide (¬ meetHi x.q y.q u.q v.q < meetLo x.q y.q u.q v.q))))] := by
  unfold meetLo meetHi
  refine afun_intro mo_ _ _ c53 k53 _ _ rfl (by decide) ?_
  unfold b53
  have r1 := rok_elo hx hy
  have r2 := rok_ehi hx hy
  have r3 := rok_elo hu hv
  have r4 := rok_ehi hu hv
  have c0 := S_ends hx hy
  have c1 := S_ends hu hv
  have e1 := elo_q x y
  have e2 := ehi_q x y
  have e3 := elo_q u v
  have e4 := ehi_q u v
  generalize elo x y = a at *
  generalize ehi x y = b at *
  generalize elo u v = c at *
  generalize ehi u v = d at *
  rw [← e1, ← e2, ← e3, ← e4]
  have g1 := cmpQ_lt a.q c.q
  have g2 := cmpQ_gt b.q d.q
  have tot : ∀ {p q : Rat}, ¬ p < q → ¬ q < p → p = q := fun h h' => Rat.le_antisymm (Rat.not_lt.1 h') (Rat.not_lt.1 h)
  simp (maxSteps := 1000000) (disch := first | omega | (simp only [LL]; omega)) only [W, V, TY, CC, reduceIte, Nat.reduceEqDiff, Nat.reduceAdd, Nat.reduceLeDiff, Nat.reduceLT, Int.reduceLE, Int.reduceLT, Int.reduceAdd, Int.reduceSub, Int.reduceToNat, Nat.reduceMul, rC]
  refine a_call _ _ c0 (by simp (maxSteps := 1000000) (disch := first | omega | (simp only [LL]; omega)) only [W, V, TY, CC, reduceIte, Nat.reduceEqDiff, Nat.reduceAdd, Nat.reduceLeDiff, Nat.reduceLT, Int.reduceLE, Int.reduceLT, Int.reduceAdd, Int.reduceSub, Int.reduceToNat, Nat.reduceMul, rC]) ?_
  simp (maxSteps := 1000000) (disch := first | omega | (simp only [LL]; omega)) only [W, V, TY, CC, reduceIte, Nat.reduceEqDiff, Nat.reduceAdd, Nat.reduceLeDiff, Nat.reduceLT, Int.reduceLE, Int.reduceLT, Int.reduceAdd, Int.reduceSub, Int.reduceToNat, Nat.reduceMul, rC]
  refine a_call _ _ c1 (by simp (maxSteps := 1000000) (disch := first | omega | (simp only [LL]; omega)) only [W, V, TY, CC, reduceIte, Nat.reduceEqDiff, Nat.reduceAdd, Nat.reduceLeDiff, Nat.reduceLT, Int.reduceLE, Int.reduceLT, Int.reduceAdd, Int.reduceSub, Int.reduceToNat, Nat.reduceMul, rC]) ?_
  simp (maxSteps := 1000000) (disch := first | omega | (simp only [LL]; omega)) only [W, V, TY, CC, reduceIte, Nat.reduceEqDiff, Nat.reduceAdd, Nat.reduceLeDiff, Nat.reduceLT, Int.reduceLE, Int.reduceLT, Int.reduceAdd, Int.reduceSub, Int.reduceToNat, Nat.reduceMul, rC]
  refine a_call _ _ (R_Cmp r1 r3) (by simp (maxSteps := 1000000) (disch := first | omega | (simp only [LL]; omega)) only [W, V, TY, CC, reduceIte, Nat.reduceEqDiff, Nat.reduceAdd, Nat.reduceLeDiff, Nat.reduceLT, Int.reduceLE, Int.reduceLT, Int.reduceAdd, Int.reduceSub, Int.reduceToNat, Nat.reduceMul, rC]) ?_
  simp (maxSteps := 1000000) (disch := first | omega | (simp only [LL]; omega)) only [W, V, TY, CC, reduceIte, Nat.reduceEqDiff, Nat.reduceAdd, Nat.reduceLeDiff, Nat.reduceLT, Int.reduceLE, Int.reduceLT, Int.reduceAdd, Int.reduceSub, Int.reduceToNat, Nat.reduceMul]
  refine c_split (fun h => ?_) (fun h => ?_)
  all_goals
    simp (maxSteps := 1000000) (disch := first | omega | (simp only [LL]; omega)) only [W, V, TY, CC, reduceIte, Nat.reduceEqDiff, Nat.reduceAdd, Nat.reduceLeDiff, Nat.reduceLT, Int.reduceLE, Int.reduceLT, Int.reduceAdd, Int.reduceSub, Int.reduceToNat, Nat.reduceMul]
    refine a_call _ _ (R_Cmp r2 r4) (by simp (maxSteps := 1000000) (disch := first | omega | (simp only [LL]; omega)) only [W, V, TY, CC, reduceIte, Nat.reduceEqDiff, Nat.reduceAdd, Nat.reduceLeDiff, Nat.reduceLT, Int.reduceLE, Int.reduceLT, Int.reduceAdd, Int.reduceSub, Int.reduceToNat, Nat.reduceMul, rC]) ?_
    simp (maxSteps := 1000000) (disch := first | omega | (simp only [LL]; omega)) only [W, V, TY, CC, reduceIte, Nat.reduceEqDiff, Nat.reduceAdd, Nat.reduceLeDiff, Nat.reduceLT, Int.reduceLE, Int.reduceLT, Int.reduceAdd, Int.reduceSub, Int.reduceToNat, Nat.reduceMul]
    refine c_split (fun h' => ?_) (fun h' => ?_)
    all_goals
      simp (maxSteps := 1000000) (disch := first | omega | (simp only [LL]; omega)) only [W, V, TY, CC, reduceIte, Nat.reduceEqDiff, Nat.reduceAdd, Nat.reduceLeDiff, Nat.reduceLT, Int.reduceLE, Int.reduceLT, Int.reduceAdd, Int.reduceSub, Int.reduceToNat, Nat.reduceMul]
  · have hp := r3
    have hq := r4
    have ep : c.q = qmax a.q c.q := by unfold qmax; rw [if_neg (Rat.not_lt.2 (Rat.le_of_lt (g1.1 h)))]
    have eq : d.q = qmin b.q d.q := by unfold qmin; rw [if_pos (g2.1 h')]
    rw [← ep, ← eq]
    have g3 := cmpQ_gt c.q d.q
    refine a_call _ _ (R_Cmp hp hq) (by simp (maxSteps := 1000000) (disch := first | omega | (simp only [LL]; omega)) only [W, V, TY, CC, reduceIte, Nat.reduceEqDiff, Nat.reduceAdd, Nat.reduceLeDiff, Nat.reduceLT, Int.reduceLE, Int.reduceLT, Int.reduceAdd, Int.reduceSub, Int.reduceToNat, Nat.reduceMul, rC]) ?_
    simp (maxSteps := 1000000) (disch := first | omega | (simp only [LL]; omega)) only [W, V, TY, CC, reduceIte, Nat.reduceEqDiff, Nat.reduceAdd, Nat.reduceLeDiff, Nat.reduceLT, Int.reduceLE, Int.reduceLT, Int.reduceAdd, Int.reduceSub, Int.reduceToNat, Nat.reduceMul]
    refine c_split (fun k => ?_) (fun k => ?_)
    · rw [if_pos (g3.1 k)]
      have dk := decide_eq_false (not_not_intro (g3.1 k))
      simp (maxSteps := 1000000) (disch := first | omega | (simp only [LL]; omega)) only [W, V, TY, CC, reduceIte, Nat.reduceEqDiff, Nat.reduceAdd, Nat.reduceLeDiff, Nat.reduceLT, Int.reduceLE, Int.reduceLT, Int.reduceAdd, Int.reduceSub, Int.reduceToNat, Nat.reduceMul]
      refine f_ret _ _ _ ?_
      simp (maxSteps := 1000000) (disch := first | omega | (simp only [LL]; omega)) only [W, V, TY, CC, reduceIte, Nat.reduceEqDiff, Nat.reduceAdd, Nat.reduceLeDiff, Nat.reduceLT, Int.reduceLE, Int.reduceLT, Int.reduceAdd, Int.reduceSub, Int.reduceToNat, Nat.reduceMul, zS, dk]
      rfl
    · have k' : ¬ d.q < c.q := fun e => k (g3.2 e)
      rw [if_neg k']
      have dk := decide_eq_true k'
      have co := S_Of hp hq
      rw [qmin_eq (Rat.not_lt.1 k'), qmax_eq (Rat.not_lt.1 k')] at co
      simp (maxSteps := 1000000) (disch := first | omega | (simp only [LL]; omega)) only [W, V, TY, CC, reduceIte, Nat.reduceEqDiff, Nat.reduceAdd, Nat.reduceLeDiff, Nat.reduceLT, Int.reduceLE, Int.reduceLT, Int.reduceAdd, Int.reduceSub, Int.reduceToNat, Nat.reduceMul]
      refine a_call _ _ co (by simp (maxSteps := 1000000) (disch := first | omega | (simp only [LL]; omega)) only [W, V, TY, CC, reduceIte, Nat.reduceEqDiff, Nat.reduceAdd, Nat.reduceLeDiff, Nat.reduceLT, Int.reduceLE, Int.reduceLT, Int.reduceAdd, Int.reduceSub, Int.reduceToNat, Nat.reduceMul, rC]) ?_
      simp (maxSteps := 1000000) (disch := first | omega | (simp only [LL]; omega)) only [W, V, TY, CC, reduceIte, Nat.reduceEqDiff, Nat.reduceAdd, Nat.reduceLeDiff, Nat.reduceLT, Int.reduceLE, Int.reduceLT, Int.reduceAdd, Int.reduceSub, Int.reduceToNat, Nat.reduceMul, sQ, ratC]
      refine f_ret _ _ _ ?_
      simp (maxSteps := 1000000) (disch := first | omega | (simp only [LL]; omega)) only [W, V, TY, CC, reduceIte, Nat.reduceEqDiff, Nat.reduceAdd, Nat.reduceLeDiff, Nat.reduceLT, Int.reduceLE, Int.reduceLT, Int.reduceAdd, Int.reduceSub, Int.reduceToNat, Nat.reduceMul, ratC, dk]
  · have hp := r3
    have hq := r2
    have ep : c.q = qmax a.q c.q := by unfold qmax; rw [if_neg (Rat.not_lt.2 (Rat.le_of_lt (g1.1 h)))]
    have eq : b.q = qmin b.q d.q := by unfold qmin; rw [if_neg (fun e => h' (g2.2 e))]
    rw [← ep, ← eq]
    have g3 := cmpQ_gt c.q b.q
    refine a_call _ _ (R_Cmp hp hq) (by simp (maxSteps := 1000000) (disch := first | omega | (simp only [LL]; omega)) only [W, V, TY, CC, reduceIte, Nat.reduceEqDiff, Nat.reduceAdd, Nat.reduceLeDiff, Nat.reduceLT, Int.reduceLE, Int.reduceLT, Int.reduceAdd, Int.reduceSub, Int.reduceToNat, Nat.reduceMul, rC]) ?_
    simp (maxSteps := 1000000) (disch := first | omega | (simp only [LL]; omega)) only [W, V, TY, CC, reduceIte, Nat.reduceEqDiff, Nat.reduceAdd, Nat.reduceLeDiff, Nat.reduceLT, Int.reduceLE, Int.reduceLT, Int.reduceAdd, Int.reduceSub, Int.reduceToNat, Nat.reduceMul]
    refine c_split (fun k => ?_) (fun k => ?_)
    · rw [if_pos (g3.1 k)]
      have dk := decide_eq_false (not_not_intro (g3.1 k))
      simp (maxSteps := 1000000) (disch := first | omega | (simp only [LL]; omega)) only [W, V, TY, CC, reduceIte, Nat.reduceEqDiff, Nat.reduceAdd, Nat.reduceLeDiff, Nat.reduceLT, Int.reduceLE, Int.reduceLT, Int.reduceAdd, Int.reduceSub, Int.reduceToNat, Nat.reduceMul]
      refine f_ret _ _ _ ?_
      simp (maxSteps := 1000000) (disch := first | omega | (simp only [LL]; omega)) only [W, V, TY, CC, reduceIte, Nat.reduceEqDiff, Nat.reduceAdd, Nat.reduceLeDiff, Nat.reduceLT, Int.reduceLE, Int.reduceLT, Int.reduceAdd, Int.reduceSub, Int.reduceToNat, Nat.reduceMul, zS, dk]
      rfl
    · have k' : ¬ b.q < c.q := fun e => k (g3.2 e)
      rw [if_neg k']
      have dk := decide_eq_true k'
      have co := S_Of hp hq
      rw [qmin_eq (Rat.not_lt.1 k'), qmax_eq (Rat.not_lt.1 k')] at co
      simp (maxSteps := 1000000) (disch := first | omega | (simp only [LL]; omega)) only [W, V, TY, CC, reduceIte, Nat.reduceEqDiff, Nat.reduceAdd, Nat.reduceLeDiff, Nat.reduceLT, Int.reduceLE, Int.reduceLT, Int.reduceAdd, Int.reduceSub, Int.reduceToNat, Nat.reduceMul]
      refine a_call _ _ co (by simp (maxSteps := 1000000) (disch := first | omega | (simp only [LL]; omega)) only [W, V, TY, CC, reduceIte, Nat.reduceEqDiff, Nat.reduceAdd, Nat.reduceLeDiff, Nat.reduceLT, Int.reduceLE, Int.reduceLT, Int.reduceAdd, Int.reduceSub, Int.reduceToNat, Nat.reduceMul, rC]) ?_
      simp (maxSteps := 1000000) (disch := first | omega | (simp only [LL]; omega)) only [W, V, TY, CC, reduceIte, Nat.reduceEqDiff, Nat.reduceAdd, Nat.reduceLeDiff, Nat.reduceLT, Int.reduceLE, Int.reduceLT, Int.reduceAdd, Int.reduceSub, Int.reduceToNat, Nat.reduceMul, sQ, ratC]
      refine f_ret _ _ _ ?_
      simp (maxSteps := 1000000) (disch := first | omega | (simp only [LL]; omega)) only [W, V, TY, CC, reduceIte, Nat.reduceEqDiff, Nat.reduceAdd, Nat.reduceLeDiff, Nat.reduceLT, Int.reduceLE, Int.reduceLT, Int.reduceAdd, Int.reduceSub, Int.reduceToNat, Nat.reduceMul, ratC, dk]
  · have hp := r1
    have hq := r4
    have ep : a.q = qmax a.q c.q := by unfold qmax; split; rfl; exact tot (fun e => h (g1.2 e)) (by assumption)
    have eq : d.q = qmin b.q d.q := by unfold qmin; rw [if_pos (g2.1 h')]
    rw [← ep, ← eq]
    have g3 := cmpQ_gt a.q d.q
    refine a_call _ _ (R_Cmp hp hq) (by simp (maxSteps := 1000000) (disch := first | omega | (simp only [LL]; omega)) only [W, V, TY, CC, reduceIte, Nat.reduceEqDiff, Nat.reduceAdd, Nat.reduceLeDiff, Nat.reduceLT, Int.reduceLE, Int.reduceLT, Int.reduceAdd, Int.reduceSub, Int.reduceToNat, Nat.reduceMul, rC]) ?_
    simp (maxSteps := 1000000) (disch := first | omega | (simp only [LL]; omega)) only [W, V, TY, CC, reduceIte, Nat.reduceEqDiff, Nat.reduceAdd, Nat.reduceLeDiff, Nat.reduceLT, Int.reduceLE, Int.reduceLT, Int.reduceAdd, Int.reduceSub, Int.reduceToNat, Nat.reduceMul]
    refine c_split (fun k => ?_) (fun k => ?_)
    · rw [if_pos (g3.1 k)]
      have dk := decide_eq_false (not_not_intro (g3.1 k))
      simp (maxSteps := 1000000) (disch := first | omega | (simp only [LL]; omega)) only [W, V, TY, CC, reduceIte, Nat.reduceEqDiff, Nat.reduceAdd, Nat.reduceLeDiff, Nat.reduceLT, Int.reduceLE, Int.reduceLT, Int.reduceAdd, Int.reduceSub, Int.reduceToNat, Nat.reduceMul]
      refine f_ret _ _ _ ?_
      simp (maxSteps := 1000000) (disch := first | omega | (simp only [LL]; omega)) only [W, V, TY, CC, reduceIte, Nat.reduceEqDiff, Nat.reduceAdd, Nat.reduceLeDiff, Nat.reduceLT, Int.reduceLE, Int.reduceLT, Int.reduceAdd, Int.reduceSub, Int.reduceToNat, Nat.reduceMul, zS, dk]
      rfl
    · have k' : ¬ d.q < a.q := fun e => k (g3.2 e)
      rw [if_neg k']
      have dk := decide_eq_true k'
      have co := S_Of hp hq
      rw [qmin_eq (Rat.not_lt.1 k'), qmax_eq (Rat.not_lt.1 k')] at co
      simp (maxSteps := 1000000) (disch := first | omega | (simp only [LL]; omega)) only [W, V, TY, CC, reduceIte, Nat.reduceEqDiff, Nat.reduceAdd, Nat.reduceLeDiff, Nat.reduceLT, Int.reduceLE, Int.reduceLT, Int.reduceAdd, Int.reduceSub, Int.reduceToNat, Nat.reduceMul]
      refine a_call _ _ co (by simp (maxSteps := 1000000) (disch := first | omega | (simp only [LL]; omega)) only [W, V, TY, CC, reduceIte, Nat.reduceEqDiff, Nat.reduceAdd, Nat.reduceLeDiff, Nat.reduceLT, Int.reduceLE, Int.reduceLT, Int.reduceAdd, Int.reduceSub, Int.reduceToNat, Nat.reduceMul, rC]) ?_
      simp (maxSteps := 1000000) (disch := first | omega | (simp only [LL]; omega)) only [W, V, TY, CC, reduceIte, Nat.reduceEqDiff, Nat.reduceAdd, Nat.reduceLeDiff, Nat.reduceLT, Int.reduceLE, Int.reduceLT, Int.reduceAdd, Int.reduceSub, Int.reduceToNat, Nat.reduceMul, sQ, ratC]
      refine f_ret _ _ _ ?_
      simp (maxSteps := 1000000) (disch := first | omega | (simp only [LL]; omega)) only [W, V, TY, CC, reduceIte, Nat.reduceEqDiff, Nat.reduceAdd, Nat.reduceLeDiff, Nat.reduceLT, Int.reduceLE, Int.reduceLT, Int.reduceAdd, Int.reduceSub, Int.reduceToNat, Nat.reduceMul, ratC, dk]
  · have hp := r1
    have hq := r2
    have ep : a.q = qmax a.q c.q := by unfold qmax; split; rfl; exact tot (fun e => h (g1.2 e)) (by assumption)
    have eq : b.q = qmin b.q d.q := by unfold qmin; rw [if_neg (fun e => h' (g2.2 e))]
    rw [← ep, ← eq]
    have g3 := cmpQ_gt a.q b.q
    refine a_call _ _ (R_Cmp hp hq) (by simp (maxSteps := 1000000) (disch := first | omega | (simp only [LL]; omega)) only [W, V, TY, CC, reduceIte, Nat.reduceEqDiff, Nat.reduceAdd, Nat.reduceLeDiff, Nat.reduceLT, Int.reduceLE, Int.reduceLT, Int.reduceAdd, Int.reduceSub, Int.reduceToNat, Nat.reduceMul, rC]) ?_
    simp (maxSteps := 1000000) (disch := first | omega | (simp only [LL]; omega)) only [W, V, TY, CC, reduceIte, Nat.reduceEqDiff, Nat.reduceAdd, Nat.reduceLeDiff, Nat.reduceLT, Int.reduceLE, Int.reduceLT, Int.reduceAdd, Int.reduceSub, Int.reduceToNat, Nat.reduceMul]
    refine c_split (fun k => ?_) (fun k => ?_)
    · rw [if_pos (g3.1 k)]
      have dk := decide_eq_false (not_not_intro (g3.1 k))
      simp (maxSteps := 1000000) (disch := first | omega | (simp only [LL]; omega)) only [W, V, TY, CC, reduceIte, Nat.reduceEqDiff, Nat.reduceAdd, Nat.reduceLeDiff, Nat.reduceLT, Int.reduceLE, Int.reduceLT, Int.reduceAdd, Int.reduceSub, Int.reduceToNat, Nat.reduceMul]
      refine f_ret _ _ _ ?_
      simp (maxSteps := 1000000) (disch := first | omega | (simp only [LL]; omega)) only [W, V, TY, CC, reduceIte, Nat.reduceEqDiff, Nat.reduceAdd, Nat.reduceLeDiff, Nat.reduceLT, Int.reduceLE, Int.reduceLT, Int.reduceAdd, Int.reduceSub, Int.reduceToNat, Nat.reduceMul, zS, dk]
      rfl
    · have k' : ¬ b.q < a.q := fun e => k (g3.2 e)
      rw [if_neg k']
      have dk := decide_eq_true k'
      have co := S_Of hp hq
      rw [qmin_eq (Rat.not_lt.1 k'), qmax_eq (Rat.not_lt.1 k')] at co
      simp (maxSteps := 1000000) (disch := first | omega | (simp only [LL]; omega)) only [W, V, TY, CC, reduceIte, Nat.reduceEqDiff, Nat.reduceAdd, Nat.reduceLeDiff, Nat.reduceLT, Int.reduceLE, Int.reduceLT, Int.reduceAdd, Int.reduceSub, Int.reduceToNat, Nat.reduceMul]
      refine a_call _ _ co (by simp (maxSteps := 1000000) (disch := first | omega | (simp only [LL]; omega)) only [W, V, TY, CC, reduceIte, Nat.reduceEqDiff, Nat.reduceAdd, Nat.reduceLeDiff, Nat.reduceLT, Int.reduceLE, Int.reduceLT, Int.reduceAdd, Int.reduceSub, Int.reduceToNat, Nat.reduceMul, rC]) ?_
      simp (maxSteps := 1000000) (disch := first | omega | (simp only [LL]; omega)) only [W, V, TY, CC, reduceIte, Nat.reduceEqDiff, Nat.reduceAdd, Nat.reduceLeDiff, Nat.reduceLT, Int.reduceLE, Int.reduceLT, Int.reduceAdd, Int.reduceSub, Int.reduceToNat, Nat.reduceMul, sQ, ratC]
      refine f_ret _ _ _ ?_
      simp (maxSteps := 1000000) (disch := first | omega | (simp only [LL]; omega)) only [W, V, TY, CC, reduceIte, Nat.reduceEqDiff, Nat.reduceAdd, Nat.reduceLeDiff, Nat.reduceLT, Int.reduceLE, Int.reduceLT, Int.reduceAdd, Int.reduceSub, Int.reduceToNat, Nat.reduceMul, ratC, dk]
end
/-- a row of rational numbers -/
def rqD (l : List Rat) : Dt := rowD ratC l
theorem rq_len : ∀ q : Rat, (ratC q).length = 3 := fun _ => rfl
theorem RQR : (∀ {s : AS} {k : IntKind} {x : Int} (l : List Rat), 0 ≤ x → x < l.length → idxO s 3 (.one (.dt (rqD l))) (.one (.dt (.lit (.int k x)))) = True) ∧
  (∀ {k : IntKind} {x : Int} (l : List Rat), 0 ≤ x → x < l.length → idxV 3 (.one (.dt (rqD l))) (.one (.dt (.lit (.int k x)))) = .el (ratC (l.getD x.toNat 0))) ∧
  (∀ {s : AS} (l : List Rat), lenO s (.one (.dt (rqD l))) = True) ∧
  (∀ {s : AS} (l : List Rat), lenV s (.one (.dt (rqD l))) = .one (.dt (.lit (.int .i64 l.length)))) ∧
  (∀ (s : AS) (q : Rat), acells s (.el (ratC q)) = some [.dt (.lit (.bool (decide (q.num < 0)))), .dt (natD (nl q.num.natAbs)), .dt (natD (nl q.den))]) := by
  refine ⟨fun l h h' => ?_, fun l h h' => ?_, fun l => rfl, fun l => rfl, fun s q => rfl⟩
  · rw [show rqD l = rowD ratC l from rfl, io_rowD rq_len (by decide) l]; simp [h, h']
  · exact iv_rowD rq_len l 0 h h'
theorem take_succ_getD (l : List Rat) (i : Nat) (h : i < l.length) : l.take (i + 1) = l.take i ++ [l.getD i 0] := by
  rw [List.take_succ_eq_append_getElem h, List.getD_eq_getElem?_getD, List.getElem?_eq_getElem h]
  rfl
theorem qmax_neg {p q : Rat} (h : ¬ p < q) : qmax p q = p := by
  unfold qmax
  split
  · rfl
  · exact Rat.le_antisymm (Rat.not_lt.1 h) (Rat.not_lt.1 (by assumption))
def fmin (p : Rat) (l : List Rat) (i : Nat) : Rat := (l.take i).foldl qmin p
def fmax (p : Rat) (l : List Rat) (i : Nat) : Rat := (l.take i).foldl qmax p
theorem fmin_succ (p : Rat) (l : List Rat) (i : Nat) (h : i < l.length) : fmin p l (i + 1) = qmin (fmin p l i) (l.getD i 0) := by
  unfold fmin; rw [take_succ_getD l i h, List.foldl_append]; rfl
theorem fmax_succ (p : Rat) (l : List Rat) (i : Nat) (h : i < l.length) : fmax p l (i + 1) = qmax (fmax p l i) (l.getD i 0) := by
  unfold fmax; rw [take_succ_getD l i h, List.foldl_append]; rfl
theorem qs_fold {k : Nat} {p : Rat} (hp : qs p ≤ k) {l : List Rat} (hl : ∀ x ∈ l, qs x ≤ k) (i : Nat) : qs (fmin p l i) ≤ k ∧ qs (fmax p l i) ≤ k := by
  unfold fmin fmax
  have hl' : ∀ x ∈ l.take i, qs x ≤ k := fun x hx => hl x (List.mem_of_mem_take hx)
  generalize l.take i = m at *
  clear hl
  have h2 : ∀ (m : List Rat) (p : Rat), qs p ≤ k → (∀ x ∈ m, qs x ≤ k) → qs (m.foldl qmin p) ≤ k ∧ qs (m.foldl qmax p) ≤ k := by
    intro m
    induction m with
    | nil => exact fun p hp _ => ⟨hp, hp⟩
    | cons a m ih =>
      intro p hp hm
      exact ⟨(ih (qmin p a) (qs_min hp (hm a (by simp))) (fun x hx => hm x (by simp [hx]))).1, (ih (qmax p a) (qs_max hp (hm a (by simp))) (fun x hx => hm x (by simp [hx]))).2⟩
  exact h2 m p hp hl'
theorem LST : (∀ {α : Type} (l : List α), l.drop 0 = l) ∧ (∀ {α : Type} (n : Nat) (x : α) (l : List α), (x :: l).drop (n + 1) = l.drop n) ∧ (∀ {α : Type} (l : List α), l.take 0 = []) ∧ (∀ {α : Type} (n : Nat) (x : α) (l : List α), (x :: l).take (n + 1) = x :: l.take n) ∧ (∀ {α : Type} (n : Nat), ([] : List α).take n = []) ∧ (∀ {α : Type} (n : Nat), ([] : List α).drop n = []) ∧
  ((none : Option AV).isNone = true) ∧ ((none : Option AV).isSome = false) ∧ (∀ {α : Type} (x : α), (some x).isSome = true) :=
  ⟨fun _ => rfl, fun _ _ _ => rfl, fun _ => rfl, fun _ _ _ => rfl, fun _ => List.take_nil, fun _ => List.drop_nil, rfl, rfl, fun _ => rfl⟩
/-- an array in a variable -/
theorem ARR : (∀ {n : Nat} {y : Nat × Nat} {off : Nat} {k : IntKind} {x : Int}, arrO n (.ptr y off) (.one (.dt (.lit (.int k x)))) = (0 ≤ x ∧ x < n)) ∧
  (∀ {sz : Nat} {y : Nat × Nat} {off : Nat} {k : IntKind} {x : Int}, arrV sz (.ptr y off) (.one (.dt (.lit (.int k x)))) = .ptr y (off + x.toNat * sz)) := ⟨rfl, rfl⟩
theorem S_Mul {x y u v : RR} (hx : rok 68719476600 x) (hy : rok 68719476600 y) (hu : rok 68719476600 u) (hv : rok 68719476600 v) (qx : qs x.q ≤ 10000000000) (qy : qs y.q ≤ 10000000000) (qu : qs u.q ≤ 10000000000) (qv : qs v.q ≤ 10000000000) :
    AFun Tryz.prog 14 [.agg (rC x ++ rC y), .agg (rC u ++ rC v)] [.agg (sQ (mlo x.q y.q u.q v.q) (mhi x.q y.q u.q v.q))] := by
  have c1 := R_Mul hx hu
  have c2 := R_Mul hx hv
  have c3 := R_Mul hy hu
  have c4 := R_Mul hy hv
  have b1 := qs_mul x.q u.q
  have b2 := qs_mul x.q v.q
  have b3 := qs_mul y.q u.q
  have b4 := qs_mul y.q v.q
  unfold mlo mhi
  generalize x.q * u.q = p1 at *
  generalize x.q * v.q = p2 at *
  generalize y.q * u.q = p3 at *
  generalize y.q * v.q = p4 at *
  have el : m4 p1 p2 p3 p4 = fmin p1 [p2, p3, p4] 3 := rfl
  have eh : M4 p1 p2 p3 p4 = fmax p1 [p2, p3, p4] 3 := rfl
  have le := m4_le_M4 p1 p2 p3 p4
  rw [el, eh] at *
  have e1 : fmin p1 [p2, p3, p4] 0 = p1 := rfl
  have e2 : fmax p1 [p2, p3, p4] 0 = p1 := rfl
  have hl : ∀ x ∈ [p2, p3, p4], qs x ≤ 68719476600 := by
    intro x hx
    simp only [List.mem_cons, List.not_mem_nil, or_false] at hx
    rcases hx with rfl | rfl | rfl <;> omega
  have hb := fun i => qs_fold (k := 68719476600) (p := p1) (by omega) hl i
  have hs := fun i => fmin_succ p1 [p2, p3, p4] i
  have ht := fun i => fmax_succ p1 [p2, p3, p4] i
  have hlen : [p2, p3, p4].length = 3 := rfl
  have hrow : Dt.sl 3 [.lit (.bool (decide (p2.num < 0))), natD (nl p2.num.natAbs), natD (nl p2.den), .lit (.bool (decide (p3.num < 0))), natD (nl p3.num.natAbs), natD (nl p3.den), .lit (.bool (decide (p4.num < 0))), natD (nl p4.num.natAbs), natD (nl p4.den)] = rqD [p2, p3, p4] := rfl
  refine afun_intro mo_ _ _ c14 k14 _ _ rfl (by decide) ?_
  unfold b14
  simp (maxSteps := 1000000) (disch := first | omega | (simp only [LL]; omega)) only [W, V, TY, CC, reduceIte, Nat.reduceEqDiff, Nat.reduceAdd, Nat.reduceLeDiff, Nat.reduceLT, Int.reduceLE, Int.reduceLT, Int.reduceAdd, Int.reduceSub, Int.reduceToNat, Nat.reduceMul, rC, sQ]
  refine a_call _ _ c1 (by simp (maxSteps := 1000000) (disch := first | omega | (simp only [LL]; omega)) only [W, V, TY, CC, reduceIte, Nat.reduceEqDiff, Nat.reduceAdd, Nat.reduceLeDiff, Nat.reduceLT, Int.reduceLE, Int.reduceLT, Int.reduceAdd, Int.reduceSub, Int.reduceToNat, Nat.reduceMul, rC]) ?_
  simp (maxSteps := 1000000) (disch := first | omega | (simp only [LL]; omega)) only [W, V, TY, CC, reduceIte, Nat.reduceEqDiff, Nat.reduceAdd, Nat.reduceLeDiff, Nat.reduceLT, Int.reduceLE, Int.reduceLT, Int.reduceAdd, Int.reduceSub, Int.reduceToNat, Nat.reduceMul, rC, ratC]
  refine a_call _ _ c2 (by simp (maxSteps := 1000000) (disch := first | omega | (simp only [LL]; omega)) only [W, V, TY, CC, reduceIte, Nat.reduceEqDiff, Nat.reduceAdd, Nat.reduceLeDiff, Nat.reduceLT, Int.reduceLE, Int.reduceLT, Int.reduceAdd, Int.reduceSub, Int.reduceToNat, Nat.reduceMul, rC]) ?_
  simp (maxSteps := 1000000) (disch := first | omega | (simp only [LL]; omega)) only [W, V, TY, CC, reduceIte, Nat.reduceEqDiff, Nat.reduceAdd, Nat.reduceLeDiff, Nat.reduceLT, Int.reduceLE, Int.reduceLT, Int.reduceAdd, Int.reduceSub, Int.reduceToNat, Nat.reduceMul, rC, ratC]
  refine a_call _ _ c3 (by simp (maxSteps := 1000000) (disch := first | omega | (simp only [LL]; omega)) only [W, V, TY, CC, reduceIte, Nat.reduceEqDiff, Nat.reduceAdd, Nat.reduceLeDiff, Nat.reduceLT, Int.reduceLE, Int.reduceLT, Int.reduceAdd, Int.reduceSub, Int.reduceToNat, Nat.reduceMul, rC]) ?_
  simp (maxSteps := 1000000) (disch := first | omega | (simp only [LL]; omega)) only [W, V, TY, CC, reduceIte, Nat.reduceEqDiff, Nat.reduceAdd, Nat.reduceLeDiff, Nat.reduceLT, Int.reduceLE, Int.reduceLT, Int.reduceAdd, Int.reduceSub, Int.reduceToNat, Nat.reduceMul, rC, ratC]
  refine a_call _ _ c4 (by simp (maxSteps := 1000000) (disch := first | omega | (simp only [LL]; omega)) only [W, V, TY, CC, reduceIte, Nat.reduceEqDiff, Nat.reduceAdd, Nat.reduceLeDiff, Nat.reduceLT, Int.reduceLE, Int.reduceLT, Int.reduceAdd, Int.reduceSub, Int.reduceToNat, Nat.reduceMul, rC]) ?_
  simp (maxSteps := 1000000) (disch := first | omega | (simp only [LL]; omega)) only [W, V, TY, CC, reduceIte, Nat.reduceEqDiff, Nat.reduceAdd, Nat.reduceLeDiff, Nat.reduceLT, Int.reduceLE, Int.reduceLT, Int.reduceAdd, Int.reduceSub, Int.reduceToNat, Nat.reduceMul, ratC, ARR, acutO, acutV, LST]
  rw [hrow]
  clear hrow
  generalize [p2, p3, p4] = l at *
  simp (maxSteps := 1000000) (disch := first | omega | (simp only [LL]; omega)) only [W, V, TY, CC, reduceIte, Nat.reduceEqDiff, Nat.reduceAdd, Nat.reduceLeDiff, Nat.reduceLT, Int.reduceLE, Int.reduceLT, Int.reduceAdd, Int.reduceSub, Int.reduceToNat, Nat.reduceMul, ratC, RQR, hlen]
  repeat' apply And.intro
  all_goals
    refine w_loop (fun n s => ∃ i : Nat, n + i = 3 ∧ s.t 4 = .ptr (4, 0) 0 ∧ s.v (4, 0) = some [.dt (.lit (.bool false)), .z, .z, .dt (.lit (.bool false)), .z, .z] ∧ s.f (4, 0) = false ∧ s.t 6 = .ptr (6, 0) 0 ∧ s.v (6, 0) = some ((ratC (fmin p1 l i)).map .dt) ∧ s.f (6, 0) = false ∧ s.t 7 = .ptr (7, 0) 0 ∧ s.v (7, 0) = some ((ratC (fmax p1 l i)).map .dt) ∧ s.f (7, 0) = false ∧ s.t 35 = .one (.dt (rqD l)) ∧ s.t 36 = .one (.dt (.lit (.int .i64 3))) ∧ s.t 37 = .one (.dt (.lit (.int .i64 i)))) 3 ⟨0, rfl, ?_, ?_, ?_, ?_, ?_, ?_, ?_, ?_, ?_, ?_, ?_, ?_⟩ ?_
    · simp (maxSteps := 1000000) (disch := first | omega | (simp only [LL]; omega)) only [W, V, TY, CC, reduceIte, Nat.reduceEqDiff, Nat.reduceAdd, Nat.reduceLeDiff, Nat.reduceLT, Int.reduceLE, Int.reduceLT, Int.reduceAdd, Int.reduceSub, Int.reduceToNat, Nat.reduceMul]
    · simp (maxSteps := 1000000) (disch := first | omega | (simp only [LL]; omega)) only [W, V, TY, CC, reduceIte, Nat.reduceEqDiff, Nat.reduceAdd, Nat.reduceLeDiff, Nat.reduceLT, Int.reduceLE, Int.reduceLT, Int.reduceAdd, Int.reduceSub, Int.reduceToNat, Nat.reduceMul]
    · simp (maxSteps := 1000000) (disch := first | omega | (simp only [LL]; omega)) only [W, V, TY, CC, reduceIte, Nat.reduceEqDiff, Nat.reduceAdd, Nat.reduceLeDiff, Nat.reduceLT, Int.reduceLE, Int.reduceLT, Int.reduceAdd, Int.reduceSub, Int.reduceToNat, Nat.reduceMul]
    · simp (maxSteps := 1000000) (disch := first | omega | (simp only [LL]; omega)) only [W, V, TY, CC, reduceIte, Nat.reduceEqDiff, Nat.reduceAdd, Nat.reduceLeDiff, Nat.reduceLT, Int.reduceLE, Int.reduceLT, Int.reduceAdd, Int.reduceSub, Int.reduceToNat, Nat.reduceMul]
    · simp (maxSteps := 1000000) (disch := first | omega | (simp only [LL]; omega)) only [W, V, TY, CC, reduceIte, Nat.reduceEqDiff, Nat.reduceAdd, Nat.reduceLeDiff, Nat.reduceLT, Int.reduceLE, Int.reduceLT, Int.reduceAdd, Int.reduceSub, Int.reduceToNat, Nat.reduceMul, e1, ratC]
    · simp (maxSteps := 1000000) (disch := first | omega | (simp only [LL]; omega)) only [W, V, TY, CC, reduceIte, Nat.reduceEqDiff, Nat.reduceAdd, Nat.reduceLeDiff, Nat.reduceLT, Int.reduceLE, Int.reduceLT, Int.reduceAdd, Int.reduceSub, Int.reduceToNat, Nat.reduceMul]
    · simp (maxSteps := 1000000) (disch := first | omega | (simp only [LL]; omega)) only [W, V, TY, CC, reduceIte, Nat.reduceEqDiff, Nat.reduceAdd, Nat.reduceLeDiff, Nat.reduceLT, Int.reduceLE, Int.reduceLT, Int.reduceAdd, Int.reduceSub, Int.reduceToNat, Nat.reduceMul]
    · simp (maxSteps := 1000000) (disch := first | omega | (simp only [LL]; omega)) only [W, V, TY, CC, reduceIte, Nat.reduceEqDiff, Nat.reduceAdd, Nat.reduceLeDiff, Nat.reduceLT, Int.reduceLE, Int.reduceLT, Int.reduceAdd, Int.reduceSub, Int.reduceToNat, Nat.reduceMul, e2, ratC]
    · simp (maxSteps := 1000000) (disch := first | omega | (simp only [LL]; omega)) only [W, V, TY, CC, reduceIte, Nat.reduceEqDiff, Nat.reduceAdd, Nat.reduceLeDiff, Nat.reduceLT, Int.reduceLE, Int.reduceLT, Int.reduceAdd, Int.reduceSub, Int.reduceToNat, Nat.reduceMul]
    · simp (maxSteps := 1000000) (disch := first | omega | (simp only [LL]; omega)) only [W, V, TY, CC, reduceIte, Nat.reduceEqDiff, Nat.reduceAdd, Nat.reduceLeDiff, Nat.reduceLT, Int.reduceLE, Int.reduceLT, Int.reduceAdd, Int.reduceSub, Int.reduceToNat, Nat.reduceMul]
    · simp (maxSteps := 1000000) (disch := first | omega | (simp only [LL]; omega)) only [W, V, TY, CC, reduceIte, Nat.reduceEqDiff, Nat.reduceAdd, Nat.reduceLeDiff, Nat.reduceLT, Int.reduceLE, Int.reduceLT, Int.reduceAdd, Int.reduceSub, Int.reduceToNat, Nat.reduceMul]
    · simp (maxSteps := 1000000) (disch := first | omega | (simp only [LL]; omega)) only [W, V, TY, CC, reduceIte, Nat.reduceEqDiff, Nat.reduceAdd, Nat.reduceLeDiff, Nat.reduceLT, Int.reduceLE, Int.reduceLT, Int.reduceAdd, Int.reduceSub, Int.reduceToNat, Nat.reduceMul]
    intro n s hwf ⟨i, e, t4, v4, f4, t6, v6, f6, t7, v7, f7, t35, t36, t37⟩
    simp only [ratC, List.map_cons, List.map_nil] at v6 v7
    have f9 := (hwf 9 (s.g 9) (Nat.le_refl _)).2.2
    simp (maxSteps := 1000000) (disch := first | omega | (simp only [LL]; omega)) only [W, V, TY, CC, reduceIte, Nat.reduceEqDiff, Nat.reduceAdd, Nat.reduceLeDiff, Nat.reduceLT, Int.reduceLE, Int.reduceLT, Int.reduceAdd, Int.reduceSub, Int.reduceToNat, Nat.reduceMul, t4, v4, f4, t6, v6, f6, t7, v7, f7, t35, t36, t37]
    refine c_split (fun hi => ?_) (fun hi => ?_)
    · have hil : i < l.length := by omega
      have qa : qs (l.getD i 0) ≤ 68719476600 := hl _ (by rw [List.getD_eq_getElem?_getD, List.getElem?_eq_getElem hil]; exact List.getElem_mem hil)
      have qb := hb i
      have hs' := hs i hil
      have ht' := ht i hil
      have g1 := cmpQ_lt (l.getD i 0) (fmin p1 l i)
      have g2 := cmpQ_gt (l.getD i 0) (fmax p1 l i)
      have E1p : cmpQ (l.getD i 0) (fmin p1 l i) < 0 → fmin p1 l (i + 1) = l.getD i 0 := fun h => hs'.trans (if_pos (g1.1 h))
      have E1n : ¬ cmpQ (l.getD i 0) (fmin p1 l i) < 0 → fmin p1 l (i + 1) = fmin p1 l i := fun h => hs'.trans (if_neg (fun e => h (g1.2 e)))
      have E2p : 0 < cmpQ (l.getD i 0) (fmax p1 l i) → fmax p1 l (i + 1) = l.getD i 0 := fun h => ht'.trans (if_neg (Rat.not_lt.2 (Rat.le_of_lt (g2.1 h))))
      have E2n : ¬ 0 < cmpQ (l.getD i 0) (fmax p1 l i) → fmax p1 l (i + 1) = fmax p1 l i := fun h => ht'.trans (qmax_neg (fun e => h (g2.2 e)))
      have d1 := rat_Cmp2 (a := l.getD i 0) (b := fmin p1 l i) (by omega) (by omega)
      have d2 := rat_Cmp2 (a := l.getD i 0) (b := fmax p1 l i) (by omega) (by omega)
      simp (maxSteps := 1000000) (disch := first | omega | (simp only [LL]; omega)) only [W, V, TY, CC, reduceIte, Nat.reduceEqDiff, Nat.reduceAdd, Nat.reduceLeDiff, Nat.reduceLT, Int.reduceLE, Int.reduceLT, Int.reduceAdd, Int.reduceSub, Int.reduceToNat, Nat.reduceMul, t4, v4, f4, t6, v6, f6, t7, v7, f7, t35, t36, t37, f9, RQR, hlen]
      refine a_call _ _ d1 (by simp (maxSteps := 1000000) (disch := first | omega | (simp only [LL]; omega)) only [W, V, TY, CC, reduceIte, Nat.reduceEqDiff, Nat.reduceAdd, Nat.reduceLeDiff, Nat.reduceLT, Int.reduceLE, Int.reduceLT, Int.reduceAdd, Int.reduceSub, Int.reduceToNat, Nat.reduceMul, t4, v4, f4, t6, v6, f6, t7, v7, f7, t35, t36, t37, f9, ratC]) ?_
      simp (maxSteps := 1000000) (disch := first | omega | (simp only [LL]; omega)) only [W, V, TY, CC, reduceIte, Nat.reduceEqDiff, Nat.reduceAdd, Nat.reduceLeDiff, Nat.reduceLT, Int.reduceLE, Int.reduceLT, Int.reduceAdd, Int.reduceSub, Int.reduceToNat, Nat.reduceMul, t4, v4, f4, t6, v6, f6, t7, v7, f7, t35, t36, t37, f9]
      refine c_split (fun h => ?_) (fun h => ?_)
      all_goals
        simp (maxSteps := 1000000) (disch := first | omega | (simp only [LL]; omega)) only [W, V, TY, CC, reduceIte, Nat.reduceEqDiff, Nat.reduceAdd, Nat.reduceLeDiff, Nat.reduceLT, Int.reduceLE, Int.reduceLT, Int.reduceAdd, Int.reduceSub, Int.reduceToNat, Nat.reduceMul, t4, v4, f4, t6, v6, f6, t7, v7, f7, t35, t36, t37, f9]
        refine a_call _ _ d2 (by simp (maxSteps := 1000000) (disch := first | omega | (simp only [LL]; omega)) only [W, V, TY, CC, reduceIte, Nat.reduceEqDiff, Nat.reduceAdd, Nat.reduceLeDiff, Nat.reduceLT, Int.reduceLE, Int.reduceLT, Int.reduceAdd, Int.reduceSub, Int.reduceToNat, Nat.reduceMul, t4, v4, f4, t6, v6, f6, t7, v7, f7, t35, t36, t37, f9, ratC]) ?_
        simp (maxSteps := 1000000) (disch := first | omega | (simp only [LL]; omega)) only [W, V, TY, CC, reduceIte, Nat.reduceEqDiff, Nat.reduceAdd, Nat.reduceLeDiff, Nat.reduceLT, Int.reduceLE, Int.reduceLT, Int.reduceAdd, Int.reduceSub, Int.reduceToNat, Nat.reduceMul, t4, v4, f4, t6, v6, f6, t7, v7, f7, t35, t36, t37, f9]
        refine c_split (fun h' => ?_) (fun h' => ?_)
        all_goals
          simp (maxSteps := 1000000) (disch := first | omega | (simp only [LL]; omega)) only [W, V, TY, CC, reduceIte, Nat.reduceEqDiff, Nat.reduceAdd, Nat.reduceLeDiff, Nat.reduceLT, Int.reduceLE, Int.reduceLT, Int.reduceAdd, Int.reduceSub, Int.reduceToNat, Nat.reduceMul, t4, v4, f4, t6, v6, f6, t7, v7, f7, t35, t36, t37, f9]
          first
            | exact ⟨n - 1, by omega, i + 1, by omega, by rw [E1p h]; rfl, by rw [E2p h']; rfl, rfl⟩
            | exact ⟨n - 1, by omega, i + 1, by omega, by rw [E1p h]; rfl, by rw [E2n h']; rfl, rfl⟩
            | exact ⟨n - 1, by omega, i + 1, by omega, by rw [E1n h]; rfl, by rw [E2p h']; rfl, rfl⟩
            | exact ⟨n - 1, by omega, i + 1, by omega, by rw [E1n h]; rfl, by rw [E2n h']; rfl, rfl⟩
    · obtain rfl : i = 3 := by omega
      have co := S_Of2 (hb 3).1 (hb 3).2
      rw [qmin_eq le, qmax_eq le] at co
      simp (maxSteps := 1000000) (disch := first | omega | (simp only [LL]; omega)) only [W, V, TY, CC, reduceIte, Nat.reduceEqDiff, Nat.reduceAdd, Nat.reduceLeDiff, Nat.reduceLT, Int.reduceLE, Int.reduceLT, Int.reduceAdd, Int.reduceSub, Int.reduceToNat, Nat.reduceMul, t4, v4, f4, t6, v6, f6, t7, v7, f7, t35, t36, t37]
      refine a_call _ _ co (by simp (maxSteps := 1000000) (disch := first | omega | (simp only [LL]; omega)) only [W, V, TY, CC, reduceIte, Nat.reduceEqDiff, Nat.reduceAdd, Nat.reduceLeDiff, Nat.reduceLT, Int.reduceLE, Int.reduceLT, Int.reduceAdd, Int.reduceSub, Int.reduceToNat, Nat.reduceMul, ratC, t4, v4, f4, t6, v6, f6, t7, v7, f7]) ?_
      simp (maxSteps := 1000000) (disch := first | omega | (simp only [LL]; omega)) only [W, V, TY, CC, reduceIte, Nat.reduceEqDiff, Nat.reduceAdd, Nat.reduceLeDiff, Nat.reduceLT, Int.reduceLE, Int.reduceLT, Int.reduceAdd, Int.reduceSub, Int.reduceToNat, Nat.reduceMul, sQ, ratC, t4, v4, f4, t6, v6, f6, t7, v7, f7]
      refine f_ret _ _ _ ?_
      simp (maxSteps := 1000000) (disch := first | omega | (simp only [LL]; omega)) only [W, V, TY, CC, reduceIte, Nat.reduceEqDiff, Nat.reduceAdd, Nat.reduceLeDiff, Nat.reduceLT, Int.reduceLE, Int.reduceLT, Int.reduceAdd, Int.reduceSub, Int.reduceToNat, Nat.reduceMul, ratC, t4, v4, f4, t6, v6, f6, t7, v7, f7]
end Go.Proofs.YtljmgdepldpmdaaGreatDoor.E

set_option linter.unusedSimpArgs false
set_option linter.unusedVariables false
set_option maxHeartbeats 2000000
namespace Go.Proofs.YtljmgdepldpmdaaGreatDoor.E
open Go.RowKit Limbs
/-- examboard/examboardlaw05.limbs -/
def b81 : AF := ⟨26, 2, [.tmp 4],
  (.seq (.reg [
    ⟨some 4, .assign (.const (.bool false)), none⟩])
  (.seq (.seq (.reg [
    ⟨some 6, .move (.tmp 0), none⟩,
    ⟨some 7, .call ⟨(.builtin .len), #[(.tmp 6)], #[23]⟩, none⟩,
    ⟨some 8, .move (.tmp 1), none⟩,
    ⟨some 9, .call ⟨(.builtin .len), #[(.tmp 8)], #[23]⟩, none⟩,
    ⟨some 10, .binOp .neq 3 (.tmp 7) (.tmp 9) 3, none⟩])
  (.cond (.tmp 10)
    (.seq (.reg [
      ⟨some 4, .assign (.const (.bool false)), none⟩])
    .ret)
    .skip))
  (.seq (.seq (.reg [
    ⟨some 11, .move (.tmp 0), none⟩,
    ⟨some 12, .call ⟨(.builtin .len), #[(.tmp 11)], #[23]⟩, none⟩,
    ⟨some 13, .move (.const (.int .i64 0)), none⟩])
  (.block 0 (.loop (.seq (.reg [
    ⟨some 14, .binOp .lss 3 (.tmp 13) (.tmp 12) 3, none⟩])
  (.seq (.cond (.tmp 14)
    .skip
    (.exit 0))
  (.seq (.block 1 (.seq (.reg [
    ⟨some 15, .move (.tmp 13), none⟩,
    ⟨some 5, .assign (.tmp 15), none⟩])
  (.seq (.dreg [
    ⟨some 16, .move (.tmp 0), none⟩,
    ⟨some 17, .move (.tmp 5), none⟩,
    ⟨some 18, .indexAddr 23 (.tmp 16) (.tmp 17), none⟩,
    ⟨some 19, .load 103 (.tmp 18), none⟩,
    ⟨some 20, .move (.tmp 1), none⟩,
    ⟨some 21, .move (.tmp 5), none⟩,
    ⟨some 22, .indexAddr 23 (.tmp 20) (.tmp 21), none⟩,
    ⟨some 23, .load 103 (.tmp 22), none⟩,
    ⟨some 24, .binOp .neq 103 (.tmp 19) (.tmp 23) 103, none⟩])
  (.cond (.tmp 24)
    (.seq (.reg [
      ⟨some 4, .assign (.const (.bool false)), none⟩])
    .ret)
    .skip))))
  (.reg [
    ⟨some 25, .binOp .add 3 (.tmp 13) (.const (.int .i64 1)) 3, none⟩,
    ⟨some 13, .move (.tmp 25), none⟩])))))))
  (.seq (.reg [
    ⟨some 4, .assign (.const (.bool true)), none⟩])
  .ret))))⟩
theorem c81 : fcomp Tryz.prog 81 = ⟨b81.n, b81.np, b81.res, b81.body.bare⟩ := by kernel_rfl
theorem k81 : fok Tryz.prog 81 = true := by kernel_rfl
/-- examboard/examboardlaw05.equal -/
def b40 : AF := ⟨28, 2, [.tmp 4],
  (.seq (.reg [
    ⟨some 2, .box 27 (.tmp 0), none⟩,
    ⟨some 3, .box 27 (.tmp 1), none⟩,
    ⟨some 4, .assign (.const (.bool false)), none⟩])
  (.seq (.reg [
    ⟨some 5, .fieldAddr 27 (.tmp 2) 0, none⟩,
    ⟨some 6, .fieldAddr 25 (.tmp 5) 0, none⟩,
    ⟨some 7, .load 4 (.tmp 6), none⟩,
    ⟨some 8, .fieldAddr 27 (.tmp 3) 0, none⟩,
    ⟨some 9, .fieldAddr 25 (.tmp 8) 0, none⟩,
    ⟨some 10, .load 4 (.tmp 9), none⟩,
    ⟨some 11, .binOp .eql 4 (.tmp 7) (.tmp 10) 4, none⟩,
    ⟨some 12, .move (.tmp 11), none⟩,
    ⟨some 13, .fieldAddr 27 (.tmp 2) 0, some (12, true)⟩,
    ⟨some 14, .fieldAddr 25 (.tmp 13) 1, some (12, true)⟩,
    ⟨some 15, .load 23 (.tmp 14), some (12, true)⟩,
    ⟨some 16, .fieldAddr 27 (.tmp 3) 0, some (12, true)⟩,
    ⟨some 17, .fieldAddr 25 (.tmp 16) 1, some (12, true)⟩,
    ⟨some 18, .load 23 (.tmp 17), some (12, true)⟩,
    ⟨some 19, .call ⟨(.value (.func 81)), #[(.tmp 15), (.tmp 18)], #[23, 23]⟩, some (12, true)⟩,
    ⟨some 20, .pick (.tmp 12) (.tmp 19) (.const (.bool false)), none⟩,
    ⟨some 21, .move (.tmp 20), none⟩,
    ⟨some 22, .fieldAddr 27 (.tmp 2) 1, some (21, true)⟩,
    ⟨some 23, .load 23 (.tmp 22), some (21, true)⟩,
    ⟨some 24, .fieldAddr 27 (.tmp 3) 1, some (21, true)⟩,
    ⟨some 25, .load 23 (.tmp 24), some (21, true)⟩,
    ⟨some 26, .call ⟨(.value (.func 81)), #[(.tmp 23), (.tmp 25)], #[23, 23]⟩, some (21, true)⟩,
    ⟨some 27, .pick (.tmp 21) (.tmp 26) (.const (.bool false)), none⟩,
    ⟨some 4, .assign (.tmp 27), none⟩])
  .ret))⟩
theorem c40 : fcomp Tryz.prog 40 = ⟨b40.n, b40.np, b40.res, b40.body.bare⟩ := by kernel_rfl
theorem k40 : fok Tryz.prog 40 = true := by kernel_rfl
/-- examboard/examboardlaw05.same -/
def b7 : AF := ⟨17, 2, [.tmp 4],
  (.seq (.reg [
    ⟨some 2, .box 29 (.tmp 0), none⟩,
    ⟨some 3, .box 29 (.tmp 1), none⟩,
    ⟨some 4, .assign (.const (.bool false)), none⟩])
  (.seq (.reg [
    ⟨some 5, .fieldAddr 29 (.tmp 2) 0, none⟩,
    ⟨some 6, .load 27 (.tmp 5), none⟩,
    ⟨some 7, .fieldAddr 29 (.tmp 3) 0, none⟩,
    ⟨some 8, .load 27 (.tmp 7), none⟩,
    ⟨some 9, .call ⟨(.value (.func 40)), #[(.tmp 6), (.tmp 8)], #[27, 27]⟩, none⟩,
    ⟨some 10, .move (.tmp 9), none⟩,
    ⟨some 11, .fieldAddr 29 (.tmp 2) 1, some (10, true)⟩,
    ⟨some 12, .load 27 (.tmp 11), some (10, true)⟩,
    ⟨some 13, .fieldAddr 29 (.tmp 3) 1, some (10, true)⟩,
    ⟨some 14, .load 27 (.tmp 13), some (10, true)⟩,
    ⟨some 15, .call ⟨(.value (.func 40)), #[(.tmp 12), (.tmp 14)], #[27, 27]⟩, some (10, true)⟩,
    ⟨some 16, .pick (.tmp 10) (.tmp 15) (.const (.bool false)), none⟩,
    ⟨some 4, .assign (.tmp 16), none⟩])
  .ret))⟩
theorem c7 : fcomp Tryz.prog 7 = ⟨b7.n, b7.np, b7.res, b7.body.bare⟩ := by kernel_rfl
theorem k7 : fok Tryz.prog 7 = true := by kernel_rfl
/-- examboard/examboardlaw05.whole -/
def b54 : AF := ⟨22, 2, [.cell 4 29],
  (.seq (.reg [
    ⟨some 4, .alloc 29, none⟩])
  (.seq (.reg [
    ⟨some 10, .move (.tmp 0), none⟩,
    ⟨some 11, .call ⟨(.value (.func 69)), #[(.tmp 10), (.const (.int .i64 1))], #[2, 2]⟩, none⟩,
    ⟨some 9, .move (.tmp 11), none⟩,
    ⟨some 12, .extract (.tmp 9) 0, none⟩,
    ⟨some 13, .extract (.tmp 9) 1, none⟩,
    ⟨some 5, .alloc 27, none⟩,
    ⟨none, .store 27 (.tmp 5) (.tmp 12), none⟩,
    ⟨some 6, .assign (.tmp 13), none⟩])
  (.seq (.reg [
    ⟨some 15, .move (.tmp 1), none⟩,
    ⟨some 16, .call ⟨(.value (.func 69)), #[(.tmp 15), (.const (.int .i64 1))], #[2, 2]⟩, none⟩,
    ⟨some 14, .move (.tmp 16), none⟩,
    ⟨some 17, .extract (.tmp 14) 0, none⟩,
    ⟨some 18, .extract (.tmp 14) 1, none⟩,
    ⟨some 7, .alloc 27, none⟩,
    ⟨none, .store 27 (.tmp 7) (.tmp 17), none⟩,
    ⟨some 8, .assign (.tmp 18), none⟩])
  (.seq (.reg [
    ⟨some 19, .load 27 (.tmp 5), none⟩,
    ⟨some 20, .load 27 (.tmp 7), none⟩,
    ⟨some 21, .call ⟨(.value (.func 8)), #[(.tmp 19), (.tmp 20)], #[27, 27]⟩, none⟩,
    ⟨none, .store 29 (.tmp 4) (.tmp 21), none⟩])
  .ret))))⟩
theorem c54 : fcomp Tryz.prog 54 = ⟨b54.n, b54.np, b54.res, b54.body.bare⟩ := by kernel_rfl
theorem k54 : fok Tryz.prog 54 = true := by kernel_rfl
/-- examboard/examboardlaw05.awake -/
def b18 : AF := ⟨46, 0, [.tmp 0],
  (.seq (.reg [
    ⟨some 0, .assign (.const (.bool false)), none⟩])
  (.seq (.reg [
    ⟨some 6, .call ⟨(.value (.func 54)), #[(.const (.int .i64 0)), (.const (.int .i64 1))], #[2, 2]⟩, none⟩,
    ⟨some 7, .call ⟨(.value (.func 54)), #[(.const (.int .i64 2)), (.const (.int .i64 1))], #[2, 2]⟩, none⟩,
    ⟨some 8, .call ⟨(.value (.func 53)), #[(.tmp 6), (.tmp 7)], #[29, 29]⟩, none⟩,
    ⟨some 5, .move (.tmp 8), none⟩,
    ⟨some 9, .extract (.tmp 5) 0, none⟩,
    ⟨some 10, .extract (.tmp 5) 1, none⟩,
    ⟨some 1, .alloc 29, none⟩,
    ⟨none, .store 29 (.tmp 1) (.tmp 9), none⟩,
    ⟨some 2, .assign (.tmp 10), none⟩])
  (.seq (.reg [
    ⟨some 12, .call ⟨(.value (.func 54)), #[(.const (.int .i64 0)), (.const (.int .i64 1))], #[2, 2]⟩, none⟩,
    ⟨some 13, .call ⟨(.value (.func 54)), #[(.const (.int .i64 3)), (.const (.int .i64 2))], #[2, 2]⟩, none⟩,
    ⟨some 14, .call ⟨(.value (.func 53)), #[(.tmp 12), (.tmp 13)], #[29, 29]⟩, none⟩,
    ⟨some 11, .move (.tmp 14), none⟩,
    ⟨some 15, .extract (.tmp 11) 0, none⟩,
    ⟨some 16, .extract (.tmp 11) 1, none⟩,
    ⟨some 3, .alloc 29, none⟩,
    ⟨none, .store 29 (.tmp 3) (.tmp 15), none⟩,
    ⟨some 4, .assign (.tmp 16), none⟩])
  (.seq (.dreg [
    ⟨some 17, .call ⟨(.value (.func 54)), #[(.const (.int .i64 2)), (.const (.int .i64 (-1)))], #[2, 2]⟩, none⟩,
    ⟨some 18, .call ⟨(.value (.func 54)), #[(.const (.int .i64 (-3))), (.const (.int .i64 4))], #[2, 2]⟩, none⟩,
    ⟨some 19, .call ⟨(.value (.func 14)), #[(.tmp 17), (.tmp 18)], #[29, 29]⟩, none⟩,
    ⟨some 20, .call ⟨(.value (.func 54)), #[(.const (.int .i64 (-6))), (.const (.int .i64 8))], #[2, 2]⟩, none⟩,
    ⟨some 21, .call ⟨(.value (.func 7)), #[(.tmp 19), (.tmp 20)], #[29, 29]⟩, none⟩,
    ⟨some 22, .move (.tmp 21), none⟩,
    ⟨some 23, .load 29 (.tmp 1), some (22, true)⟩,
    ⟨some 24, .call ⟨(.value (.func 54)), #[(.const (.int .i64 1)), (.const (.int .i64 1))], #[2, 2]⟩, some (22, true)⟩,
    ⟨some 25, .call ⟨(.value (.func 7)), #[(.tmp 23), (.tmp 24)], #[29, 29]⟩, some (22, true)⟩,
    ⟨some 26, .pick (.tmp 22) (.tmp 25) (.const (.bool false)), none⟩,
    ⟨some 27, .move (.tmp 26), none⟩,
    ⟨some 28, .move (.tmp 2), some (27, true)⟩,
    ⟨some 29, .pick (.tmp 27) (.tmp 28) (.const (.bool false)), none⟩,
    ⟨some 30, .move (.tmp 29), none⟩,
    ⟨some 31, .move (.tmp 4), some (30, true)⟩,
    ⟨some 32, .unOp .not 4 (.tmp 31), some (30, true)⟩,
    ⟨some 33, .pick (.tmp 30) (.tmp 32) (.const (.bool false)), none⟩,
    ⟨some 34, .move (.tmp 33), none⟩,
    ⟨some 35, .call ⟨(.value (.func 54)), #[(.const (.int .i64 0)), (.const (.int .i64 1))], #[2, 2]⟩, some (34, true)⟩,
    ⟨some 36, .call ⟨(.value (.func 54)), #[(.const (.int .i64 2)), (.const (.int .i64 3))], #[2, 2]⟩, some (34, true)⟩,
    ⟨some 37, .call ⟨(.value (.func 55)), #[(.tmp 35), (.tmp 36)], #[29, 29]⟩, some (34, true)⟩,
    ⟨some 38, .binOp .eql 3 (.tmp 37) (.const (.int .i64 (-1))) 3, some (34, true)⟩,
    ⟨some 39, .pick (.tmp 34) (.tmp 38) (.const (.bool false)), none⟩,
    ⟨some 40, .move (.tmp 39), none⟩,
    ⟨some 41, .call ⟨(.value (.func 54)), #[(.const (.int .i64 4)), (.const (.int .i64 (-1)))], #[2, 2]⟩, some (40, true)⟩,
    ⟨some 42, .call ⟨(.value (.func 57)), #[(.tmp 41)], #[29]⟩, some (40, true)⟩,
    ⟨some 43, .call ⟨(.value (.func 56)), #[(.tmp 42)], #[27]⟩, some (40, true)⟩,
    ⟨some 44, .binOp .eql 9 (.tmp 43) (.const (.string ⟨#[53]⟩)) 9, some (40, true)⟩,
    ⟨some 45, .pick (.tmp 40) (.tmp 44) (.const (.bool false)), none⟩,
    ⟨some 0, .assign (.tmp 45), none⟩])
  .ret))))⟩
theorem c18 : fcomp Tryz.prog 18 = ⟨b18.n, b18.np, b18.res, b18.body.bare⟩ := by kernel_rfl
theorem k18 : fok Tryz.prog 18 = true := by kernel_rfl
theorem l5_limbs (a b : List Int) (h1 : a.length < 4611686018427387904) : AFun Tryz.prog 81 [.one (natD a), .one (natD b)] [.one (.lit (.bool (decide (a = b))))] := by
  refine afun_intro mo_ _ _ c81 k81 _ _ rfl (by decide) ?_
  unfold b81
  simp (maxSteps := 1000000) (disch := first | omega | (simp only [LL]; omega)) only [W, V, TY, CC, reduceIte, Nat.reduceEqDiff, Nat.reduceAdd, Nat.reduceLeDiff, Nat.reduceLT, Int.reduceLE, Int.reduceLT, Int.reduceAdd, Int.reduceSub, Int.reduceToNat, Nat.reduceMul]
  refine c_split (fun hl => ?_) (fun hl => ?_)
  · simp (maxSteps := 1000000) (disch := first | omega | (simp only [LL]; omega)) only [W, V, TY, CC, reduceIte, Nat.reduceEqDiff, Nat.reduceAdd, Nat.reduceLeDiff, Nat.reduceLT, Int.reduceLE, Int.reduceLT, Int.reduceAdd, Int.reduceSub, Int.reduceToNat, Nat.reduceMul]
    refine f_ret _ _ _ ?_
    have hn : ¬ a = b := fun e => hl (by rw [e])
    simp (maxSteps := 1000000) (disch := first | omega | (simp only [LL]; omega)) only [W, V, TY, CC, reduceIte, Nat.reduceEqDiff, Nat.reduceAdd, Nat.reduceLeDiff, Nat.reduceLT, Int.reduceLE, Int.reduceLT, Int.reduceAdd, Int.reduceSub, Int.reduceToNat, Nat.reduceMul, hn]
  simp (maxSteps := 1000000) (disch := first | omega | (simp only [LL]; omega)) only [W, V, TY, CC, reduceIte, Nat.reduceEqDiff, Nat.reduceAdd, Nat.reduceLeDiff, Nat.reduceLT, Int.reduceLE, Int.reduceLT, Int.reduceAdd, Int.reduceSub, Int.reduceToNat, Nat.reduceMul]
  have hl' : a.length = b.length := by omega
  refine w_loop (fun n s => ∃ i : Nat, n + i = a.length ∧ s.t 0 = .one (.dt (natD a)) ∧ s.t 1 = .one (.dt (natD b)) ∧ s.t 12 = .one (.dt (.lit (.int .i64 a.length))) ∧ s.t 13 = .one (.dt (.lit (.int .i64 i))) ∧ ∀ j : Nat, j < i → a.getD j 0 = b.getD j 0) a.length ⟨0, by omega, ?_, ?_, ?_, ?_, fun j hj => by omega⟩ ?_
  · simp (maxSteps := 1000000) (disch := first | omega | (simp only [LL]; omega)) only [W, V, TY, CC, reduceIte, Nat.reduceEqDiff, Nat.reduceAdd, Nat.reduceLeDiff, Nat.reduceLT, Int.reduceLE, Int.reduceLT, Int.reduceAdd, Int.reduceSub, Int.reduceToNat, Nat.reduceMul]
  · simp (maxSteps := 1000000) (disch := first | omega | (simp only [LL]; omega)) only [W, V, TY, CC, reduceIte, Nat.reduceEqDiff, Nat.reduceAdd, Nat.reduceLeDiff, Nat.reduceLT, Int.reduceLE, Int.reduceLT, Int.reduceAdd, Int.reduceSub, Int.reduceToNat, Nat.reduceMul]
  · simp (maxSteps := 1000000) (disch := first | omega | (simp only [LL]; omega)) only [W, V, TY, CC, reduceIte, Nat.reduceEqDiff, Nat.reduceAdd, Nat.reduceLeDiff, Nat.reduceLT, Int.reduceLE, Int.reduceLT, Int.reduceAdd, Int.reduceSub, Int.reduceToNat, Nat.reduceMul]
  · simp (maxSteps := 1000000) (disch := first | omega | (simp only [LL]; omega)) only [W, V, TY, CC, reduceIte, Nat.reduceEqDiff, Nat.reduceAdd, Nat.reduceLeDiff, Nat.reduceLT, Int.reduceLE, Int.reduceLT, Int.reduceAdd, Int.reduceSub, Int.reduceToNat, Nat.reduceMul]
  intro n s _ ⟨i, e, t0, t1, t12, t13, ho⟩
  simp (maxSteps := 1000000) (disch := first | omega | (simp only [LL]; omega)) only [W, V, TY, CC, reduceIte, Nat.reduceEqDiff, Nat.reduceAdd, Nat.reduceLeDiff, Nat.reduceLT, Int.reduceLE, Int.reduceLT, Int.reduceAdd, Int.reduceSub, Int.reduceToNat, Nat.reduceMul, t0, t1, t12, t13]
  refine c_split (fun hi => ?_) (fun hi => ?_)
  · simp (maxSteps := 1000000) (disch := first | omega | (simp only [LL]; omega)) only [W, V, TY, CC, reduceIte, Nat.reduceEqDiff, Nat.reduceAdd, Nat.reduceLeDiff, Nat.reduceLT, Int.reduceLE, Int.reduceLT, Int.reduceAdd, Int.reduceSub, Int.reduceToNat, Nat.reduceMul, t0, t1, t12, t13]
    refine c_split (fun h6 => ?_) (fun h6 => ?_)
    · simp (maxSteps := 1000000) (disch := first | omega | (simp only [LL]; omega)) only [W, V, TY, CC, reduceIte, Nat.reduceEqDiff, Nat.reduceAdd, Nat.reduceLeDiff, Nat.reduceLT, Int.reduceLE, Int.reduceLT, Int.reduceAdd, Int.reduceSub, Int.reduceToNat, Nat.reduceMul, t0, t1, t12, t13]
      refine f_ret _ _ _ ?_
      have hn : ¬ a = b := fun e => h6 (by rw [e])
      simp (maxSteps := 1000000) (disch := first | omega | (simp only [LL]; omega)) only [W, V, TY, CC, reduceIte, Nat.reduceEqDiff, Nat.reduceAdd, Nat.reduceLeDiff, Nat.reduceLT, Int.reduceLE, Int.reduceLT, Int.reduceAdd, Int.reduceSub, Int.reduceToNat, Nat.reduceMul, hn]
    · simp (maxSteps := 1000000) (disch := first | omega | (simp only [LL]; omega)) only [W, V, TY, CC, reduceIte, Nat.reduceEqDiff, Nat.reduceAdd, Nat.reduceLeDiff, Nat.reduceLT, Int.reduceLE, Int.reduceLT, Int.reduceAdd, Int.reduceSub, Int.reduceToNat, Nat.reduceMul, t0, t1, t12, t13]
      refine ⟨n - 1, by omega, i + 1, by omega, rfl, fun j hj => ?_⟩
      by_cases hji : j = i
      · subst hji; exact Classical.not_not.1 h6
      · exact ho j (by omega)
  · simp (maxSteps := 1000000) (disch := first | omega | (simp only [LL]; omega)) only [W, V, TY, CC, reduceIte, Nat.reduceEqDiff, Nat.reduceAdd, Nat.reduceLeDiff, Nat.reduceLT, Int.reduceLE, Int.reduceLT, Int.reduceAdd, Int.reduceSub, Int.reduceToNat, Nat.reduceMul, t0, t1, t12, t13]
    refine f_ret _ _ _ ?_
    have hn : a = b := by
      apply List.ext_getElem hl'
      intro j hj hj'
      have := ho j (by omega)
      simpa [List.getD_eq_getElem?_getD, hj, hj'] using this
    simp (maxSteps := 1000000) (disch := first | omega | (simp only [LL]; omega)) only [W, V, TY, CC, reduceIte, Nat.reduceEqDiff, Nat.reduceAdd, Nat.reduceLeDiff, Nat.reduceLT, Int.reduceLE, Int.reduceLT, Int.reduceAdd, Int.reduceSub, Int.reduceToNat, Nat.reduceMul, hn]
theorem l5_equal (n : Bool) (m d : List Int) (lm : m.length < 4611686018427387904) (ld : d.length < 4611686018427387904) : AFun Tryz.prog 40 [.agg [.lit (.bool n), natD m, natD d], .agg [.lit (.bool n), natD m, natD d]] [.one (.lit (.bool true))] := by
  refine afun_intro mo_ _ _ c40 k40 _ _ rfl (by decide) ?_
  unfold b40
  have c1 := l5_limbs m m lm
  have c2 := l5_limbs d d ld
  simp (maxSteps := 1000000) (disch := first | omega | (simp only [LL]; omega)) only [W, V, TY, CC, reduceIte, Nat.reduceEqDiff, Nat.reduceAdd, Nat.reduceLeDiff, Nat.reduceLT, Int.reduceLE, Int.reduceLT, Int.reduceAdd, Int.reduceSub, Int.reduceToNat, Nat.reduceMul, beq_self_eq_true]
  refine a_call _ _ c1 (by simp (maxSteps := 1000000) (disch := first | omega | (simp only [LL]; omega)) only [W, V, TY, CC, reduceIte, Nat.reduceEqDiff, Nat.reduceAdd, Nat.reduceLeDiff, Nat.reduceLT, Int.reduceLE, Int.reduceLT, Int.reduceAdd, Int.reduceSub, Int.reduceToNat, Nat.reduceMul, beq_self_eq_true]) ?_
  simp (maxSteps := 1000000) (disch := first | omega | (simp only [LL]; omega)) only [W, V, TY, CC, reduceIte, Nat.reduceEqDiff, Nat.reduceAdd, Nat.reduceLeDiff, Nat.reduceLT, Int.reduceLE, Int.reduceLT, Int.reduceAdd, Int.reduceSub, Int.reduceToNat, Nat.reduceMul, beq_self_eq_true]
  refine a_call _ _ c2 (by simp (maxSteps := 1000000) (disch := first | omega | (simp only [LL]; omega)) only [W, V, TY, CC, reduceIte, Nat.reduceEqDiff, Nat.reduceAdd, Nat.reduceLeDiff, Nat.reduceLT, Int.reduceLE, Int.reduceLT, Int.reduceAdd, Int.reduceSub, Int.reduceToNat, Nat.reduceMul, beq_self_eq_true]) ?_
  simp (maxSteps := 1000000) (disch := first | omega | (simp only [LL]; omega)) only [W, V, TY, CC, reduceIte, Nat.reduceEqDiff, Nat.reduceAdd, Nat.reduceLeDiff, Nat.reduceLT, Int.reduceLE, Int.reduceLT, Int.reduceAdd, Int.reduceSub, Int.reduceToNat, Nat.reduceMul, beq_self_eq_true]
  refine f_ret _ _ _ ?_
  simp (maxSteps := 1000000) (disch := first | omega | (simp only [LL]; omega)) only [W, V, TY, CC, reduceIte, Nat.reduceEqDiff, Nat.reduceAdd, Nat.reduceLeDiff, Nat.reduceLT, Int.reduceLE, Int.reduceLT, Int.reduceAdd, Int.reduceSub, Int.reduceToNat, Nat.reduceMul, beq_self_eq_true]
theorem l5_equal2 {q : Rat} (h : qs q ≤ 68719476600) : AFun Tryz.prog 40 [.agg (ratC q), .agg (ratC q)] [.one (.lit (.bool true))] := by
  have h1 := qs_num q
  have h2 := qs_den q
  exact l5_equal _ _ _ (by omega) (by omega)
theorem l5_same {p q : Rat} (hp : qs p ≤ 68719476600) (hq : qs q ≤ 68719476600) : AFun Tryz.prog 7 [.agg (sQ p q), .agg (sQ p q)] [.one (.lit (.bool true))] := by
  refine afun_intro mo_ _ _ c7 k7 _ _ rfl (by decide) ?_
  unfold b7
  have c1 := l5_equal2 hp
  have c2 := l5_equal2 hq
  simp (maxSteps := 1000000) (disch := first | omega | (simp only [LL]; omega)) only [W, V, TY, CC, reduceIte, Nat.reduceEqDiff, Nat.reduceAdd, Nat.reduceLeDiff, Nat.reduceLT, Int.reduceLE, Int.reduceLT, Int.reduceAdd, Int.reduceSub, Int.reduceToNat, Nat.reduceMul, sQ, ratC]
  refine a_call _ _ c1 (by simp (maxSteps := 1000000) (disch := first | omega | (simp only [LL]; omega)) only [W, V, TY, CC, reduceIte, Nat.reduceEqDiff, Nat.reduceAdd, Nat.reduceLeDiff, Nat.reduceLT, Int.reduceLE, Int.reduceLT, Int.reduceAdd, Int.reduceSub, Int.reduceToNat, Nat.reduceMul, ratC]) ?_
  simp (maxSteps := 1000000) (disch := first | omega | (simp only [LL]; omega)) only [W, V, TY, CC, reduceIte, Nat.reduceEqDiff, Nat.reduceAdd, Nat.reduceLeDiff, Nat.reduceLT, Int.reduceLE, Int.reduceLT, Int.reduceAdd, Int.reduceSub, Int.reduceToNat, Nat.reduceMul]
  refine a_call _ _ c2 (by simp (maxSteps := 1000000) (disch := first | omega | (simp only [LL]; omega)) only [W, V, TY, CC, reduceIte, Nat.reduceEqDiff, Nat.reduceAdd, Nat.reduceLeDiff, Nat.reduceLT, Int.reduceLE, Int.reduceLT, Int.reduceAdd, Int.reduceSub, Int.reduceToNat, Nat.reduceMul, ratC]) ?_
  simp (maxSteps := 1000000) (disch := first | omega | (simp only [LL]; omega)) only [W, V, TY, CC, reduceIte, Nat.reduceEqDiff, Nat.reduceAdd, Nat.reduceLeDiff, Nat.reduceLT, Int.reduceLE, Int.reduceLT, Int.reduceAdd, Int.reduceSub, Int.reduceToNat, Nat.reduceMul]
  refine f_ret _ _ _ ?_
  simp (maxSteps := 1000000) (disch := first | omega | (simp only [LL]; omega)) only [W, V, TY, CC, reduceIte, Nat.reduceEqDiff, Nat.reduceAdd, Nat.reduceLeDiff, Nat.reduceLT, Int.reduceLE, Int.reduceLT, Int.reduceAdd, Int.reduceSub, Int.reduceToNat, Nat.reduceMul]
theorem l5_whole (a b lo hi : Int) (a0 : -9223372036854775808 ≤ a) (a1 : a < 9223372036854775808) (b0 : -9223372036854775808 ≤ b) (b1 : b < 9223372036854775808) (hl : qmin (a : Rat) b = lo) (hh : qmax (a : Rat) b = hi) :
    AFun Tryz.prog 54 [.one (.lit (.int .i64 a)), .one (.lit (.int .i64 b))] [.agg (sQ (lo : Rat) hi)] := by
  refine afun_intro mo_ _ _ c54 k54 _ _ rfl (by decide) ?_
  unfold b54
  have c1 := rat_Of a 1 a0 a1 (by decide) (by decide)
  have c2 := rat_Of b 1 b0 b1 (by decide) (by decide)
  have q1 := qs_int a0 a1
  have q2 := qs_int b0 b1
  have c3 := S_Of2 (p := (a : Rat)) (q := (b : Rat)) (by omega) (by omega)
  rw [divInt_one] at c1 c2
  rw [hl, hh] at c3
  simp (maxSteps := 1000000) (disch := first | omega | (simp only [LL]; omega)) only [W, V, TY, CC, reduceIte, Nat.reduceEqDiff, Nat.reduceAdd, Nat.reduceLeDiff, Nat.reduceLT, Int.reduceLE, Int.reduceLT, Int.reduceAdd, Int.reduceSub, Int.reduceToNat, Nat.reduceMul, sQ, ratC]
  refine a_call _ _ c1 (by simp (maxSteps := 1000000) (disch := first | omega | (simp only [LL]; omega)) only [W, V, TY, CC, reduceIte, Nat.reduceEqDiff, Nat.reduceAdd, Nat.reduceLeDiff, Nat.reduceLT, Int.reduceLE, Int.reduceLT, Int.reduceAdd, Int.reduceSub, Int.reduceToNat, Nat.reduceMul]) ?_
  simp (maxSteps := 1000000) (disch := first | omega | (simp only [LL]; omega)) only [W, V, TY, CC, reduceIte, Nat.reduceEqDiff, Nat.reduceAdd, Nat.reduceLeDiff, Nat.reduceLT, Int.reduceLE, Int.reduceLT, Int.reduceAdd, Int.reduceSub, Int.reduceToNat, Nat.reduceMul, ratC]
  refine a_call _ _ c2 (by simp (maxSteps := 1000000) (disch := first | omega | (simp only [LL]; omega)) only [W, V, TY, CC, reduceIte, Nat.reduceEqDiff, Nat.reduceAdd, Nat.reduceLeDiff, Nat.reduceLT, Int.reduceLE, Int.reduceLT, Int.reduceAdd, Int.reduceSub, Int.reduceToNat, Nat.reduceMul]) ?_
  simp (maxSteps := 1000000) (disch := first | omega | (simp only [LL]; omega)) only [W, V, TY, CC, reduceIte, Nat.reduceEqDiff, Nat.reduceAdd, Nat.reduceLeDiff, Nat.reduceLT, Int.reduceLE, Int.reduceLT, Int.reduceAdd, Int.reduceSub, Int.reduceToNat, Nat.reduceMul, ratC]
  refine a_call _ _ c3 (by simp (maxSteps := 1000000) (disch := first | omega | (simp only [LL]; omega)) only [W, V, TY, CC, reduceIte, Nat.reduceEqDiff, Nat.reduceAdd, Nat.reduceLeDiff, Nat.reduceLT, Int.reduceLE, Int.reduceLT, Int.reduceAdd, Int.reduceSub, Int.reduceToNat, Nat.reduceMul, ratC]) ?_
  simp (maxSteps := 1000000) (disch := first | omega | (simp only [LL]; omega)) only [W, V, TY, CC, reduceIte, Nat.reduceEqDiff, Nat.reduceAdd, Nat.reduceLeDiff, Nat.reduceLT, Int.reduceLE, Int.reduceLT, Int.reduceAdd, Int.reduceSub, Int.reduceToNat, Nat.reduceMul, sQ, ratC]
  refine f_ret _ _ _ ?_
  simp (maxSteps := 1000000) (disch := first | omega | (simp only [LL]; omega)) only [W, V, TY, CC, reduceIte, Nat.reduceEqDiff, Nat.reduceAdd, Nat.reduceLeDiff, Nat.reduceLT, Int.reduceLE, Int.reduceLT, Int.reduceAdd, Int.reduceSub, Int.reduceToNat, Nat.reduceMul, ratC]
theorem rok_int {x : Int} (h0 : -9223372036854775808 ≤ x) (h1 : x < 9223372036854775808) : rok 68719476600 (nr (x : Rat)) := rok_nr (by have := qs_int h0 h1; omega)
theorem l5_awake : AFun Tryz.prog 18 [] [.one (.lit (.bool true))] := by
  refine afun_intro mo_ _ _ c18 k18 _ _ rfl (by decide) ?_
  unfold b18
  have ri : ∀ x : Int, -100 ≤ x → x ≤ 100 → rok 68719476600 (nr (x : Rat)) := fun x h0 h1 => rok_int (by omega) (by omega)
  have qi : ∀ x : Int, -100 ≤ x → x ≤ 100 → qs (x : Rat) ≤ 68719476600 := fun x h0 h1 => by have := qs_int (x := x) (by omega) (by omega); omega
  have q10 : ∀ x : Int, -100 ≤ x → x ≤ 100 → qs (x : Rat) ≤ 10000000000 := fun x h0 h1 => by have := qs_int (x := x) (by omega) (by omega); omega
  have w1 := l5_whole 0 1 0 1 (by decide) (by decide) (by decide) (by decide) (by decide +kernel) (by decide +kernel)
  have w2 := l5_whole 2 1 1 2 (by decide) (by decide) (by decide) (by decide) (by decide +kernel) (by decide +kernel)
  have w3 := l5_whole 3 2 2 3 (by decide) (by decide) (by decide) (by decide) (by decide +kernel) (by decide +kernel)
  have w4 := l5_whole 2 (-1) (-1) 2 (by decide) (by decide) (by decide) (by decide) (by decide +kernel) (by decide +kernel)
  have w5 := l5_whole (-3) 4 (-3) 4 (by decide) (by decide) (by decide) (by decide) (by decide +kernel) (by decide +kernel)
  have w6 := l5_whole (-6) 8 (-6) 8 (by decide) (by decide) (by decide) (by decide) (by decide +kernel) (by decide +kernel)
  have w7 := l5_whole 1 1 1 1 (by decide) (by decide) (by decide) (by decide) (by decide +kernel) (by decide +kernel)
  have w8 := l5_whole 2 3 2 3 (by decide) (by decide) (by decide) (by decide) (by decide +kernel) (by decide +kernel)
  have w9 := l5_whole 4 (-1) (-1) 4 (by decide) (by decide) (by decide) (by decide) (by decide +kernel) (by decide +kernel)
  have m1 := S_Meet (ri 0 (by decide) (by decide)) (ri 1 (by decide) (by decide)) (ri 1 (by decide) (by decide)) (ri 2 (by decide) (by decide))
  have m2 := S_Meet (ri 0 (by decide) (by decide)) (ri 1 (by decide) (by decide)) (ri 2 (by decide) (by decide)) (ri 3 (by decide) (by decide))
  have mu := S_Mul (ri (-1) (by decide) (by decide)) (ri 2 (by decide) (by decide)) (ri (-3) (by decide) (by decide)) (ri 4 (by decide) (by decide)) (by rw [nr_q]; exact q10 (-1) (by decide) (by decide)) (by rw [nr_q]; exact q10 2 (by decide) (by decide)) (by rw [nr_q]; exact q10 (-3) (by decide) (by decide)) (by rw [nr_q]; exact q10 4 (by decide) (by decide))
  have or := S_Order (ri 0 (by decide) (by decide)) (ri 1 (by decide) (by decide)) (ri 2 (by decide) (by decide)) (ri 3 (by decide) (by decide))
  have wi := S_Width (ri (-1) (by decide) (by decide)) (ri 4 (by decide) (by decide)) 
  have s1 := l5_same (qi (-6) (by decide) (by decide)) (qi 8 (by decide) (by decide))
  have s2 := l5_same (qi 1 (by decide) (by decide)) (qi 1 (by decide) (by decide))
  simp only [nr_q, rC_nr] at m1 m2 mu or wi
  have e1 : meetLo ((0 : Int) : Rat) (1 : Int) (1 : Int) (2 : Int) = (1 : Int) := by decide +kernel
  have e2 : meetHi ((0 : Int) : Rat) (1 : Int) (1 : Int) (2 : Int) = (1 : Int) := by decide +kernel
  have e3 : meetHi ((0 : Int) : Rat) (1 : Int) (2 : Int) (3 : Int) < meetLo ((0 : Int) : Rat) (1 : Int) (2 : Int) (3 : Int) := by decide +kernel
  have e4 : mlo ((-1 : Int) : Rat) (2 : Int) (-3 : Int) (4 : Int) = (-6 : Int) := by decide +kernel
  have e5 : mhi ((-1 : Int) : Rat) (2 : Int) (-3 : Int) (4 : Int) = (8 : Int) := by decide +kernel
  have e6 : ordI ((0 : Int) : Rat) (1 : Int) (2 : Int) (3 : Int) = -1 := by decide +kernel
  have e7 : qabs (((4 : Int) : Rat) - (-1 : Int)) = (5 : Int) := by decide +kernel
  have e8 : ((4 : Int) : Rat) - (-1 : Int) = (5 : Int) := by decide +kernel
  have n1 : ¬ ((1 : Int) : Rat) < (1 : Int) := by decide +kernel
  rw [e1, e2, if_neg n1, decide_eq_true n1] at m1
  rw [if_pos e3, decide_eq_false (not_not_intro e3)] at m2
  rw [e4, e5] at mu
  rw [e6] at or
  have dq : digQ ((5 : Int) : Rat) = ⟨#[53]⟩ := by decide +kernel
  have pr := rat_Print ((5 : Int) : Rat) (by decide +kernel) (by decide +kernel) (by decide +kernel)
  rw [dq] at pr
  rw [e7, e8] at wi
  replace wi := wi (qi 5 (by decide) (by decide))
  simp (maxSteps := 1000000) (disch := first | omega | (simp only [LL]; omega)) only [W, V, TY, CC, reduceIte, Nat.reduceEqDiff, Nat.reduceAdd, Nat.reduceLeDiff, Nat.reduceLT, Int.reduceLE, Int.reduceLT, Int.reduceAdd, Int.reduceSub, Int.reduceToNat, Nat.reduceMul]
  refine a_call _ _ w1 (by simp (maxSteps := 1000000) (disch := first | omega | (simp only [LL]; omega)) only [W, V, TY, CC, reduceIte, Nat.reduceEqDiff, Nat.reduceAdd, Nat.reduceLeDiff, Nat.reduceLT, Int.reduceLE, Int.reduceLT, Int.reduceAdd, Int.reduceSub, Int.reduceToNat, Nat.reduceMul]) ?_
  simp (maxSteps := 1000000) (disch := first | omega | (simp only [LL]; omega)) only [W, V, TY, CC, reduceIte, Nat.reduceEqDiff, Nat.reduceAdd, Nat.reduceLeDiff, Nat.reduceLT, Int.reduceLE, Int.reduceLT, Int.reduceAdd, Int.reduceSub, Int.reduceToNat, Nat.reduceMul, sQ, ratC]
  refine a_call _ _ w2 (by simp (maxSteps := 1000000) (disch := first | omega | (simp only [LL]; omega)) only [W, V, TY, CC, reduceIte, Nat.reduceEqDiff, Nat.reduceAdd, Nat.reduceLeDiff, Nat.reduceLT, Int.reduceLE, Int.reduceLT, Int.reduceAdd, Int.reduceSub, Int.reduceToNat, Nat.reduceMul]) ?_
  simp (maxSteps := 1000000) (disch := first | omega | (simp only [LL]; omega)) only [W, V, TY, CC, reduceIte, Nat.reduceEqDiff, Nat.reduceAdd, Nat.reduceLeDiff, Nat.reduceLT, Int.reduceLE, Int.reduceLT, Int.reduceAdd, Int.reduceSub, Int.reduceToNat, Nat.reduceMul, sQ, ratC]
  refine a_call _ _ m1 (by simp (maxSteps := 1000000) (disch := first | omega | (simp only [LL]; omega)) only [W, V, TY, CC, reduceIte, Nat.reduceEqDiff, Nat.reduceAdd, Nat.reduceLeDiff, Nat.reduceLT, Int.reduceLE, Int.reduceLT, Int.reduceAdd, Int.reduceSub, Int.reduceToNat, Nat.reduceMul, sQ, ratC]) ?_
  simp (maxSteps := 1000000) (disch := first | omega | (simp only [LL]; omega)) only [W, V, TY, CC, reduceIte, Nat.reduceEqDiff, Nat.reduceAdd, Nat.reduceLeDiff, Nat.reduceLT, Int.reduceLE, Int.reduceLT, Int.reduceAdd, Int.reduceSub, Int.reduceToNat, Nat.reduceMul, sQ, ratC]
  refine a_call _ _ w1 (by simp (maxSteps := 1000000) (disch := first | omega | (simp only [LL]; omega)) only [W, V, TY, CC, reduceIte, Nat.reduceEqDiff, Nat.reduceAdd, Nat.reduceLeDiff, Nat.reduceLT, Int.reduceLE, Int.reduceLT, Int.reduceAdd, Int.reduceSub, Int.reduceToNat, Nat.reduceMul]) ?_
  simp (maxSteps := 1000000) (disch := first | omega | (simp only [LL]; omega)) only [W, V, TY, CC, reduceIte, Nat.reduceEqDiff, Nat.reduceAdd, Nat.reduceLeDiff, Nat.reduceLT, Int.reduceLE, Int.reduceLT, Int.reduceAdd, Int.reduceSub, Int.reduceToNat, Nat.reduceMul, sQ, ratC]
  refine a_call _ _ w3 (by simp (maxSteps := 1000000) (disch := first | omega | (simp only [LL]; omega)) only [W, V, TY, CC, reduceIte, Nat.reduceEqDiff, Nat.reduceAdd, Nat.reduceLeDiff, Nat.reduceLT, Int.reduceLE, Int.reduceLT, Int.reduceAdd, Int.reduceSub, Int.reduceToNat, Nat.reduceMul]) ?_
  simp (maxSteps := 1000000) (disch := first | omega | (simp only [LL]; omega)) only [W, V, TY, CC, reduceIte, Nat.reduceEqDiff, Nat.reduceAdd, Nat.reduceLeDiff, Nat.reduceLT, Int.reduceLE, Int.reduceLT, Int.reduceAdd, Int.reduceSub, Int.reduceToNat, Nat.reduceMul, sQ, ratC]
  refine a_call _ _ m2 (by simp (maxSteps := 1000000) (disch := first | omega | (simp only [LL]; omega)) only [W, V, TY, CC, reduceIte, Nat.reduceEqDiff, Nat.reduceAdd, Nat.reduceLeDiff, Nat.reduceLT, Int.reduceLE, Int.reduceLT, Int.reduceAdd, Int.reduceSub, Int.reduceToNat, Nat.reduceMul, sQ, ratC]) ?_
  simp (maxSteps := 1000000) (disch := first | omega | (simp only [LL]; omega)) only [W, V, TY, CC, reduceIte, Nat.reduceEqDiff, Nat.reduceAdd, Nat.reduceLeDiff, Nat.reduceLT, Int.reduceLE, Int.reduceLT, Int.reduceAdd, Int.reduceSub, Int.reduceToNat, Nat.reduceMul, sQ, zS]
  refine a_call _ _ w4 (by simp (maxSteps := 1000000) (disch := first | omega | (simp only [LL]; omega)) only [W, V, TY, CC, reduceIte, Nat.reduceEqDiff, Nat.reduceAdd, Nat.reduceLeDiff, Nat.reduceLT, Int.reduceLE, Int.reduceLT, Int.reduceAdd, Int.reduceSub, Int.reduceToNat, Nat.reduceMul]) ?_
  simp (maxSteps := 1000000) (disch := first | omega | (simp only [LL]; omega)) only [W, V, TY, CC, reduceIte, Nat.reduceEqDiff, Nat.reduceAdd, Nat.reduceLeDiff, Nat.reduceLT, Int.reduceLE, Int.reduceLT, Int.reduceAdd, Int.reduceSub, Int.reduceToNat, Nat.reduceMul, sQ, ratC]
  refine a_call _ _ w5 (by simp (maxSteps := 1000000) (disch := first | omega | (simp only [LL]; omega)) only [W, V, TY, CC, reduceIte, Nat.reduceEqDiff, Nat.reduceAdd, Nat.reduceLeDiff, Nat.reduceLT, Int.reduceLE, Int.reduceLT, Int.reduceAdd, Int.reduceSub, Int.reduceToNat, Nat.reduceMul]) ?_
  simp (maxSteps := 1000000) (disch := first | omega | (simp only [LL]; omega)) only [W, V, TY, CC, reduceIte, Nat.reduceEqDiff, Nat.reduceAdd, Nat.reduceLeDiff, Nat.reduceLT, Int.reduceLE, Int.reduceLT, Int.reduceAdd, Int.reduceSub, Int.reduceToNat, Nat.reduceMul, sQ, ratC]
  refine a_call _ _ mu (by simp (maxSteps := 1000000) (disch := first | omega | (simp only [LL]; omega)) only [W, V, TY, CC, reduceIte, Nat.reduceEqDiff, Nat.reduceAdd, Nat.reduceLeDiff, Nat.reduceLT, Int.reduceLE, Int.reduceLT, Int.reduceAdd, Int.reduceSub, Int.reduceToNat, Nat.reduceMul, sQ, ratC]) ?_
  simp (maxSteps := 1000000) (disch := first | omega | (simp only [LL]; omega)) only [W, V, TY, CC, reduceIte, Nat.reduceEqDiff, Nat.reduceAdd, Nat.reduceLeDiff, Nat.reduceLT, Int.reduceLE, Int.reduceLT, Int.reduceAdd, Int.reduceSub, Int.reduceToNat, Nat.reduceMul, sQ, ratC]
  refine a_call _ _ w6 (by simp (maxSteps := 1000000) (disch := first | omega | (simp only [LL]; omega)) only [W, V, TY, CC, reduceIte, Nat.reduceEqDiff, Nat.reduceAdd, Nat.reduceLeDiff, Nat.reduceLT, Int.reduceLE, Int.reduceLT, Int.reduceAdd, Int.reduceSub, Int.reduceToNat, Nat.reduceMul]) ?_
  simp (maxSteps := 1000000) (disch := first | omega | (simp only [LL]; omega)) only [W, V, TY, CC, reduceIte, Nat.reduceEqDiff, Nat.reduceAdd, Nat.reduceLeDiff, Nat.reduceLT, Int.reduceLE, Int.reduceLT, Int.reduceAdd, Int.reduceSub, Int.reduceToNat, Nat.reduceMul, sQ, ratC]
  refine a_call _ _ s1 (by simp (maxSteps := 1000000) (disch := first | omega | (simp only [LL]; omega)) only [W, V, TY, CC, reduceIte, Nat.reduceEqDiff, Nat.reduceAdd, Nat.reduceLeDiff, Nat.reduceLT, Int.reduceLE, Int.reduceLT, Int.reduceAdd, Int.reduceSub, Int.reduceToNat, Nat.reduceMul, sQ, ratC]) ?_
  simp (maxSteps := 1000000) (disch := first | omega | (simp only [LL]; omega)) only [W, V, TY, CC, reduceIte, Nat.reduceEqDiff, Nat.reduceAdd, Nat.reduceLeDiff, Nat.reduceLT, Int.reduceLE, Int.reduceLT, Int.reduceAdd, Int.reduceSub, Int.reduceToNat, Nat.reduceMul, sQ, ratC]
  refine a_call _ _ w7 (by simp (maxSteps := 1000000) (disch := first | omega | (simp only [LL]; omega)) only [W, V, TY, CC, reduceIte, Nat.reduceEqDiff, Nat.reduceAdd, Nat.reduceLeDiff, Nat.reduceLT, Int.reduceLE, Int.reduceLT, Int.reduceAdd, Int.reduceSub, Int.reduceToNat, Nat.reduceMul]) ?_
  simp (maxSteps := 1000000) (disch := first | omega | (simp only [LL]; omega)) only [W, V, TY, CC, reduceIte, Nat.reduceEqDiff, Nat.reduceAdd, Nat.reduceLeDiff, Nat.reduceLT, Int.reduceLE, Int.reduceLT, Int.reduceAdd, Int.reduceSub, Int.reduceToNat, Nat.reduceMul, sQ, ratC]
  refine a_call _ _ s2 (by simp (maxSteps := 1000000) (disch := first | omega | (simp only [LL]; omega)) only [W, V, TY, CC, reduceIte, Nat.reduceEqDiff, Nat.reduceAdd, Nat.reduceLeDiff, Nat.reduceLT, Int.reduceLE, Int.reduceLT, Int.reduceAdd, Int.reduceSub, Int.reduceToNat, Nat.reduceMul, sQ, ratC]) ?_
  simp (maxSteps := 1000000) (disch := first | omega | (simp only [LL]; omega)) only [W, V, TY, CC, reduceIte, Nat.reduceEqDiff, Nat.reduceAdd, Nat.reduceLeDiff, Nat.reduceLT, Int.reduceLE, Int.reduceLT, Int.reduceAdd, Int.reduceSub, Int.reduceToNat, Nat.reduceMul, sQ, ratC]
  refine a_call _ _ w1 (by simp (maxSteps := 1000000) (disch := first | omega | (simp only [LL]; omega)) only [W, V, TY, CC, reduceIte, Nat.reduceEqDiff, Nat.reduceAdd, Nat.reduceLeDiff, Nat.reduceLT, Int.reduceLE, Int.reduceLT, Int.reduceAdd, Int.reduceSub, Int.reduceToNat, Nat.reduceMul]) ?_
  simp (maxSteps := 1000000) (disch := first | omega | (simp only [LL]; omega)) only [W, V, TY, CC, reduceIte, Nat.reduceEqDiff, Nat.reduceAdd, Nat.reduceLeDiff, Nat.reduceLT, Int.reduceLE, Int.reduceLT, Int.reduceAdd, Int.reduceSub, Int.reduceToNat, Nat.reduceMul, sQ, ratC]
  refine a_call _ _ w8 (by simp (maxSteps := 1000000) (disch := first | omega | (simp only [LL]; omega)) only [W, V, TY, CC, reduceIte, Nat.reduceEqDiff, Nat.reduceAdd, Nat.reduceLeDiff, Nat.reduceLT, Int.reduceLE, Int.reduceLT, Int.reduceAdd, Int.reduceSub, Int.reduceToNat, Nat.reduceMul]) ?_
  simp (maxSteps := 1000000) (disch := first | omega | (simp only [LL]; omega)) only [W, V, TY, CC, reduceIte, Nat.reduceEqDiff, Nat.reduceAdd, Nat.reduceLeDiff, Nat.reduceLT, Int.reduceLE, Int.reduceLT, Int.reduceAdd, Int.reduceSub, Int.reduceToNat, Nat.reduceMul, sQ, ratC]
  refine a_call _ _ or (by simp (maxSteps := 1000000) (disch := first | omega | (simp only [LL]; omega)) only [W, V, TY, CC, reduceIte, Nat.reduceEqDiff, Nat.reduceAdd, Nat.reduceLeDiff, Nat.reduceLT, Int.reduceLE, Int.reduceLT, Int.reduceAdd, Int.reduceSub, Int.reduceToNat, Nat.reduceMul, sQ, ratC]) ?_
  simp (maxSteps := 1000000) (disch := first | omega | (simp only [LL]; omega)) only [W, V, TY, CC, reduceIte, Nat.reduceEqDiff, Nat.reduceAdd, Nat.reduceLeDiff, Nat.reduceLT, Int.reduceLE, Int.reduceLT, Int.reduceAdd, Int.reduceSub, Int.reduceToNat, Nat.reduceMul, sQ, ratC]
  refine a_call _ _ w9 (by simp (maxSteps := 1000000) (disch := first | omega | (simp only [LL]; omega)) only [W, V, TY, CC, reduceIte, Nat.reduceEqDiff, Nat.reduceAdd, Nat.reduceLeDiff, Nat.reduceLT, Int.reduceLE, Int.reduceLT, Int.reduceAdd, Int.reduceSub, Int.reduceToNat, Nat.reduceMul]) ?_
  simp (maxSteps := 1000000) (disch := first | omega | (simp only [LL]; omega)) only [W, V, TY, CC, reduceIte, Nat.reduceEqDiff, Nat.reduceAdd, Nat.reduceLeDiff, Nat.reduceLT, Int.reduceLE, Int.reduceLT, Int.reduceAdd, Int.reduceSub, Int.reduceToNat, Nat.reduceMul, sQ, ratC]
  refine a_call _ _ wi (by simp (maxSteps := 1000000) (disch := first | omega | (simp only [LL]; omega)) only [W, V, TY, CC, reduceIte, Nat.reduceEqDiff, Nat.reduceAdd, Nat.reduceLeDiff, Nat.reduceLT, Int.reduceLE, Int.reduceLT, Int.reduceAdd, Int.reduceSub, Int.reduceToNat, Nat.reduceMul, sQ, ratC]) ?_
  simp (maxSteps := 1000000) (disch := first | omega | (simp only [LL]; omega)) only [W, V, TY, CC, reduceIte, Nat.reduceEqDiff, Nat.reduceAdd, Nat.reduceLeDiff, Nat.reduceLT, Int.reduceLE, Int.reduceLT, Int.reduceAdd, Int.reduceSub, Int.reduceToNat, Nat.reduceMul, ratC]
  refine a_call _ _ pr (by simp (maxSteps := 1000000) (disch := first | omega | (simp only [LL]; omega)) only [W, V, TY, CC, reduceIte, Nat.reduceEqDiff, Nat.reduceAdd, Nat.reduceLeDiff, Nat.reduceLT, Int.reduceLE, Int.reduceLT, Int.reduceAdd, Int.reduceSub, Int.reduceToNat, Nat.reduceMul, ratC]) ?_
  simp (maxSteps := 1000000) (disch := first | omega | (simp only [LL]; omega)) only [W, V, TY, CC, reduceIte, Nat.reduceEqDiff, Nat.reduceAdd, Nat.reduceLeDiff, Nat.reduceLT, Int.reduceLE, Int.reduceLT, Int.reduceAdd, Int.reduceSub, Int.reduceToNat, Nat.reduceMul]
  refine f_ret _ _ _ ?_
  simp (maxSteps := 1000000) (disch := first | omega | (simp only [LL]; omega)) only [W, V, TY, CC, reduceIte, Nat.reduceEqDiff, Nat.reduceAdd, Nat.reduceLeDiff, Nat.reduceLT, Int.reduceLE, Int.reduceLT, Int.reduceAdd, Int.reduceSub, Int.reduceToNat, Nat.reduceMul, beq_self_eq_true]
end Go.Proofs.YtljmgdepldpmdaaGreatDoor.E

set_option linter.unusedSimpArgs false
set_option linter.unusedVariables false
set_option maxHeartbeats 2000000
namespace Go.Proofs.YtljmgdepldpmdaaGreatDoor.E
open Go.RowKit Limbs
section
variable {x y : RR} (hx : rok 68719476600 x) (hy : rok 68719476600 y)
include hx hy
theorem F_Cmp : AFun Tryz.prog 80 [.agg (rC x), .agg (rC y)] [.one (.lit (.int .i64 (cmpQ x.q y.q)))] := by
  obtain ⟨h1, h2, h3, h4⟩ := hx
  obtain ⟨k1, k2, k3, k4⟩ := hy
  exact rr_Cmp x.n x.m x.d y.n y.m y.d h1 h2 k1 k2 (by omega) (by omega) (by omega) (by omega)
theorem F_Add : AFun Tryz.prog 47 [.agg (rC x), .agg (rC y)] [.agg (ratC (x.q + y.q))] := by
  obtain ⟨h1, h2, h3, h4⟩ := hx
  obtain ⟨k1, k2, k3, k4⟩ := hy
  exact rr_Add x.n x.m x.d y.n y.m y.d h1 h2 k1 k2 (by omega) (by omega) (by omega) (by omega)
theorem F_Mul : AFun Tryz.prog 52 [.agg (rC x), .agg (rC y)] [.agg (ratC (x.q * y.q))] := by
  obtain ⟨h1, h2, h3, h4⟩ := hx
  obtain ⟨k1, k2, k3, k4⟩ := hy
  exact rr_Mul x.n x.m x.d y.n y.m y.d h1 h2 k1 k2 (by omega) (by omega) (by omega) (by omega)
omit hy
theorem F_Norm : AFun Tryz.prog 83 [.agg (rC x)] [.agg (ratC x.q)] := by
  obtain ⟨h1, h2, h3, h4⟩ := hx
  exact rr_Norm x.n x.m x.d h1 h2 (by omega) (by omega)
end
/-- examboard/examboardref05.lesser -/
def b43 : AF := ⟨13, 2, [.cell 4 27],
  (.seq (.reg [
    ⟨some 2, .box 27 (.tmp 0), none⟩,
    ⟨some 3, .box 27 (.tmp 1), none⟩,
    ⟨some 4, .alloc 27, none⟩])
  (.seq (.seq (.reg [
    ⟨some 5, .load 27 (.tmp 2), none⟩,
    ⟨some 6, .load 27 (.tmp 3), none⟩,
    ⟨some 7, .call ⟨(.value (.func 80)), #[(.tmp 5), (.tmp 6)], #[27, 27]⟩, none⟩,
    ⟨some 8, .binOp .leq 3 (.tmp 7) (.const (.int .i64 0)) 3, none⟩])
  (.cond (.tmp 8)
    (.seq (.reg [
      ⟨some 9, .load 27 (.tmp 2), none⟩,
      ⟨some 10, .call ⟨(.value (.func 83)), #[(.tmp 9)], #[27]⟩, none⟩,
      ⟨none, .store 27 (.tmp 4) (.tmp 10), none⟩])
    .ret)
    .skip))
  (.seq (.reg [
    ⟨some 11, .load 27 (.tmp 3), none⟩,
    ⟨some 12, .call ⟨(.value (.func 83)), #[(.tmp 11)], #[27]⟩, none⟩,
    ⟨none, .store 27 (.tmp 4) (.tmp 12), none⟩])
  .ret)))⟩
theorem c43 : fcomp Tryz.prog 43 = ⟨b43.n, b43.np, b43.res, b43.body.bare⟩ := by kernel_rfl
theorem k43 : fok Tryz.prog 43 = true := by kernel_rfl
/-- examboard/examboardref05.greater -/
def b44 : AF := ⟨13, 2, [.cell 4 27],
  (.seq (.reg [
    ⟨some 2, .box 27 (.tmp 0), none⟩,
    ⟨some 3, .box 27 (.tmp 1), none⟩,
    ⟨some 4, .alloc 27, none⟩])
  (.seq (.seq (.reg [
    ⟨some 5, .load 27 (.tmp 2), none⟩,
    ⟨some 6, .load 27 (.tmp 3), none⟩,
    ⟨some 7, .call ⟨(.value (.func 80)), #[(.tmp 5), (.tmp 6)], #[27, 27]⟩, none⟩,
    ⟨some 8, .binOp .geq 3 (.tmp 7) (.const (.int .i64 0)) 3, none⟩])
  (.cond (.tmp 8)
    (.seq (.reg [
      ⟨some 9, .load 27 (.tmp 2), none⟩,
      ⟨some 10, .call ⟨(.value (.func 83)), #[(.tmp 9)], #[27]⟩, none⟩,
      ⟨none, .store 27 (.tmp 4) (.tmp 10), none⟩])
    .ret)
    .skip))
  (.seq (.reg [
    ⟨some 11, .load 27 (.tmp 3), none⟩,
    ⟨some 12, .call ⟨(.value (.func 83)), #[(.tmp 11)], #[27]⟩, none⟩,
    ⟨none, .store 27 (.tmp 4) (.tmp 12), none⟩])
  .ret)))⟩
theorem c44 : fcomp Tryz.prog 44 = ⟨b44.n, b44.np, b44.res, b44.body.bare⟩ := by kernel_rfl
theorem k44 : fok Tryz.prog 44 = true := by kernel_rfl
/-- examboard/examboardref05.Of -/
def b9 : AF := ⟨12, 2, [.cell 4 29],
  (.seq (.reg [
    ⟨some 2, .box 27 (.tmp 0), none⟩,
    ⟨some 3, .box 27 (.tmp 1), none⟩,
    ⟨some 4, .alloc 29, none⟩])
  (.seq (.dreg [
    ⟨some 5, .load 27 (.tmp 2), none⟩,
    ⟨some 6, .load 27 (.tmp 3), none⟩,
    ⟨some 7, .call ⟨(.value (.func 43)), #[(.tmp 5), (.tmp 6)], #[27, 27]⟩, none⟩,
    ⟨some 8, .load 27 (.tmp 2), none⟩,
    ⟨some 9, .load 27 (.tmp 3), none⟩,
    ⟨some 10, .call ⟨(.value (.func 44)), #[(.tmp 8), (.tmp 9)], #[27, 27]⟩, none⟩,
    ⟨some 11, .build 29 #[(0, (.tmp 7)), (1, (.tmp 10))], none⟩,
    ⟨none, .store 29 (.tmp 4) (.tmp 11), none⟩])
  .ret))⟩
theorem c9 : fcomp Tryz.prog 9 = ⟨b9.n, b9.np, b9.res, b9.body.bare⟩ := by kernel_rfl
theorem k9 : fok Tryz.prog 9 = true := by kernel_rfl
/-- examboard/examboardref05.norm -/
def b46 : AF := ⟨8, 1, [.cell 2 29],
  (.seq (.reg [
    ⟨some 1, .box 29 (.tmp 0), none⟩,
    ⟨some 2, .alloc 29, none⟩])
  (.seq (.reg [
    ⟨some 3, .fieldAddr 29 (.tmp 1) 0, none⟩,
    ⟨some 4, .load 27 (.tmp 3), none⟩,
    ⟨some 5, .fieldAddr 29 (.tmp 1) 1, none⟩,
    ⟨some 6, .load 27 (.tmp 5), none⟩,
    ⟨some 7, .call ⟨(.value (.func 9)), #[(.tmp 4), (.tmp 6)], #[27, 27]⟩, none⟩,
    ⟨none, .store 29 (.tmp 2) (.tmp 7), none⟩])
  .ret))⟩
theorem c46 : fcomp Tryz.prog 46 = ⟨b46.n, b46.np, b46.res, b46.body.bare⟩ := by kernel_rfl
theorem k46 : fok Tryz.prog 46 = true := by kernel_rfl
/-- examboard/examboardref05.Add -/
def b11 : AF := ⟨22, 2, [.cell 4 29],
  (.seq (.reg [
    ⟨some 2, .box 29 (.tmp 0), none⟩,
    ⟨some 3, .box 29 (.tmp 1), none⟩,
    ⟨some 4, .alloc 29, none⟩])
  (.seq (.reg [
    ⟨some 7, .load 29 (.tmp 2), none⟩,
    ⟨some 8, .call ⟨(.value (.func 46)), #[(.tmp 7)], #[29]⟩, none⟩,
    ⟨some 5, .alloc 29, none⟩,
    ⟨none, .store 29 (.tmp 5) (.tmp 8), none⟩])
  (.seq (.reg [
    ⟨some 9, .load 29 (.tmp 3), none⟩,
    ⟨some 10, .call ⟨(.value (.func 46)), #[(.tmp 9)], #[29]⟩, none⟩,
    ⟨some 6, .alloc 29, none⟩,
    ⟨none, .store 29 (.tmp 6) (.tmp 10), none⟩])
  (.seq (.dreg [
    ⟨some 11, .fieldAddr 29 (.tmp 5) 0, none⟩,
    ⟨some 12, .load 27 (.tmp 11), none⟩,
    ⟨some 13, .fieldAddr 29 (.tmp 6) 0, none⟩,
    ⟨some 14, .load 27 (.tmp 13), none⟩,
    ⟨some 15, .call ⟨(.value (.func 47)), #[(.tmp 12), (.tmp 14)], #[27, 27]⟩, none⟩,
    ⟨some 16, .fieldAddr 29 (.tmp 5) 1, none⟩,
    ⟨some 17, .load 27 (.tmp 16), none⟩,
    ⟨some 18, .fieldAddr 29 (.tmp 6) 1, none⟩,
    ⟨some 19, .load 27 (.tmp 18), none⟩,
    ⟨some 20, .call ⟨(.value (.func 47)), #[(.tmp 17), (.tmp 19)], #[27, 27]⟩, none⟩,
    ⟨some 21, .call ⟨(.value (.func 9)), #[(.tmp 15), (.tmp 20)], #[27, 27]⟩, none⟩,
    ⟨none, .store 29 (.tmp 4) (.tmp 21), none⟩])
  .ret))))⟩
theorem c11 : fcomp Tryz.prog 11 = ⟨b11.n, b11.np, b11.res, b11.body.bare⟩ := by kernel_rfl
theorem k11 : fok Tryz.prog 11 = true := by kernel_rfl
/-- examboard/examboardref05.Sub -/
def b13 : AF := ⟨22, 2, [.cell 4 29],
  (.seq (.reg [
    ⟨some 2, .box 29 (.tmp 0), none⟩,
    ⟨some 3, .box 29 (.tmp 1), none⟩,
    ⟨some 4, .alloc 29, none⟩])
  (.seq (.reg [
    ⟨some 7, .load 29 (.tmp 2), none⟩,
    ⟨some 8, .call ⟨(.value (.func 46)), #[(.tmp 7)], #[29]⟩, none⟩,
    ⟨some 5, .alloc 29, none⟩,
    ⟨none, .store 29 (.tmp 5) (.tmp 8), none⟩])
  (.seq (.reg [
    ⟨some 9, .load 29 (.tmp 3), none⟩,
    ⟨some 10, .call ⟨(.value (.func 46)), #[(.tmp 9)], #[29]⟩, none⟩,
    ⟨some 6, .alloc 29, none⟩,
    ⟨none, .store 29 (.tmp 6) (.tmp 10), none⟩])
  (.seq (.dreg [
    ⟨some 11, .fieldAddr 29 (.tmp 5) 0, none⟩,
    ⟨some 12, .load 27 (.tmp 11), none⟩,
    ⟨some 13, .fieldAddr 29 (.tmp 6) 1, none⟩,
    ⟨some 14, .load 27 (.tmp 13), none⟩,
    ⟨some 15, .call ⟨(.value (.func 49)), #[(.tmp 12), (.tmp 14)], #[27, 27]⟩, none⟩,
    ⟨some 16, .fieldAddr 29 (.tmp 5) 1, none⟩,
    ⟨some 17, .load 27 (.tmp 16), none⟩,
    ⟨some 18, .fieldAddr 29 (.tmp 6) 0, none⟩,
    ⟨some 19, .load 27 (.tmp 18), none⟩,
    ⟨some 20, .call ⟨(.value (.func 49)), #[(.tmp 17), (.tmp 19)], #[27, 27]⟩, none⟩,
    ⟨some 21, .call ⟨(.value (.func 9)), #[(.tmp 15), (.tmp 20)], #[27, 27]⟩, none⟩,
    ⟨none, .store 29 (.tmp 4) (.tmp 21), none⟩])
  .ret))))⟩
theorem c13 : fcomp Tryz.prog 13 = ⟨b13.n, b13.np, b13.res, b13.body.bare⟩ := by kernel_rfl
theorem k13 : fok Tryz.prog 13 = true := by kernel_rfl
/-- examboard/examboardref05.Mul -/
def b15 : AF := ⟨44, 2, [.cell 4 29],
  (.seq (.reg [
    ⟨some 2, .box 29 (.tmp 0), none⟩,
    ⟨some 3, .box 29 (.tmp 1), none⟩,
    ⟨some 4, .alloc 29, none⟩])
  (.seq (.reg [
    ⟨some 9, .fieldAddr 29 (.tmp 2) 0, none⟩,
    ⟨some 10, .load 27 (.tmp 9), none⟩,
    ⟨some 11, .fieldAddr 29 (.tmp 3) 0, none⟩,
    ⟨some 12, .load 27 (.tmp 11), none⟩,
    ⟨some 13, .call ⟨(.value (.func 52)), #[(.tmp 10), (.tmp 12)], #[27, 27]⟩, none⟩,
    ⟨some 5, .alloc 27, none⟩,
    ⟨none, .store 27 (.tmp 5) (.tmp 13), none⟩])
  (.seq (.reg [
    ⟨some 14, .fieldAddr 29 (.tmp 2) 0, none⟩,
    ⟨some 15, .load 27 (.tmp 14), none⟩,
    ⟨some 16, .fieldAddr 29 (.tmp 3) 1, none⟩,
    ⟨some 17, .load 27 (.tmp 16), none⟩,
    ⟨some 18, .call ⟨(.value (.func 52)), #[(.tmp 15), (.tmp 17)], #[27, 27]⟩, none⟩,
    ⟨some 6, .alloc 27, none⟩,
    ⟨none, .store 27 (.tmp 6) (.tmp 18), none⟩])
  (.seq (.reg [
    ⟨some 19, .fieldAddr 29 (.tmp 2) 1, none⟩,
    ⟨some 20, .load 27 (.tmp 19), none⟩,
    ⟨some 21, .fieldAddr 29 (.tmp 3) 0, none⟩,
    ⟨some 22, .load 27 (.tmp 21), none⟩,
    ⟨some 23, .call ⟨(.value (.func 52)), #[(.tmp 20), (.tmp 22)], #[27, 27]⟩, none⟩,
    ⟨some 7, .alloc 27, none⟩,
    ⟨none, .store 27 (.tmp 7) (.tmp 23), none⟩])
  (.seq (.reg [
    ⟨some 24, .fieldAddr 29 (.tmp 2) 1, none⟩,
    ⟨some 25, .load 27 (.tmp 24), none⟩,
    ⟨some 26, .fieldAddr 29 (.tmp 3) 1, none⟩,
    ⟨some 27, .load 27 (.tmp 26), none⟩,
    ⟨some 28, .call ⟨(.value (.func 52)), #[(.tmp 25), (.tmp 27)], #[27, 27]⟩, none⟩,
    ⟨some 8, .alloc 27, none⟩,
    ⟨none, .store 27 (.tmp 8) (.tmp 28), none⟩])
  (.seq (.dreg [
    ⟨some 29, .load 27 (.tmp 5), none⟩,
    ⟨some 30, .load 27 (.tmp 6), none⟩,
    ⟨some 31, .call ⟨(.value (.func 43)), #[(.tmp 29), (.tmp 30)], #[27, 27]⟩, none⟩,
    ⟨some 32, .load 27 (.tmp 7), none⟩,
    ⟨some 33, .load 27 (.tmp 8), none⟩,
    ⟨some 34, .call ⟨(.value (.func 43)), #[(.tmp 32), (.tmp 33)], #[27, 27]⟩, none⟩,
    ⟨some 35, .call ⟨(.value (.func 43)), #[(.tmp 31), (.tmp 34)], #[27, 27]⟩, none⟩,
    ⟨some 36, .load 27 (.tmp 5), none⟩,
    ⟨some 37, .load 27 (.tmp 6), none⟩,
    ⟨some 38, .call ⟨(.value (.func 44)), #[(.tmp 36), (.tmp 37)], #[27, 27]⟩, none⟩,
    ⟨some 39, .load 27 (.tmp 7), none⟩,
    ⟨some 40, .load 27 (.tmp 8), none⟩,
    ⟨some 41, .call ⟨(.value (.func 44)), #[(.tmp 39), (.tmp 40)], #[27, 27]⟩, none⟩,
    ⟨some 42, .call ⟨(.value (.func 44)), #[(.tmp 38), (.tmp 41)], #[27, 27]⟩, none⟩,
    ⟨some 43, .build 29 #[(0, (.tmp 35)), (1, (.tmp 42))], none⟩,
    ⟨none, .store 29 (.tmp 4) (.tmp 43), none⟩])
  .ret))))))⟩
theorem c15 : fcomp Tryz.prog 15 = ⟨b15.n, b15.np, b15.res, b15.body.bare⟩ := by kernel_rfl
theorem k15 : fok Tryz.prog 15 = true := by kernel_rfl
/-- examboard/examboardref05.Scale -/
def b17 : AF := ⟨14, 2, [.cell 4 29],
  (.seq (.reg [
    ⟨some 2, .box 29 (.tmp 0), none⟩,
    ⟨some 3, .box 27 (.tmp 1), none⟩,
    ⟨some 4, .alloc 29, none⟩])
  (.seq (.dreg [
    ⟨some 5, .fieldAddr 29 (.tmp 2) 0, none⟩,
    ⟨some 6, .load 27 (.tmp 5), none⟩,
    ⟨some 7, .load 27 (.tmp 3), none⟩,
    ⟨some 8, .call ⟨(.value (.func 52)), #[(.tmp 6), (.tmp 7)], #[27, 27]⟩, none⟩,
    ⟨some 9, .fieldAddr 29 (.tmp 2) 1, none⟩,
    ⟨some 10, .load 27 (.tmp 9), none⟩,
    ⟨some 11, .load 27 (.tmp 3), none⟩,
    ⟨some 12, .call ⟨(.value (.func 52)), #[(.tmp 10), (.tmp 11)], #[27, 27]⟩, none⟩,
    ⟨some 13, .call ⟨(.value (.func 9)), #[(.tmp 8), (.tmp 12)], #[27, 27]⟩, none⟩,
    ⟨none, .store 29 (.tmp 4) (.tmp 13), none⟩])
  .ret))⟩
theorem c17 : fcomp Tryz.prog 17 = ⟨b17.n, b17.np, b17.res, b17.body.bare⟩ := by kernel_rfl
theorem k17 : fok Tryz.prog 17 = true := by kernel_rfl
theorem qmin_le' (p q : Rat) : qmin p q = if p ≤ q then p else q := by
  unfold qmin
  split <;> split <;> grind
theorem qmax_ge' (p q : Rat) : qmax p q = if q ≤ p then p else q := by
  unfold qmax
  split <;> split <;> grind
theorem cmpQ_ge (a b : Rat) : 0 ≤ cmpQ a b ↔ b ≤ a := by
  have := cmpQ_lt a b
  constructor
  · intro h; exact Rat.not_lt.1 (fun e => by have := this.2 e; omega)
  · intro h; exact Int.not_lt.1 (fun e => absurd (this.1 e) (Rat.not_lt.2 h))
theorem m4_two (p q r s : Rat) : qmin (qmin p q) (qmin r s) = m4 p q r s := by
  unfold m4
  have a1 := qmin_le_l (qmin p q) (qmin r s)
  have a2 := qmin_le_r (qmin p q) (qmin r s)
  have b1 := qmin_le_l r s
  have b2 := qmin_le_r r s
  have c1 := qmin_le_l (qmin (qmin p q) r) s
  have c2 := qmin_le_r (qmin (qmin p q) r) s
  have d1 := qmin_le_l (qmin p q) r
  have d2 := qmin_le_r (qmin p q) r
  refine Rat.le_antisymm ?_ ?_
  · exact le_qmin (le_qmin a1 (Rat.le_trans a2 b1)) (Rat.le_trans a2 b2)
  · exact le_qmin (Rat.le_trans c1 d1) (le_qmin (Rat.le_trans c1 d2) c2)
theorem M4_two (p q r s : Rat) : qmax (qmax p q) (qmax r s) = M4 p q r s := by
  unfold M4
  have a1 := qmax_ge_l (qmax p q) (qmax r s)
  have a2 := qmax_ge_r (qmax p q) (qmax r s)
  have b1 := qmax_ge_l r s
  have b2 := qmax_ge_r r s
  have c1 := qmax_ge_l (qmax (qmax p q) r) s
  have c2 := qmax_ge_r (qmax (qmax p q) r) s
  have d1 := qmax_ge_l (qmax p q) r
  have d2 := qmax_ge_r (qmax p q) r
  refine Rat.le_antisymm ?_ ?_
  · exact qmax_le (Rat.le_trans d1 c1) (qmax_le (Rat.le_trans d2 c1) c2)
  · exact qmax_le (qmax_le a1 (Rat.le_trans b1 a2)) (Rat.le_trans b2 a2)
section
variable {x y : RR} (hx : rok 68719476600 x) (hy : rok 68719476600 y)
include hx hy
theorem F_lesser : AFun Tryz.prog 43 [.agg (rC x), .agg (rC y)] [.agg (ratC (qmin x.q y.q))] := by
  have cc := F_Cmp hx hy
  have n1 := F_Norm hx
  have n2 := F_Norm hy
  have g := cmpQ_le x.q y.q
  rw [qmin_le']
  refine afun_intro mo_ _ _ c43 k43 _ _ rfl (by decide) ?_
  unfold b43
  simp (maxSteps := 1000000) (disch := first | omega | (simp only [LL]; omega)) only [W, V, TY, CC, reduceIte, Nat.reduceEqDiff, Nat.reduceAdd, Nat.reduceLeDiff, Nat.reduceLT, Int.reduceLE, Int.reduceLT, Int.reduceAdd, Int.reduceSub, Int.reduceToNat, Nat.reduceMul, rC]
  refine a_call _ _ cc (by simp (maxSteps := 1000000) (disch := first | omega | (simp only [LL]; omega)) only [W, V, TY, CC, reduceIte, Nat.reduceEqDiff, Nat.reduceAdd, Nat.reduceLeDiff, Nat.reduceLT, Int.reduceLE, Int.reduceLT, Int.reduceAdd, Int.reduceSub, Int.reduceToNat, Nat.reduceMul, rC]) ?_
  simp (maxSteps := 1000000) (disch := first | omega | (simp only [LL]; omega)) only [W, V, TY, CC, reduceIte, Nat.reduceEqDiff, Nat.reduceAdd, Nat.reduceLeDiff, Nat.reduceLT, Int.reduceLE, Int.reduceLT, Int.reduceAdd, Int.reduceSub, Int.reduceToNat, Nat.reduceMul]
  refine c_split (fun h => ?_) (fun h => ?_)
  · rw [if_pos (g.1 h)]
    simp (maxSteps := 1000000) (disch := first | omega | (simp only [LL]; omega)) only [W, V, TY, CC, reduceIte, Nat.reduceEqDiff, Nat.reduceAdd, Nat.reduceLeDiff, Nat.reduceLT, Int.reduceLE, Int.reduceLT, Int.reduceAdd, Int.reduceSub, Int.reduceToNat, Nat.reduceMul, rC]
    refine a_call _ _ n1 (by simp (maxSteps := 1000000) (disch := first | omega | (simp only [LL]; omega)) only [W, V, TY, CC, reduceIte, Nat.reduceEqDiff, Nat.reduceAdd, Nat.reduceLeDiff, Nat.reduceLT, Int.reduceLE, Int.reduceLT, Int.reduceAdd, Int.reduceSub, Int.reduceToNat, Nat.reduceMul, rC]) ?_
    simp (maxSteps := 1000000) (disch := first | omega | (simp only [LL]; omega)) only [W, V, TY, CC, reduceIte, Nat.reduceEqDiff, Nat.reduceAdd, Nat.reduceLeDiff, Nat.reduceLT, Int.reduceLE, Int.reduceLT, Int.reduceAdd, Int.reduceSub, Int.reduceToNat, Nat.reduceMul, ratC]
    refine f_ret _ _ _ ?_
    simp (maxSteps := 1000000) (disch := first | omega | (simp only [LL]; omega)) only [W, V, TY, CC, reduceIte, Nat.reduceEqDiff, Nat.reduceAdd, Nat.reduceLeDiff, Nat.reduceLT, Int.reduceLE, Int.reduceLT, Int.reduceAdd, Int.reduceSub, Int.reduceToNat, Nat.reduceMul, ratC]
  · rw [if_neg (fun e => h (g.2 e))]
    simp (maxSteps := 1000000) (disch := first | omega | (simp only [LL]; omega)) only [W, V, TY, CC, reduceIte, Nat.reduceEqDiff, Nat.reduceAdd, Nat.reduceLeDiff, Nat.reduceLT, Int.reduceLE, Int.reduceLT, Int.reduceAdd, Int.reduceSub, Int.reduceToNat, Nat.reduceMul, rC]
    refine a_call _ _ n2 (by simp (maxSteps := 1000000) (disch := first | omega | (simp only [LL]; omega)) only [W, V, TY, CC, reduceIte, Nat.reduceEqDiff, Nat.reduceAdd, Nat.reduceLeDiff, Nat.reduceLT, Int.reduceLE, Int.reduceLT, Int.reduceAdd, Int.reduceSub, Int.reduceToNat, Nat.reduceMul, rC]) ?_
    simp (maxSteps := 1000000) (disch := first | omega | (simp only [LL]; omega)) only [W, V, TY, CC, reduceIte, Nat.reduceEqDiff, Nat.reduceAdd, Nat.reduceLeDiff, Nat.reduceLT, Int.reduceLE, Int.reduceLT, Int.reduceAdd, Int.reduceSub, Int.reduceToNat, Nat.reduceMul, ratC]
    refine f_ret _ _ _ ?_
    simp (maxSteps := 1000000) (disch := first | omega | (simp only [LL]; omega)) only [W, V, TY, CC, reduceIte, Nat.reduceEqDiff, Nat.reduceAdd, Nat.reduceLeDiff, Nat.reduceLT, Int.reduceLE, Int.reduceLT, Int.reduceAdd, Int.reduceSub, Int.reduceToNat, Nat.reduceMul, ratC]
theorem F_greater : AFun Tryz.prog 44 [.agg (rC x), .agg (rC y)] [.agg (ratC (qmax x.q y.q))] := by
  have cc := F_Cmp hx hy
  have n1 := F_Norm hx
  have n2 := F_Norm hy
  have g := cmpQ_ge x.q y.q
  rw [qmax_ge']
  refine afun_intro mo_ _ _ c44 k44 _ _ rfl (by decide) ?_
  unfold b44
  simp (maxSteps := 1000000) (disch := first | omega | (simp only [LL]; omega)) only [W, V, TY, CC, reduceIte, Nat.reduceEqDiff, Nat.reduceAdd, Nat.reduceLeDiff, Nat.reduceLT, Int.reduceLE, Int.reduceLT, Int.reduceAdd, Int.reduceSub, Int.reduceToNat, Nat.reduceMul, rC]
  refine a_call _ _ cc (by simp (maxSteps := 1000000) (disch := first | omega | (simp only [LL]; omega)) only [W, V, TY, CC, reduceIte, Nat.reduceEqDiff, Nat.reduceAdd, Nat.reduceLeDiff, Nat.reduceLT, Int.reduceLE, Int.reduceLT, Int.reduceAdd, Int.reduceSub, Int.reduceToNat, Nat.reduceMul, rC]) ?_
  simp (maxSteps := 1000000) (disch := first | omega | (simp only [LL]; omega)) only [W, V, TY, CC, reduceIte, Nat.reduceEqDiff, Nat.reduceAdd, Nat.reduceLeDiff, Nat.reduceLT, Int.reduceLE, Int.reduceLT, Int.reduceAdd, Int.reduceSub, Int.reduceToNat, Nat.reduceMul]
  refine c_split (fun h => ?_) (fun h => ?_)
  · rw [if_pos (g.1 h)]
    simp (maxSteps := 1000000) (disch := first | omega | (simp only [LL]; omega)) only [W, V, TY, CC, reduceIte, Nat.reduceEqDiff, Nat.reduceAdd, Nat.reduceLeDiff, Nat.reduceLT, Int.reduceLE, Int.reduceLT, Int.reduceAdd, Int.reduceSub, Int.reduceToNat, Nat.reduceMul, rC]
    refine a_call _ _ n1 (by simp (maxSteps := 1000000) (disch := first | omega | (simp only [LL]; omega)) only [W, V, TY, CC, reduceIte, Nat.reduceEqDiff, Nat.reduceAdd, Nat.reduceLeDiff, Nat.reduceLT, Int.reduceLE, Int.reduceLT, Int.reduceAdd, Int.reduceSub, Int.reduceToNat, Nat.reduceMul, rC]) ?_
    simp (maxSteps := 1000000) (disch := first | omega | (simp only [LL]; omega)) only [W, V, TY, CC, reduceIte, Nat.reduceEqDiff, Nat.reduceAdd, Nat.reduceLeDiff, Nat.reduceLT, Int.reduceLE, Int.reduceLT, Int.reduceAdd, Int.reduceSub, Int.reduceToNat, Nat.reduceMul, ratC]
    refine f_ret _ _ _ ?_
    simp (maxSteps := 1000000) (disch := first | omega | (simp only [LL]; omega)) only [W, V, TY, CC, reduceIte, Nat.reduceEqDiff, Nat.reduceAdd, Nat.reduceLeDiff, Nat.reduceLT, Int.reduceLE, Int.reduceLT, Int.reduceAdd, Int.reduceSub, Int.reduceToNat, Nat.reduceMul, ratC]
  · rw [if_neg (fun e => h (g.2 e))]
    simp (maxSteps := 1000000) (disch := first | omega | (simp only [LL]; omega)) only [W, V, TY, CC, reduceIte, Nat.reduceEqDiff, Nat.reduceAdd, Nat.reduceLeDiff, Nat.reduceLT, Int.reduceLE, Int.reduceLT, Int.reduceAdd, Int.reduceSub, Int.reduceToNat, Nat.reduceMul, rC]
    refine a_call _ _ n2 (by simp (maxSteps := 1000000) (disch := first | omega | (simp only [LL]; omega)) only [W, V, TY, CC, reduceIte, Nat.reduceEqDiff, Nat.reduceAdd, Nat.reduceLeDiff, Nat.reduceLT, Int.reduceLE, Int.reduceLT, Int.reduceAdd, Int.reduceSub, Int.reduceToNat, Nat.reduceMul, rC]) ?_
    simp (maxSteps := 1000000) (disch := first | omega | (simp only [LL]; omega)) only [W, V, TY, CC, reduceIte, Nat.reduceEqDiff, Nat.reduceAdd, Nat.reduceLeDiff, Nat.reduceLT, Int.reduceLE, Int.reduceLT, Int.reduceAdd, Int.reduceSub, Int.reduceToNat, Nat.reduceMul, ratC]
    refine f_ret _ _ _ ?_
    simp (maxSteps := 1000000) (disch := first | omega | (simp only [LL]; omega)) only [W, V, TY, CC, reduceIte, Nat.reduceEqDiff, Nat.reduceAdd, Nat.reduceLeDiff, Nat.reduceLT, Int.reduceLE, Int.reduceLT, Int.reduceAdd, Int.reduceSub, Int.reduceToNat, Nat.reduceMul, ratC]
theorem F_Of : AFun Tryz.prog 9 [.agg (rC x), .agg (rC y)] [.agg (sQ (qmin x.q y.q) (qmax x.q y.q))] := by
  have n1 := F_lesser hx hy
  have n2 := F_greater hx hy
  refine afun_intro mo_ _ _ c9 k9 _ _ rfl (by decide) ?_
  unfold b9
  simp (maxSteps := 1000000) (disch := first | omega | (simp only [LL]; omega)) only [W, V, TY, CC, reduceIte, Nat.reduceEqDiff, Nat.reduceAdd, Nat.reduceLeDiff, Nat.reduceLT, Int.reduceLE, Int.reduceLT, Int.reduceAdd, Int.reduceSub, Int.reduceToNat, Nat.reduceMul, rC, sQ]
  refine a_call _ _ n1 (by simp (maxSteps := 1000000) (disch := first | omega | (simp only [LL]; omega)) only [W, V, TY, CC, reduceIte, Nat.reduceEqDiff, Nat.reduceAdd, Nat.reduceLeDiff, Nat.reduceLT, Int.reduceLE, Int.reduceLT, Int.reduceAdd, Int.reduceSub, Int.reduceToNat, Nat.reduceMul, rC, sQ, ratC]) ?_
  simp (maxSteps := 1000000) (disch := first | omega | (simp only [LL]; omega)) only [W, V, TY, CC, reduceIte, Nat.reduceEqDiff, Nat.reduceAdd, Nat.reduceLeDiff, Nat.reduceLT, Int.reduceLE, Int.reduceLT, Int.reduceAdd, Int.reduceSub, Int.reduceToNat, Nat.reduceMul, rC, sQ, ratC]
  refine a_call _ _ n2 (by simp (maxSteps := 1000000) (disch := first | omega | (simp only [LL]; omega)) only [W, V, TY, CC, reduceIte, Nat.reduceEqDiff, Nat.reduceAdd, Nat.reduceLeDiff, Nat.reduceLT, Int.reduceLE, Int.reduceLT, Int.reduceAdd, Int.reduceSub, Int.reduceToNat, Nat.reduceMul, rC, sQ, ratC]) ?_
  simp (maxSteps := 1000000) (disch := first | omega | (simp only [LL]; omega)) only [W, V, TY, CC, reduceIte, Nat.reduceEqDiff, Nat.reduceAdd, Nat.reduceLeDiff, Nat.reduceLT, Int.reduceLE, Int.reduceLT, Int.reduceAdd, Int.reduceSub, Int.reduceToNat, Nat.reduceMul, rC, sQ, ratC]
  refine f_ret _ _ _ ?_
  simp (maxSteps := 1000000) (disch := first | omega | (simp only [LL]; omega)) only [W, V, TY, CC, reduceIte, Nat.reduceEqDiff, Nat.reduceAdd, Nat.reduceLeDiff, Nat.reduceLT, Int.reduceLE, Int.reduceLT, Int.reduceAdd, Int.reduceSub, Int.reduceToNat, Nat.reduceMul, ratC]
theorem F_norm : AFun Tryz.prog 46 [.agg (rC x ++ rC y)] [.agg (sQ (qmin x.q y.q) (qmax x.q y.q))] := by
  have n1 := F_Of hx hy
  refine afun_intro mo_ _ _ c46 k46 _ _ rfl (by decide) ?_
  unfold b46
  simp (maxSteps := 1000000) (disch := first | omega | (simp only [LL]; omega)) only [W, V, TY, CC, reduceIte, Nat.reduceEqDiff, Nat.reduceAdd, Nat.reduceLeDiff, Nat.reduceLT, Int.reduceLE, Int.reduceLT, Int.reduceAdd, Int.reduceSub, Int.reduceToNat, Nat.reduceMul, rC, sQ]
  refine a_call _ _ n1 (by simp (maxSteps := 1000000) (disch := first | omega | (simp only [LL]; omega)) only [W, V, TY, CC, reduceIte, Nat.reduceEqDiff, Nat.reduceAdd, Nat.reduceLeDiff, Nat.reduceLT, Int.reduceLE, Int.reduceLT, Int.reduceAdd, Int.reduceSub, Int.reduceToNat, Nat.reduceMul, rC, sQ, ratC]) ?_
  simp (maxSteps := 1000000) (disch := first | omega | (simp only [LL]; omega)) only [W, V, TY, CC, reduceIte, Nat.reduceEqDiff, Nat.reduceAdd, Nat.reduceLeDiff, Nat.reduceLT, Int.reduceLE, Int.reduceLT, Int.reduceAdd, Int.reduceSub, Int.reduceToNat, Nat.reduceMul, rC, sQ, ratC]
  refine f_ret _ _ _ ?_
  simp (maxSteps := 1000000) (disch := first | omega | (simp only [LL]; omega)) only [W, V, TY, CC, reduceIte, Nat.reduceEqDiff, Nat.reduceAdd, Nat.reduceLeDiff, Nat.reduceLT, Int.reduceLE, Int.reduceLT, Int.reduceAdd, Int.reduceSub, Int.reduceToNat, Nat.reduceMul, ratC]
end
/-- of two numbers in lowest terms, in order -/
theorem F_Of2 {p q : Rat} (hp : qs p ≤ 68719476600) (hq : qs q ≤ 68719476600) (h : p ≤ q) : AFun Tryz.prog 9 [.agg (ratC p), .agg (ratC q)] [.agg (sQ p q)] := by
  have := F_Of (rok_nr hp) (rok_nr hq)
  simp only [nr_q, rC_nr, qmin_eq h, qmax_eq h] at this
  exact this
theorem F_lesser2 {p q : Rat} (hp : qs p ≤ 68719476600) (hq : qs q ≤ 68719476600) : AFun Tryz.prog 43 [.agg (ratC p), .agg (ratC q)] [.agg (ratC (qmin p q))] := by
  have := F_lesser (rok_nr hp) (rok_nr hq)
  simp only [nr_q, rC_nr] at this
  exact this
theorem F_greater2 {p q : Rat} (hp : qs p ≤ 68719476600) (hq : qs q ≤ 68719476600) : AFun Tryz.prog 44 [.agg (ratC p), .agg (ratC q)] [.agg (ratC (qmax p q))] := by
  have := F_greater (rok_nr hp) (rok_nr hq)
  simp only [nr_q, rC_nr] at this
  exact this
theorem F_Add2 {p q : Rat} (hp : qs p ≤ 68719476600) (hq : qs q ≤ 68719476600) : AFun Tryz.prog 47 [.agg (ratC p), .agg (ratC q)] [.agg (ratC (p + q))] := by
  have := F_Add (rok_nr hp) (rok_nr hq)
  simp only [nr_q, rC_nr] at this
  exact this
section
variable {x y u v : RR} (hx' : rok 1048576 x) (hy' : rok 1048576 y) (hu' : rok 1048576 u) (hv' : rok 1048576 v)
include hx' hy' hu' hv'
theorem F_SpanAdd : AFun Tryz.prog 11 [.agg (rC x ++ rC y), .agg (rC u ++ rC v)] [.agg (sQ (qmin x.q y.q + qmin u.q v.q) (qmax x.q y.q + qmax u.q v.q))] := by
  have qx := qs_rr hx'
  have qy := qs_rr hy'
  have qu := qs_rr hu'
  have qv := qs_rr hv'
  have q1 := qs_min qx qy
  have q2 := qs_max qx qy
  have q3 := qs_min qu qv
  have q4 := qs_max qu qv
  have n1 := F_norm (hx'.mono (b := 68719476600) (by decide)) (hy'.mono (b := 68719476600) (by decide))
  have n2 := F_norm (hu'.mono (b := 68719476600) (by decide)) (hv'.mono (b := 68719476600) (by decide))
  have a1 := F_Add2 (p := qmin x.q y.q) (q := qmin u.q v.q) (by omega) (by omega)
  have a2 := F_Add2 (p := qmax x.q y.q) (q := qmax u.q v.q) (by omega) (by omega)
  have le : qmin x.q y.q + qmin u.q v.q ≤ qmax x.q y.q + qmax u.q v.q := by
    have := qmin_le_qmax x.q y.q
    have := qmin_le_qmax u.q v.q
    grind
  have o1 := F_Of2 (Nat.le_trans (qs_add _ _) (by omega)) (Nat.le_trans (qs_add _ _) (by omega)) le
  refine afun_intro mo_ _ _ c11 k11 _ _ rfl (by decide) ?_
  unfold b11
  simp (maxSteps := 1000000) (disch := first | omega | (simp only [LL]; omega)) only [W, V, TY, CC, reduceIte, Nat.reduceEqDiff, Nat.reduceAdd, Nat.reduceLeDiff, Nat.reduceLT, Int.reduceLE, Int.reduceLT, Int.reduceAdd, Int.reduceSub, Int.reduceToNat, Nat.reduceMul, rC, sQ]
  refine a_call _ _ n1 (by simp (maxSteps := 1000000) (disch := first | omega | (simp only [LL]; omega)) only [W, V, TY, CC, reduceIte, Nat.reduceEqDiff, Nat.reduceAdd, Nat.reduceLeDiff, Nat.reduceLT, Int.reduceLE, Int.reduceLT, Int.reduceAdd, Int.reduceSub, Int.reduceToNat, Nat.reduceMul, rC, sQ, ratC]) ?_
  simp (maxSteps := 1000000) (disch := first | omega | (simp only [LL]; omega)) only [W, V, TY, CC, reduceIte, Nat.reduceEqDiff, Nat.reduceAdd, Nat.reduceLeDiff, Nat.reduceLT, Int.reduceLE, Int.reduceLT, Int.reduceAdd, Int.reduceSub, Int.reduceToNat, Nat.reduceMul, rC, sQ, ratC]
  refine a_call _ _ n2 (by simp (maxSteps := 1000000) (disch := first | omega | (simp only [LL]; omega)) only [W, V, TY, CC, reduceIte, Nat.reduceEqDiff, Nat.reduceAdd, Nat.reduceLeDiff, Nat.reduceLT, Int.reduceLE, Int.reduceLT, Int.reduceAdd, Int.reduceSub, Int.reduceToNat, Nat.reduceMul, rC, sQ, ratC]) ?_
  simp (maxSteps := 1000000) (disch := first | omega | (simp only [LL]; omega)) only [W, V, TY, CC, reduceIte, Nat.reduceEqDiff, Nat.reduceAdd, Nat.reduceLeDiff, Nat.reduceLT, Int.reduceLE, Int.reduceLT, Int.reduceAdd, Int.reduceSub, Int.reduceToNat, Nat.reduceMul, rC, sQ, ratC]
  refine a_call _ _ a1 (by simp (maxSteps := 1000000) (disch := first | omega | (simp only [LL]; omega)) only [W, V, TY, CC, reduceIte, Nat.reduceEqDiff, Nat.reduceAdd, Nat.reduceLeDiff, Nat.reduceLT, Int.reduceLE, Int.reduceLT, Int.reduceAdd, Int.reduceSub, Int.reduceToNat, Nat.reduceMul, rC, sQ, ratC]) ?_
  simp (maxSteps := 1000000) (disch := first | omega | (simp only [LL]; omega)) only [W, V, TY, CC, reduceIte, Nat.reduceEqDiff, Nat.reduceAdd, Nat.reduceLeDiff, Nat.reduceLT, Int.reduceLE, Int.reduceLT, Int.reduceAdd, Int.reduceSub, Int.reduceToNat, Nat.reduceMul, rC, sQ, ratC]
  refine a_call _ _ a2 (by simp (maxSteps := 1000000) (disch := first | omega | (simp only [LL]; omega)) only [W, V, TY, CC, reduceIte, Nat.reduceEqDiff, Nat.reduceAdd, Nat.reduceLeDiff, Nat.reduceLT, Int.reduceLE, Int.reduceLT, Int.reduceAdd, Int.reduceSub, Int.reduceToNat, Nat.reduceMul, rC, sQ, ratC]) ?_
  simp (maxSteps := 1000000) (disch := first | omega | (simp only [LL]; omega)) only [W, V, TY, CC, reduceIte, Nat.reduceEqDiff, Nat.reduceAdd, Nat.reduceLeDiff, Nat.reduceLT, Int.reduceLE, Int.reduceLT, Int.reduceAdd, Int.reduceSub, Int.reduceToNat, Nat.reduceMul, rC, sQ, ratC]
  refine a_call _ _ o1 (by simp (maxSteps := 1000000) (disch := first | omega | (simp only [LL]; omega)) only [W, V, TY, CC, reduceIte, Nat.reduceEqDiff, Nat.reduceAdd, Nat.reduceLeDiff, Nat.reduceLT, Int.reduceLE, Int.reduceLT, Int.reduceAdd, Int.reduceSub, Int.reduceToNat, Nat.reduceMul, rC, sQ, ratC]) ?_
  simp (maxSteps := 1000000) (disch := first | omega | (simp only [LL]; omega)) only [W, V, TY, CC, reduceIte, Nat.reduceEqDiff, Nat.reduceAdd, Nat.reduceLeDiff, Nat.reduceLT, Int.reduceLE, Int.reduceLT, Int.reduceAdd, Int.reduceSub, Int.reduceToNat, Nat.reduceMul, rC, sQ, ratC]
  refine f_ret _ _ _ ?_
  simp (maxSteps := 1000000) (disch := first | omega | (simp only [LL]; omega)) only [W, V, TY, CC, reduceIte, Nat.reduceEqDiff, Nat.reduceAdd, Nat.reduceLeDiff, Nat.reduceLT, Int.reduceLE, Int.reduceLT, Int.reduceAdd, Int.reduceSub, Int.reduceToNat, Nat.reduceMul, ratC]
theorem F_SpanSub : AFun Tryz.prog 13 [.agg (rC x ++ rC y), .agg (rC u ++ rC v)] [.agg (sQ (qmin x.q y.q - qmax u.q v.q) (qmax x.q y.q - qmin u.q v.q))] := by
  have qx := qs_rr hx'
  have qy := qs_rr hy'
  have qu := qs_rr hu'
  have qv := qs_rr hv'
  have q1 := qs_min qx qy
  have q2 := qs_max qx qy
  have q3 := qs_min qu qv
  have q4 := qs_max qu qv
  have n1 := F_norm (hx'.mono (b := 68719476600) (by decide)) (hy'.mono (b := 68719476600) (by decide))
  have n2 := F_norm (hu'.mono (b := 68719476600) (by decide)) (hv'.mono (b := 68719476600) (by decide))
  have a1 := rr_Sub2 (a := qmin x.q y.q) (b := qmax u.q v.q) (by omega) (by omega)
  have a2 := rr_Sub2 (a := qmax x.q y.q) (b := qmin u.q v.q) (by omega) (by omega)
  have le : qmin x.q y.q - qmax u.q v.q ≤ qmax x.q y.q - qmin u.q v.q := by
    have := qmin_le_qmax x.q y.q
    have := qmin_le_qmax u.q v.q
    grind
  have o1 := F_Of2 (Nat.le_trans (qs_sub _ _) (by omega)) (Nat.le_trans (qs_sub _ _) (by omega)) le
  refine afun_intro mo_ _ _ c13 k13 _ _ rfl (by decide) ?_
  unfold b13
  simp (maxSteps := 1000000) (disch := first | omega | (simp only [LL]; omega)) only [W, V, TY, CC, reduceIte, Nat.reduceEqDiff, Nat.reduceAdd, Nat.reduceLeDiff, Nat.reduceLT, Int.reduceLE, Int.reduceLT, Int.reduceAdd, Int.reduceSub, Int.reduceToNat, Nat.reduceMul, rC, sQ]
  refine a_call _ _ n1 (by simp (maxSteps := 1000000) (disch := first | omega | (simp only [LL]; omega)) only [W, V, TY, CC, reduceIte, Nat.reduceEqDiff, Nat.reduceAdd, Nat.reduceLeDiff, Nat.reduceLT, Int.reduceLE, Int.reduceLT, Int.reduceAdd, Int.reduceSub, Int.reduceToNat, Nat.reduceMul, rC, sQ, ratC]) ?_
  simp (maxSteps := 1000000) (disch := first | omega | (simp only [LL]; omega)) only [W, V, TY, CC, reduceIte, Nat.reduceEqDiff, Nat.reduceAdd, Nat.reduceLeDiff, Nat.reduceLT, Int.reduceLE, Int.reduceLT, Int.reduceAdd, Int.reduceSub, Int.reduceToNat, Nat.reduceMul, rC, sQ, ratC]
  refine a_call _ _ n2 (by simp (maxSteps := 1000000) (disch := first | omega | (simp only [LL]; omega)) only [W, V, TY, CC, reduceIte, Nat.reduceEqDiff, Nat.reduceAdd, Nat.reduceLeDiff, Nat.reduceLT, Int.reduceLE, Int.reduceLT, Int.reduceAdd, Int.reduceSub, Int.reduceToNat, Nat.reduceMul, rC, sQ, ratC]) ?_
  simp (maxSteps := 1000000) (disch := first | omega | (simp only [LL]; omega)) only [W, V, TY, CC, reduceIte, Nat.reduceEqDiff, Nat.reduceAdd, Nat.reduceLeDiff, Nat.reduceLT, Int.reduceLE, Int.reduceLT, Int.reduceAdd, Int.reduceSub, Int.reduceToNat, Nat.reduceMul, rC, sQ, ratC]
  refine a_call _ _ a1 (by simp (maxSteps := 1000000) (disch := first | omega | (simp only [LL]; omega)) only [W, V, TY, CC, reduceIte, Nat.reduceEqDiff, Nat.reduceAdd, Nat.reduceLeDiff, Nat.reduceLT, Int.reduceLE, Int.reduceLT, Int.reduceAdd, Int.reduceSub, Int.reduceToNat, Nat.reduceMul, rC, sQ, ratC]) ?_
  simp (maxSteps := 1000000) (disch := first | omega | (simp only [LL]; omega)) only [W, V, TY, CC, reduceIte, Nat.reduceEqDiff, Nat.reduceAdd, Nat.reduceLeDiff, Nat.reduceLT, Int.reduceLE, Int.reduceLT, Int.reduceAdd, Int.reduceSub, Int.reduceToNat, Nat.reduceMul, rC, sQ, ratC]
  refine a_call _ _ a2 (by simp (maxSteps := 1000000) (disch := first | omega | (simp only [LL]; omega)) only [W, V, TY, CC, reduceIte, Nat.reduceEqDiff, Nat.reduceAdd, Nat.reduceLeDiff, Nat.reduceLT, Int.reduceLE, Int.reduceLT, Int.reduceAdd, Int.reduceSub, Int.reduceToNat, Nat.reduceMul, rC, sQ, ratC]) ?_
  simp (maxSteps := 1000000) (disch := first | omega | (simp only [LL]; omega)) only [W, V, TY, CC, reduceIte, Nat.reduceEqDiff, Nat.reduceAdd, Nat.reduceLeDiff, Nat.reduceLT, Int.reduceLE, Int.reduceLT, Int.reduceAdd, Int.reduceSub, Int.reduceToNat, Nat.reduceMul, rC, sQ, ratC]
  refine a_call _ _ o1 (by simp (maxSteps := 1000000) (disch := first | omega | (simp only [LL]; omega)) only [W, V, TY, CC, reduceIte, Nat.reduceEqDiff, Nat.reduceAdd, Nat.reduceLeDiff, Nat.reduceLT, Int.reduceLE, Int.reduceLT, Int.reduceAdd, Int.reduceSub, Int.reduceToNat, Nat.reduceMul, rC, sQ, ratC]) ?_
  simp (maxSteps := 1000000) (disch := first | omega | (simp only [LL]; omega)) only [W, V, TY, CC, reduceIte, Nat.reduceEqDiff, Nat.reduceAdd, Nat.reduceLeDiff, Nat.reduceLT, Int.reduceLE, Int.reduceLT, Int.reduceAdd, Int.reduceSub, Int.reduceToNat, Nat.reduceMul, rC, sQ, ratC]
  refine f_ret _ _ _ ?_
  simp (maxSteps := 1000000) (disch := first | omega | (simp only [LL]; omega)) only [W, V, TY, CC, reduceIte, Nat.reduceEqDiff, Nat.reduceAdd, Nat.reduceLeDiff, Nat.reduceLT, Int.reduceLE, Int.reduceLT, Int.reduceAdd, Int.reduceSub, Int.reduceToNat, Nat.reduceMul, ratC]
theorem F_SpanMul : AFun Tryz.prog 15 [.agg (rC x ++ rC y), .agg (rC u ++ rC v)] [.agg (sQ (mlo x.q y.q u.q v.q) (mhi x.q y.q u.q v.q))] := by
  have qx := qs_rr hx'
  have qy := qs_rr hy'
  have qu := qs_rr hu'
  have qv := qs_rr hv'
  have hx := hx'.mono (b := 68719476600) (by decide)
  have hy := hy'.mono (b := 68719476600) (by decide)
  have hu := hu'.mono (b := 68719476600) (by decide)
  have hv := hv'.mono (b := 68719476600) (by decide)
  have p1 := F_Mul hx hu
  have p2 := F_Mul hx hv
  have p3 := F_Mul hy hu
  have p4 := F_Mul hy hv
  have e1 := qs_mul x.q u.q
  have e2 := qs_mul x.q v.q
  have e3 := qs_mul y.q u.q
  have e4 := qs_mul y.q v.q
  unfold mlo mhi
  rw [← m4_two, ← M4_two]
  generalize x.q * u.q = w1 at *
  generalize x.q * v.q = w2 at *
  generalize y.q * u.q = w3 at *
  generalize y.q * v.q = w4 at *
  have f1 : qs w1 ≤ 68719476600 := by omega
  have f2 : qs w2 ≤ 68719476600 := by omega
  have f3 : qs w3 ≤ 68719476600 := by omega
  have f4 : qs w4 ≤ 68719476600 := by omega
  have l1 := F_lesser2 f1 f2
  have l2 := F_lesser2 f3 f4
  have l3 := F_lesser2 (qs_min f1 f2) (qs_min f3 f4)
  have g1 := F_greater2 f1 f2
  have g2 := F_greater2 f3 f4
  have g3 := F_greater2 (qs_max f1 f2) (qs_max f3 f4)
  refine afun_intro mo_ _ _ c15 k15 _ _ rfl (by decide) ?_
  unfold b15
  simp (maxSteps := 1000000) (disch := first | omega | (simp only [LL]; omega)) only [W, V, TY, CC, reduceIte, Nat.reduceEqDiff, Nat.reduceAdd, Nat.reduceLeDiff, Nat.reduceLT, Int.reduceLE, Int.reduceLT, Int.reduceAdd, Int.reduceSub, Int.reduceToNat, Nat.reduceMul, rC, sQ]
  refine a_call _ _ p1 (by simp (maxSteps := 1000000) (disch := first | omega | (simp only [LL]; omega)) only [W, V, TY, CC, reduceIte, Nat.reduceEqDiff, Nat.reduceAdd, Nat.reduceLeDiff, Nat.reduceLT, Int.reduceLE, Int.reduceLT, Int.reduceAdd, Int.reduceSub, Int.reduceToNat, Nat.reduceMul, rC, sQ, ratC]) ?_
  simp (maxSteps := 1000000) (disch := first | omega | (simp only [LL]; omega)) only [W, V, TY, CC, reduceIte, Nat.reduceEqDiff, Nat.reduceAdd, Nat.reduceLeDiff, Nat.reduceLT, Int.reduceLE, Int.reduceLT, Int.reduceAdd, Int.reduceSub, Int.reduceToNat, Nat.reduceMul, rC, sQ, ratC]
  refine a_call _ _ p2 (by simp (maxSteps := 1000000) (disch := first | omega | (simp only [LL]; omega)) only [W, V, TY, CC, reduceIte, Nat.reduceEqDiff, Nat.reduceAdd, Nat.reduceLeDiff, Nat.reduceLT, Int.reduceLE, Int.reduceLT, Int.reduceAdd, Int.reduceSub, Int.reduceToNat, Nat.reduceMul, rC, sQ, ratC]) ?_
  simp (maxSteps := 1000000) (disch := first | omega | (simp only [LL]; omega)) only [W, V, TY, CC, reduceIte, Nat.reduceEqDiff, Nat.reduceAdd, Nat.reduceLeDiff, Nat.reduceLT, Int.reduceLE, Int.reduceLT, Int.reduceAdd, Int.reduceSub, Int.reduceToNat, Nat.reduceMul, rC, sQ, ratC]
  refine a_call _ _ p3 (by simp (maxSteps := 1000000) (disch := first | omega | (simp only [LL]; omega)) only [W, V, TY, CC, reduceIte, Nat.reduceEqDiff, Nat.reduceAdd, Nat.reduceLeDiff, Nat.reduceLT, Int.reduceLE, Int.reduceLT, Int.reduceAdd, Int.reduceSub, Int.reduceToNat, Nat.reduceMul, rC, sQ, ratC]) ?_
  simp (maxSteps := 1000000) (disch := first | omega | (simp only [LL]; omega)) only [W, V, TY, CC, reduceIte, Nat.reduceEqDiff, Nat.reduceAdd, Nat.reduceLeDiff, Nat.reduceLT, Int.reduceLE, Int.reduceLT, Int.reduceAdd, Int.reduceSub, Int.reduceToNat, Nat.reduceMul, rC, sQ, ratC]
  refine a_call _ _ p4 (by simp (maxSteps := 1000000) (disch := first | omega | (simp only [LL]; omega)) only [W, V, TY, CC, reduceIte, Nat.reduceEqDiff, Nat.reduceAdd, Nat.reduceLeDiff, Nat.reduceLT, Int.reduceLE, Int.reduceLT, Int.reduceAdd, Int.reduceSub, Int.reduceToNat, Nat.reduceMul, rC, sQ, ratC]) ?_
  simp (maxSteps := 1000000) (disch := first | omega | (simp only [LL]; omega)) only [W, V, TY, CC, reduceIte, Nat.reduceEqDiff, Nat.reduceAdd, Nat.reduceLeDiff, Nat.reduceLT, Int.reduceLE, Int.reduceLT, Int.reduceAdd, Int.reduceSub, Int.reduceToNat, Nat.reduceMul, rC, sQ, ratC]
  refine a_call _ _ l1 (by simp (maxSteps := 1000000) (disch := first | omega | (simp only [LL]; omega)) only [W, V, TY, CC, reduceIte, Nat.reduceEqDiff, Nat.reduceAdd, Nat.reduceLeDiff, Nat.reduceLT, Int.reduceLE, Int.reduceLT, Int.reduceAdd, Int.reduceSub, Int.reduceToNat, Nat.reduceMul, rC, sQ, ratC]) ?_
  simp (maxSteps := 1000000) (disch := first | omega | (simp only [LL]; omega)) only [W, V, TY, CC, reduceIte, Nat.reduceEqDiff, Nat.reduceAdd, Nat.reduceLeDiff, Nat.reduceLT, Int.reduceLE, Int.reduceLT, Int.reduceAdd, Int.reduceSub, Int.reduceToNat, Nat.reduceMul, rC, sQ, ratC]
  refine a_call _ _ l2 (by simp (maxSteps := 1000000) (disch := first | omega | (simp only [LL]; omega)) only [W, V, TY, CC, reduceIte, Nat.reduceEqDiff, Nat.reduceAdd, Nat.reduceLeDiff, Nat.reduceLT, Int.reduceLE, Int.reduceLT, Int.reduceAdd, Int.reduceSub, Int.reduceToNat, Nat.reduceMul, rC, sQ, ratC]) ?_
  simp (maxSteps := 1000000) (disch := first | omega | (simp only [LL]; omega)) only [W, V, TY, CC, reduceIte, Nat.reduceEqDiff, Nat.reduceAdd, Nat.reduceLeDiff, Nat.reduceLT, Int.reduceLE, Int.reduceLT, Int.reduceAdd, Int.reduceSub, Int.reduceToNat, Nat.reduceMul, rC, sQ, ratC]
  refine a_call _ _ l3 (by simp (maxSteps := 1000000) (disch := first | omega | (simp only [LL]; omega)) only [W, V, TY, CC, reduceIte, Nat.reduceEqDiff, Nat.reduceAdd, Nat.reduceLeDiff, Nat.reduceLT, Int.reduceLE, Int.reduceLT, Int.reduceAdd, Int.reduceSub, Int.reduceToNat, Nat.reduceMul, rC, sQ, ratC]) ?_
  simp (maxSteps := 1000000) (disch := first | omega | (simp only [LL]; omega)) only [W, V, TY, CC, reduceIte, Nat.reduceEqDiff, Nat.reduceAdd, Nat.reduceLeDiff, Nat.reduceLT, Int.reduceLE, Int.reduceLT, Int.reduceAdd, Int.reduceSub, Int.reduceToNat, Nat.reduceMul, rC, sQ, ratC]
  refine a_call _ _ g1 (by simp (maxSteps := 1000000) (disch := first | omega | (simp only [LL]; omega)) only [W, V, TY, CC, reduceIte, Nat.reduceEqDiff, Nat.reduceAdd, Nat.reduceLeDiff, Nat.reduceLT, Int.reduceLE, Int.reduceLT, Int.reduceAdd, Int.reduceSub, Int.reduceToNat, Nat.reduceMul, rC, sQ, ratC]) ?_
  simp (maxSteps := 1000000) (disch := first | omega | (simp only [LL]; omega)) only [W, V, TY, CC, reduceIte, Nat.reduceEqDiff, Nat.reduceAdd, Nat.reduceLeDiff, Nat.reduceLT, Int.reduceLE, Int.reduceLT, Int.reduceAdd, Int.reduceSub, Int.reduceToNat, Nat.reduceMul, rC, sQ, ratC]
  refine a_call _ _ g2 (by simp (maxSteps := 1000000) (disch := first | omega | (simp only [LL]; omega)) only [W, V, TY, CC, reduceIte, Nat.reduceEqDiff, Nat.reduceAdd, Nat.reduceLeDiff, Nat.reduceLT, Int.reduceLE, Int.reduceLT, Int.reduceAdd, Int.reduceSub, Int.reduceToNat, Nat.reduceMul, rC, sQ, ratC]) ?_
  simp (maxSteps := 1000000) (disch := first | omega | (simp only [LL]; omega)) only [W, V, TY, CC, reduceIte, Nat.reduceEqDiff, Nat.reduceAdd, Nat.reduceLeDiff, Nat.reduceLT, Int.reduceLE, Int.reduceLT, Int.reduceAdd, Int.reduceSub, Int.reduceToNat, Nat.reduceMul, rC, sQ, ratC]
  refine a_call _ _ g3 (by simp (maxSteps := 1000000) (disch := first | omega | (simp only [LL]; omega)) only [W, V, TY, CC, reduceIte, Nat.reduceEqDiff, Nat.reduceAdd, Nat.reduceLeDiff, Nat.reduceLT, Int.reduceLE, Int.reduceLT, Int.reduceAdd, Int.reduceSub, Int.reduceToNat, Nat.reduceMul, rC, sQ, ratC]) ?_
  simp (maxSteps := 1000000) (disch := first | omega | (simp only [LL]; omega)) only [W, V, TY, CC, reduceIte, Nat.reduceEqDiff, Nat.reduceAdd, Nat.reduceLeDiff, Nat.reduceLT, Int.reduceLE, Int.reduceLT, Int.reduceAdd, Int.reduceSub, Int.reduceToNat, Nat.reduceMul, rC, sQ, ratC]
  refine f_ret _ _ _ ?_
  simp (maxSteps := 1000000) (disch := first | omega | (simp only [LL]; omega)) only [W, V, TY, CC, reduceIte, Nat.reduceEqDiff, Nat.reduceAdd, Nat.reduceLeDiff, Nat.reduceLT, Int.reduceLE, Int.reduceLT, Int.reduceAdd, Int.reduceSub, Int.reduceToNat, Nat.reduceMul, ratC]
omit hv'
theorem F_SpanScale : AFun Tryz.prog 17 [.agg (rC x ++ rC y), .agg (rC u)] [.agg (sQ (qmin (x.q * u.q) (y.q * u.q)) (qmax (x.q * u.q) (y.q * u.q)))] := by
  have qx := qs_rr hx'
  have qy := qs_rr hy'
  have qu := qs_rr hu'
  have hx := hx'.mono (b := 68719476600) (by decide)
  have hy := hy'.mono (b := 68719476600) (by decide)
  have hu := hu'.mono (b := 68719476600) (by decide)
  have p1 := F_Mul hx hu
  have p2 := F_Mul hy hu
  have e1 := qs_mul x.q u.q
  have e2 := qs_mul y.q u.q
  have o1 := F_Of (rok_nr (k := 68719476600) (q := x.q * u.q) (by omega)) (rok_nr (k := 68719476600) (q := y.q * u.q) (by omega))
  simp only [nr_q, rC_nr] at o1
  refine afun_intro mo_ _ _ c17 k17 _ _ rfl (by decide) ?_
  unfold b17
  simp (maxSteps := 1000000) (disch := first | omega | (simp only [LL]; omega)) only [W, V, TY, CC, reduceIte, Nat.reduceEqDiff, Nat.reduceAdd, Nat.reduceLeDiff, Nat.reduceLT, Int.reduceLE, Int.reduceLT, Int.reduceAdd, Int.reduceSub, Int.reduceToNat, Nat.reduceMul, rC, sQ]
  refine a_call _ _ p1 (by simp (maxSteps := 1000000) (disch := first | omega | (simp only [LL]; omega)) only [W, V, TY, CC, reduceIte, Nat.reduceEqDiff, Nat.reduceAdd, Nat.reduceLeDiff, Nat.reduceLT, Int.reduceLE, Int.reduceLT, Int.reduceAdd, Int.reduceSub, Int.reduceToNat, Nat.reduceMul, rC, sQ, ratC]) ?_
  simp (maxSteps := 1000000) (disch := first | omega | (simp only [LL]; omega)) only [W, V, TY, CC, reduceIte, Nat.reduceEqDiff, Nat.reduceAdd, Nat.reduceLeDiff, Nat.reduceLT, Int.reduceLE, Int.reduceLT, Int.reduceAdd, Int.reduceSub, Int.reduceToNat, Nat.reduceMul, rC, sQ, ratC]
  refine a_call _ _ p2 (by simp (maxSteps := 1000000) (disch := first | omega | (simp only [LL]; omega)) only [W, V, TY, CC, reduceIte, Nat.reduceEqDiff, Nat.reduceAdd, Nat.reduceLeDiff, Nat.reduceLT, Int.reduceLE, Int.reduceLT, Int.reduceAdd, Int.reduceSub, Int.reduceToNat, Nat.reduceMul, rC, sQ, ratC]) ?_
  simp (maxSteps := 1000000) (disch := first | omega | (simp only [LL]; omega)) only [W, V, TY, CC, reduceIte, Nat.reduceEqDiff, Nat.reduceAdd, Nat.reduceLeDiff, Nat.reduceLT, Int.reduceLE, Int.reduceLT, Int.reduceAdd, Int.reduceSub, Int.reduceToNat, Nat.reduceMul, rC, sQ, ratC]
  refine a_call _ _ o1 (by simp (maxSteps := 1000000) (disch := first | omega | (simp only [LL]; omega)) only [W, V, TY, CC, reduceIte, Nat.reduceEqDiff, Nat.reduceAdd, Nat.reduceLeDiff, Nat.reduceLT, Int.reduceLE, Int.reduceLT, Int.reduceAdd, Int.reduceSub, Int.reduceToNat, Nat.reduceMul, rC, sQ, ratC]) ?_
  simp (maxSteps := 1000000) (disch := first | omega | (simp only [LL]; omega)) only [W, V, TY, CC, reduceIte, Nat.reduceEqDiff, Nat.reduceAdd, Nat.reduceLeDiff, Nat.reduceLT, Int.reduceLE, Int.reduceLT, Int.reduceAdd, Int.reduceSub, Int.reduceToNat, Nat.reduceMul, rC, sQ, ratC]
  refine f_ret _ _ _ ?_
  simp (maxSteps := 1000000) (disch := first | omega | (simp only [LL]; omega)) only [W, V, TY, CC, reduceIte, Nat.reduceEqDiff, Nat.reduceAdd, Nat.reduceLeDiff, Nat.reduceLT, Int.reduceLE, Int.reduceLT, Int.reduceAdd, Int.reduceSub, Int.reduceToNat, Nat.reduceMul, ratC]
end
end Go.Proofs.YtljmgdepldpmdaaGreatDoor.E

set_option linter.unusedSimpArgs false
set_option linter.unusedVariables false
set_option maxHeartbeats 2000000
namespace Go.Proofs.YtljmgdepldpmdaaGreatDoor.E
open Go.RowKit Limbs
/-- examboard/examboardlaw05.SpanArithmetic -/
def b3 : AF := ⟨56, 3, [.tmp 6],
  (.seq (.reg [
    ⟨some 3, .box 29 (.tmp 0), none⟩,
    ⟨some 4, .box 29 (.tmp 1), none⟩,
    ⟨some 5, .box 27 (.tmp 2), none⟩,
    ⟨some 6, .assign (.const (.bool false)), none⟩])
  (.seq (.seq (.dreg [
    ⟨some 7, .fieldAddr 29 (.tmp 3) 0, none⟩,
    ⟨some 8, .load 27 (.tmp 7), none⟩,
    ⟨some 9, .load 27 (.tmp 5), none⟩,
    ⟨some 10, .call ⟨(.value (.func 8)), #[(.tmp 8), (.tmp 9)], #[27, 27]⟩, none⟩,
    ⟨some 11, .fieldAddr 29 (.tmp 3) 0, none⟩,
    ⟨some 12, .load 27 (.tmp 11), none⟩,
    ⟨some 13, .load 27 (.tmp 5), none⟩,
    ⟨some 14, .call ⟨(.value (.func 9)), #[(.tmp 12), (.tmp 13)], #[27, 27]⟩, none⟩,
    ⟨some 15, .call ⟨(.value (.func 7)), #[(.tmp 10), (.tmp 14)], #[29, 29]⟩, none⟩,
    ⟨some 16, .unOp .not 4 (.tmp 15), none⟩,
    ⟨some 17, .move (.tmp 16), none⟩,
    ⟨some 18, .load 29 (.tmp 3), some (17, false)⟩,
    ⟨some 19, .load 29 (.tmp 4), some (17, false)⟩,
    ⟨some 20, .call ⟨(.value (.func 10)), #[(.tmp 18), (.tmp 19)], #[29, 29]⟩, some (17, false)⟩,
    ⟨some 21, .load 29 (.tmp 3), some (17, false)⟩,
    ⟨some 22, .load 29 (.tmp 4), some (17, false)⟩,
    ⟨some 23, .call ⟨(.value (.func 11)), #[(.tmp 21), (.tmp 22)], #[29, 29]⟩, some (17, false)⟩,
    ⟨some 24, .call ⟨(.value (.func 7)), #[(.tmp 20), (.tmp 23)], #[29, 29]⟩, some (17, false)⟩,
    ⟨some 25, .unOp .not 4 (.tmp 24), some (17, false)⟩,
    ⟨some 26, .pick (.tmp 17) (.const (.bool true)) (.tmp 25), none⟩,
    ⟨some 27, .move (.tmp 26), none⟩,
    ⟨some 28, .load 29 (.tmp 3), some (27, false)⟩,
    ⟨some 29, .load 29 (.tmp 4), some (27, false)⟩,
    ⟨some 30, .call ⟨(.value (.func 12)), #[(.tmp 28), (.tmp 29)], #[29, 29]⟩, some (27, false)⟩,
    ⟨some 31, .load 29 (.tmp 3), some (27, false)⟩,
    ⟨some 32, .load 29 (.tmp 4), some (27, false)⟩,
    ⟨some 33, .call ⟨(.value (.func 13)), #[(.tmp 31), (.tmp 32)], #[29, 29]⟩, some (27, false)⟩,
    ⟨some 34, .call ⟨(.value (.func 7)), #[(.tmp 30), (.tmp 33)], #[29, 29]⟩, some (27, false)⟩,
    ⟨some 35, .unOp .not 4 (.tmp 34), some (27, false)⟩,
    ⟨some 36, .pick (.tmp 27) (.const (.bool true)) (.tmp 35), none⟩])
  (.cond (.tmp 36)
    (.seq (.reg [
      ⟨some 6, .assign (.const (.bool false)), none⟩])
    .ret)
    .skip))
  (.seq (.dreg [
    ⟨some 37, .load 29 (.tmp 3), none⟩,
    ⟨some 38, .load 29 (.tmp 4), none⟩,
    ⟨some 39, .call ⟨(.value (.func 14)), #[(.tmp 37), (.tmp 38)], #[29, 29]⟩, none⟩,
    ⟨some 40, .load 29 (.tmp 3), none⟩,
    ⟨some 41, .load 29 (.tmp 4), none⟩,
    ⟨some 42, .call ⟨(.value (.func 15)), #[(.tmp 40), (.tmp 41)], #[29, 29]⟩, none⟩,
    ⟨some 43, .call ⟨(.value (.func 7)), #[(.tmp 39), (.tmp 42)], #[29, 29]⟩, none⟩,
    ⟨some 44, .move (.tmp 43), none⟩,
    ⟨some 45, .load 29 (.tmp 3), some (44, true)⟩,
    ⟨some 46, .load 27 (.tmp 5), some (44, true)⟩,
    ⟨some 47, .call ⟨(.value (.func 16)), #[(.tmp 45), (.tmp 46)], #[29, 27]⟩, some (44, true)⟩,
    ⟨some 48, .load 29 (.tmp 3), some (44, true)⟩,
    ⟨some 49, .load 27 (.tmp 5), some (44, true)⟩,
    ⟨some 50, .call ⟨(.value (.func 17)), #[(.tmp 48), (.tmp 49)], #[29, 27]⟩, some (44, true)⟩,
    ⟨some 51, .call ⟨(.value (.func 7)), #[(.tmp 47), (.tmp 50)], #[29, 29]⟩, some (44, true)⟩,
    ⟨some 52, .pick (.tmp 44) (.tmp 51) (.const (.bool false)), none⟩,
    ⟨some 53, .move (.tmp 52), none⟩,
    ⟨some 54, .call ⟨(.value (.func 18)), #[], #[]⟩, some (53, true)⟩,
    ⟨some 55, .pick (.tmp 53) (.tmp 54) (.const (.bool false)), none⟩,
    ⟨some 6, .assign (.tmp 55), none⟩])
  .ret)))⟩
theorem c3 : fcomp Tryz.prog 3 = ⟨b3.n, b3.np, b3.res, b3.body.bare⟩ := by kernel_rfl
theorem k3 : fok Tryz.prog 3 = true := by kernel_rfl
theorem l5_SpanArithmetic {x y u v r : RR} (hx' : rok 1048576 x) (hy' : rok 1048576 y) (hu' : rok 1048576 u) (hv' : rok 1048576 v) (hr' : rok 1048576 r) : AFun Tryz.prog 3 [.agg (rC x ++ rC y), .agg (rC u ++ rC v), .agg (rC r)] [.one (.lit (.bool true))] := by
  have hx := hx'.mono (b := 68719476600) (by decide)
  have hy := hy'.mono (b := 68719476600) (by decide)
  have hu := hu'.mono (b := 68719476600) (by decide)
  have hv := hv'.mono (b := 68719476600) (by decide)
  have hr := hr'.mono (b := 68719476600) (by decide)
  have qx := qs_rr hx'
  have qy := qs_rr hy'
  have qu := qs_rr hu'
  have qv := qs_rr hv'
  have qr := qs_rr hr'
  have q1 := qs_min qx qy
  have q2 := qs_max qx qy
  have q3 := qs_min qu qv
  have q4 := qs_max qu qv
  have q5 := qs_mul x.q r.q
  have q6 := qs_mul y.q r.q
  have q7 := qs_mul x.q u.q
  have q8 := qs_mul x.q v.q
  have q9 := qs_mul y.q u.q
  have q10 := qs_mul y.q v.q
  have o1 := S_Of hx hr
  have o2 := F_Of hx hr
  have o3 := l5_same (p := qmin x.q r.q) (q := qmax x.q r.q) (qs_min (by omega) (by omega)) (qs_max (by omega) (by omega))
  have a1 := S_Add hx hy hu hv
  have a2 := F_SpanAdd hx' hy' hu' hv'
  have a3 := l5_same (p := qmin x.q y.q + qmin u.q v.q) (q := qmax x.q y.q + qmax u.q v.q) (Nat.le_trans (qs_add _ _) (by omega)) (Nat.le_trans (qs_add _ _) (by omega))
  have d1 := S_Sub hx hy hu hv
  have d2 := F_SpanSub hx' hy' hu' hv'
  have d3 := l5_same (p := qmin x.q y.q - qmax u.q v.q) (q := qmax x.q y.q - qmin u.q v.q) (Nat.le_trans (qs_sub _ _) (by omega)) (Nat.le_trans (qs_sub _ _) (by omega))
  have m1 := S_Mul hx hy hu hv (by omega) (by omega) (by omega) (by omega)
  have m2 := F_SpanMul hx' hy' hu' hv'
  have m3 := l5_same (p := mlo x.q y.q u.q v.q) (q := mhi x.q y.q u.q v.q) (qs_min (qs_min (qs_min (by omega) (by omega)) (by omega)) (by omega)) (qs_max (qs_max (qs_max (by omega) (by omega)) (by omega)) (by omega))
  have s1 := S_Scale hx hy hr (by omega) (by omega)
  have s2 := F_SpanScale hx' hy' hr'
  have s3 := l5_same (p := qmin (x.q * r.q) (y.q * r.q)) (q := qmax (x.q * r.q) (y.q * r.q)) (qs_min (by omega) (by omega)) (qs_max (by omega) (by omega))
  refine afun_intro mo_ _ _ c3 k3 _ _ rfl (by decide) ?_
  unfold b3
  simp (maxSteps := 1000000) (disch := first | omega | (simp only [LL]; omega)) only [W, V, TY, CC, reduceIte, Nat.reduceEqDiff, Nat.reduceAdd, Nat.reduceLeDiff, Nat.reduceLT, Int.reduceLE, Int.reduceLT, Int.reduceAdd, Int.reduceSub, Int.reduceToNat, Nat.reduceMul, rC]
  refine a_call _ _ o1 (by simp (maxSteps := 1000000) (disch := first | omega | (simp only [LL]; omega)) only [W, V, TY, CC, reduceIte, Nat.reduceEqDiff, Nat.reduceAdd, Nat.reduceLeDiff, Nat.reduceLT, Int.reduceLE, Int.reduceLT, Int.reduceAdd, Int.reduceSub, Int.reduceToNat, Nat.reduceMul, rC, sQ, ratC]) ?_
  simp (maxSteps := 1000000) (disch := first | omega | (simp only [LL]; omega)) only [W, V, TY, CC, reduceIte, Nat.reduceEqDiff, Nat.reduceAdd, Nat.reduceLeDiff, Nat.reduceLT, Int.reduceLE, Int.reduceLT, Int.reduceAdd, Int.reduceSub, Int.reduceToNat, Nat.reduceMul, rC, sQ, ratC]
  refine a_call _ _ o2 (by simp (maxSteps := 1000000) (disch := first | omega | (simp only [LL]; omega)) only [W, V, TY, CC, reduceIte, Nat.reduceEqDiff, Nat.reduceAdd, Nat.reduceLeDiff, Nat.reduceLT, Int.reduceLE, Int.reduceLT, Int.reduceAdd, Int.reduceSub, Int.reduceToNat, Nat.reduceMul, rC, sQ, ratC]) ?_
  simp (maxSteps := 1000000) (disch := first | omega | (simp only [LL]; omega)) only [W, V, TY, CC, reduceIte, Nat.reduceEqDiff, Nat.reduceAdd, Nat.reduceLeDiff, Nat.reduceLT, Int.reduceLE, Int.reduceLT, Int.reduceAdd, Int.reduceSub, Int.reduceToNat, Nat.reduceMul, rC, sQ, ratC]
  refine a_call _ _ o3 (by simp (maxSteps := 1000000) (disch := first | omega | (simp only [LL]; omega)) only [W, V, TY, CC, reduceIte, Nat.reduceEqDiff, Nat.reduceAdd, Nat.reduceLeDiff, Nat.reduceLT, Int.reduceLE, Int.reduceLT, Int.reduceAdd, Int.reduceSub, Int.reduceToNat, Nat.reduceMul, rC, sQ, ratC]) ?_
  simp (maxSteps := 1000000) (disch := first | omega | (simp only [LL]; omega)) only [W, V, TY, CC, reduceIte, Nat.reduceEqDiff, Nat.reduceAdd, Nat.reduceLeDiff, Nat.reduceLT, Int.reduceLE, Int.reduceLT, Int.reduceAdd, Int.reduceSub, Int.reduceToNat, Nat.reduceMul, rC, sQ, ratC]
  refine a_call _ _ a1 (by simp (maxSteps := 1000000) (disch := first | omega | (simp only [LL]; omega)) only [W, V, TY, CC, reduceIte, Nat.reduceEqDiff, Nat.reduceAdd, Nat.reduceLeDiff, Nat.reduceLT, Int.reduceLE, Int.reduceLT, Int.reduceAdd, Int.reduceSub, Int.reduceToNat, Nat.reduceMul, rC, sQ, ratC]) ?_
  simp (maxSteps := 1000000) (disch := first | omega | (simp only [LL]; omega)) only [W, V, TY, CC, reduceIte, Nat.reduceEqDiff, Nat.reduceAdd, Nat.reduceLeDiff, Nat.reduceLT, Int.reduceLE, Int.reduceLT, Int.reduceAdd, Int.reduceSub, Int.reduceToNat, Nat.reduceMul, rC, sQ, ratC]
  refine a_call _ _ a2 (by simp (maxSteps := 1000000) (disch := first | omega | (simp only [LL]; omega)) only [W, V, TY, CC, reduceIte, Nat.reduceEqDiff, Nat.reduceAdd, Nat.reduceLeDiff, Nat.reduceLT, Int.reduceLE, Int.reduceLT, Int.reduceAdd, Int.reduceSub, Int.reduceToNat, Nat.reduceMul, rC, sQ, ratC]) ?_
  simp (maxSteps := 1000000) (disch := first | omega | (simp only [LL]; omega)) only [W, V, TY, CC, reduceIte, Nat.reduceEqDiff, Nat.reduceAdd, Nat.reduceLeDiff, Nat.reduceLT, Int.reduceLE, Int.reduceLT, Int.reduceAdd, Int.reduceSub, Int.reduceToNat, Nat.reduceMul, rC, sQ, ratC]
  refine a_call _ _ a3 (by simp (maxSteps := 1000000) (disch := first | omega | (simp only [LL]; omega)) only [W, V, TY, CC, reduceIte, Nat.reduceEqDiff, Nat.reduceAdd, Nat.reduceLeDiff, Nat.reduceLT, Int.reduceLE, Int.reduceLT, Int.reduceAdd, Int.reduceSub, Int.reduceToNat, Nat.reduceMul, rC, sQ, ratC]) ?_
  simp (maxSteps := 1000000) (disch := first | omega | (simp only [LL]; omega)) only [W, V, TY, CC, reduceIte, Nat.reduceEqDiff, Nat.reduceAdd, Nat.reduceLeDiff, Nat.reduceLT, Int.reduceLE, Int.reduceLT, Int.reduceAdd, Int.reduceSub, Int.reduceToNat, Nat.reduceMul, rC, sQ, ratC]
  refine a_call _ _ d1 (by simp (maxSteps := 1000000) (disch := first | omega | (simp only [LL]; omega)) only [W, V, TY, CC, reduceIte, Nat.reduceEqDiff, Nat.reduceAdd, Nat.reduceLeDiff, Nat.reduceLT, Int.reduceLE, Int.reduceLT, Int.reduceAdd, Int.reduceSub, Int.reduceToNat, Nat.reduceMul, rC, sQ, ratC]) ?_
  simp (maxSteps := 1000000) (disch := first | omega | (simp only [LL]; omega)) only [W, V, TY, CC, reduceIte, Nat.reduceEqDiff, Nat.reduceAdd, Nat.reduceLeDiff, Nat.reduceLT, Int.reduceLE, Int.reduceLT, Int.reduceAdd, Int.reduceSub, Int.reduceToNat, Nat.reduceMul, rC, sQ, ratC]
  refine a_call _ _ d2 (by simp (maxSteps := 1000000) (disch := first | omega | (simp only [LL]; omega)) only [W, V, TY, CC, reduceIte, Nat.reduceEqDiff, Nat.reduceAdd, Nat.reduceLeDiff, Nat.reduceLT, Int.reduceLE, Int.reduceLT, Int.reduceAdd, Int.reduceSub, Int.reduceToNat, Nat.reduceMul, rC, sQ, ratC]) ?_
  simp (maxSteps := 1000000) (disch := first | omega | (simp only [LL]; omega)) only [W, V, TY, CC, reduceIte, Nat.reduceEqDiff, Nat.reduceAdd, Nat.reduceLeDiff, Nat.reduceLT, Int.reduceLE, Int.reduceLT, Int.reduceAdd, Int.reduceSub, Int.reduceToNat, Nat.reduceMul, rC, sQ, ratC]
  refine a_call _ _ d3 (by simp (maxSteps := 1000000) (disch := first | omega | (simp only [LL]; omega)) only [W, V, TY, CC, reduceIte, Nat.reduceEqDiff, Nat.reduceAdd, Nat.reduceLeDiff, Nat.reduceLT, Int.reduceLE, Int.reduceLT, Int.reduceAdd, Int.reduceSub, Int.reduceToNat, Nat.reduceMul, rC, sQ, ratC]) ?_
  simp (maxSteps := 1000000) (disch := first | omega | (simp only [LL]; omega)) only [W, V, TY, CC, reduceIte, Nat.reduceEqDiff, Nat.reduceAdd, Nat.reduceLeDiff, Nat.reduceLT, Int.reduceLE, Int.reduceLT, Int.reduceAdd, Int.reduceSub, Int.reduceToNat, Nat.reduceMul, rC, sQ, ratC]
  refine a_call _ _ m1 (by simp (maxSteps := 1000000) (disch := first | omega | (simp only [LL]; omega)) only [W, V, TY, CC, reduceIte, Nat.reduceEqDiff, Nat.reduceAdd, Nat.reduceLeDiff, Nat.reduceLT, Int.reduceLE, Int.reduceLT, Int.reduceAdd, Int.reduceSub, Int.reduceToNat, Nat.reduceMul, rC, sQ, ratC]) ?_
  simp (maxSteps := 1000000) (disch := first | omega | (simp only [LL]; omega)) only [W, V, TY, CC, reduceIte, Nat.reduceEqDiff, Nat.reduceAdd, Nat.reduceLeDiff, Nat.reduceLT, Int.reduceLE, Int.reduceLT, Int.reduceAdd, Int.reduceSub, Int.reduceToNat, Nat.reduceMul, rC, sQ, ratC]
  refine a_call _ _ m2 (by simp (maxSteps := 1000000) (disch := first | omega | (simp only [LL]; omega)) only [W, V, TY, CC, reduceIte, Nat.reduceEqDiff, Nat.reduceAdd, Nat.reduceLeDiff, Nat.reduceLT, Int.reduceLE, Int.reduceLT, Int.reduceAdd, Int.reduceSub, Int.reduceToNat, Nat.reduceMul, rC, sQ, ratC]) ?_
  simp (maxSteps := 1000000) (disch := first | omega | (simp only [LL]; omega)) only [W, V, TY, CC, reduceIte, Nat.reduceEqDiff, Nat.reduceAdd, Nat.reduceLeDiff, Nat.reduceLT, Int.reduceLE, Int.reduceLT, Int.reduceAdd, Int.reduceSub, Int.reduceToNat, Nat.reduceMul, rC, sQ, ratC]
  refine a_call _ _ m3 (by simp (maxSteps := 1000000) (disch := first | omega | (simp only [LL]; omega)) only [W, V, TY, CC, reduceIte, Nat.reduceEqDiff, Nat.reduceAdd, Nat.reduceLeDiff, Nat.reduceLT, Int.reduceLE, Int.reduceLT, Int.reduceAdd, Int.reduceSub, Int.reduceToNat, Nat.reduceMul, rC, sQ, ratC]) ?_
  simp (maxSteps := 1000000) (disch := first | omega | (simp only [LL]; omega)) only [W, V, TY, CC, reduceIte, Nat.reduceEqDiff, Nat.reduceAdd, Nat.reduceLeDiff, Nat.reduceLT, Int.reduceLE, Int.reduceLT, Int.reduceAdd, Int.reduceSub, Int.reduceToNat, Nat.reduceMul, rC, sQ, ratC]
  refine a_call _ _ s1 (by simp (maxSteps := 1000000) (disch := first | omega | (simp only [LL]; omega)) only [W, V, TY, CC, reduceIte, Nat.reduceEqDiff, Nat.reduceAdd, Nat.reduceLeDiff, Nat.reduceLT, Int.reduceLE, Int.reduceLT, Int.reduceAdd, Int.reduceSub, Int.reduceToNat, Nat.reduceMul, rC, sQ, ratC]) ?_
  simp (maxSteps := 1000000) (disch := first | omega | (simp only [LL]; omega)) only [W, V, TY, CC, reduceIte, Nat.reduceEqDiff, Nat.reduceAdd, Nat.reduceLeDiff, Nat.reduceLT, Int.reduceLE, Int.reduceLT, Int.reduceAdd, Int.reduceSub, Int.reduceToNat, Nat.reduceMul, rC, sQ, ratC]
  refine a_call _ _ s2 (by simp (maxSteps := 1000000) (disch := first | omega | (simp only [LL]; omega)) only [W, V, TY, CC, reduceIte, Nat.reduceEqDiff, Nat.reduceAdd, Nat.reduceLeDiff, Nat.reduceLT, Int.reduceLE, Int.reduceLT, Int.reduceAdd, Int.reduceSub, Int.reduceToNat, Nat.reduceMul, rC, sQ, ratC]) ?_
  simp (maxSteps := 1000000) (disch := first | omega | (simp only [LL]; omega)) only [W, V, TY, CC, reduceIte, Nat.reduceEqDiff, Nat.reduceAdd, Nat.reduceLeDiff, Nat.reduceLT, Int.reduceLE, Int.reduceLT, Int.reduceAdd, Int.reduceSub, Int.reduceToNat, Nat.reduceMul, rC, sQ, ratC]
  refine a_call _ _ s3 (by simp (maxSteps := 1000000) (disch := first | omega | (simp only [LL]; omega)) only [W, V, TY, CC, reduceIte, Nat.reduceEqDiff, Nat.reduceAdd, Nat.reduceLeDiff, Nat.reduceLT, Int.reduceLE, Int.reduceLT, Int.reduceAdd, Int.reduceSub, Int.reduceToNat, Nat.reduceMul, rC, sQ, ratC]) ?_
  simp (maxSteps := 1000000) (disch := first | omega | (simp only [LL]; omega)) only [W, V, TY, CC, reduceIte, Nat.reduceEqDiff, Nat.reduceAdd, Nat.reduceLeDiff, Nat.reduceLT, Int.reduceLE, Int.reduceLT, Int.reduceAdd, Int.reduceSub, Int.reduceToNat, Nat.reduceMul, rC, sQ, ratC]
  refine a_call _ _ l5_awake (by simp (maxSteps := 1000000) (disch := first | omega | (simp only [LL]; omega)) only [W, V, TY, CC, reduceIte, Nat.reduceEqDiff, Nat.reduceAdd, Nat.reduceLeDiff, Nat.reduceLT, Int.reduceLE, Int.reduceLT, Int.reduceAdd, Int.reduceSub, Int.reduceToNat, Nat.reduceMul, rC, sQ, ratC]) ?_
  simp (maxSteps := 1000000) (disch := first | omega | (simp only [LL]; omega)) only [W, V, TY, CC, reduceIte, Nat.reduceEqDiff, Nat.reduceAdd, Nat.reduceLeDiff, Nat.reduceLT, Int.reduceLE, Int.reduceLT, Int.reduceAdd, Int.reduceSub, Int.reduceToNat, Nat.reduceMul, rC, sQ, ratC]
  refine f_ret _ _ _ ?_
  simp (maxSteps := 1000000) (disch := first | omega | (simp only [LL]; omega)) only [W, V, TY, CC, reduceIte, Nat.reduceEqDiff, Nat.reduceAdd, Nat.reduceLeDiff, Nat.reduceLT, Int.reduceLE, Int.reduceLT, Int.reduceAdd, Int.reduceSub, Int.reduceToNat, Nat.reduceMul]
end Go.Proofs.YtljmgdepldpmdaaGreatDoor.E

set_option linter.unusedSimpArgs false
set_option linter.unusedVariables false
set_option maxHeartbeats 2000000
namespace Go.Proofs.YtljmgdepldpmdaaGreatDoor.E
open Go.RowKit Go.ChangeShapes Go.WideShapes Go.Deep Limbs
section
variable {H : Type}
theorem bk_one (d : DataW H) : 1 ≤ Rows.uptoBulk d := by
  cases d with
  | lit l => cases l <;> simp [Rows.uptoBulk]
  | nil => simp [Rows.uptoBulk]
  | ptr d => simp [Rows.uptoBulk]
  | slice elems spare => simp [Rows.uptoBulk]
  | agg parts => simp [Rows.uptoBulk]
  | iface t d => simp [Rows.uptoBulk]
  | map entries => simp [Rows.uptoBulk]
  | held h => simp [Rows.uptoBulk]
theorem bk_part {d : DataW H} {l : List (DataW H)} (h : d ∈ l) : Rows.uptoBulk d ≤ Rows.uptoBulkAll l := by
  induction l with
  | nil => cases h
  | cons x r ih =>
    simp only [Rows.uptoBulkAll]
    cases List.mem_cons.1 h with
    | inl e => subst e; omega
    | inr e => have := ih e; omega
theorem bk_len (l : List (DataW H)) : l.length ≤ Rows.uptoBulkAll l := by
  induction l with
  | nil => simp [Rows.uptoBulkAll]
  | cons x r ih => have := bk_one x; simp only [Rows.uptoBulkAll, List.length_cons]; omega
variable {enc : TypeId × Value → H} {P : Program} {w : World} {base : Nat} {sp : Nat → Bool} {hd : Bool}
/-- a slice of one-cell elements -/
theorem rdB_slice {α : Type} [Inhabited α] (g : α → Dt) (Good : α → DataW H → Prop) {t e : TypeId} (ht : P.underlying t = some (.slice e)) (hc : P.cellsOf e = 1)
    (hel : ∀ n V D Pl, DataW.trod enc P w base sp hd n e [V] = some (D, Pl) → ∃ x, Good x D ∧ Rep w (fun k => k < w.heap.size) (g x) V) {fuel : Nat} {cs : List Value} {y : DataW H × List MemPlace}
    (h : DataW.trod enc P w base sp hd fuel t cs = some y) : ∃ l : List α, (∀ x ∈ l, ∃ D, Good x D ∧ Rows.uptoBulk D + 1 ≤ Rows.uptoBulk y.1) ∧ l.length + 1 ≤ Rows.uptoBulk y.1 ∧ ∃ v, cs = [v] ∧ Rep w (fun k => k < w.heap.size) (rowD (fun x => [g x]) l) v := by
  rcases open_slice1 ht hc h with ⟨rfl, rfl⟩ | ⟨a, len, cap, m, n, V, D, Pl, rfl, _, hl, _, hm, rfl, hx⟩
  · exact ⟨[], fun x hx => by simp at hx, by simp [Rows.uptoBulk], _, rfl, .sl none 0 0 [] [] rfl (Nat.le_refl _) (fun j u hj => by simp at hj) (fun j u d hj => by simp at hj)⟩
  · have hle : len ≤ m := by rw [hm]; split <;> omega
    obtain ⟨X, hX⟩ := choose_lt (n := len) (α := α) (p := fun i x => Good x (D i) ∧ Rep w (fun k => k < w.heap.size) (g x) (V i)) (fun i hi => hel n _ _ _ (hx i (by omega)).2)
    refine ⟨(List.range len).map X, fun x hxm => ?_, ?_, _, rfl, ?_⟩
    · obtain ⟨i, hi, rfl⟩ := List.mem_map.1 hxm
      refine ⟨D i, (hX i (by simpa using hi)).1, ?_⟩
      have := bk_part (d := D i) (l := (List.range len).map D) (List.mem_map.2 ⟨i, hi, rfl⟩)
      show Rows.uptoBulk (D i) + 1 ≤ Rows.uptoBulk (.slice _ _)
      simp only [Rows.uptoBulk]
      omega
    · have := bk_len ((List.range len).map D)
      show _ ≤ Rows.uptoBulk (.slice _ _)
      simp only [Rows.uptoBulk, List.length_map, List.length_range] at *
      omega
    · have hr : rowD (fun x => [g x]) ((List.range len).map X) = .sl len ((List.range len).map fun i => g (X i)) := by
        unfold rowD rowC
        congr 1
        · simp
        · rw [List.flatMap_map]
          induction List.range len with
          | nil => rfl
          | cons i l ih => simp only [List.flatMap_cons, List.map_cons, ih]; rfl
      rw [hr]
      refine .sl (some a) len cap _ ((List.range len).map V) (by simp) hl (fun j u hj => ?_) (fun j u d hj hd' => ?_)
      · rw [List.getElem?_map] at hj
        cases hq : (List.range len)[j]? with
        | none => rw [hq] at hj; simp at hj
        | some i =>
          rw [hq] at hj
          obtain ⟨hlt, hi⟩ := List.getElem?_eq_some_iff.1 hq
          simp only [List.length_range] at hlt
          simp only [List.getElem_range] at hi
          subst hi
          simp only [Option.map_some, Option.some.injEq] at hj
          subst hj
          have := (hx j (by omega)).1
          exact ⟨a, rfl, cell_block this, this⟩
      · rw [List.getElem?_map] at hj hd'
        cases hq : (List.range len)[j]? with
        | none => rw [hq] at hj; simp at hj
        | some i =>
          rw [hq] at hj hd'
          obtain ⟨hlt, hi⟩ := List.getElem?_eq_some_iff.1 hq
          simp only [List.length_range] at hlt
          simp only [Option.map_some, Option.some.injEq] at hj hd'
          subst hj; subst hd'
          have : i < len := by simp at hi; omega
          exact (hX i this).2
theorem rdB_nat {t e : TypeId} (ht : P.underlying t = some (.slice e)) (he : P.underlying e = some (.int .u32)) (hc : P.cellsOf e = 1) {fuel : Nat} {cs : List Value} {y : DataW H × List MemPlace}
    (h : DataW.trod enc P w base sp hd fuel t cs = some y) : ∃ l : List Int, Lim l ∧ l.length + 1 ≤ Rows.uptoBulk y.1 ∧ ∃ v, cs = [v] ∧ Rep w (fun k => k < w.heap.size) (natD l) v := by
  obtain ⟨l, h1, h2, h3⟩ := rdB_slice (fun n => .lit (.int .u32 n)) (fun x _ => 0 ≤ x ∧ x < 4294967296) ht hc (fun n V D Pl hV => by
    obtain ⟨x, hx, _, hw⟩ := DataW.trod_int he hV
    cases hx
    have := bounds_u32 hw
    exact ⟨x, ⟨this.1, by omega⟩, .lit _ rfl⟩) h
  exact ⟨l, fun x hx => by obtain ⟨_, h, _⟩ := h1 x hx; exact h, h2, h3⟩
/-- the types of a rational number -/
structure RatTy (P : Program) (t : TypeId) : Prop where
  ex : ∃ (tI tN tB e : TypeId) (f0 f1 g0 g1 : Field), P.underlying t = some (.struct #[f0, f1]) ∧ (f0.type = tI ∧ f0.offset = 0) ∧ (f1.type = tN ∧ f1.offset = 2) ∧ P.cellsOf t = 3 ∧ P.cellsOf tI = 2 ∧
    P.underlying tI = some (.struct #[g0, g1]) ∧ (g0.type = tB ∧ g0.offset = 0) ∧ (g1.type = tN ∧ g1.offset = 1) ∧ P.underlying tB = some .bool ∧ P.cellsOf tB = 1 ∧ P.cellsOf tN = 1 ∧
    P.underlying tN = some (.slice e) ∧ P.underlying e = some (.int .u32) ∧ P.cellsOf e = 1
/-- a rational number, as it was handed over -/
theorem rdB_ratio {t : TypeId} (hty : RatTy P t) {fuel : Nat} {cs : List Value} {y : DataW H × List MemPlace}
    (h : DataW.trod enc P w base sp hd fuel t cs = some y) : ∃ x : RR, rok (Rows.uptoBulk y.1) x ∧ Fits (Rep w (fun k => k < w.heap.size)) (rC x) cs := by
  obtain ⟨tI, tN, tB, e, f0, f1, g0, g1, ht, h0, h1, hct, hcI, hI, i0, i1, hB, hcB, hcN, hs, he, hc⟩ := hty.ex
  obtain ⟨y0, y1, k, hy, hl, k0, k1⟩ := trod_struct2 ht h
  rw [h0.1, h0.2, hcI] at k0
  rw [h1.1, h1.2, hcN] at k1
  obtain ⟨z0, z1, k', hz, hl', l0, l1⟩ := trod_struct2 hI k0
  rw [i0.1, i0.2, hcB] at l0
  rw [i1.1, i1.2, hcN] at l1
  obtain ⟨n, e0, hz0⟩ := DataW.trod_bool hB l0
  obtain ⟨m, hm, bm, v1, e1, r1⟩ := rdB_nat hs he hc l1
  obtain ⟨q, hq, bq, v2, e2, r2⟩ := rdB_nat hs he hc k1
  have hb : Rows.uptoBulk y.1 = Rows.uptoBulk z0.1 + Rows.uptoBulk z1.1 + 1 + Rows.uptoBulk y1.1 + 1 := by
    rw [hy, hz]
    simp only [Rows.uptoBulk, Rows.uptoBulkAll]
    omega
  refine ⟨⟨n, m, q⟩, ⟨hm, hq, by show m.length ≤ _; omega, by show q.length ≤ _; omega⟩, ?_⟩
  rw [hct] at hl
  match cs, hl with
  | [u0, u1, u2], _ =>
    simp at e0 e1 e2
    subst e0; subst e1; subst e2
    exact Fits.cons (.lit _ rfl) (Fits.cons r1 (Fits.cons r2 (Fits.nil _)))
/-- two rational numbers side by side -/
theorem rdB_pair {t tR : TypeId} {f0 f1 : Field} (ht : P.underlying t = some (.struct #[f0, f1])) (h0 : f0.type = tR ∧ f0.offset = 0) (h1 : f1.type = tR ∧ f1.offset = 3) (hct : P.cellsOf t = 6) (hcR : P.cellsOf tR = 3) (hty : RatTy P tR) {fuel : Nat} {cs : List Value} {y : DataW H × List MemPlace}
    (h : DataW.trod enc P w base sp hd fuel t cs = some y) : ∃ x z : RR, rok (Rows.uptoBulk y.1) x ∧ rok (Rows.uptoBulk y.1) z ∧ Fits (Rep w (fun k => k < w.heap.size)) (rC x ++ rC z) cs := by
  obtain ⟨y0, y1, k, hy, hl, k0, k1⟩ := trod_struct2 ht h
  rw [h0.1, h0.2, hcR] at k0
  rw [h1.1, h1.2, hcR] at k1
  obtain ⟨x, hx, rx⟩ := rdB_ratio hty k0
  obtain ⟨z, hz, rz⟩ := rdB_ratio hty k1
  have hb : Rows.uptoBulk y.1 = Rows.uptoBulk y0.1 + Rows.uptoBulk y1.1 + 1 := by
    rw [hy]
    simp only [Rows.uptoBulk, Rows.uptoBulkAll]
    omega
  refine ⟨x, z, hx.mono (by omega), hz.mono (by omega), ?_⟩
  have := rx.append rz
  rw [hct] at hl
  match cs, hl with
  | [u0, u1, u2, u3, u4, u5], _ => exact this
theorem rdV_ratio {t : TypeId} (hty : RatTy P t) {r : Reach} {b0 : Nat} {v : Value} {d : DataW H} {ps : List MemPlace} (hval : Value.okWide P w r b0 t v) (h : DataW.Trod enc P w base sp hd t v d ps) :
    ∃ x : RR, rok (Rows.uptoBulk d) x ∧ MR w (fun k => k < w.heap.size) (.agg (rC x)) v := by
  obtain ⟨tI, tN, tB, e, f0, f1, g0, g1, ht, _⟩ := hty.ex
  obtain ⟨cs, rfl, hsz⟩ := okWide_struct ht hval
  obtain ⟨fuel, hf⟩ := h
  obtain ⟨x, hx, hr⟩ := rdB_ratio hty hf
  exact ⟨x, hx, cs.toList, by simp, hr⟩
theorem rdV_pair {t tR : TypeId} {f0 f1 : Field} (ht : P.underlying t = some (.struct #[f0, f1])) (h0 : f0.type = tR ∧ f0.offset = 0) (h1 : f1.type = tR ∧ f1.offset = 3) (hct : P.cellsOf t = 6) (hcR : P.cellsOf tR = 3) (hty : RatTy P tR) {r : Reach} {b0 : Nat} {v : Value} {d : DataW H} {ps : List MemPlace} (hval : Value.okWide P w r b0 t v) (h : DataW.Trod enc P w base sp hd t v d ps) :
    ∃ x z : RR, rok (Rows.uptoBulk d) x ∧ rok (Rows.uptoBulk d) z ∧ MR w (fun k => k < w.heap.size) (.agg (rC x ++ rC z)) v := by
  obtain ⟨cs, rfl, hsz⟩ := okWide_struct ht hval
  obtain ⟨fuel, hf⟩ := h
  obtain ⟨x, z, hx, hz, hr⟩ := rdB_pair ht h0 h1 hct hcR hty hf
  exact ⟨x, z, hx, hz, cs.toList, by simp, hr⟩
end
end Go.Proofs.YtljmgdepldpmdaaGreatDoor.E
