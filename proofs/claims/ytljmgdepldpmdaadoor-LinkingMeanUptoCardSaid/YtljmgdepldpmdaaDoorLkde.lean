/- An abstract interpreter over data, and contracts of the program's functions, part 5; no condition. -/
import Derived.Test.YtljmgdepldpmdaaDoorRows
import Derived.Test.YtljmgdepldpmdaaDoorLkdd
set_option linter.unusedSimpArgs false
set_option linter.unusedVariables false
set_option maxHeartbeats 2000000
namespace Go.Proofs.YtljmgdepldpmdaaDoor.E
open Go.RowKit Limbs
theorem qs_inv (q : Rat) : qs (1 / q) ≤ qs q + 1 := by
  rw [Rat.div_def, Rat.one_mul, Rat.inv_def]
  have h1 := qs_div (q.den : Int) q.num
  have h2 := zl_nat q.den
  have h3 := qs_den q
  have h4 : zl q.num ≤ qs q := qs_num q
  omega
/-- examboard/examboardref45.Same -/
def b34 : AF := ⟨17, 2, [.tmp 4],
  (.seq (.reg [
    ⟨some 2, .box 53 (.tmp 0), none⟩,
    ⟨some 3, .box 53 (.tmp 1), none⟩,
    ⟨some 4, .assign (.const (.bool false)), none⟩])
  (.seq (.reg [
    ⟨some 5, .fieldAddr 53 (.tmp 2) 0, none⟩,
    ⟨some 6, .load 27 (.tmp 5), none⟩,
    ⟨some 7, .fieldAddr 53 (.tmp 3) 0, none⟩,
    ⟨some 8, .load 27 (.tmp 7), none⟩,
    ⟨some 9, .call ⟨(.value (.func 58)), #[(.tmp 6), (.tmp 8)], #[27, 27]⟩, none⟩,
    ⟨some 10, .move (.tmp 9), none⟩,
    ⟨some 11, .fieldAddr 53 (.tmp 2) 1, some (10, true)⟩,
    ⟨some 12, .load 27 (.tmp 11), some (10, true)⟩,
    ⟨some 13, .fieldAddr 53 (.tmp 3) 1, some (10, true)⟩,
    ⟨some 14, .load 27 (.tmp 13), some (10, true)⟩,
    ⟨some 15, .call ⟨(.value (.func 58)), #[(.tmp 12), (.tmp 14)], #[27, 27]⟩, some (10, true)⟩,
    ⟨some 16, .pick (.tmp 10) (.tmp 15) (.const (.bool false)), none⟩,
    ⟨some 4, .assign (.tmp 16), none⟩])
  .ret))⟩
theorem c34 : fcomp Tryd.prog 34 = ⟨b34.n, b34.np, b34.res, b34.body.bare⟩ := by kernel_rfl
theorem k34 : fok Tryd.prog 34 = true := by kernel_rfl
theorem f_Same {p q : Rat} (hp : qs p ≤ 68719476600) (hq : qs q ≤ 68719476600) : AFun Tryd.prog 34 [.agg (sQ p q), .agg (sQ p q)] [.one (.lit (.bool true))] := by
  have c1 := f4_SameRatio hp
  have c2 := f4_SameRatio hq
  refine afun_intro mo_ _ _ c34 k34 _ _ rfl (by decide) ?_
  unfold b34
  simp (maxSteps:=1000000) (disch:=first | omega | (simp only [LL];omega)) only [W,V,TY,CC,reduceIte,Nat.reduceEqDiff,Nat.reduceAdd,Nat.reduceLeDiff,Nat.reduceLT,Int.reduceLE,Int.reduceLT,Int.reduceAdd,Int.reduceSub,Int.reduceToNat,Nat.reduceMul,sQ,ratC]
  refine a_call _ _ c1 (by simp (maxSteps:=1000000) (disch:=first | omega | (simp only [LL];omega)) only [W,V,TY,CC,reduceIte,Nat.reduceEqDiff,Nat.reduceAdd,Nat.reduceLeDiff,Nat.reduceLT,Int.reduceLE,Int.reduceLT,Int.reduceAdd,Int.reduceSub,Int.reduceToNat,Nat.reduceMul,rC,sQ,ratC]) ?_
  simp (maxSteps:=1000000) (disch:=first | omega | (simp only [LL];omega)) only [W,V,TY,CC,reduceIte,Nat.reduceEqDiff,Nat.reduceAdd,Nat.reduceLeDiff,Nat.reduceLT,Int.reduceLE,Int.reduceLT,Int.reduceAdd,Int.reduceSub,Int.reduceToNat,Nat.reduceMul,rC,sQ,ratC]
  refine a_call _ _ c2 (by simp (maxSteps:=1000000) (disch:=first | omega | (simp only [LL];omega)) only [W,V,TY,CC,reduceIte,Nat.reduceEqDiff,Nat.reduceAdd,Nat.reduceLeDiff,Nat.reduceLT,Int.reduceLE,Int.reduceLT,Int.reduceAdd,Int.reduceSub,Int.reduceToNat,Nat.reduceMul,rC,sQ,ratC]) ?_
  simp (maxSteps:=1000000) (disch:=first | omega | (simp only [LL];omega)) only [W,V,TY,CC,reduceIte,Nat.reduceEqDiff,Nat.reduceAdd,Nat.reduceLeDiff,Nat.reduceLT,Int.reduceLE,Int.reduceLT,Int.reduceAdd,Int.reduceSub,Int.reduceToNat,Nat.reduceMul,rC,sQ,ratC]
  refine f_ret _ _ _ ?_
  simp (maxSteps:=1000000) (disch:=first | omega | (simp only [LL];omega)) only [W,V,TY,CC,reduceIte,Nat.reduceEqDiff,Nat.reduceAdd,Nat.reduceLeDiff,Nat.reduceLT,Int.reduceLE,Int.reduceLT,Int.reduceAdd,Int.reduceSub,Int.reduceToNat,Nat.reduceMul,rC,sQ,ratC]
theorem cmpQ_self (q : Rat) : cmpQ q q = 0 := (cmpQ_eq q q).2 rfl
/-- contracts with numbers in lowest terms -/
theorem k_Apply2 {p q z : Rat} (hp : qs p ≤ 10000000000) (hq : qs q ≤ 10000000000) (hz : qs z ≤ 10000000000) : AFun Tryd.prog 33 [.agg (sQ p q), .agg (ratC z)] [.agg (ratC (p * z + q))] := by
  have qm := qs_mul p z
  have := k_Apply (rok_nr (k := 68719476600) (q := p) (by omega)) (rok_nr (k := 68719476600) (q := q) (by omega)) (rok_nr (k := 68719476600) (q := z) (by omega)) (by rw [nr_q, nr_q]; omega)
  simp only [nr_q, rC_nr] at this
  exact this
theorem k_Apply3 {p q : Rat} {x : RR} (hp : qs p ≤ 10000000000) (hq : qs q ≤ 10000000000) (hx : rok 68719476600 x) (hz : qs x.q ≤ 10000000000) : AFun Tryd.prog 33 [.agg (sQ p q), .agg (rC x)] [.agg (ratC (p * x.q + q))] := by
  have qm := qs_mul p x.q
  have := k_Apply (rok_nr (k := 68719476600) (q := p) (by omega)) (rok_nr (k := 68719476600) (q := q) (by omega)) hx (by rw [nr_q]; omega)
  simp only [nr_q, rC_nr] at this
  exact this
theorem k_Apply4 {A B : RR} {z : Rat} (hA : rok 68719476600 A) (hB : rok 68719476600 B) (qA : qs A.q ≤ 10000000000) (hz : qs z ≤ 10000000000) : AFun Tryd.prog 33 [.agg (rC A ++ rC B), .agg (ratC z)] [.agg (ratC (A.q * z + B.q))] := by
  have qm := qs_mul A.q z
  have := k_Apply hA hB (rok_nr (k := 68719476600) (q := z) (by omega)) (by rw [nr_q]; omega)
  simp only [nr_q, rC_nr] at this
  exact this
theorem k_Compose2 {p q u v : Rat} (hp : qs p ≤ 10000000000) (hq : qs q ≤ 10000000000) (hu : qs u ≤ 10000000000) (hv : qs v ≤ 10000000000) : AFun Tryd.prog 32 [.agg (sQ p q), .agg (sQ u v)] [.agg (sQ (p * u) (u * q + v))] := by
  have qm := qs_mul u q
  have := k_Compose (rok_nr (k := 68719476600) (q := p) (by omega)) (rok_nr (k := 68719476600) (q := q) (by omega)) (rok_nr (k := 68719476600) (q := u) (by omega)) (rok_nr (k := 68719476600) (q := v) (by omega)) (by rw [nr_q, nr_q]; omega)
  simp only [nr_q, rC_nr] at this
  exact this
theorem k_Compose3 {p q : Rat} {A B : RR} (hp : qs p ≤ 10000000000) (hq : qs q ≤ 10000000000) (hA : rok 68719476600 A) (hB : rok 68719476600 B) (qA : qs A.q ≤ 10000000000) : AFun Tryd.prog 32 [.agg (sQ p q), .agg (rC A ++ rC B)] [.agg (sQ (p * A.q) (A.q * q + B.q))] := by
  have qm := qs_mul A.q q
  have := k_Compose (rok_nr (k := 68719476600) (q := p) (by omega)) (rok_nr (k := 68719476600) (q := q) (by omega)) hA hB (by rw [nr_q]; omega)
  simp only [nr_q, rC_nr] at this
  exact this
theorem k_Compose4 {A B : RR} {p q : Rat} (hA : rok 68719476600 A) (hB : rok 68719476600 B) (qB : qs B.q ≤ 10000000000) (hp : qs p ≤ 10000000000) (hq : qs q ≤ 10000000000) : AFun Tryd.prog 32 [.agg (rC A ++ rC B), .agg (sQ p q)] [.agg (sQ (A.q * p) (p * B.q + q))] := by
  have qm := qs_mul p B.q
  have := k_Compose hA hB (rok_nr (k := 68719476600) (q := p) (by omega)) (rok_nr (k := 68719476600) (q := q) (by omega)) (by rw [nr_q]; omega)
  simp only [nr_q, rC_nr] at this
  exact this
theorem k_Valid2 {p q : Rat} (hp : qs p ≤ 10000000000) : AFun Tryd.prog 36 [.agg (sQ p q)] [.one (.lit (.bool (decide (0 < p))))] := by
  have := k_Valid (B := nr q) (rok_nr (k := 68719476600) (q := p) (by omega))
  simp only [nr_q, rC_nr] at this
  exact this
theorem k_Invert2 {p q : Rat} (hp : qs p ≤ 1000000000) (hq : qs q ≤ 1000000000) (h0 : 0 < p) : AFun Tryd.prog 35 [.agg (sQ p q)] [.agg (sQ (1 / p) (-(1 / p * q))), .one (.lit (.int .i64 0))] := by
  have qi := qs_inv p
  have qm := qs_mul (1 / p) q
  have := k_Invert (rok_nr (k := 68719476600) (q := p) (by omega)) (rok_nr (k := 68719476600) (q := q) (by omega)) (by rw [nr_q]; exact h0) (by rw [nr_q]; omega) (by rw [nr_q, nr_q]; omega)
  simp only [nr_q, rC_nr] at this
  exact this
/-- examboard/examboardlaw45.LinkingInverse -/
def b7 : AF := ⟨96, 4, [.tmp 8],
  (.seq (.reg [
    ⟨some 4, .box 53 (.tmp 0), none⟩,
    ⟨some 5, .box 53 (.tmp 1), none⟩,
    ⟨some 6, .box 53 (.tmp 2), none⟩,
    ⟨some 7, .box 27 (.tmp 3), none⟩,
    ⟨some 8, .assign (.const (.bool false)), none⟩])
  (.seq (.reg [
    ⟨some 13, .load 53 (.tmp 4), none⟩,
    ⟨some 14, .load 53 (.tmp 5), none⟩,
    ⟨some 15, .call ⟨(.value (.func 32)), #[(.tmp 13), (.tmp 14)], #[53, 53]⟩, none⟩,
    ⟨some 9, .alloc 53, none⟩,
    ⟨none, .store 53 (.tmp 9) (.tmp 15), none⟩])
  (.seq (.seq (.dreg [
    ⟨some 16, .load 53 (.tmp 9), none⟩,
    ⟨some 17, .load 27 (.tmp 7), none⟩,
    ⟨some 18, .call ⟨(.value (.func 33)), #[(.tmp 16), (.tmp 17)], #[53, 27]⟩, none⟩,
    ⟨some 19, .load 53 (.tmp 5), none⟩,
    ⟨some 20, .load 53 (.tmp 4), none⟩,
    ⟨some 21, .load 27 (.tmp 7), none⟩,
    ⟨some 22, .call ⟨(.value (.func 33)), #[(.tmp 20), (.tmp 21)], #[53, 27]⟩, none⟩,
    ⟨some 23, .call ⟨(.value (.func 33)), #[(.tmp 19), (.tmp 22)], #[53, 27]⟩, none⟩,
    ⟨some 24, .call ⟨(.value (.func 23)), #[(.tmp 18), (.tmp 23)], #[27, 27]⟩, none⟩,
    ⟨some 25, .binOp .neq 3 (.tmp 24) (.const (.int .i64 0)) 3, none⟩])
  (.cond (.tmp 25)
    (.seq (.reg [
      ⟨some 8, .assign (.const (.bool false)), none⟩])
    .ret)
    .skip))
  (.seq (.seq (.dreg [
    ⟨some 26, .load 53 (.tmp 9), none⟩,
    ⟨some 27, .load 53 (.tmp 6), none⟩,
    ⟨some 28, .call ⟨(.value (.func 32)), #[(.tmp 26), (.tmp 27)], #[53, 53]⟩, none⟩,
    ⟨some 29, .load 53 (.tmp 4), none⟩,
    ⟨some 30, .load 53 (.tmp 5), none⟩,
    ⟨some 31, .load 53 (.tmp 6), none⟩,
    ⟨some 32, .call ⟨(.value (.func 32)), #[(.tmp 30), (.tmp 31)], #[53, 53]⟩, none⟩,
    ⟨some 33, .call ⟨(.value (.func 32)), #[(.tmp 29), (.tmp 32)], #[53, 53]⟩, none⟩,
    ⟨some 34, .call ⟨(.value (.func 34)), #[(.tmp 28), (.tmp 33)], #[53, 53]⟩, none⟩,
    ⟨some 35, .unOp .not 4 (.tmp 34), none⟩])
  (.cond (.tmp 35)
    (.seq (.reg [
      ⟨some 8, .assign (.const (.bool false)), none⟩])
    .ret)
    .skip))
  (.seq (.reg [
    ⟨some 37, .load 53 (.tmp 4), none⟩,
    ⟨some 38, .call ⟨(.value (.func 35)), #[(.tmp 37)], #[53]⟩, none⟩,
    ⟨some 36, .move (.tmp 38), none⟩,
    ⟨some 39, .extract (.tmp 36) 0, none⟩,
    ⟨some 40, .extract (.tmp 36) 1, none⟩,
    ⟨some 10, .alloc 53, none⟩,
    ⟨none, .store 53 (.tmp 10) (.tmp 39), none⟩,
    ⟨some 11, .assign (.tmp 40), none⟩])
  (.seq (.seq (.reg [
    ⟨some 41, .move (.tmp 11), none⟩,
    ⟨some 42, .binOp .neq 57 (.tmp 41) (.const (.int .i64 0)) 57, none⟩])
  (.cond (.tmp 42)
    (.seq (.reg [
      ⟨some 43, .move (.tmp 11), none⟩,
      ⟨some 44, .binOp .eql 57 (.tmp 43) (.const (.int .i64 1)) 57, none⟩,
      ⟨some 45, .move (.tmp 44), none⟩,
      ⟨some 46, .load 53 (.tmp 4), some (45, true)⟩,
      ⟨some 47, .call ⟨(.value (.func 36)), #[(.tmp 46)], #[53]⟩, some (45, true)⟩,
      ⟨some 48, .unOp .not 4 (.tmp 47), some (45, true)⟩,
      ⟨some 49, .pick (.tmp 45) (.tmp 48) (.const (.bool false)), none⟩,
      ⟨some 50, .move (.tmp 49), none⟩,
      ⟨some 51, .call ⟨(.value (.func 37)), #[], #[]⟩, some (50, true)⟩,
      ⟨some 52, .pick (.tmp 50) (.tmp 51) (.const (.bool false)), none⟩,
      ⟨some 8, .assign (.tmp 52), none⟩])
    .ret)
    .skip))
  (.seq (.reg [
    ⟨some 54, .load 53 (.tmp 10), none⟩,
    ⟨some 55, .call ⟨(.value (.func 35)), #[(.tmp 54)], #[53]⟩, none⟩,
    ⟨some 53, .move (.tmp 55), none⟩,
    ⟨some 56, .extract (.tmp 53) 0, none⟩,
    ⟨some 57, .extract (.tmp 53) 1, none⟩,
    ⟨some 12, .alloc 53, none⟩,
    ⟨none, .store 53 (.tmp 12) (.tmp 56), none⟩,
    ⟨some 11, .assign (.tmp 57), none⟩])
  (.seq (.dreg [
    ⟨some 58, .move (.tmp 11), none⟩,
    ⟨some 59, .binOp .eql 57 (.tmp 58) (.const (.int .i64 0)) 57, none⟩,
    ⟨some 60, .move (.tmp 59), none⟩,
    ⟨some 61, .load 53 (.tmp 10), some (60, true)⟩,
    ⟨some 62, .call ⟨(.value (.func 36)), #[(.tmp 61)], #[53]⟩, some (60, true)⟩,
    ⟨some 63, .pick (.tmp 60) (.tmp 62) (.const (.bool false)), none⟩,
    ⟨some 64, .move (.tmp 63), none⟩,
    ⟨some 65, .load 53 (.tmp 12), some (64, true)⟩,
    ⟨some 66, .load 53 (.tmp 10), some (64, true)⟩,
    ⟨some 67, .call ⟨(.value (.func 32)), #[(.tmp 65), (.tmp 66)], #[53, 53]⟩, some (64, true)⟩,
    ⟨some 68, .load 53 (.tmp 10), some (64, true)⟩,
    ⟨some 69, .load 53 (.tmp 4), some (64, true)⟩,
    ⟨some 70, .call ⟨(.value (.func 32)), #[(.tmp 68), (.tmp 69)], #[53, 53]⟩, some (64, true)⟩,
    ⟨some 71, .call ⟨(.value (.func 34)), #[(.tmp 67), (.tmp 70)], #[53, 53]⟩, some (64, true)⟩,
    ⟨some 72, .pick (.tmp 64) (.tmp 71) (.const (.bool false)), none⟩,
    ⟨some 73, .move (.tmp 72), none⟩,
    ⟨some 74, .load 53 (.tmp 10), some (73, true)⟩,
    ⟨some 75, .load 53 (.tmp 4), some (73, true)⟩,
    ⟨some 76, .load 27 (.tmp 7), some (73, true)⟩,
    ⟨some 77, .call ⟨(.value (.func 33)), #[(.tmp 75), (.tmp 76)], #[53, 27]⟩, some (73, true)⟩,
    ⟨some 78, .call ⟨(.value (.func 33)), #[(.tmp 74), (.tmp 77)], #[53, 27]⟩, some (73, true)⟩,
    ⟨some 79, .load 27 (.tmp 7), some (73, true)⟩,
    ⟨some 80, .call ⟨(.value (.func 23)), #[(.tmp 78), (.tmp 79)], #[27, 27]⟩, some (73, true)⟩,
    ⟨some 81, .binOp .eql 3 (.tmp 80) (.const (.int .i64 0)) 3, some (73, true)⟩,
    ⟨some 82, .pick (.tmp 73) (.tmp 81) (.const (.bool false)), none⟩,
    ⟨some 83, .move (.tmp 82), none⟩,
    ⟨some 84, .load 53 (.tmp 4), some (83, true)⟩,
    ⟨some 85, .load 53 (.tmp 10), some (83, true)⟩,
    ⟨some 86, .load 27 (.tmp 7), some (83, true)⟩,
    ⟨some 87, .call ⟨(.value (.func 33)), #[(.tmp 85), (.tmp 86)], #[53, 27]⟩, some (83, true)⟩,
    ⟨some 88, .call ⟨(.value (.func 33)), #[(.tmp 84), (.tmp 87)], #[53, 27]⟩, some (83, true)⟩,
    ⟨some 89, .load 27 (.tmp 7), some (83, true)⟩,
    ⟨some 90, .call ⟨(.value (.func 23)), #[(.tmp 88), (.tmp 89)], #[27, 27]⟩, some (83, true)⟩,
    ⟨some 91, .binOp .eql 3 (.tmp 90) (.const (.int .i64 0)) 3, some (83, true)⟩,
    ⟨some 92, .pick (.tmp 83) (.tmp 91) (.const (.bool false)), none⟩,
    ⟨some 93, .move (.tmp 92), none⟩,
    ⟨some 94, .call ⟨(.value (.func 37)), #[], #[]⟩, some (93, true)⟩,
    ⟨some 95, .pick (.tmp 93) (.tmp 94) (.const (.bool false)), none⟩,
    ⟨some 8, .assign (.tmp 95), none⟩])
  .ret))))))))⟩
theorem c7 : fcomp Tryd.prog 7 = ⟨b7.n, b7.np, b7.res, b7.body.bare⟩ := by kernel_rfl
theorem k7 : fok Tryd.prog 7 = true := by kernel_rfl
set_option maxHeartbeats 8000000 in
theorem l45_LinkingInverse {A B C D E G X : RR} (hA' : rok 1048576 A) (hB' : rok 1048576 B) (hC' : rok 1048576 C) (hD' : rok 1048576 D) (hE' : rok 1048576 E) (hG' : rok 1048576 G) (hX' : rok 1048576 X) : AFun Tryd.prog 7 [.agg (rC A ++ rC B), .agg (rC C ++ rC D), .agg (rC E ++ rC G), .agg (rC X)] [.one (.lit (.bool true))] := by
  have hA := hA'.mono (b := 68719476600) (by decide)
  have qA := qs_rr hA'
  have hB := hB'.mono (b := 68719476600) (by decide)
  have qB := qs_rr hB'
  have hC := hC'.mono (b := 68719476600) (by decide)
  have qC := qs_rr hC'
  have hD := hD'.mono (b := 68719476600) (by decide)
  have qD := qs_rr hD'
  have hE := hE'.mono (b := 68719476600) (by decide)
  have qE := qs_rr hE'
  have hG := hG'.mono (b := 68719476600) (by decide)
  have qG := qs_rr hG'
  have hX := hX'.mono (b := 68719476600) (by decide)
  have qX := qs_rr hX'
  have q1 := qs_mul A.q C.q
  have q2 := qs_mul C.q B.q
  have q3 := qs_add (C.q * B.q) D.q
  have q4 := qs_mul A.q X.q
  have q5 := qs_add (A.q * X.q) B.q
  have q6 := qs_mul C.q E.q
  have q7 := qs_mul E.q D.q
  have q8 := qs_add (E.q * D.q) G.q
  have q9 := qs_mul (A.q * C.q) X.q
  have q10 := qs_add (A.q * C.q * X.q) (C.q * B.q + D.q)
  have q11 := qs_mul (A.q * C.q) E.q
  have q12 := qs_mul E.q (C.q * B.q + D.q)
  have q13 := qs_add (E.q * (C.q * B.q + D.q)) G.q
  have cab := k_Compose hA hB hC hD (by omega)
  have aax := k_Apply hA hB hX (by omega)
  have abx := k_Apply4 hC hD (z := A.q * X.q + B.q) (by omega) (by omega)
  have abo := k_Apply3 (p := A.q * C.q) (q := C.q * B.q + D.q) (by omega) (by omega) hX (by omega)
  have e1 : C.q * (A.q * X.q + B.q) + D.q = A.q * C.q * X.q + (C.q * B.q + D.q) := by grind
  rw [e1] at abx
  have cp := rat_Cmp2 (a := A.q * C.q * X.q + (C.q * B.q + D.q)) (b := A.q * C.q * X.q + (C.q * B.q + D.q)) (by omega) (by omega)
  rw [cmpQ_self] at cp
  have cbc := k_Compose3 (p := A.q * C.q) (q := C.q * B.q + D.q) (by omega) (by omega) hE hG (by omega)
  have cdc := k_Compose hC hD hE hG (by omega)
  have cac := k_Compose4 hA hB (by omega) (p := C.q * E.q) (q := E.q * D.q + G.q) (by omega) (by omega)
  have e2 : A.q * (C.q * E.q) = A.q * C.q * E.q := by grind
  have e3 : C.q * E.q * B.q + (E.q * D.q + G.q) = E.q * (C.q * B.q + D.q) + G.q := by grind
  rw [e2, e3] at cac
  have sm := f_Same (p := A.q * C.q * E.q) (q := E.q * (C.q * B.q + D.q) + G.q) (by omega) (by omega)
  by_cases hp : 0 < A.q
  case neg =>
    have n10 : ¬ (1 : Int) = 0 := by decide
    have iv := k_InvertBad (B := B) hA hp
    have va := k_Valid (B := B) hA
    rw [decide_eq_false hp] at va
    generalize A.q * C.q * X.q + (C.q * B.q + D.q) = w1 at *
    generalize E.q * (C.q * B.q + D.q) + G.q = w2 at *
    generalize A.q * C.q * E.q = w3 at *
    refine afun_intro mo_ _ _ c7 k7 _ _ rfl (by decide) ?_
    unfold b7
    simp (maxSteps:=1000000) (disch:=first | omega | (simp only [LL];omega)) only [W,V,TY,CC,reduceIte,Nat.reduceEqDiff,Nat.reduceAdd,Nat.reduceLeDiff,Nat.reduceLT,Int.reduceLE,Int.reduceLT,Int.reduceAdd,Int.reduceSub,Int.reduceToNat,Nat.reduceMul,rC]
    refine a_call _ _ cab (by simp (maxSteps:=1000000) (disch:=first | omega | (simp only [LL];omega)) only [W,V,TY,CC,reduceIte,Nat.reduceEqDiff,Nat.reduceAdd,Nat.reduceLeDiff,Nat.reduceLT,Int.reduceLE,Int.reduceLT,Int.reduceAdd,Int.reduceSub,Int.reduceToNat,Nat.reduceMul,rC,sQ,ratC,eq_self,not_true_eq_false,decide_false,decide_true,beq_self_eq_true,Bool.not_true,zS,n10,not_false_eq_true,Bool.not_false]) ?_
    simp (maxSteps:=1000000) (disch:=first | omega | (simp only [LL];omega)) only [W,V,TY,CC,reduceIte,Nat.reduceEqDiff,Nat.reduceAdd,Nat.reduceLeDiff,Nat.reduceLT,Int.reduceLE,Int.reduceLT,Int.reduceAdd,Int.reduceSub,Int.reduceToNat,Nat.reduceMul,rC,sQ,ratC,eq_self,not_true_eq_false,decide_false,decide_true,beq_self_eq_true,Bool.not_true,zS,n10,not_false_eq_true,Bool.not_false]
    refine a_call _ _ abo (by simp (maxSteps:=1000000) (disch:=first | omega | (simp only [LL];omega)) only [W,V,TY,CC,reduceIte,Nat.reduceEqDiff,Nat.reduceAdd,Nat.reduceLeDiff,Nat.reduceLT,Int.reduceLE,Int.reduceLT,Int.reduceAdd,Int.reduceSub,Int.reduceToNat,Nat.reduceMul,rC,sQ,ratC,eq_self,not_true_eq_false,decide_false,decide_true,beq_self_eq_true,Bool.not_true,zS,n10,not_false_eq_true,Bool.not_false]) ?_
    simp (maxSteps:=1000000) (disch:=first | omega | (simp only [LL];omega)) only [W,V,TY,CC,reduceIte,Nat.reduceEqDiff,Nat.reduceAdd,Nat.reduceLeDiff,Nat.reduceLT,Int.reduceLE,Int.reduceLT,Int.reduceAdd,Int.reduceSub,Int.reduceToNat,Nat.reduceMul,rC,sQ,ratC,eq_self,not_true_eq_false,decide_false,decide_true,beq_self_eq_true,Bool.not_true,zS,n10,not_false_eq_true,Bool.not_false]
    refine a_call _ _ aax (by simp (maxSteps:=1000000) (disch:=first | omega | (simp only [LL];omega)) only [W,V,TY,CC,reduceIte,Nat.reduceEqDiff,Nat.reduceAdd,Nat.reduceLeDiff,Nat.reduceLT,Int.reduceLE,Int.reduceLT,Int.reduceAdd,Int.reduceSub,Int.reduceToNat,Nat.reduceMul,rC,sQ,ratC,eq_self,not_true_eq_false,decide_false,decide_true,beq_self_eq_true,Bool.not_true,zS,n10,not_false_eq_true,Bool.not_false]) ?_
    simp (maxSteps:=1000000) (disch:=first | omega | (simp only [LL];omega)) only [W,V,TY,CC,reduceIte,Nat.reduceEqDiff,Nat.reduceAdd,Nat.reduceLeDiff,Nat.reduceLT,Int.reduceLE,Int.reduceLT,Int.reduceAdd,Int.reduceSub,Int.reduceToNat,Nat.reduceMul,rC,sQ,ratC,eq_self,not_true_eq_false,decide_false,decide_true,beq_self_eq_true,Bool.not_true,zS,n10,not_false_eq_true,Bool.not_false]
    refine a_call _ _ abx (by simp (maxSteps:=1000000) (disch:=first | omega | (simp only [LL];omega)) only [W,V,TY,CC,reduceIte,Nat.reduceEqDiff,Nat.reduceAdd,Nat.reduceLeDiff,Nat.reduceLT,Int.reduceLE,Int.reduceLT,Int.reduceAdd,Int.reduceSub,Int.reduceToNat,Nat.reduceMul,rC,sQ,ratC,eq_self,not_true_eq_false,decide_false,decide_true,beq_self_eq_true,Bool.not_true,zS,n10,not_false_eq_true,Bool.not_false]) ?_
    simp (maxSteps:=1000000) (disch:=first | omega | (simp only [LL];omega)) only [W,V,TY,CC,reduceIte,Nat.reduceEqDiff,Nat.reduceAdd,Nat.reduceLeDiff,Nat.reduceLT,Int.reduceLE,Int.reduceLT,Int.reduceAdd,Int.reduceSub,Int.reduceToNat,Nat.reduceMul,rC,sQ,ratC,eq_self,not_true_eq_false,decide_false,decide_true,beq_self_eq_true,Bool.not_true,zS,n10,not_false_eq_true,Bool.not_false]
    refine a_call _ _ cp (by simp (maxSteps:=1000000) (disch:=first | omega | (simp only [LL];omega)) only [W,V,TY,CC,reduceIte,Nat.reduceEqDiff,Nat.reduceAdd,Nat.reduceLeDiff,Nat.reduceLT,Int.reduceLE,Int.reduceLT,Int.reduceAdd,Int.reduceSub,Int.reduceToNat,Nat.reduceMul,rC,sQ,ratC,eq_self,not_true_eq_false,decide_false,decide_true,beq_self_eq_true,Bool.not_true,zS,n10,not_false_eq_true,Bool.not_false]) ?_
    simp (maxSteps:=1000000) (disch:=first | omega | (simp only [LL];omega)) only [W,V,TY,CC,reduceIte,Nat.reduceEqDiff,Nat.reduceAdd,Nat.reduceLeDiff,Nat.reduceLT,Int.reduceLE,Int.reduceLT,Int.reduceAdd,Int.reduceSub,Int.reduceToNat,Nat.reduceMul,rC,sQ,ratC,eq_self,not_true_eq_false,decide_false,decide_true,beq_self_eq_true,Bool.not_true,zS,n10,not_false_eq_true,Bool.not_false]
    refine a_call _ _ cbc (by simp (maxSteps:=1000000) (disch:=first | omega | (simp only [LL];omega)) only [W,V,TY,CC,reduceIte,Nat.reduceEqDiff,Nat.reduceAdd,Nat.reduceLeDiff,Nat.reduceLT,Int.reduceLE,Int.reduceLT,Int.reduceAdd,Int.reduceSub,Int.reduceToNat,Nat.reduceMul,rC,sQ,ratC,eq_self,not_true_eq_false,decide_false,decide_true,beq_self_eq_true,Bool.not_true,zS,n10,not_false_eq_true,Bool.not_false]) ?_
    simp (maxSteps:=1000000) (disch:=first | omega | (simp only [LL];omega)) only [W,V,TY,CC,reduceIte,Nat.reduceEqDiff,Nat.reduceAdd,Nat.reduceLeDiff,Nat.reduceLT,Int.reduceLE,Int.reduceLT,Int.reduceAdd,Int.reduceSub,Int.reduceToNat,Nat.reduceMul,rC,sQ,ratC,eq_self,not_true_eq_false,decide_false,decide_true,beq_self_eq_true,Bool.not_true,zS,n10,not_false_eq_true,Bool.not_false]
    refine a_call _ _ cdc (by simp (maxSteps:=1000000) (disch:=first | omega | (simp only [LL];omega)) only [W,V,TY,CC,reduceIte,Nat.reduceEqDiff,Nat.reduceAdd,Nat.reduceLeDiff,Nat.reduceLT,Int.reduceLE,Int.reduceLT,Int.reduceAdd,Int.reduceSub,Int.reduceToNat,Nat.reduceMul,rC,sQ,ratC,eq_self,not_true_eq_false,decide_false,decide_true,beq_self_eq_true,Bool.not_true,zS,n10,not_false_eq_true,Bool.not_false]) ?_
    simp (maxSteps:=1000000) (disch:=first | omega | (simp only [LL];omega)) only [W,V,TY,CC,reduceIte,Nat.reduceEqDiff,Nat.reduceAdd,Nat.reduceLeDiff,Nat.reduceLT,Int.reduceLE,Int.reduceLT,Int.reduceAdd,Int.reduceSub,Int.reduceToNat,Nat.reduceMul,rC,sQ,ratC,eq_self,not_true_eq_false,decide_false,decide_true,beq_self_eq_true,Bool.not_true,zS,n10,not_false_eq_true,Bool.not_false]
    refine a_call _ _ cac (by simp (maxSteps:=1000000) (disch:=first | omega | (simp only [LL];omega)) only [W,V,TY,CC,reduceIte,Nat.reduceEqDiff,Nat.reduceAdd,Nat.reduceLeDiff,Nat.reduceLT,Int.reduceLE,Int.reduceLT,Int.reduceAdd,Int.reduceSub,Int.reduceToNat,Nat.reduceMul,rC,sQ,ratC,eq_self,not_true_eq_false,decide_false,decide_true,beq_self_eq_true,Bool.not_true,zS,n10,not_false_eq_true,Bool.not_false]) ?_
    simp (maxSteps:=1000000) (disch:=first | omega | (simp only [LL];omega)) only [W,V,TY,CC,reduceIte,Nat.reduceEqDiff,Nat.reduceAdd,Nat.reduceLeDiff,Nat.reduceLT,Int.reduceLE,Int.reduceLT,Int.reduceAdd,Int.reduceSub,Int.reduceToNat,Nat.reduceMul,rC,sQ,ratC,eq_self,not_true_eq_false,decide_false,decide_true,beq_self_eq_true,Bool.not_true,zS,n10,not_false_eq_true,Bool.not_false]
    refine a_call _ _ sm (by simp (maxSteps:=1000000) (disch:=first | omega | (simp only [LL];omega)) only [W,V,TY,CC,reduceIte,Nat.reduceEqDiff,Nat.reduceAdd,Nat.reduceLeDiff,Nat.reduceLT,Int.reduceLE,Int.reduceLT,Int.reduceAdd,Int.reduceSub,Int.reduceToNat,Nat.reduceMul,rC,sQ,ratC,eq_self,not_true_eq_false,decide_false,decide_true,beq_self_eq_true,Bool.not_true,zS,n10,not_false_eq_true,Bool.not_false]) ?_
    simp (maxSteps:=1000000) (disch:=first | omega | (simp only [LL];omega)) only [W,V,TY,CC,reduceIte,Nat.reduceEqDiff,Nat.reduceAdd,Nat.reduceLeDiff,Nat.reduceLT,Int.reduceLE,Int.reduceLT,Int.reduceAdd,Int.reduceSub,Int.reduceToNat,Nat.reduceMul,rC,sQ,ratC,eq_self,not_true_eq_false,decide_false,decide_true,beq_self_eq_true,Bool.not_true,zS,n10,not_false_eq_true,Bool.not_false]
    refine a_call _ _ iv (by simp (maxSteps:=1000000) (disch:=first | omega | (simp only [LL];omega)) only [W,V,TY,CC,reduceIte,Nat.reduceEqDiff,Nat.reduceAdd,Nat.reduceLeDiff,Nat.reduceLT,Int.reduceLE,Int.reduceLT,Int.reduceAdd,Int.reduceSub,Int.reduceToNat,Nat.reduceMul,rC,sQ,ratC,eq_self,not_true_eq_false,decide_false,decide_true,beq_self_eq_true,Bool.not_true,zS,n10,not_false_eq_true,Bool.not_false]) ?_
    simp (maxSteps:=1000000) (disch:=first | omega | (simp only [LL];omega)) only [W,V,TY,CC,reduceIte,Nat.reduceEqDiff,Nat.reduceAdd,Nat.reduceLeDiff,Nat.reduceLT,Int.reduceLE,Int.reduceLT,Int.reduceAdd,Int.reduceSub,Int.reduceToNat,Nat.reduceMul,rC,sQ,ratC,eq_self,not_true_eq_false,decide_false,decide_true,beq_self_eq_true,Bool.not_true,zS,n10,not_false_eq_true,Bool.not_false]
    refine a_call _ _ va (by simp (maxSteps:=1000000) (disch:=first | omega | (simp only [LL];omega)) only [W,V,TY,CC,reduceIte,Nat.reduceEqDiff,Nat.reduceAdd,Nat.reduceLeDiff,Nat.reduceLT,Int.reduceLE,Int.reduceLT,Int.reduceAdd,Int.reduceSub,Int.reduceToNat,Nat.reduceMul,rC,sQ,ratC,eq_self,not_true_eq_false,decide_false,decide_true,beq_self_eq_true,Bool.not_true,zS,n10,not_false_eq_true,Bool.not_false]) ?_
    simp (maxSteps:=1000000) (disch:=first | omega | (simp only [LL];omega)) only [W,V,TY,CC,reduceIte,Nat.reduceEqDiff,Nat.reduceAdd,Nat.reduceLeDiff,Nat.reduceLT,Int.reduceLE,Int.reduceLT,Int.reduceAdd,Int.reduceSub,Int.reduceToNat,Nat.reduceMul,rC,sQ,ratC,eq_self,not_true_eq_false,decide_false,decide_true,beq_self_eq_true,Bool.not_true,zS,n10,not_false_eq_true,Bool.not_false]
    refine a_call _ _ l45_awake (by simp (maxSteps:=1000000) (disch:=first | omega | (simp only [LL];omega)) only [W,V,TY,CC,reduceIte,Nat.reduceEqDiff,Nat.reduceAdd,Nat.reduceLeDiff,Nat.reduceLT,Int.reduceLE,Int.reduceLT,Int.reduceAdd,Int.reduceSub,Int.reduceToNat,Nat.reduceMul,rC,sQ,ratC,eq_self,not_true_eq_false,decide_false,decide_true,beq_self_eq_true,Bool.not_true,zS,n10,not_false_eq_true,Bool.not_false]) ?_
    simp (maxSteps:=1000000) (disch:=first | omega | (simp only [LL];omega)) only [W,V,TY,CC,reduceIte,Nat.reduceEqDiff,Nat.reduceAdd,Nat.reduceLeDiff,Nat.reduceLT,Int.reduceLE,Int.reduceLT,Int.reduceAdd,Int.reduceSub,Int.reduceToNat,Nat.reduceMul,rC,sQ,ratC,eq_self,not_true_eq_false,decide_false,decide_true,beq_self_eq_true,Bool.not_true,zS,n10,not_false_eq_true,Bool.not_false]
    refine f_ret _ _ _ ?_
    simp (maxSteps:=1000000) (disch:=first | omega | (simp only [LL];omega)) only [W,V,TY,CC,reduceIte,Nat.reduceEqDiff,Nat.reduceAdd,Nat.reduceLeDiff,Nat.reduceLT,Int.reduceLE,Int.reduceLT,Int.reduceAdd,Int.reduceSub,Int.reduceToNat,Nat.reduceMul,rC,sQ,ratC,eq_self,not_true_eq_false,decide_false,decide_true,beq_self_eq_true,Bool.not_true,zS,n10,not_false_eq_true,Bool.not_false]
  case pos =>
    have hne : A.q ≠ 0 := fun e => by rw [e] at hp; exact absurd hp Rat.lt_irrefl
    have qi := qs_inv A.q
    have q20 := qs_mul (1 / A.q) B.q
    have q21 := qs_neg (1 / A.q * B.q)
    have iv := k_Invert hA hB hp (by omega) (by omega)
    have hi0 : 0 < 1 / A.q := by rw [Rat.div_def, Rat.one_mul]; exact Rat.inv_pos.2 hp
    have hii : 1 / (1 / A.q) = A.q := by rw [Rat.div_def, Rat.div_def, Rat.one_mul, Rat.one_mul, Rat.inv_inv]
    have hai : A.q * (1 / A.q) = 1 := by rw [Rat.div_def, Rat.one_mul]; exact Rat.mul_inv_cancel _ hne
    have vi := k_Valid2 (p := 1 / A.q) (q := -(1 / A.q * B.q)) (by omega)
    rw [decide_eq_true hi0] at vi
    have bk := k_Invert2 (p := 1 / A.q) (q := -(1 / A.q * B.q)) (by omega) (by omega) hi0
    rw [hii] at bk
    generalize hI : 1 / A.q = I at *
    have e4 : -(A.q * -(I * B.q)) = B.q := by grind
    rw [e4] at bk
    have qa1 : qs (1 : Rat) ≤ 10 := qs_int (x := 1) (by decide) (by decide)
    have qa0 : qs (0 : Rat) ≤ 10 := qs_int (x := 0) (by decide) (by decide)
    have c1 := k_Compose2 (p := A.q) (q := B.q) (u := I) (v := -(I * B.q)) (by omega) (by omega) (by omega) (by omega)
    have e5 : I * B.q + -(I * B.q) = 0 := by grind
    rw [hai, e5] at c1
    have c2 := k_Compose3 (p := I) (q := -(I * B.q)) (by omega) (by omega) hA hB (by omega)
    have e6 : I * A.q = 1 := by grind
    have e7 : A.q * -(I * B.q) + B.q = 0 := by grind
    rw [e6, e7] at c2
    have s2 := f_Same (p := 1) (q := 0) (by omega) (by omega)
    have x1 := k_Apply2 (p := I) (q := -(I * B.q)) (z := A.q * X.q + B.q) (by omega) (by omega) (by omega)
    have e8 : I * (A.q * X.q + B.q) + -(I * B.q) = X.q := by grind
    rw [e8] at x1
    have q22 := qs_mul I X.q
    have q23 := qs_add (I * X.q) (-(I * B.q))
    have x2 := k_Apply3 (p := I) (q := -(I * B.q)) (by omega) (by omega) hX (by omega)
    have x3 := k_Apply4 hA hB (z := I * X.q + -(I * B.q)) (by omega) (by omega)
    have e9 : A.q * (I * X.q + -(I * B.q)) + B.q = X.q := by grind
    rw [e9] at x3
    have cx := R_Cmp (rok_nr (k := 68719476600) (q := X.q) (by omega)) hX
    rw [nr_q, rC_nr, cmpQ_self] at cx
    generalize A.q * C.q * X.q + (C.q * B.q + D.q) = w1 at *
    generalize E.q * (C.q * B.q + D.q) + G.q = w2 at *
    generalize A.q * C.q * E.q = w3 at *
    generalize I * X.q + -(I * B.q) = w4 at *
    generalize -(I * B.q) = w5 at *
    refine afun_intro mo_ _ _ c7 k7 _ _ rfl (by decide) ?_
    unfold b7
    simp (maxSteps:=1000000) (disch:=first | omega | (simp only [LL];omega)) only [W,V,TY,CC,reduceIte,Nat.reduceEqDiff,Nat.reduceAdd,Nat.reduceLeDiff,Nat.reduceLT,Int.reduceLE,Int.reduceLT,Int.reduceAdd,Int.reduceSub,Int.reduceToNat,Nat.reduceMul,rC]
    refine a_call _ _ cab (by simp (maxSteps:=1000000) (disch:=first | omega | (simp only [LL];omega)) only [W,V,TY,CC,reduceIte,Nat.reduceEqDiff,Nat.reduceAdd,Nat.reduceLeDiff,Nat.reduceLT,Int.reduceLE,Int.reduceLT,Int.reduceAdd,Int.reduceSub,Int.reduceToNat,Nat.reduceMul,rC,sQ,ratC,eq_self,not_true_eq_false,decide_false,decide_true,beq_self_eq_true,Bool.not_true]) ?_
    simp (maxSteps:=1000000) (disch:=first | omega | (simp only [LL];omega)) only [W,V,TY,CC,reduceIte,Nat.reduceEqDiff,Nat.reduceAdd,Nat.reduceLeDiff,Nat.reduceLT,Int.reduceLE,Int.reduceLT,Int.reduceAdd,Int.reduceSub,Int.reduceToNat,Nat.reduceMul,rC,sQ,ratC,eq_self,not_true_eq_false,decide_false,decide_true,beq_self_eq_true,Bool.not_true]
    refine a_call _ _ abo (by simp (maxSteps:=1000000) (disch:=first | omega | (simp only [LL];omega)) only [W,V,TY,CC,reduceIte,Nat.reduceEqDiff,Nat.reduceAdd,Nat.reduceLeDiff,Nat.reduceLT,Int.reduceLE,Int.reduceLT,Int.reduceAdd,Int.reduceSub,Int.reduceToNat,Nat.reduceMul,rC,sQ,ratC,eq_self,not_true_eq_false,decide_false,decide_true,beq_self_eq_true,Bool.not_true]) ?_
    simp (maxSteps:=1000000) (disch:=first | omega | (simp only [LL];omega)) only [W,V,TY,CC,reduceIte,Nat.reduceEqDiff,Nat.reduceAdd,Nat.reduceLeDiff,Nat.reduceLT,Int.reduceLE,Int.reduceLT,Int.reduceAdd,Int.reduceSub,Int.reduceToNat,Nat.reduceMul,rC,sQ,ratC,eq_self,not_true_eq_false,decide_false,decide_true,beq_self_eq_true,Bool.not_true]
    refine a_call _ _ aax (by simp (maxSteps:=1000000) (disch:=first | omega | (simp only [LL];omega)) only [W,V,TY,CC,reduceIte,Nat.reduceEqDiff,Nat.reduceAdd,Nat.reduceLeDiff,Nat.reduceLT,Int.reduceLE,Int.reduceLT,Int.reduceAdd,Int.reduceSub,Int.reduceToNat,Nat.reduceMul,rC,sQ,ratC,eq_self,not_true_eq_false,decide_false,decide_true,beq_self_eq_true,Bool.not_true]) ?_
    simp (maxSteps:=1000000) (disch:=first | omega | (simp only [LL];omega)) only [W,V,TY,CC,reduceIte,Nat.reduceEqDiff,Nat.reduceAdd,Nat.reduceLeDiff,Nat.reduceLT,Int.reduceLE,Int.reduceLT,Int.reduceAdd,Int.reduceSub,Int.reduceToNat,Nat.reduceMul,rC,sQ,ratC,eq_self,not_true_eq_false,decide_false,decide_true,beq_self_eq_true,Bool.not_true]
    refine a_call _ _ abx (by simp (maxSteps:=1000000) (disch:=first | omega | (simp only [LL];omega)) only [W,V,TY,CC,reduceIte,Nat.reduceEqDiff,Nat.reduceAdd,Nat.reduceLeDiff,Nat.reduceLT,Int.reduceLE,Int.reduceLT,Int.reduceAdd,Int.reduceSub,Int.reduceToNat,Nat.reduceMul,rC,sQ,ratC,eq_self,not_true_eq_false,decide_false,decide_true,beq_self_eq_true,Bool.not_true]) ?_
    simp (maxSteps:=1000000) (disch:=first | omega | (simp only [LL];omega)) only [W,V,TY,CC,reduceIte,Nat.reduceEqDiff,Nat.reduceAdd,Nat.reduceLeDiff,Nat.reduceLT,Int.reduceLE,Int.reduceLT,Int.reduceAdd,Int.reduceSub,Int.reduceToNat,Nat.reduceMul,rC,sQ,ratC,eq_self,not_true_eq_false,decide_false,decide_true,beq_self_eq_true,Bool.not_true]
    refine a_call _ _ cp (by simp (maxSteps:=1000000) (disch:=first | omega | (simp only [LL];omega)) only [W,V,TY,CC,reduceIte,Nat.reduceEqDiff,Nat.reduceAdd,Nat.reduceLeDiff,Nat.reduceLT,Int.reduceLE,Int.reduceLT,Int.reduceAdd,Int.reduceSub,Int.reduceToNat,Nat.reduceMul,rC,sQ,ratC,eq_self,not_true_eq_false,decide_false,decide_true,beq_self_eq_true,Bool.not_true]) ?_
    simp (maxSteps:=1000000) (disch:=first | omega | (simp only [LL];omega)) only [W,V,TY,CC,reduceIte,Nat.reduceEqDiff,Nat.reduceAdd,Nat.reduceLeDiff,Nat.reduceLT,Int.reduceLE,Int.reduceLT,Int.reduceAdd,Int.reduceSub,Int.reduceToNat,Nat.reduceMul,rC,sQ,ratC,eq_self,not_true_eq_false,decide_false,decide_true,beq_self_eq_true,Bool.not_true]
    refine a_call _ _ cbc (by simp (maxSteps:=1000000) (disch:=first | omega | (simp only [LL];omega)) only [W,V,TY,CC,reduceIte,Nat.reduceEqDiff,Nat.reduceAdd,Nat.reduceLeDiff,Nat.reduceLT,Int.reduceLE,Int.reduceLT,Int.reduceAdd,Int.reduceSub,Int.reduceToNat,Nat.reduceMul,rC,sQ,ratC,eq_self,not_true_eq_false,decide_false,decide_true,beq_self_eq_true,Bool.not_true]) ?_
    simp (maxSteps:=1000000) (disch:=first | omega | (simp only [LL];omega)) only [W,V,TY,CC,reduceIte,Nat.reduceEqDiff,Nat.reduceAdd,Nat.reduceLeDiff,Nat.reduceLT,Int.reduceLE,Int.reduceLT,Int.reduceAdd,Int.reduceSub,Int.reduceToNat,Nat.reduceMul,rC,sQ,ratC,eq_self,not_true_eq_false,decide_false,decide_true,beq_self_eq_true,Bool.not_true]
    refine a_call _ _ cdc (by simp (maxSteps:=1000000) (disch:=first | omega | (simp only [LL];omega)) only [W,V,TY,CC,reduceIte,Nat.reduceEqDiff,Nat.reduceAdd,Nat.reduceLeDiff,Nat.reduceLT,Int.reduceLE,Int.reduceLT,Int.reduceAdd,Int.reduceSub,Int.reduceToNat,Nat.reduceMul,rC,sQ,ratC,eq_self,not_true_eq_false,decide_false,decide_true,beq_self_eq_true,Bool.not_true]) ?_
    simp (maxSteps:=1000000) (disch:=first | omega | (simp only [LL];omega)) only [W,V,TY,CC,reduceIte,Nat.reduceEqDiff,Nat.reduceAdd,Nat.reduceLeDiff,Nat.reduceLT,Int.reduceLE,Int.reduceLT,Int.reduceAdd,Int.reduceSub,Int.reduceToNat,Nat.reduceMul,rC,sQ,ratC,eq_self,not_true_eq_false,decide_false,decide_true,beq_self_eq_true,Bool.not_true]
    refine a_call _ _ cac (by simp (maxSteps:=1000000) (disch:=first | omega | (simp only [LL];omega)) only [W,V,TY,CC,reduceIte,Nat.reduceEqDiff,Nat.reduceAdd,Nat.reduceLeDiff,Nat.reduceLT,Int.reduceLE,Int.reduceLT,Int.reduceAdd,Int.reduceSub,Int.reduceToNat,Nat.reduceMul,rC,sQ,ratC,eq_self,not_true_eq_false,decide_false,decide_true,beq_self_eq_true,Bool.not_true]) ?_
    simp (maxSteps:=1000000) (disch:=first | omega | (simp only [LL];omega)) only [W,V,TY,CC,reduceIte,Nat.reduceEqDiff,Nat.reduceAdd,Nat.reduceLeDiff,Nat.reduceLT,Int.reduceLE,Int.reduceLT,Int.reduceAdd,Int.reduceSub,Int.reduceToNat,Nat.reduceMul,rC,sQ,ratC,eq_self,not_true_eq_false,decide_false,decide_true,beq_self_eq_true,Bool.not_true]
    refine a_call _ _ sm (by simp (maxSteps:=1000000) (disch:=first | omega | (simp only [LL];omega)) only [W,V,TY,CC,reduceIte,Nat.reduceEqDiff,Nat.reduceAdd,Nat.reduceLeDiff,Nat.reduceLT,Int.reduceLE,Int.reduceLT,Int.reduceAdd,Int.reduceSub,Int.reduceToNat,Nat.reduceMul,rC,sQ,ratC,eq_self,not_true_eq_false,decide_false,decide_true,beq_self_eq_true,Bool.not_true]) ?_
    simp (maxSteps:=1000000) (disch:=first | omega | (simp only [LL];omega)) only [W,V,TY,CC,reduceIte,Nat.reduceEqDiff,Nat.reduceAdd,Nat.reduceLeDiff,Nat.reduceLT,Int.reduceLE,Int.reduceLT,Int.reduceAdd,Int.reduceSub,Int.reduceToNat,Nat.reduceMul,rC,sQ,ratC,eq_self,not_true_eq_false,decide_false,decide_true,beq_self_eq_true,Bool.not_true]
    refine a_call _ _ iv (by simp (maxSteps:=1000000) (disch:=first | omega | (simp only [LL];omega)) only [W,V,TY,CC,reduceIte,Nat.reduceEqDiff,Nat.reduceAdd,Nat.reduceLeDiff,Nat.reduceLT,Int.reduceLE,Int.reduceLT,Int.reduceAdd,Int.reduceSub,Int.reduceToNat,Nat.reduceMul,rC,sQ,ratC,eq_self,not_true_eq_false,decide_false,decide_true,beq_self_eq_true,Bool.not_true]) ?_
    simp (maxSteps:=1000000) (disch:=first | omega | (simp only [LL];omega)) only [W,V,TY,CC,reduceIte,Nat.reduceEqDiff,Nat.reduceAdd,Nat.reduceLeDiff,Nat.reduceLT,Int.reduceLE,Int.reduceLT,Int.reduceAdd,Int.reduceSub,Int.reduceToNat,Nat.reduceMul,rC,sQ,ratC,eq_self,not_true_eq_false,decide_false,decide_true,beq_self_eq_true,Bool.not_true]
    refine a_call _ _ bk (by simp (maxSteps:=1000000) (disch:=first | omega | (simp only [LL];omega)) only [W,V,TY,CC,reduceIte,Nat.reduceEqDiff,Nat.reduceAdd,Nat.reduceLeDiff,Nat.reduceLT,Int.reduceLE,Int.reduceLT,Int.reduceAdd,Int.reduceSub,Int.reduceToNat,Nat.reduceMul,rC,sQ,ratC,eq_self,not_true_eq_false,decide_false,decide_true,beq_self_eq_true,Bool.not_true]) ?_
    simp (maxSteps:=1000000) (disch:=first | omega | (simp only [LL];omega)) only [W,V,TY,CC,reduceIte,Nat.reduceEqDiff,Nat.reduceAdd,Nat.reduceLeDiff,Nat.reduceLT,Int.reduceLE,Int.reduceLT,Int.reduceAdd,Int.reduceSub,Int.reduceToNat,Nat.reduceMul,rC,sQ,ratC,eq_self,not_true_eq_false,decide_false,decide_true,beq_self_eq_true,Bool.not_true]
    refine a_call _ _ vi (by simp (maxSteps:=1000000) (disch:=first | omega | (simp only [LL];omega)) only [W,V,TY,CC,reduceIte,Nat.reduceEqDiff,Nat.reduceAdd,Nat.reduceLeDiff,Nat.reduceLT,Int.reduceLE,Int.reduceLT,Int.reduceAdd,Int.reduceSub,Int.reduceToNat,Nat.reduceMul,rC,sQ,ratC,eq_self,not_true_eq_false,decide_false,decide_true,beq_self_eq_true,Bool.not_true]) ?_
    simp (maxSteps:=1000000) (disch:=first | omega | (simp only [LL];omega)) only [W,V,TY,CC,reduceIte,Nat.reduceEqDiff,Nat.reduceAdd,Nat.reduceLeDiff,Nat.reduceLT,Int.reduceLE,Int.reduceLT,Int.reduceAdd,Int.reduceSub,Int.reduceToNat,Nat.reduceMul,rC,sQ,ratC,eq_self,not_true_eq_false,decide_false,decide_true,beq_self_eq_true,Bool.not_true]
    refine a_call _ _ c1 (by simp (maxSteps:=1000000) (disch:=first | omega | (simp only [LL];omega)) only [W,V,TY,CC,reduceIte,Nat.reduceEqDiff,Nat.reduceAdd,Nat.reduceLeDiff,Nat.reduceLT,Int.reduceLE,Int.reduceLT,Int.reduceAdd,Int.reduceSub,Int.reduceToNat,Nat.reduceMul,rC,sQ,ratC,eq_self,not_true_eq_false,decide_false,decide_true,beq_self_eq_true,Bool.not_true]) ?_
    simp (maxSteps:=1000000) (disch:=first | omega | (simp only [LL];omega)) only [W,V,TY,CC,reduceIte,Nat.reduceEqDiff,Nat.reduceAdd,Nat.reduceLeDiff,Nat.reduceLT,Int.reduceLE,Int.reduceLT,Int.reduceAdd,Int.reduceSub,Int.reduceToNat,Nat.reduceMul,rC,sQ,ratC,eq_self,not_true_eq_false,decide_false,decide_true,beq_self_eq_true,Bool.not_true]
    refine a_call _ _ c2 (by simp (maxSteps:=1000000) (disch:=first | omega | (simp only [LL];omega)) only [W,V,TY,CC,reduceIte,Nat.reduceEqDiff,Nat.reduceAdd,Nat.reduceLeDiff,Nat.reduceLT,Int.reduceLE,Int.reduceLT,Int.reduceAdd,Int.reduceSub,Int.reduceToNat,Nat.reduceMul,rC,sQ,ratC,eq_self,not_true_eq_false,decide_false,decide_true,beq_self_eq_true,Bool.not_true]) ?_
    simp (maxSteps:=1000000) (disch:=first | omega | (simp only [LL];omega)) only [W,V,TY,CC,reduceIte,Nat.reduceEqDiff,Nat.reduceAdd,Nat.reduceLeDiff,Nat.reduceLT,Int.reduceLE,Int.reduceLT,Int.reduceAdd,Int.reduceSub,Int.reduceToNat,Nat.reduceMul,rC,sQ,ratC,eq_self,not_true_eq_false,decide_false,decide_true,beq_self_eq_true,Bool.not_true]
    refine a_call _ _ s2 (by simp (maxSteps:=1000000) (disch:=first | omega | (simp only [LL];omega)) only [W,V,TY,CC,reduceIte,Nat.reduceEqDiff,Nat.reduceAdd,Nat.reduceLeDiff,Nat.reduceLT,Int.reduceLE,Int.reduceLT,Int.reduceAdd,Int.reduceSub,Int.reduceToNat,Nat.reduceMul,rC,sQ,ratC,eq_self,not_true_eq_false,decide_false,decide_true,beq_self_eq_true,Bool.not_true]) ?_
    simp (maxSteps:=1000000) (disch:=first | omega | (simp only [LL];omega)) only [W,V,TY,CC,reduceIte,Nat.reduceEqDiff,Nat.reduceAdd,Nat.reduceLeDiff,Nat.reduceLT,Int.reduceLE,Int.reduceLT,Int.reduceAdd,Int.reduceSub,Int.reduceToNat,Nat.reduceMul,rC,sQ,ratC,eq_self,not_true_eq_false,decide_false,decide_true,beq_self_eq_true,Bool.not_true]
    refine a_call _ _ aax (by simp (maxSteps:=1000000) (disch:=first | omega | (simp only [LL];omega)) only [W,V,TY,CC,reduceIte,Nat.reduceEqDiff,Nat.reduceAdd,Nat.reduceLeDiff,Nat.reduceLT,Int.reduceLE,Int.reduceLT,Int.reduceAdd,Int.reduceSub,Int.reduceToNat,Nat.reduceMul,rC,sQ,ratC,eq_self,not_true_eq_false,decide_false,decide_true,beq_self_eq_true,Bool.not_true]) ?_
    simp (maxSteps:=1000000) (disch:=first | omega | (simp only [LL];omega)) only [W,V,TY,CC,reduceIte,Nat.reduceEqDiff,Nat.reduceAdd,Nat.reduceLeDiff,Nat.reduceLT,Int.reduceLE,Int.reduceLT,Int.reduceAdd,Int.reduceSub,Int.reduceToNat,Nat.reduceMul,rC,sQ,ratC,eq_self,not_true_eq_false,decide_false,decide_true,beq_self_eq_true,Bool.not_true]
    refine a_call _ _ x1 (by simp (maxSteps:=1000000) (disch:=first | omega | (simp only [LL];omega)) only [W,V,TY,CC,reduceIte,Nat.reduceEqDiff,Nat.reduceAdd,Nat.reduceLeDiff,Nat.reduceLT,Int.reduceLE,Int.reduceLT,Int.reduceAdd,Int.reduceSub,Int.reduceToNat,Nat.reduceMul,rC,sQ,ratC,eq_self,not_true_eq_false,decide_false,decide_true,beq_self_eq_true,Bool.not_true]) ?_
    simp (maxSteps:=1000000) (disch:=first | omega | (simp only [LL];omega)) only [W,V,TY,CC,reduceIte,Nat.reduceEqDiff,Nat.reduceAdd,Nat.reduceLeDiff,Nat.reduceLT,Int.reduceLE,Int.reduceLT,Int.reduceAdd,Int.reduceSub,Int.reduceToNat,Nat.reduceMul,rC,sQ,ratC,eq_self,not_true_eq_false,decide_false,decide_true,beq_self_eq_true,Bool.not_true]
    refine a_call _ _ cx (by simp (maxSteps:=1000000) (disch:=first | omega | (simp only [LL];omega)) only [W,V,TY,CC,reduceIte,Nat.reduceEqDiff,Nat.reduceAdd,Nat.reduceLeDiff,Nat.reduceLT,Int.reduceLE,Int.reduceLT,Int.reduceAdd,Int.reduceSub,Int.reduceToNat,Nat.reduceMul,rC,sQ,ratC,eq_self,not_true_eq_false,decide_false,decide_true,beq_self_eq_true,Bool.not_true]) ?_
    simp (maxSteps:=1000000) (disch:=first | omega | (simp only [LL];omega)) only [W,V,TY,CC,reduceIte,Nat.reduceEqDiff,Nat.reduceAdd,Nat.reduceLeDiff,Nat.reduceLT,Int.reduceLE,Int.reduceLT,Int.reduceAdd,Int.reduceSub,Int.reduceToNat,Nat.reduceMul,rC,sQ,ratC,eq_self,not_true_eq_false,decide_false,decide_true,beq_self_eq_true,Bool.not_true]
    refine a_call _ _ x2 (by simp (maxSteps:=1000000) (disch:=first | omega | (simp only [LL];omega)) only [W,V,TY,CC,reduceIte,Nat.reduceEqDiff,Nat.reduceAdd,Nat.reduceLeDiff,Nat.reduceLT,Int.reduceLE,Int.reduceLT,Int.reduceAdd,Int.reduceSub,Int.reduceToNat,Nat.reduceMul,rC,sQ,ratC,eq_self,not_true_eq_false,decide_false,decide_true,beq_self_eq_true,Bool.not_true]) ?_
    simp (maxSteps:=1000000) (disch:=first | omega | (simp only [LL];omega)) only [W,V,TY,CC,reduceIte,Nat.reduceEqDiff,Nat.reduceAdd,Nat.reduceLeDiff,Nat.reduceLT,Int.reduceLE,Int.reduceLT,Int.reduceAdd,Int.reduceSub,Int.reduceToNat,Nat.reduceMul,rC,sQ,ratC,eq_self,not_true_eq_false,decide_false,decide_true,beq_self_eq_true,Bool.not_true]
    refine a_call _ _ x3 (by simp (maxSteps:=1000000) (disch:=first | omega | (simp only [LL];omega)) only [W,V,TY,CC,reduceIte,Nat.reduceEqDiff,Nat.reduceAdd,Nat.reduceLeDiff,Nat.reduceLT,Int.reduceLE,Int.reduceLT,Int.reduceAdd,Int.reduceSub,Int.reduceToNat,Nat.reduceMul,rC,sQ,ratC,eq_self,not_true_eq_false,decide_false,decide_true,beq_self_eq_true,Bool.not_true]) ?_
    simp (maxSteps:=1000000) (disch:=first | omega | (simp only [LL];omega)) only [W,V,TY,CC,reduceIte,Nat.reduceEqDiff,Nat.reduceAdd,Nat.reduceLeDiff,Nat.reduceLT,Int.reduceLE,Int.reduceLT,Int.reduceAdd,Int.reduceSub,Int.reduceToNat,Nat.reduceMul,rC,sQ,ratC,eq_self,not_true_eq_false,decide_false,decide_true,beq_self_eq_true,Bool.not_true]
    refine a_call _ _ cx (by simp (maxSteps:=1000000) (disch:=first | omega | (simp only [LL];omega)) only [W,V,TY,CC,reduceIte,Nat.reduceEqDiff,Nat.reduceAdd,Nat.reduceLeDiff,Nat.reduceLT,Int.reduceLE,Int.reduceLT,Int.reduceAdd,Int.reduceSub,Int.reduceToNat,Nat.reduceMul,rC,sQ,ratC,eq_self,not_true_eq_false,decide_false,decide_true,beq_self_eq_true,Bool.not_true]) ?_
    simp (maxSteps:=1000000) (disch:=first | omega | (simp only [LL];omega)) only [W,V,TY,CC,reduceIte,Nat.reduceEqDiff,Nat.reduceAdd,Nat.reduceLeDiff,Nat.reduceLT,Int.reduceLE,Int.reduceLT,Int.reduceAdd,Int.reduceSub,Int.reduceToNat,Nat.reduceMul,rC,sQ,ratC,eq_self,not_true_eq_false,decide_false,decide_true,beq_self_eq_true,Bool.not_true]
    refine a_call _ _ l45_awake (by simp (maxSteps:=1000000) (disch:=first | omega | (simp only [LL];omega)) only [W,V,TY,CC,reduceIte,Nat.reduceEqDiff,Nat.reduceAdd,Nat.reduceLeDiff,Nat.reduceLT,Int.reduceLE,Int.reduceLT,Int.reduceAdd,Int.reduceSub,Int.reduceToNat,Nat.reduceMul,rC,sQ,ratC,eq_self,not_true_eq_false,decide_false,decide_true,beq_self_eq_true,Bool.not_true]) ?_
    simp (maxSteps:=1000000) (disch:=first | omega | (simp only [LL];omega)) only [W,V,TY,CC,reduceIte,Nat.reduceEqDiff,Nat.reduceAdd,Nat.reduceLeDiff,Nat.reduceLT,Int.reduceLE,Int.reduceLT,Int.reduceAdd,Int.reduceSub,Int.reduceToNat,Nat.reduceMul,rC,sQ,ratC,eq_self,not_true_eq_false,decide_false,decide_true,beq_self_eq_true,Bool.not_true]
    refine f_ret _ _ _ ?_
    simp (maxSteps:=1000000) (disch:=first | omega | (simp only [LL];omega)) only [W,V,TY,CC,reduceIte,Nat.reduceEqDiff,Nat.reduceAdd,Nat.reduceLeDiff,Nat.reduceLT,Int.reduceLE,Int.reduceLT,Int.reduceAdd,Int.reduceSub,Int.reduceToNat,Nat.reduceMul,rC,sQ,ratC,eq_self,not_true_eq_false,decide_false,decide_true,beq_self_eq_true,Bool.not_true]
theorem anch_swap (x y : List Int) : anchV y x = anchV x y := by
  unfold anchV
  by_cases h1 : 60 < x.length ∨ 60 < y.length
  · rw [if_pos h1, if_pos (Or.symm h1)]
  · rw [if_neg h1, if_neg (fun e => h1 (Or.symm e))]
    by_cases h2 : x.length = y.length
    · rw [if_neg (not_not_intro h2), if_neg (not_not_intro h2.symm), h2]
      split
      · rfl
      · by_cases h3 : numB x = true ∧ numB y = true
        · rw [if_pos h3, if_pos h3.symm]
        · rw [if_neg h3, if_neg (fun e => h3 e.symm)]
    · rw [if_pos h2, if_pos (fun e => h2 e.symm)]
/-- examboard/examboardlaw45.LinkingSpread -/
def b9 : AF := ⟨47, 2, [.tmp 4],
  (.seq (.reg [
    ⟨some 4, .assign (.const (.bool false)), none⟩])
  (.seq (.reg [
    ⟨some 11, .move (.tmp 0), none⟩,
    ⟨some 12, .move (.tmp 1), none⟩,
    ⟨some 13, .call ⟨(.value (.func 42)), #[(.tmp 11), (.tmp 12)], #[62, 62]⟩, none⟩,
    ⟨some 10, .move (.tmp 13), none⟩,
    ⟨some 14, .extract (.tmp 10) 0, none⟩,
    ⟨some 15, .extract (.tmp 10) 1, none⟩,
    ⟨some 5, .alloc 53, none⟩,
    ⟨none, .store 53 (.tmp 5) (.tmp 14), none⟩,
    ⟨some 6, .assign (.tmp 15), none⟩])
  (.seq (.reg [
    ⟨some 17, .move (.tmp 1), none⟩,
    ⟨some 18, .move (.tmp 0), none⟩,
    ⟨some 19, .call ⟨(.value (.func 42)), #[(.tmp 17), (.tmp 18)], #[62, 62]⟩, none⟩,
    ⟨some 16, .move (.tmp 19), none⟩,
    ⟨some 20, .extract (.tmp 16) 0, none⟩,
    ⟨some 21, .extract (.tmp 16) 1, none⟩,
    ⟨some 7, .alloc 53, none⟩,
    ⟨none, .store 53 (.tmp 7) (.tmp 20), none⟩,
    ⟨some 8, .assign (.tmp 21), none⟩])
  (.seq (.seq (.reg [
    ⟨some 22, .move (.tmp 6), none⟩,
    ⟨some 23, .move (.tmp 8), none⟩,
    ⟨some 24, .binOp .neq 57 (.tmp 22) (.tmp 23) 57, none⟩])
  (.cond (.tmp 24)
    (.seq (.reg [
      ⟨some 4, .assign (.const (.bool false)), none⟩])
    .ret)
    .skip))
  (.seq (.seq (.reg [
    ⟨some 25, .move (.tmp 6), none⟩,
    ⟨some 26, .binOp .neq 57 (.tmp 25) (.const (.int .i64 0)) 57, none⟩])
  (.cond (.tmp 26)
    (.seq (.reg [
      ⟨some 27, .call ⟨(.value (.func 37)), #[], #[]⟩, none⟩,
      ⟨some 4, .assign (.tmp 27), none⟩])
    .ret)
    .skip))
  (.seq (.reg [
    ⟨some 29, .load 53 (.tmp 5), none⟩,
    ⟨some 30, .call ⟨(.value (.func 35)), #[(.tmp 29)], #[53]⟩, none⟩,
    ⟨some 28, .move (.tmp 30), none⟩,
    ⟨some 31, .extract (.tmp 28) 0, none⟩,
    ⟨some 32, .extract (.tmp 28) 1, none⟩,
    ⟨some 9, .alloc 53, none⟩,
    ⟨none, .store 53 (.tmp 9) (.tmp 31), none⟩,
    ⟨some 6, .assign (.tmp 32), none⟩])
  (.seq (.reg [
    ⟨some 33, .move (.tmp 6), none⟩,
    ⟨some 34, .binOp .eql 57 (.tmp 33) (.const (.int .i64 0)) 57, none⟩,
    ⟨some 35, .move (.tmp 34), none⟩,
    ⟨some 36, .load 53 (.tmp 5), some (35, true)⟩,
    ⟨some 37, .call ⟨(.value (.func 36)), #[(.tmp 36)], #[53]⟩, some (35, true)⟩,
    ⟨some 38, .pick (.tmp 35) (.tmp 37) (.const (.bool false)), none⟩,
    ⟨some 39, .move (.tmp 38), none⟩,
    ⟨some 40, .load 53 (.tmp 9), some (39, true)⟩,
    ⟨some 41, .load 53 (.tmp 7), some (39, true)⟩,
    ⟨some 42, .call ⟨(.value (.func 34)), #[(.tmp 40), (.tmp 41)], #[53, 53]⟩, some (39, true)⟩,
    ⟨some 43, .pick (.tmp 39) (.tmp 42) (.const (.bool false)), none⟩,
    ⟨some 44, .move (.tmp 43), none⟩,
    ⟨some 45, .call ⟨(.value (.func 37)), #[], #[]⟩, some (44, true)⟩,
    ⟨some 46, .pick (.tmp 44) (.tmp 45) (.const (.bool false)), none⟩,
    ⟨some 4, .assign (.tmp 46), none⟩])
  .ret)))))))⟩
theorem c9 : fcomp Tryd.prog 9 = ⟨b9.n, b9.np, b9.res, b9.body.bare⟩ := by kernel_rfl
theorem k9 : fok Tryd.prog 9 = true := by kernel_rfl
theorem l45_LinkingSpread (x : List Int) (_hx : ∀ z ∈ x, -9223372036854775808 ≤ z ∧ z ≤ 9223372036854775807) (lx' : x.length ≤ 1048576) (y : List Int) (_hy : ∀ z ∈ y, -9223372036854775808 ≤ z ∧ z ≤ 9223372036854775807) (ly' : y.length ≤ 1048576) : AFun Tryd.prog 9 [.one (intsD x), .one (intsD y)] [.one (.lit (.bool true))] := by
  have lx : x.length ≤ 9223372036854775807 := by omega
  have ly : y.length ≤ 9223372036854775807 := by omega
  by_cases h : anchV x y = 0
  case neg =>
    have s1 := k_SpreadE lx ly h
    have s2 := k_SpreadE ly lx (by rw [anch_swap]; exact h)
    rw [anch_swap] at s2
    generalize anchV x y = e at *
    refine afun_intro mo_ _ _ c9 k9 _ _ rfl (by decide) ?_
    unfold b9
    simp (maxSteps:=1000000) (disch:=first | omega | (simp only [LL];omega)) only [W,V,TY,CC,reduceIte,Nat.reduceEqDiff,Nat.reduceAdd,Nat.reduceLeDiff,Nat.reduceLT,Int.reduceLE,Int.reduceLT,Int.reduceAdd,Int.reduceSub,Int.reduceToNat,Nat.reduceMul,rC]
    refine a_call _ _ s1 (by simp (maxSteps:=1000000) (disch:=first | omega | (simp only [LL];omega)) only [W,V,TY,CC,reduceIte,Nat.reduceEqDiff,Nat.reduceAdd,Nat.reduceLeDiff,Nat.reduceLT,Int.reduceLE,Int.reduceLT,Int.reduceAdd,Int.reduceSub,Int.reduceToNat,Nat.reduceMul,rC,sQ,ratC,eq_self,not_true_eq_false,decide_false,decide_true,beq_self_eq_true,Bool.not_true,zS,h,not_false_eq_true]) ?_
    simp (maxSteps:=1000000) (disch:=first | omega | (simp only [LL];omega)) only [W,V,TY,CC,reduceIte,Nat.reduceEqDiff,Nat.reduceAdd,Nat.reduceLeDiff,Nat.reduceLT,Int.reduceLE,Int.reduceLT,Int.reduceAdd,Int.reduceSub,Int.reduceToNat,Nat.reduceMul,rC,sQ,ratC,eq_self,not_true_eq_false,decide_false,decide_true,beq_self_eq_true,Bool.not_true,zS,h,not_false_eq_true]
    refine a_call _ _ s2 (by simp (maxSteps:=1000000) (disch:=first | omega | (simp only [LL];omega)) only [W,V,TY,CC,reduceIte,Nat.reduceEqDiff,Nat.reduceAdd,Nat.reduceLeDiff,Nat.reduceLT,Int.reduceLE,Int.reduceLT,Int.reduceAdd,Int.reduceSub,Int.reduceToNat,Nat.reduceMul,rC,sQ,ratC,eq_self,not_true_eq_false,decide_false,decide_true,beq_self_eq_true,Bool.not_true,zS,h,not_false_eq_true]) ?_
    simp (maxSteps:=1000000) (disch:=first | omega | (simp only [LL];omega)) only [W,V,TY,CC,reduceIte,Nat.reduceEqDiff,Nat.reduceAdd,Nat.reduceLeDiff,Nat.reduceLT,Int.reduceLE,Int.reduceLT,Int.reduceAdd,Int.reduceSub,Int.reduceToNat,Nat.reduceMul,rC,sQ,ratC,eq_self,not_true_eq_false,decide_false,decide_true,beq_self_eq_true,Bool.not_true,zS,h,not_false_eq_true]
    refine a_call _ _ l45_awake (by simp (maxSteps:=1000000) (disch:=first | omega | (simp only [LL];omega)) only [W,V,TY,CC,reduceIte,Nat.reduceEqDiff,Nat.reduceAdd,Nat.reduceLeDiff,Nat.reduceLT,Int.reduceLE,Int.reduceLT,Int.reduceAdd,Int.reduceSub,Int.reduceToNat,Nat.reduceMul,rC,sQ,ratC,eq_self,not_true_eq_false,decide_false,decide_true,beq_self_eq_true,Bool.not_true,zS,h,not_false_eq_true]) ?_
    simp (maxSteps:=1000000) (disch:=first | omega | (simp only [LL];omega)) only [W,V,TY,CC,reduceIte,Nat.reduceEqDiff,Nat.reduceAdd,Nat.reduceLeDiff,Nat.reduceLT,Int.reduceLE,Int.reduceLT,Int.reduceAdd,Int.reduceSub,Int.reduceToNat,Nat.reduceMul,rC,sQ,ratC,eq_self,not_true_eq_false,decide_false,decide_true,beq_self_eq_true,Bool.not_true,zS,h,not_false_eq_true]
    refine f_ret _ _ _ ?_
    simp (maxSteps:=1000000) (disch:=first | omega | (simp only [LL];omega)) only [W,V,TY,CC,reduceIte,Nat.reduceEqDiff,Nat.reduceAdd,Nat.reduceLeDiff,Nat.reduceLT,Int.reduceLE,Int.reduceLT,Int.reduceAdd,Int.reduceSub,Int.reduceToNat,Nat.reduceMul,rC,sQ,ratC,eq_self,not_true_eq_false,decide_false,decide_true,beq_self_eq_true,Bool.not_true,zS,h,not_false_eq_true]
  case pos =>
    have h' : anchV y x = 0 := by rw [anch_swap]; exact h
    by_cases hz : devZ x x.length = 0 ∨ devZ y y.length = 0
    · have s1 := k_SpreadZ lx ly h hz
      have s2 := k_SpreadZ ly lx h' hz.symm
      have n8 : ¬ (8 : Int) = 0 := by decide
      refine afun_intro mo_ _ _ c9 k9 _ _ rfl (by decide) ?_
      unfold b9
      simp (maxSteps:=1000000) (disch:=first | omega | (simp only [LL];omega)) only [W,V,TY,CC,reduceIte,Nat.reduceEqDiff,Nat.reduceAdd,Nat.reduceLeDiff,Nat.reduceLT,Int.reduceLE,Int.reduceLT,Int.reduceAdd,Int.reduceSub,Int.reduceToNat,Nat.reduceMul,rC]
      refine a_call _ _ s1 (by simp (maxSteps:=1000000) (disch:=first | omega | (simp only [LL];omega)) only [W,V,TY,CC,reduceIte,Nat.reduceEqDiff,Nat.reduceAdd,Nat.reduceLeDiff,Nat.reduceLT,Int.reduceLE,Int.reduceLT,Int.reduceAdd,Int.reduceSub,Int.reduceToNat,Nat.reduceMul,rC,sQ,ratC,eq_self,not_true_eq_false,decide_false,decide_true,beq_self_eq_true,Bool.not_true,zS,n8,not_false_eq_true]) ?_
      simp (maxSteps:=1000000) (disch:=first | omega | (simp only [LL];omega)) only [W,V,TY,CC,reduceIte,Nat.reduceEqDiff,Nat.reduceAdd,Nat.reduceLeDiff,Nat.reduceLT,Int.reduceLE,Int.reduceLT,Int.reduceAdd,Int.reduceSub,Int.reduceToNat,Nat.reduceMul,rC,sQ,ratC,eq_self,not_true_eq_false,decide_false,decide_true,beq_self_eq_true,Bool.not_true,zS,n8,not_false_eq_true]
      refine a_call _ _ s2 (by simp (maxSteps:=1000000) (disch:=first | omega | (simp only [LL];omega)) only [W,V,TY,CC,reduceIte,Nat.reduceEqDiff,Nat.reduceAdd,Nat.reduceLeDiff,Nat.reduceLT,Int.reduceLE,Int.reduceLT,Int.reduceAdd,Int.reduceSub,Int.reduceToNat,Nat.reduceMul,rC,sQ,ratC,eq_self,not_true_eq_false,decide_false,decide_true,beq_self_eq_true,Bool.not_true,zS,n8,not_false_eq_true]) ?_
      simp (maxSteps:=1000000) (disch:=first | omega | (simp only [LL];omega)) only [W,V,TY,CC,reduceIte,Nat.reduceEqDiff,Nat.reduceAdd,Nat.reduceLeDiff,Nat.reduceLT,Int.reduceLE,Int.reduceLT,Int.reduceAdd,Int.reduceSub,Int.reduceToNat,Nat.reduceMul,rC,sQ,ratC,eq_self,not_true_eq_false,decide_false,decide_true,beq_self_eq_true,Bool.not_true,zS,n8,not_false_eq_true]
      refine a_call _ _ l45_awake (by simp (maxSteps:=1000000) (disch:=first | omega | (simp only [LL];omega)) only [W,V,TY,CC,reduceIte,Nat.reduceEqDiff,Nat.reduceAdd,Nat.reduceLeDiff,Nat.reduceLT,Int.reduceLE,Int.reduceLT,Int.reduceAdd,Int.reduceSub,Int.reduceToNat,Nat.reduceMul,rC,sQ,ratC,eq_self,not_true_eq_false,decide_false,decide_true,beq_self_eq_true,Bool.not_true,zS,n8,not_false_eq_true]) ?_
      simp (maxSteps:=1000000) (disch:=first | omega | (simp only [LL];omega)) only [W,V,TY,CC,reduceIte,Nat.reduceEqDiff,Nat.reduceAdd,Nat.reduceLeDiff,Nat.reduceLT,Int.reduceLE,Int.reduceLT,Int.reduceAdd,Int.reduceSub,Int.reduceToNat,Nat.reduceMul,rC,sQ,ratC,eq_self,not_true_eq_false,decide_false,decide_true,beq_self_eq_true,Bool.not_true,zS,n8,not_false_eq_true]
      refine f_ret _ _ _ ?_
      simp (maxSteps:=1000000) (disch:=first | omega | (simp only [LL];omega)) only [W,V,TY,CC,reduceIte,Nat.reduceEqDiff,Nat.reduceAdd,Nat.reduceLeDiff,Nat.reduceLT,Int.reduceLE,Int.reduceLT,Int.reduceAdd,Int.reduceSub,Int.reduceToNat,Nat.reduceMul,rC,sQ,ratC,eq_self,not_true_eq_false,decide_false,decide_true,beq_self_eq_true,Bool.not_true,zS,n8,not_false_eq_true]
    · have h1 : ¬ devZ x x.length = 0 := fun e => hz (.inl e)
      have h2 : ¬ devZ y y.length = 0 := fun e => hz (.inr e)
      have ho := anch_ok h
      have l1 := ho.lx
      have l2 := ho.swap.lx
      have qx := qs_mean ho.nx ho.lx
      have qy := qs_mean ho.ny ho.swap.lx
      have ey := devZ_le ho.ny ho.swap.lx y.length (Nat.le_refl _)
      have ex := devZ_le ho.nx ho.lx x.length (Nat.le_refl _)
      have qa : qs (spreadA x y) ≤ 10 := qD _ _ (by omega) (by omega) (by omega) (by omega)
      have qb : qs (spreadA y x) ≤ 10 := qD _ _ (by omega) (by omega) (by omega) (by omega)
      have s1 := k_Spread0 lx ly h h1 h2
      have s2 := k_Spread0 ly lx h' h2 h1
      have p0 : 0 < spreadA x y := by
        unfold spreadA
        rw [Rat.divInt_eq_div, Rat.div_def]
        exact Rat.mul_pos (by exact_mod_cast (show 0 < devZ y y.length by omega)) (Rat.inv_pos.2 (by exact_mod_cast (show 0 < devZ x x.length by omega)))
      have pi : 1 / spreadA x y = spreadA y x := by
        unfold spreadA
        rw [Rat.div_def, Rat.one_mul, Rat.inv_divInt]
      have q1 := qs_mul (spreadA x y) (meanQ x)
      have q2 := qs_sub (meanQ y) (spreadA x y * meanQ x)
      have q3 := qs_mul (spreadA y x) (meanQ y)
      have q4 := qs_sub (meanQ x) (spreadA y x * meanQ y)
      have iv := k_Invert2 (p := spreadA x y) (q := meanQ y - spreadA x y * meanQ x) (by omega) (by omega) p0
      have e1 : -(1 / spreadA x y * (meanQ y - spreadA x y * meanQ x)) = meanQ x - spreadA y x * meanQ y := by
        have hne : spreadA x y ≠ 0 := fun e => by rw [e] at p0; exact absurd p0 Rat.lt_irrefl
        have hm : spreadA x y * (1 / spreadA x y) = 1 := by rw [Rat.div_def, Rat.one_mul]; exact Rat.mul_inv_cancel _ hne
        rw [pi] at hm ⊢
        generalize spreadA x y = a at *
        generalize spreadA y x = b at *
        grind
      rw [e1, pi] at iv
      have va := k_Valid2 (p := spreadA x y) (q := meanQ y - spreadA x y * meanQ x) (by omega)
      rw [decide_eq_true p0] at va
      have sm := f_Same (p := spreadA y x) (q := meanQ x - spreadA y x * meanQ y) (by omega) (by omega)
      generalize meanQ x - spreadA y x * meanQ y = w1 at *
      generalize meanQ y - spreadA x y * meanQ x = w2 at *
      generalize spreadA x y = w3 at *
      generalize spreadA y x = w4 at *
      refine afun_intro mo_ _ _ c9 k9 _ _ rfl (by decide) ?_
      unfold b9
      simp (maxSteps:=1000000) (disch:=first | omega | (simp only [LL];omega)) only [W,V,TY,CC,reduceIte,Nat.reduceEqDiff,Nat.reduceAdd,Nat.reduceLeDiff,Nat.reduceLT,Int.reduceLE,Int.reduceLT,Int.reduceAdd,Int.reduceSub,Int.reduceToNat,Nat.reduceMul,rC]
      refine a_call _ _ s1 (by simp (maxSteps:=1000000) (disch:=first | omega | (simp only [LL];omega)) only [W,V,TY,CC,reduceIte,Nat.reduceEqDiff,Nat.reduceAdd,Nat.reduceLeDiff,Nat.reduceLT,Int.reduceLE,Int.reduceLT,Int.reduceAdd,Int.reduceSub,Int.reduceToNat,Nat.reduceMul,rC,sQ,ratC,eq_self,not_true_eq_false,decide_false,decide_true,beq_self_eq_true,Bool.not_true]) ?_
      simp (maxSteps:=1000000) (disch:=first | omega | (simp only [LL];omega)) only [W,V,TY,CC,reduceIte,Nat.reduceEqDiff,Nat.reduceAdd,Nat.reduceLeDiff,Nat.reduceLT,Int.reduceLE,Int.reduceLT,Int.reduceAdd,Int.reduceSub,Int.reduceToNat,Nat.reduceMul,rC,sQ,ratC,eq_self,not_true_eq_false,decide_false,decide_true,beq_self_eq_true,Bool.not_true]
      refine a_call _ _ s2 (by simp (maxSteps:=1000000) (disch:=first | omega | (simp only [LL];omega)) only [W,V,TY,CC,reduceIte,Nat.reduceEqDiff,Nat.reduceAdd,Nat.reduceLeDiff,Nat.reduceLT,Int.reduceLE,Int.reduceLT,Int.reduceAdd,Int.reduceSub,Int.reduceToNat,Nat.reduceMul,rC,sQ,ratC,eq_self,not_true_eq_false,decide_false,decide_true,beq_self_eq_true,Bool.not_true]) ?_
      simp (maxSteps:=1000000) (disch:=first | omega | (simp only [LL];omega)) only [W,V,TY,CC,reduceIte,Nat.reduceEqDiff,Nat.reduceAdd,Nat.reduceLeDiff,Nat.reduceLT,Int.reduceLE,Int.reduceLT,Int.reduceAdd,Int.reduceSub,Int.reduceToNat,Nat.reduceMul,rC,sQ,ratC,eq_self,not_true_eq_false,decide_false,decide_true,beq_self_eq_true,Bool.not_true]
      refine a_call _ _ iv (by simp (maxSteps:=1000000) (disch:=first | omega | (simp only [LL];omega)) only [W,V,TY,CC,reduceIte,Nat.reduceEqDiff,Nat.reduceAdd,Nat.reduceLeDiff,Nat.reduceLT,Int.reduceLE,Int.reduceLT,Int.reduceAdd,Int.reduceSub,Int.reduceToNat,Nat.reduceMul,rC,sQ,ratC,eq_self,not_true_eq_false,decide_false,decide_true,beq_self_eq_true,Bool.not_true]) ?_
      simp (maxSteps:=1000000) (disch:=first | omega | (simp only [LL];omega)) only [W,V,TY,CC,reduceIte,Nat.reduceEqDiff,Nat.reduceAdd,Nat.reduceLeDiff,Nat.reduceLT,Int.reduceLE,Int.reduceLT,Int.reduceAdd,Int.reduceSub,Int.reduceToNat,Nat.reduceMul,rC,sQ,ratC,eq_self,not_true_eq_false,decide_false,decide_true,beq_self_eq_true,Bool.not_true]
      refine a_call _ _ va (by simp (maxSteps:=1000000) (disch:=first | omega | (simp only [LL];omega)) only [W,V,TY,CC,reduceIte,Nat.reduceEqDiff,Nat.reduceAdd,Nat.reduceLeDiff,Nat.reduceLT,Int.reduceLE,Int.reduceLT,Int.reduceAdd,Int.reduceSub,Int.reduceToNat,Nat.reduceMul,rC,sQ,ratC,eq_self,not_true_eq_false,decide_false,decide_true,beq_self_eq_true,Bool.not_true]) ?_
      simp (maxSteps:=1000000) (disch:=first | omega | (simp only [LL];omega)) only [W,V,TY,CC,reduceIte,Nat.reduceEqDiff,Nat.reduceAdd,Nat.reduceLeDiff,Nat.reduceLT,Int.reduceLE,Int.reduceLT,Int.reduceAdd,Int.reduceSub,Int.reduceToNat,Nat.reduceMul,rC,sQ,ratC,eq_self,not_true_eq_false,decide_false,decide_true,beq_self_eq_true,Bool.not_true]
      refine a_call _ _ sm (by simp (maxSteps:=1000000) (disch:=first | omega | (simp only [LL];omega)) only [W,V,TY,CC,reduceIte,Nat.reduceEqDiff,Nat.reduceAdd,Nat.reduceLeDiff,Nat.reduceLT,Int.reduceLE,Int.reduceLT,Int.reduceAdd,Int.reduceSub,Int.reduceToNat,Nat.reduceMul,rC,sQ,ratC,eq_self,not_true_eq_false,decide_false,decide_true,beq_self_eq_true,Bool.not_true]) ?_
      simp (maxSteps:=1000000) (disch:=first | omega | (simp only [LL];omega)) only [W,V,TY,CC,reduceIte,Nat.reduceEqDiff,Nat.reduceAdd,Nat.reduceLeDiff,Nat.reduceLT,Int.reduceLE,Int.reduceLT,Int.reduceAdd,Int.reduceSub,Int.reduceToNat,Nat.reduceMul,rC,sQ,ratC,eq_self,not_true_eq_false,decide_false,decide_true,beq_self_eq_true,Bool.not_true]
      refine a_call _ _ l45_awake (by simp (maxSteps:=1000000) (disch:=first | omega | (simp only [LL];omega)) only [W,V,TY,CC,reduceIte,Nat.reduceEqDiff,Nat.reduceAdd,Nat.reduceLeDiff,Nat.reduceLT,Int.reduceLE,Int.reduceLT,Int.reduceAdd,Int.reduceSub,Int.reduceToNat,Nat.reduceMul,rC,sQ,ratC,eq_self,not_true_eq_false,decide_false,decide_true,beq_self_eq_true,Bool.not_true]) ?_
      simp (maxSteps:=1000000) (disch:=first | omega | (simp only [LL];omega)) only [W,V,TY,CC,reduceIte,Nat.reduceEqDiff,Nat.reduceAdd,Nat.reduceLeDiff,Nat.reduceLT,Int.reduceLE,Int.reduceLT,Int.reduceAdd,Int.reduceSub,Int.reduceToNat,Nat.reduceMul,rC,sQ,ratC,eq_self,not_true_eq_false,decide_false,decide_true,beq_self_eq_true,Bool.not_true]
      refine f_ret _ _ _ ?_
      simp (maxSteps:=1000000) (disch:=first | omega | (simp only [LL];omega)) only [W,V,TY,CC,reduceIte,Nat.reduceEqDiff,Nat.reduceAdd,Nat.reduceLeDiff,Nat.reduceLT,Int.reduceLE,Int.reduceLT,Int.reduceAdd,Int.reduceSub,Int.reduceToNat,Nat.reduceMul,rC,sQ,ratC,eq_self,not_true_eq_false,decide_false,decide_true,beq_self_eq_true,Bool.not_true]
end Go.Proofs.YtljmgdepldpmdaaDoor.E

set_option linter.unusedSimpArgs false
set_option linter.unusedVariables false
set_option maxHeartbeats 2000000
namespace Go.Proofs.YtljmgdepldpmdaaDoor.E
open Go.RowKit Limbs
/-! ### the residuals -/
def sumR (M : Rat) (x y : List Int) : Nat → Rat
  | 0 => 0
  | i + 1 => sumR M x y i + (1 * ((x.getD i 0 : Int) : Rat) + M - ((y.getD i 0 : Int) : Rat))
theorem sumR_eq (M : Rat) (x y : List Int) : ∀ i, sumR M x y i = ((sumL x i : Int) : Rat) + (((i : Nat) : Int) : Rat) * M - ((sumL y i : Int) : Rat)
  | 0 => by
    show (0 : Rat) = ((0 : Int) : Rat) + ((0 : Int) : Rat) * M - ((0 : Int) : Rat)
    rw [show ((0 : Int) : Rat) = 0 from rfl]
    grind
  | i + 1 => by
    show sumR M x y i + _ = ((sumL x i + x.getD i 0 : Int) : Rat) + (((i : Int) + 1 : Int) : Rat) * M - ((sumL y i + y.getD i 0 : Int) : Rat)
    rw [sumR_eq M x y i, Rat.intCast_add, Rat.intCast_add, Rat.intCast_add, show ((1 : Int) : Rat) = 1 from rfl]
    grind
theorem sumR_zero {x y : List Int} (hp : 0 < x.length) (hl : y.length = x.length) : sumR (meanQ y - meanQ x) x y x.length = 0 := by
  rw [sumR_eq]
  unfold meanQ
  rw [hl, Rat.divInt_eq_div, Rat.divInt_eq_div, Rat.div_def, Rat.div_def]
  have hne : ((x.length : Int) : Rat) ≠ 0 := fun e => by
    have : (x.length : Int) = 0 := by exact_mod_cast e
    omega
  have := Rat.mul_inv_cancel _ hne
  generalize ((x.length : Int) : Rat) = n at *
  generalize ((sumL x x.length : Int) : Rat) = a at *
  generalize ((sumL y x.length : Int) : Rat) = b at *
  generalize n⁻¹ = c at *
  grind
def sq (s : Rat) : Nat → Rat
  | 0 => 0
  | i + 1 => sq s i + s * s
theorem loss_shift (M s : Rat) (x y : List Int) : ∀ i, lossQ 1 (M + s) x y i = lossQ 1 M x y i + 2 * s * sumR M x y i + sq s i
  | 0 => by
    show (0 : Rat) = 0 + 2 * s * 0 + 0
    grind
  | i + 1 => by
    show lossQ 1 (M + s) x y i + _ = (lossQ 1 M x y i + _) + 2 * s * (sumR M x y i + _) + (sq s i + s * s)
    rw [loss_shift M s x y i]
    generalize ((x.getD i 0 : Int) : Rat) = a
    generalize ((y.getD i 0 : Int) : Rat) = b
    grind
theorem sq_self (s : Rat) : 0 ≤ s * s := by
  rcases Rat.le_total (a := 0) (b := s) with h | h
  · exact Rat.mul_nonneg h h
  · have h' : 0 ≤ -s := by grind
    have := Rat.mul_nonneg h' h'
    grind
theorem sq_nn (s : Rat) : ∀ i, 0 ≤ sq s i
  | 0 => Rat.le_refl
  | i + 1 => by
    have := sq_nn s i
    have := sq_self s
    show 0 ≤ sq s i + s * s
    grind
theorem sq_zero (s : Rat) {n : Nat} (hn : 0 < n) : sq s n = 0 ↔ s = 0 := by
  obtain ⟨m, rfl⟩ : ∃ m, n = m + 1 := ⟨n - 1, by omega⟩
  show sq s m + s * s = 0 ↔ s = 0
  have h1 := sq_nn s m
  have h2 := sq_self s
  constructor
  · intro h
    have h3 : s * s = 0 := by grind
    rcases Rat.mul_eq_zero.1 h3 with e | e <;> exact e
  · intro h
    have h4 : ∀ k, sq s k = 0 := fun k => by
      induction k with
      | zero => rfl
      | succ k ih => show sq s k + s * s = 0; rw [ih, h]; grind
    rw [h4, h]
    grind
theorem cmp_add (p d : Rat) (hd : 0 ≤ d) : cmpQ p (p + d) ≤ 0 ∧ (cmpQ p (p + d) = 0 ↔ d = 0) := by
  refine ⟨(cmpQ_le _ _).2 (by grind), ?_⟩
  rw [cmpQ_eq]
  constructor <;> intro h <;> grind
theorem l45_number' (n : Int) (a0 : -9223372036854775808 ≤ n) (a1 : n < 9223372036854775808) : AFun Tryd.prog 39 [.one (.lit (.int .i64 n))] [.agg (ratC (n : Rat))] := by
  have := l45_number n a0 a1
  rwa [divInt_one] at this
theorem k_Loss2 {p q : Rat} {k : Nat} (hp : qs p ≤ k) (hq : qs q ≤ k) (hk : k ≤ 100000000) {x y : List Int} (h : anchV x y = 0) : AFun Tryd.prog 40 [.agg (sQ p q), .one (intsD x), .one (intsD y)] [.agg (ratC (lossQ p q x y x.length)), .one (.lit (.int .i64 0))] := by
  have := k_Loss0 (rok_nr (k := 68719476600) (q := p) (by omega)) (rok_nr (k := 68719476600) (q := q) (by omega)) (k := k) (by rw [nr_q]; exact hp) (by rw [nr_q]; exact hq) hk h
  simp only [nr_q, rC_nr] at this
  exact this
theorem qs_sumR {M : Rat} (hM : qs M ≤ 30) {x y : List Int} (hx : numB x = true) (hy : numB y = true) (hl : y.length = x.length) : ∀ i, i ≤ x.length → qs (sumR M x y i) ≤ 10 + i * 100
  | 0, _ => by
    have := qs_int (x := 0) (by decide) (by decide)
    show qs ((0 : Int) : Rat) ≤ _
    omega
  | i + 1, hi => by
    have h1 := qs_sumR hM hx hy hl i (by omega)
    have h2 := numB_at hx (i := i) (by omega)
    have h3 := numB_at hy (i := i) (by omega)
    have q1 : qs (1 : Rat) ≤ 30 := Nat.le_trans (qs_int (x := 1) (by decide) (by decide)) (by decide)
    have h4 := (qs_res q1 hM h2.1 h2.2 h3.1 h3.2).2.2.1
    have h5 := qs_add (sumR M x y i) (1 * ((x.getD i 0 : Int) : Rat) + M - ((y.getD i 0 : Int) : Rat))
    show qs (sumR M x y i + _) ≤ _
    rw [Nat.add_mul]
    omega
/-- examboard/examboardlaw45.LinkingMean -/
def b8 : AF := ⟨99, 3, [.tmp 6],
  (.seq (.reg [
    ⟨some 5, .box 27 (.tmp 2), none⟩,
    ⟨some 6, .assign (.const (.bool false)), none⟩])
  (.seq (.reg [
    ⟨some 15, .move (.tmp 0), none⟩,
    ⟨some 16, .move (.tmp 1), none⟩,
    ⟨some 17, .call ⟨(.value (.func 38)), #[(.tmp 15), (.tmp 16)], #[62, 62]⟩, none⟩,
    ⟨some 14, .move (.tmp 17), none⟩,
    ⟨some 18, .extract (.tmp 14) 0, none⟩,
    ⟨some 19, .extract (.tmp 14) 1, none⟩,
    ⟨some 7, .alloc 53, none⟩,
    ⟨none, .store 53 (.tmp 7) (.tmp 18), none⟩,
    ⟨some 8, .assign (.tmp 19), none⟩])
  (.seq (.seq (.reg [
    ⟨some 20, .move (.tmp 8), none⟩,
    ⟨some 21, .binOp .neq 57 (.tmp 20) (.const (.int .i64 0)) 57, none⟩])
  (.cond (.tmp 21)
    (.seq (.reg [
      ⟨some 22, .call ⟨(.value (.func 37)), #[], #[]⟩, none⟩,
      ⟨some 6, .assign (.tmp 22), none⟩])
    .ret)
    .skip))
  (.seq (.reg [
    ⟨some 23, .call ⟨(.value (.func 39)), #[(.const (.int .i64 0))], #[3]⟩, none⟩,
    ⟨some 9, .alloc 27, none⟩,
    ⟨none, .store 27 (.tmp 9) (.tmp 23), none⟩])
  (.seq (.seq (.reg [
    ⟨some 10, .assign (.const (.int .i64 0)), none⟩])
  (.block 0 (.loop (.seq (.seq (.reg [
    ⟨some 24, .move (.tmp 10), none⟩,
    ⟨some 25, .move (.tmp 0), none⟩,
    ⟨some 26, .call ⟨(.builtin .len), #[(.tmp 25)], #[62]⟩, none⟩,
    ⟨some 27, .binOp .lss 3 (.tmp 24) (.tmp 26) 3, none⟩])
  (.cond (.tmp 27)
    .skip
    (.exit 0)))
  (.seq (.block 1 (.dreg [
    ⟨some 30, .load 27 (.tmp 9), none⟩,
    ⟨some 31, .load 53 (.tmp 7), none⟩,
    ⟨some 32, .move (.tmp 0), none⟩,
    ⟨some 33, .move (.tmp 10), none⟩,
    ⟨some 34, .indexAddr 62 (.tmp 32) (.tmp 33), none⟩,
    ⟨some 35, .load 3 (.tmp 34), none⟩,
    ⟨some 36, .call ⟨(.value (.func 39)), #[(.tmp 35)], #[3]⟩, none⟩,
    ⟨some 37, .call ⟨(.value (.func 33)), #[(.tmp 31), (.tmp 36)], #[53, 27]⟩, none⟩,
    ⟨some 38, .move (.tmp 1), none⟩,
    ⟨some 39, .move (.tmp 10), none⟩,
    ⟨some 40, .indexAddr 62 (.tmp 38) (.tmp 39), none⟩,
    ⟨some 41, .load 3 (.tmp 40), none⟩,
    ⟨some 42, .call ⟨(.value (.func 39)), #[(.tmp 41)], #[3]⟩, none⟩,
    ⟨some 43, .call ⟨(.value (.func 16)), #[(.tmp 37), (.tmp 42)], #[27, 27]⟩, none⟩,
    ⟨some 44, .call ⟨(.value (.func 14)), #[(.tmp 30), (.tmp 43)], #[27, 27]⟩, none⟩,
    ⟨none, .store 27 (.tmp 9) (.tmp 44), none⟩]))
  (.reg [
    ⟨some 28, .move (.tmp 10), none⟩,
    ⟨some 29, .binOp .add 3 (.tmp 28) (.const (.int .i64 1)) 3, none⟩,
    ⟨some 10, .assign (.tmp 29), none⟩]))))))
  (.seq (.reg [
    ⟨some 46, .load 53 (.tmp 7), none⟩,
    ⟨some 47, .move (.tmp 0), none⟩,
    ⟨some 48, .move (.tmp 1), none⟩,
    ⟨some 49, .call ⟨(.value (.func 40)), #[(.tmp 46), (.tmp 47), (.tmp 48)], #[53, 62, 62]⟩, none⟩,
    ⟨some 45, .move (.tmp 49), none⟩,
    ⟨some 50, .extract (.tmp 45) 0, none⟩,
    ⟨some 51, .extract (.tmp 45) 1, none⟩,
    ⟨some 11, .alloc 27, none⟩,
    ⟨none, .store 27 (.tmp 11) (.tmp 50), none⟩,
    ⟨some 8, .assign (.tmp 51), none⟩])
  (.seq (.dreg [
    ⟨some 53, .fieldAddr 53 (.tmp 7) 0, none⟩,
    ⟨some 54, .load 27 (.tmp 53), none⟩,
    ⟨some 55, .fieldAddr 53 (.tmp 7) 1, none⟩,
    ⟨some 56, .load 27 (.tmp 55), none⟩,
    ⟨some 57, .load 27 (.tmp 5), none⟩,
    ⟨some 58, .call ⟨(.value (.func 14)), #[(.tmp 56), (.tmp 57)], #[27, 27]⟩, none⟩,
    ⟨some 59, .build 53 #[(0, (.tmp 54)), (1, (.tmp 58))], none⟩,
    ⟨some 60, .move (.tmp 0), none⟩,
    ⟨some 61, .move (.tmp 1), none⟩,
    ⟨some 62, .call ⟨(.value (.func 40)), #[(.tmp 59), (.tmp 60), (.tmp 61)], #[53, 62, 62]⟩, none⟩,
    ⟨some 52, .move (.tmp 62), none⟩,
    ⟨some 63, .extract (.tmp 52) 0, none⟩,
    ⟨some 64, .extract (.tmp 52) 1, none⟩,
    ⟨some 12, .alloc 27, none⟩,
    ⟨none, .store 27 (.tmp 12) (.tmp 63), none⟩,
    ⟨some 13, .assign (.tmp 64), none⟩])
  (.seq (.seq (.reg [
    ⟨some 65, .move (.tmp 8), none⟩,
    ⟨some 66, .binOp .neq 57 (.tmp 65) (.const (.int .i64 0)) 57, none⟩,
    ⟨some 67, .move (.tmp 66), none⟩,
    ⟨some 68, .move (.tmp 13), some (67, false)⟩,
    ⟨some 69, .binOp .neq 57 (.tmp 68) (.const (.int .i64 0)) 57, some (67, false)⟩,
    ⟨some 70, .pick (.tmp 67) (.const (.bool true)) (.tmp 69), none⟩,
    ⟨some 71, .move (.tmp 70), none⟩,
    ⟨some 72, .load 27 (.tmp 9), some (71, false)⟩,
    ⟨some 73, .call ⟨(.value (.func 22)), #[(.tmp 72)], #[27]⟩, some (71, false)⟩,
    ⟨some 74, .binOp .neq 3 (.tmp 73) (.const (.int .i64 0)) 3, some (71, false)⟩,
    ⟨some 75, .pick (.tmp 71) (.const (.bool true)) (.tmp 74), none⟩,
    ⟨some 76, .move (.tmp 75), none⟩,
    ⟨some 77, .fieldAddr 53 (.tmp 7) 0, some (76, false)⟩,
    ⟨some 78, .load 27 (.tmp 77), some (76, false)⟩,
    ⟨some 79, .call ⟨(.value (.func 41)), #[(.tmp 78)], #[27]⟩, some (76, false)⟩,
    ⟨some 80, .binOp .neq 9 (.tmp 79) (.const (.string ⟨#[49]⟩)) 9, some (76, false)⟩,
    ⟨some 81, .pick (.tmp 76) (.const (.bool true)) (.tmp 80), none⟩])
  (.cond (.tmp 81)
    (.seq (.reg [
      ⟨some 6, .assign (.const (.bool false)), none⟩])
    .ret)
    .skip))
  (.seq (.dreg [
    ⟨some 82, .load 27 (.tmp 11), none⟩,
    ⟨some 83, .load 27 (.tmp 12), none⟩,
    ⟨some 84, .call ⟨(.value (.func 23)), #[(.tmp 82), (.tmp 83)], #[27, 27]⟩, none⟩,
    ⟨some 85, .binOp .leq 3 (.tmp 84) (.const (.int .i64 0)) 3, none⟩,
    ⟨some 86, .move (.tmp 85), none⟩,
    ⟨some 87, .load 27 (.tmp 11), some (86, true)⟩,
    ⟨some 88, .load 27 (.tmp 12), some (86, true)⟩,
    ⟨some 89, .call ⟨(.value (.func 23)), #[(.tmp 87), (.tmp 88)], #[27, 27]⟩, some (86, true)⟩,
    ⟨some 90, .binOp .eql 3 (.tmp 89) (.const (.int .i64 0)) 3, some (86, true)⟩,
    ⟨some 91, .load 27 (.tmp 5), some (86, true)⟩,
    ⟨some 92, .call ⟨(.value (.func 22)), #[(.tmp 91)], #[27]⟩, some (86, true)⟩,
    ⟨some 93, .binOp .eql 3 (.tmp 92) (.const (.int .i64 0)) 3, some (86, true)⟩,
    ⟨some 94, .binOp .eql 4 (.tmp 90) (.tmp 93) 4, some (86, true)⟩,
    ⟨some 95, .pick (.tmp 86) (.tmp 94) (.const (.bool false)), none⟩,
    ⟨some 96, .move (.tmp 95), none⟩,
    ⟨some 97, .call ⟨(.value (.func 37)), #[], #[]⟩, some (96, true)⟩,
    ⟨some 98, .pick (.tmp 96) (.tmp 97) (.const (.bool false)), none⟩,
    ⟨some 6, .assign (.tmp 98), none⟩])
  .ret)))))))))⟩
theorem c8 : fcomp Tryd.prog 8 = ⟨b8.n, b8.np, b8.res, b8.body.bare⟩ := by kernel_rfl
theorem k8 : fok Tryd.prog 8 = true := by kernel_rfl
set_option maxHeartbeats 8000000 in
theorem l45_LinkingMean (x : List Int) (_hx : ∀ z ∈ x, -9223372036854775808 ≤ z ∧ z ≤ 9223372036854775807) (lx' : x.length ≤ 1048576) (y : List Int) (_hy : ∀ z ∈ y, -9223372036854775808 ≤ z ∧ z ≤ 9223372036854775807) (ly' : y.length ≤ 1048576) {X : RR} (hX' : rok 1048576 X) : AFun Tryd.prog 8 [.one (intsD x), .one (intsD y), .agg (rC X)] [.one (.lit (.bool true))] := by
  have lx : x.length ≤ 9223372036854775807 := by omega
  have ly : y.length ≤ 9223372036854775807 := by omega
  by_cases h : anchV x y = 0
  case neg =>
    have m1 := k_MeanE lx ly h
    generalize anchV x y = e at *
    refine afun_intro mo_ _ _ c8 k8 _ _ rfl (by decide) ?_
    unfold b8
    simp (maxSteps:=1000000) (disch:=first | omega | (simp only [LL];omega)) only [W,V,TY,CC,reduceIte,Nat.reduceEqDiff,Nat.reduceAdd,Nat.reduceLeDiff,Nat.reduceLT,Int.reduceLE,Int.reduceLT,Int.reduceAdd,Int.reduceSub,Int.reduceToNat,Nat.reduceMul,rC]
    refine a_call _ _ m1 (by simp (maxSteps:=1000000) (disch:=first | omega | (simp only [LL];omega)) only [W,V,TY,CC,reduceIte,Nat.reduceEqDiff,Nat.reduceAdd,Nat.reduceLeDiff,Nat.reduceLT,Int.reduceLE,Int.reduceLT,Int.reduceAdd,Int.reduceSub,Int.reduceToNat,Nat.reduceMul,rC,sQ,ratC,eq_self,not_true_eq_false,decide_false,decide_true,beq_self_eq_true,Bool.not_true,zS,h,not_false_eq_true]) ?_
    simp (maxSteps:=1000000) (disch:=first | omega | (simp only [LL];omega)) only [W,V,TY,CC,reduceIte,Nat.reduceEqDiff,Nat.reduceAdd,Nat.reduceLeDiff,Nat.reduceLT,Int.reduceLE,Int.reduceLT,Int.reduceAdd,Int.reduceSub,Int.reduceToNat,Nat.reduceMul,rC,sQ,ratC,eq_self,not_true_eq_false,decide_false,decide_true,beq_self_eq_true,Bool.not_true,zS,h,not_false_eq_true]
    refine a_call _ _ l45_awake (by simp (maxSteps:=1000000) (disch:=first | omega | (simp only [LL];omega)) only [W,V,TY,CC,reduceIte,Nat.reduceEqDiff,Nat.reduceAdd,Nat.reduceLeDiff,Nat.reduceLT,Int.reduceLE,Int.reduceLT,Int.reduceAdd,Int.reduceSub,Int.reduceToNat,Nat.reduceMul,rC,sQ,ratC,eq_self,not_true_eq_false,decide_false,decide_true,beq_self_eq_true,Bool.not_true,zS,h,not_false_eq_true]) ?_
    simp (maxSteps:=1000000) (disch:=first | omega | (simp only [LL];omega)) only [W,V,TY,CC,reduceIte,Nat.reduceEqDiff,Nat.reduceAdd,Nat.reduceLeDiff,Nat.reduceLT,Int.reduceLE,Int.reduceLT,Int.reduceAdd,Int.reduceSub,Int.reduceToNat,Nat.reduceMul,rC,sQ,ratC,eq_self,not_true_eq_false,decide_false,decide_true,beq_self_eq_true,Bool.not_true,zS,h,not_false_eq_true]
    refine f_ret _ _ _ ?_
    simp (maxSteps:=1000000) (disch:=first | omega | (simp only [LL];omega)) only [W,V,TY,CC,reduceIte,Nat.reduceEqDiff,Nat.reduceAdd,Nat.reduceLeDiff,Nat.reduceLT,Int.reduceLE,Int.reduceLT,Int.reduceAdd,Int.reduceSub,Int.reduceToNat,Nat.reduceMul,rC,sQ,ratC,eq_self,not_true_eq_false,decide_false,decide_true,beq_self_eq_true,Bool.not_true]
  case pos =>
    have ho := anch_ok h
    have hX := hX'.mono (b := 68719476600) (by decide)
    have qX := qs_rr hX'
    have l60 := ho.lx
    have qx := qs_mean ho.nx ho.lx
    have qy := qs_mean ho.ny ho.swap.lx
    have m1 := k_Mean0 lx ly h
    have hz := sumR_zero ho.pos ho.ly
    have qM := qs_sub (meanQ y) (meanQ x)
    generalize meanQ y - meanQ x = M at *
    have q1 : qs (1 : Rat) ≤ 10 := qs_int (x := 1) (by decide) (by decide)
    have n0 := l45_number' 0 (by decide) (by decide)
    rw [show ((0 : Int) : Rat) = 0 from rfl] at n0
    have o1 := k_Loss2 (p := 1) (q := M) (k := 30) (by omega) (by omega) (by decide) h
    have a1 := R_Add (rok_nr (k := 68719476600) (q := M) (by omega)) hX
    rw [nr_q, rC_nr] at a1
    have qMX := qs_add M X.q
    have o2 := k_Loss2 (p := 1) (q := M + X.q) (k := 1100000) (by omega) (by omega) (by decide) h
    have l1 := qs_loss (A := 1) (B := M) (k := 30) (by omega) (by omega) ho.nx ho.ny ho.ly x.length (Nat.le_refl _)
    have l2 := qs_loss (A := 1) (B := M + X.q) (k := 1100000) (by omega) (by omega) ho.nx ho.ny ho.ly x.length (Nat.le_refl _)
    have l3 : x.length * (4 * 30 + 48) ≤ 60 * (4 * 30 + 48) := Nat.mul_le_mul_right _ l60
    have l4 : x.length * (4 * 1100000 + 48) ≤ 60 * (4 * 1100000 + 48) := Nat.mul_le_mul_right _ l60
    have cp := rat_Cmp2 (a := lossQ 1 M x y x.length) (b := lossQ 1 (M + X.q) x y x.length) (by omega) (by omega)
    have sh := loss_shift M X.q x y x.length
    rw [hz] at sh
    have ca := cmp_add (lossQ 1 M x y x.length) (sq X.q x.length) (sq_nn _ _)
    rw [show lossQ 1 M x y x.length + sq X.q x.length = lossQ 1 (M + X.q) x y x.length by rw [sh]; grind] at ca
    have sg := R_Sign hX
    have hcs : (cmpQ (lossQ 1 M x y x.length) (lossQ 1 (M + X.q) x y x.length) = 0) = (sgnQ X.q = 0) := propext (ca.2.trans ((sq_zero X.q ho.pos).trans (sgnQ_zero X.q).symm))
    have hcl : (cmpQ (lossQ 1 M x y x.length) (lossQ 1 (M + X.q) x y x.length) ≤ 0) = True := eq_true ca.1
    have s0 := rat_Sign2 (a := 0) (by have := qs_int (x := 0) (by decide) (by decide); show qs ((0 : Int) : Rat) < _; omega)
    rw [show sgnQ 0 = 0 by decide +kernel] at s0
    have pr := rat_Print (1 : Rat) (by decide +kernel) (by decide +kernel) (by decide +kernel)
    rw [show digQ (1 : Rat) = ⟨#[49]⟩ by decide +kernel] at pr
    generalize sgnQ X.q = sv at *
    generalize cmpQ (lossQ 1 M x y x.length) (lossQ 1 (M + X.q) x y x.length) = cv at *
    clear sh ca l1 l2 l3 l4
    generalize lossQ 1 M x y x.length = w1 at *
    generalize lossQ 1 (M + X.q) x y x.length = w2 at *
    generalize M + X.q = w3 at *
    refine afun_intro mo_ _ _ c8 k8 _ _ rfl (by decide) ?_
    unfold b8
    simp (maxSteps:=1000000) (disch:=first | omega | (simp only [LL];omega)) only [W,V,TY,CC,reduceIte,Nat.reduceEqDiff,Nat.reduceAdd,Nat.reduceLeDiff,Nat.reduceLT,Int.reduceLE,Int.reduceLT,Int.reduceAdd,Int.reduceSub,Int.reduceToNat,Nat.reduceMul,rC]
    refine a_call _ _ m1 (by simp (maxSteps:=1000000) (disch:=first | omega | (simp only [LL];omega)) only [W,V,TY,CC,reduceIte,Nat.reduceEqDiff,Nat.reduceAdd,Nat.reduceLeDiff,Nat.reduceLT,Int.reduceLE,Int.reduceLT,Int.reduceAdd,Int.reduceSub,Int.reduceToNat,Nat.reduceMul,rC,sQ,ratC,eq_self,not_true_eq_false,decide_false,decide_true,beq_self_eq_true,Bool.not_true]) ?_
    simp (maxSteps:=1000000) (disch:=first | omega | (simp only [LL];omega)) only [W,V,TY,CC,reduceIte,Nat.reduceEqDiff,Nat.reduceAdd,Nat.reduceLeDiff,Nat.reduceLT,Int.reduceLE,Int.reduceLT,Int.reduceAdd,Int.reduceSub,Int.reduceToNat,Nat.reduceMul,rC,sQ,ratC,eq_self,not_true_eq_false,decide_false,decide_true,beq_self_eq_true,Bool.not_true]
    refine a_call _ _ n0 (by simp (maxSteps:=1000000) (disch:=first | omega | (simp only [LL];omega)) only [W,V,TY,CC,reduceIte,Nat.reduceEqDiff,Nat.reduceAdd,Nat.reduceLeDiff,Nat.reduceLT,Int.reduceLE,Int.reduceLT,Int.reduceAdd,Int.reduceSub,Int.reduceToNat,Nat.reduceMul,rC,sQ,ratC,eq_self,not_true_eq_false,decide_false,decide_true,beq_self_eq_true,Bool.not_true]) ?_
    simp (maxSteps:=1000000) (disch:=first | omega | (simp only [LL];omega)) only [W,V,TY,CC,reduceIte,Nat.reduceEqDiff,Nat.reduceAdd,Nat.reduceLeDiff,Nat.reduceLT,Int.reduceLE,Int.reduceLT,Int.reduceAdd,Int.reduceSub,Int.reduceToNat,Nat.reduceMul,rC,sQ,ratC,eq_self,not_true_eq_false,decide_false,decide_true,beq_self_eq_true,Bool.not_true]
    refine w_loop (fun n s => ∃ i : Nat, n + i = x.length ∧ s.t 0 = .one (.dt (intsD x)) ∧ s.t 1 = .one (.dt (intsD y)) ∧ s.t 5 = .ptr (5, 0) 0 ∧ s.v (5, 0) = some ((rC X).map .dt) ∧ s.t 7 = .ptr (7, 0) 0 ∧ s.v (7, 0) = some ((sQ 1 M).map .dt) ∧ s.t 9 = .ptr (9, 0) 0 ∧ s.v (9, 0) = some ((ratC (sumR M x y i)).map .dt) ∧ s.f (9, 0) = false ∧ s.t 10 = .one (.dt (.lit (.int .i64 i)))) x.length ⟨0, rfl, ?_, ?_, ?_, ?_, ?_, ?_, ?_, ?_, ?_, ?_⟩ ?_
    · simp (maxSteps:=1000000) (disch:=first | omega | (simp only [LL];omega)) only [W,V,TY,CC,reduceIte,Nat.reduceEqDiff,Nat.reduceAdd,Nat.reduceLeDiff,Nat.reduceLT,Int.reduceLE,Int.reduceLT,Int.reduceAdd,Int.reduceSub,Int.reduceToNat,Nat.reduceMul]
    · simp (maxSteps:=1000000) (disch:=first | omega | (simp only [LL];omega)) only [W,V,TY,CC,reduceIte,Nat.reduceEqDiff,Nat.reduceAdd,Nat.reduceLeDiff,Nat.reduceLT,Int.reduceLE,Int.reduceLT,Int.reduceAdd,Int.reduceSub,Int.reduceToNat,Nat.reduceMul]
    · simp (maxSteps:=1000000) (disch:=first | omega | (simp only [LL];omega)) only [W,V,TY,CC,reduceIte,Nat.reduceEqDiff,Nat.reduceAdd,Nat.reduceLeDiff,Nat.reduceLT,Int.reduceLE,Int.reduceLT,Int.reduceAdd,Int.reduceSub,Int.reduceToNat,Nat.reduceMul]
    · simp (maxSteps:=1000000) (disch:=first | omega | (simp only [LL];omega)) only [W,V,TY,CC,reduceIte,Nat.reduceEqDiff,Nat.reduceAdd,Nat.reduceLeDiff,Nat.reduceLT,Int.reduceLE,Int.reduceLT,Int.reduceAdd,Int.reduceSub,Int.reduceToNat,Nat.reduceMul,rC]
    · simp (maxSteps:=1000000) (disch:=first | omega | (simp only [LL];omega)) only [W,V,TY,CC,reduceIte,Nat.reduceEqDiff,Nat.reduceAdd,Nat.reduceLeDiff,Nat.reduceLT,Int.reduceLE,Int.reduceLT,Int.reduceAdd,Int.reduceSub,Int.reduceToNat,Nat.reduceMul]
    · simp (maxSteps:=1000000) (disch:=first | omega | (simp only [LL];omega)) only [W,V,TY,CC,reduceIte,Nat.reduceEqDiff,Nat.reduceAdd,Nat.reduceLeDiff,Nat.reduceLT,Int.reduceLE,Int.reduceLT,Int.reduceAdd,Int.reduceSub,Int.reduceToNat,Nat.reduceMul,sQ,ratC]
    · simp (maxSteps:=1000000) (disch:=first | omega | (simp only [LL];omega)) only [W,V,TY,CC,reduceIte,Nat.reduceEqDiff,Nat.reduceAdd,Nat.reduceLeDiff,Nat.reduceLT,Int.reduceLE,Int.reduceLT,Int.reduceAdd,Int.reduceSub,Int.reduceToNat,Nat.reduceMul]
    · simp (maxSteps:=1000000) (disch:=first | omega | (simp only [LL];omega)) only [W,V,TY,CC,reduceIte,Nat.reduceEqDiff,Nat.reduceAdd,Nat.reduceLeDiff,Nat.reduceLT,Int.reduceLE,Int.reduceLT,Int.reduceAdd,Int.reduceSub,Int.reduceToNat,Nat.reduceMul,ratC]
      rfl
    · simp (maxSteps:=1000000) (disch:=first | omega | (simp only [LL];omega)) only [W,V,TY,CC,reduceIte,Nat.reduceEqDiff,Nat.reduceAdd,Nat.reduceLeDiff,Nat.reduceLT,Int.reduceLE,Int.reduceLT,Int.reduceAdd,Int.reduceSub,Int.reduceToNat,Nat.reduceMul]
    · simp (maxSteps:=1000000) (disch:=first | omega | (simp only [LL];omega)) only [W,V,TY,CC,reduceIte,Nat.reduceEqDiff,Nat.reduceAdd,Nat.reduceLeDiff,Nat.reduceLT,Int.reduceLE,Int.reduceLT,Int.reduceAdd,Int.reduceSub,Int.reduceToNat,Nat.reduceMul]
    intro n s hwf ⟨i, e, t0, t1, t5, v5, t7, v7, t9, v9, f9, t10⟩
    simp only [rC, sQ, ratC, List.map_cons, List.map_nil, List.cons_append, List.nil_append] at v5 v7 v9
    have f11 := (hwf 11 (s.g 11) (Nat.le_refl _)).2.2
    have f12 := (hwf 12 (s.g 12) (Nat.le_refl _)).2.2
    simp (maxSteps:=1000000) (disch:=first | omega | (simp only [LL];omega)) only [W,V,TY,CC,reduceIte,Nat.reduceEqDiff,Nat.reduceAdd,Nat.reduceLeDiff,Nat.reduceLT,Int.reduceLE,Int.reduceLT,Int.reduceAdd,Int.reduceSub,Int.reduceToNat,Nat.reduceMul,t0,t1,t5,v5,t7,v7,t9,v9,f9,t10]
    refine c_split (fun hi => ?_) (fun hi => ?_)
    · have hil : i < x.length := by omega
      have hiy : i < y.length := by have := ho.ly; omega
      have d1 := numB_at ho.nx hil
      have d2 := numB_at ho.ny hiy
      have w1 := l45_number' (x.getD i 0) (by omega) (by omega)
      have w2 := l45_number' (y.getD i 0) (by omega) (by omega)
      have r1 := qs_res (A := 1) (B := M) (k := 30) (by omega) (by omega) d1.1 d1.2 d2.1 d2.2
      have r2 := qs_sumR (M := M) (by omega) ho.nx ho.ny ho.ly i (by omega)
      have r3 : i * 100 ≤ 60 * 100 := Nat.mul_le_mul_right _ (by omega)
      have q3 := qs_int (x := x.getD i 0) (by omega) (by omega)
      have q4 := qs_int (x := y.getD i 0) (by omega) (by omega)
      have ap := k_Apply2 (p := 1) (q := M) (z := ((x.getD i 0 : Int) : Rat)) (by omega) (by omega) (by omega)
      have sb := rat_Sub2 (a := 1 * ((x.getD i 0 : Int) : Rat) + M) (b := ((y.getD i 0 : Int) : Rat)) (by omega) (by omega)
      have ad := rat_Add2 (a := sumR M x y i) (b := 1 * ((x.getD i 0 : Int) : Rat) + M - ((y.getD i 0 : Int) : Rat)) (by omega) (by omega)
      have hR : sumR M x y (i + 1) = sumR M x y i + (1 * ((x.getD i 0 : Int) : Rat) + M - ((y.getD i 0 : Int) : Rat)) := rfl
      simp (maxSteps:=1000000) (disch:=first | omega | (simp only [LL];omega)) only [W,V,TY,CC,reduceIte,Nat.reduceEqDiff,Nat.reduceAdd,Nat.reduceLeDiff,Nat.reduceLT,Int.reduceLE,Int.reduceLT,Int.reduceAdd,Int.reduceSub,Int.reduceToNat,Nat.reduceMul,t0,t1,t5,v5,t7,v7,t9,v9,f9,t10]
      refine a_call _ _ w1 (by simp (maxSteps:=1000000) (disch:=first | omega | (simp only [LL];omega)) only [W,V,TY,CC,reduceIte,Nat.reduceEqDiff,Nat.reduceAdd,Nat.reduceLeDiff,Nat.reduceLT,Int.reduceLE,Int.reduceLT,Int.reduceAdd,Int.reduceSub,Int.reduceToNat,Nat.reduceMul,t0,t1,t5,v5,t7,v7,t9,v9,f9,t10,sQ,ratC]) ?_
      simp (maxSteps:=1000000) (disch:=first | omega | (simp only [LL];omega)) only [W,V,TY,CC,reduceIte,Nat.reduceEqDiff,Nat.reduceAdd,Nat.reduceLeDiff,Nat.reduceLT,Int.reduceLE,Int.reduceLT,Int.reduceAdd,Int.reduceSub,Int.reduceToNat,Nat.reduceMul,t0,t1,t5,v5,t7,v7,t9,v9,f9,t10,sQ,ratC]
      refine a_call _ _ ap (by simp (maxSteps:=1000000) (disch:=first | omega | (simp only [LL];omega)) only [W,V,TY,CC,reduceIte,Nat.reduceEqDiff,Nat.reduceAdd,Nat.reduceLeDiff,Nat.reduceLT,Int.reduceLE,Int.reduceLT,Int.reduceAdd,Int.reduceSub,Int.reduceToNat,Nat.reduceMul,t0,t1,t5,v5,t7,v7,t9,v9,f9,t10,sQ,ratC]) ?_
      simp (maxSteps:=1000000) (disch:=first | omega | (simp only [LL];omega)) only [W,V,TY,CC,reduceIte,Nat.reduceEqDiff,Nat.reduceAdd,Nat.reduceLeDiff,Nat.reduceLT,Int.reduceLE,Int.reduceLT,Int.reduceAdd,Int.reduceSub,Int.reduceToNat,Nat.reduceMul,t0,t1,t5,v5,t7,v7,t9,v9,f9,t10,sQ,ratC]
      refine a_call _ _ w2 (by simp (maxSteps:=1000000) (disch:=first | omega | (simp only [LL];omega)) only [W,V,TY,CC,reduceIte,Nat.reduceEqDiff,Nat.reduceAdd,Nat.reduceLeDiff,Nat.reduceLT,Int.reduceLE,Int.reduceLT,Int.reduceAdd,Int.reduceSub,Int.reduceToNat,Nat.reduceMul,t0,t1,t5,v5,t7,v7,t9,v9,f9,t10,sQ,ratC]) ?_
      simp (maxSteps:=1000000) (disch:=first | omega | (simp only [LL];omega)) only [W,V,TY,CC,reduceIte,Nat.reduceEqDiff,Nat.reduceAdd,Nat.reduceLeDiff,Nat.reduceLT,Int.reduceLE,Int.reduceLT,Int.reduceAdd,Int.reduceSub,Int.reduceToNat,Nat.reduceMul,t0,t1,t5,v5,t7,v7,t9,v9,f9,t10,sQ,ratC]
      refine a_call _ _ sb (by simp (maxSteps:=1000000) (disch:=first | omega | (simp only [LL];omega)) only [W,V,TY,CC,reduceIte,Nat.reduceEqDiff,Nat.reduceAdd,Nat.reduceLeDiff,Nat.reduceLT,Int.reduceLE,Int.reduceLT,Int.reduceAdd,Int.reduceSub,Int.reduceToNat,Nat.reduceMul,t0,t1,t5,v5,t7,v7,t9,v9,f9,t10,sQ,ratC]) ?_
      simp (maxSteps:=1000000) (disch:=first | omega | (simp only [LL];omega)) only [W,V,TY,CC,reduceIte,Nat.reduceEqDiff,Nat.reduceAdd,Nat.reduceLeDiff,Nat.reduceLT,Int.reduceLE,Int.reduceLT,Int.reduceAdd,Int.reduceSub,Int.reduceToNat,Nat.reduceMul,t0,t1,t5,v5,t7,v7,t9,v9,f9,t10,sQ,ratC]
      refine a_call _ _ ad (by simp (maxSteps:=1000000) (disch:=first | omega | (simp only [LL];omega)) only [W,V,TY,CC,reduceIte,Nat.reduceEqDiff,Nat.reduceAdd,Nat.reduceLeDiff,Nat.reduceLT,Int.reduceLE,Int.reduceLT,Int.reduceAdd,Int.reduceSub,Int.reduceToNat,Nat.reduceMul,t0,t1,t5,v5,t7,v7,t9,v9,f9,t10,sQ,ratC]) ?_
      simp (maxSteps:=1000000) (disch:=first | omega | (simp only [LL];omega)) only [W,V,TY,CC,reduceIte,Nat.reduceEqDiff,Nat.reduceAdd,Nat.reduceLeDiff,Nat.reduceLT,Int.reduceLE,Int.reduceLT,Int.reduceAdd,Int.reduceSub,Int.reduceToNat,Nat.reduceMul,t0,t1,t5,v5,t7,v7,t9,v9,f9,t10,sQ,ratC]
      refine ⟨n - 1, by omega, i + 1, by omega, ?_⟩
      rw [hR]
      first | exact ⟨rfl, rfl, rfl, rfl⟩ | exact ⟨rfl, rfl, rfl⟩ | exact ⟨rfl, rfl⟩
    · obtain rfl : i = x.length := by omega
      rw [hz] at v9
      simp (maxSteps:=1000000) (disch:=first | omega | (simp only [LL];omega)) only [W,V,TY,CC,reduceIte,Nat.reduceEqDiff,Nat.reduceAdd,Nat.reduceLeDiff,Nat.reduceLT,Int.reduceLE,Int.reduceLT,Int.reduceAdd,Int.reduceSub,Int.reduceToNat,Nat.reduceMul,t0,t1,t5,v5,t7,v7,t9,v9,f9,t10]
      refine a_call _ _ o1 (by simp (maxSteps:=1000000) (disch:=first | omega | (simp only [LL];omega)) only [W,V,TY,CC,reduceIte,Nat.reduceEqDiff,Nat.reduceAdd,Nat.reduceLeDiff,Nat.reduceLT,Int.reduceLE,Int.reduceLT,Int.reduceAdd,Int.reduceSub,Int.reduceToNat,Nat.reduceMul,t0,t1,t5,v5,t7,v7,t9,v9,f9,t10,f11,f12,hcl,hcs,rC,sQ,ratC,eq_self,not_true_eq_false,decide_false,decide_true,beq_self_eq_true,Bool.not_true]) ?_
      simp (maxSteps:=1000000) (disch:=first | omega | (simp only [LL];omega)) only [W,V,TY,CC,reduceIte,Nat.reduceEqDiff,Nat.reduceAdd,Nat.reduceLeDiff,Nat.reduceLT,Int.reduceLE,Int.reduceLT,Int.reduceAdd,Int.reduceSub,Int.reduceToNat,Nat.reduceMul,t0,t1,t5,v5,t7,v7,t9,v9,f9,t10,f11,f12,hcl,hcs,rC,sQ,ratC,eq_self,not_true_eq_false,decide_false,decide_true,beq_self_eq_true,Bool.not_true]
      refine a_call _ _ a1 (by simp (maxSteps:=1000000) (disch:=first | omega | (simp only [LL];omega)) only [W,V,TY,CC,reduceIte,Nat.reduceEqDiff,Nat.reduceAdd,Nat.reduceLeDiff,Nat.reduceLT,Int.reduceLE,Int.reduceLT,Int.reduceAdd,Int.reduceSub,Int.reduceToNat,Nat.reduceMul,t0,t1,t5,v5,t7,v7,t9,v9,f9,t10,f11,f12,hcl,hcs,rC,sQ,ratC,eq_self,not_true_eq_false,decide_false,decide_true,beq_self_eq_true,Bool.not_true]) ?_
      simp (maxSteps:=1000000) (disch:=first | omega | (simp only [LL];omega)) only [W,V,TY,CC,reduceIte,Nat.reduceEqDiff,Nat.reduceAdd,Nat.reduceLeDiff,Nat.reduceLT,Int.reduceLE,Int.reduceLT,Int.reduceAdd,Int.reduceSub,Int.reduceToNat,Nat.reduceMul,t0,t1,t5,v5,t7,v7,t9,v9,f9,t10,f11,f12,hcl,hcs,rC,sQ,ratC,eq_self,not_true_eq_false,decide_false,decide_true,beq_self_eq_true,Bool.not_true]
      refine a_call _ _ o2 (by simp (maxSteps:=1000000) (disch:=first | omega | (simp only [LL];omega)) only [W,V,TY,CC,reduceIte,Nat.reduceEqDiff,Nat.reduceAdd,Nat.reduceLeDiff,Nat.reduceLT,Int.reduceLE,Int.reduceLT,Int.reduceAdd,Int.reduceSub,Int.reduceToNat,Nat.reduceMul,t0,t1,t5,v5,t7,v7,t9,v9,f9,t10,f11,f12,hcl,hcs,rC,sQ,ratC,eq_self,not_true_eq_false,decide_false,decide_true,beq_self_eq_true,Bool.not_true]) ?_
      simp (maxSteps:=1000000) (disch:=first | omega | (simp only [LL];omega)) only [W,V,TY,CC,reduceIte,Nat.reduceEqDiff,Nat.reduceAdd,Nat.reduceLeDiff,Nat.reduceLT,Int.reduceLE,Int.reduceLT,Int.reduceAdd,Int.reduceSub,Int.reduceToNat,Nat.reduceMul,t0,t1,t5,v5,t7,v7,t9,v9,f9,t10,f11,f12,hcl,hcs,rC,sQ,ratC,eq_self,not_true_eq_false,decide_false,decide_true,beq_self_eq_true,Bool.not_true]
      refine a_call _ _ s0 (by simp (maxSteps:=1000000) (disch:=first | omega | (simp only [LL];omega)) only [W,V,TY,CC,reduceIte,Nat.reduceEqDiff,Nat.reduceAdd,Nat.reduceLeDiff,Nat.reduceLT,Int.reduceLE,Int.reduceLT,Int.reduceAdd,Int.reduceSub,Int.reduceToNat,Nat.reduceMul,t0,t1,t5,v5,t7,v7,t9,v9,f9,t10,f11,f12,hcl,hcs,rC,sQ,ratC,eq_self,not_true_eq_false,decide_false,decide_true,beq_self_eq_true,Bool.not_true]) ?_
      simp (maxSteps:=1000000) (disch:=first | omega | (simp only [LL];omega)) only [W,V,TY,CC,reduceIte,Nat.reduceEqDiff,Nat.reduceAdd,Nat.reduceLeDiff,Nat.reduceLT,Int.reduceLE,Int.reduceLT,Int.reduceAdd,Int.reduceSub,Int.reduceToNat,Nat.reduceMul,t0,t1,t5,v5,t7,v7,t9,v9,f9,t10,f11,f12,hcl,hcs,rC,sQ,ratC,eq_self,not_true_eq_false,decide_false,decide_true,beq_self_eq_true,Bool.not_true]
      refine a_call _ _ pr (by simp (maxSteps:=1000000) (disch:=first | omega | (simp only [LL];omega)) only [W,V,TY,CC,reduceIte,Nat.reduceEqDiff,Nat.reduceAdd,Nat.reduceLeDiff,Nat.reduceLT,Int.reduceLE,Int.reduceLT,Int.reduceAdd,Int.reduceSub,Int.reduceToNat,Nat.reduceMul,t0,t1,t5,v5,t7,v7,t9,v9,f9,t10,f11,f12,hcl,hcs,rC,sQ,ratC,eq_self,not_true_eq_false,decide_false,decide_true,beq_self_eq_true,Bool.not_true]) ?_
      simp (maxSteps:=1000000) (disch:=first | omega | (simp only [LL];omega)) only [W,V,TY,CC,reduceIte,Nat.reduceEqDiff,Nat.reduceAdd,Nat.reduceLeDiff,Nat.reduceLT,Int.reduceLE,Int.reduceLT,Int.reduceAdd,Int.reduceSub,Int.reduceToNat,Nat.reduceMul,t0,t1,t5,v5,t7,v7,t9,v9,f9,t10,f11,f12,hcl,hcs,rC,sQ,ratC,eq_self,not_true_eq_false,decide_false,decide_true,beq_self_eq_true,Bool.not_true]
      refine a_call _ _ cp (by simp (maxSteps:=1000000) (disch:=first | omega | (simp only [LL];omega)) only [W,V,TY,CC,reduceIte,Nat.reduceEqDiff,Nat.reduceAdd,Nat.reduceLeDiff,Nat.reduceLT,Int.reduceLE,Int.reduceLT,Int.reduceAdd,Int.reduceSub,Int.reduceToNat,Nat.reduceMul,t0,t1,t5,v5,t7,v7,t9,v9,f9,t10,f11,f12,hcl,hcs,rC,sQ,ratC,eq_self,not_true_eq_false,decide_false,decide_true,beq_self_eq_true,Bool.not_true]) ?_
      simp (maxSteps:=1000000) (disch:=first | omega | (simp only [LL];omega)) only [W,V,TY,CC,reduceIte,Nat.reduceEqDiff,Nat.reduceAdd,Nat.reduceLeDiff,Nat.reduceLT,Int.reduceLE,Int.reduceLT,Int.reduceAdd,Int.reduceSub,Int.reduceToNat,Nat.reduceMul,t0,t1,t5,v5,t7,v7,t9,v9,f9,t10,f11,f12,hcl,hcs,rC,sQ,ratC,eq_self,not_true_eq_false,decide_false,decide_true,beq_self_eq_true,Bool.not_true]
      refine a_call _ _ cp (by simp (maxSteps:=1000000) (disch:=first | omega | (simp only [LL];omega)) only [W,V,TY,CC,reduceIte,Nat.reduceEqDiff,Nat.reduceAdd,Nat.reduceLeDiff,Nat.reduceLT,Int.reduceLE,Int.reduceLT,Int.reduceAdd,Int.reduceSub,Int.reduceToNat,Nat.reduceMul,t0,t1,t5,v5,t7,v7,t9,v9,f9,t10,f11,f12,hcl,hcs,rC,sQ,ratC,eq_self,not_true_eq_false,decide_false,decide_true,beq_self_eq_true,Bool.not_true]) ?_
      simp (maxSteps:=1000000) (disch:=first | omega | (simp only [LL];omega)) only [W,V,TY,CC,reduceIte,Nat.reduceEqDiff,Nat.reduceAdd,Nat.reduceLeDiff,Nat.reduceLT,Int.reduceLE,Int.reduceLT,Int.reduceAdd,Int.reduceSub,Int.reduceToNat,Nat.reduceMul,t0,t1,t5,v5,t7,v7,t9,v9,f9,t10,f11,f12,hcl,hcs,rC,sQ,ratC,eq_self,not_true_eq_false,decide_false,decide_true,beq_self_eq_true,Bool.not_true]
      refine a_call _ _ sg (by simp (maxSteps:=1000000) (disch:=first | omega | (simp only [LL];omega)) only [W,V,TY,CC,reduceIte,Nat.reduceEqDiff,Nat.reduceAdd,Nat.reduceLeDiff,Nat.reduceLT,Int.reduceLE,Int.reduceLT,Int.reduceAdd,Int.reduceSub,Int.reduceToNat,Nat.reduceMul,t0,t1,t5,v5,t7,v7,t9,v9,f9,t10,f11,f12,hcl,hcs,rC,sQ,ratC,eq_self,not_true_eq_false,decide_false,decide_true,beq_self_eq_true,Bool.not_true]) ?_
      simp (maxSteps:=1000000) (disch:=first | omega | (simp only [LL];omega)) only [W,V,TY,CC,reduceIte,Nat.reduceEqDiff,Nat.reduceAdd,Nat.reduceLeDiff,Nat.reduceLT,Int.reduceLE,Int.reduceLT,Int.reduceAdd,Int.reduceSub,Int.reduceToNat,Nat.reduceMul,t0,t1,t5,v5,t7,v7,t9,v9,f9,t10,f11,f12,hcl,hcs,rC,sQ,ratC,eq_self,not_true_eq_false,decide_false,decide_true,beq_self_eq_true,Bool.not_true]
      refine a_call _ _ l45_awake (by simp (maxSteps:=1000000) (disch:=first | omega | (simp only [LL];omega)) only [W,V,TY,CC,reduceIte,Nat.reduceEqDiff,Nat.reduceAdd,Nat.reduceLeDiff,Nat.reduceLT,Int.reduceLE,Int.reduceLT,Int.reduceAdd,Int.reduceSub,Int.reduceToNat,Nat.reduceMul,t0,t1,t5,v5,t7,v7,t9,v9,f9,t10,f11,f12,hcl,hcs,rC,sQ,ratC,eq_self,not_true_eq_false,decide_false,decide_true,beq_self_eq_true,Bool.not_true]) ?_
      simp (maxSteps:=1000000) (disch:=first | omega | (simp only [LL];omega)) only [W,V,TY,CC,reduceIte,Nat.reduceEqDiff,Nat.reduceAdd,Nat.reduceLeDiff,Nat.reduceLT,Int.reduceLE,Int.reduceLT,Int.reduceAdd,Int.reduceSub,Int.reduceToNat,Nat.reduceMul,t0,t1,t5,v5,t7,v7,t9,v9,f9,t10,f11,f12,hcl,hcs,rC,sQ,ratC,eq_self,not_true_eq_false,decide_false,decide_true,beq_self_eq_true,Bool.not_true]
      refine f_ret _ _ _ ?_
      simp (maxSteps:=1000000) (disch:=first | omega | (simp only [LL];omega)) only [W,V,TY,CC,reduceIte,Nat.reduceEqDiff,Nat.reduceAdd,Nat.reduceLeDiff,Nat.reduceLT,Int.reduceLE,Int.reduceLT,Int.reduceAdd,Int.reduceSub,Int.reduceToNat,Nat.reduceMul,rC,sQ,ratC,eq_self,not_true_eq_false,decide_false,decide_true,beq_self_eq_true,Bool.not_true]
/-! ### chains -/
theorem getD_left {α : Type} (a b : List α) (d : α) {i : Nat} (h : i < a.length) : (a ++ b).getD i d = a.getD i d := by
  rw [List.getD_eq_getElem?_getD, List.getD_eq_getElem?_getD, List.getElem?_append_left h]
theorem getD_right {α : Type} (a b : List α) (d : α) (j : Nat) : (a ++ b).getD (a.length + j) d = b.getD j d := by
  rw [List.getD_eq_getElem?_getD, List.getD_eq_getElem?_getD, List.getElem?_append_right (by omega), Nat.add_sub_cancel_left]
theorem chain_left (a b : List (RR × RR)) : ∀ i, i ≤ a.length → cA (a ++ b) i = cA a i ∧ cB (a ++ b) i = cB a i
  | 0, _ => ⟨rfl, rfl⟩
  | i + 1, hi => by
    obtain ⟨h1, h2⟩ := chain_left a b i (by omega)
    unfold cA cB
    rw [h1, h2, getD_left a b lk0 (by omega)]
    exact ⟨rfl, rfl⟩
theorem chain_right (a b : List (RR × RR)) : ∀ j, cA (a ++ b) (a.length + j) = cA a a.length * cA b j ∧ cB (a ++ b) (a.length + j) = cA b j * cB a a.length + cB b j
  | 0 => by
    obtain ⟨h1, h2⟩ := chain_left a b a.length (Nat.le_refl _)
    refine ⟨?_, ?_⟩
    · show cA (a ++ b) a.length = cA a a.length * 1
      rw [h1]; grind
    · show cB (a ++ b) a.length = 1 * cB a a.length + 0
      rw [h2]; grind
  | j + 1 => by
    obtain ⟨h1, h2⟩ := chain_right a b j
    refine ⟨?_, ?_⟩
    · show cA (a ++ b) (a.length + j) * ((a ++ b).getD (a.length + j) lk0).1.q = cA a a.length * (cA b j * (b.getD j lk0).1.q)
      rw [h1, getD_right]; grind
    · show ((a ++ b).getD (a.length + j) lk0).1.q * cB (a ++ b) (a.length + j) + ((a ++ b).getD (a.length + j) lk0).2.q = (cA b j * (b.getD j lk0).1.q) * cB a a.length + ((b.getD j lk0).1.q * cB b j + (b.getD j lk0).2.q)
      rw [h2, getD_right]; grind
theorem cA_pos {ls : List (RR × RR)} (h : validB ls = true) : ∀ i, i ≤ ls.length → 0 < cA ls i
  | 0, _ => by show (0 : Rat) < 1; decide +kernel
  | i + 1, hi => Rat.mul_pos (cA_pos h i (by omega)) (validB_at h (by omega))
theorem cmp_mono {p : Rat} (hp : 0 < p) (q x y : Rat) : cmpQ (p * x + q) (p * y + q) = cmpQ x y := by
  have key : ∀ u v : Rat, p * u + q < p * v + q ↔ u < v := fun u v => by
    constructor
    · intro h
      refine Rat.not_le.1 fun hc => ?_
      have := Rat.mul_le_mul_of_nonneg_left hc (Rat.le_of_lt hp)
      grind
    · intro h
      have := Rat.mul_lt_mul_of_pos_left h hp
      grind
  unfold cmpQ
  simp only [key]
theorem chainE_app (a b : List (RR × RR)) (h : ¬ (chainE a = 0 ∧ chainE b = 0)) : ¬ chainE (a ++ b) = 0 := by
  intro e
  obtain ⟨h1, h2⟩ := chain_ok e
  unfold validB at h2
  rw [List.all_append, Bool.and_eq_true] at h2
  rw [List.length_append] at h1
  refine h ⟨?_, ?_⟩
  · unfold chainE validB
    rw [if_neg (by omega), if_pos h2.1]
  · unfold chainE validB
    rw [if_neg (by omega), if_pos h2.2]
theorem chainE_app0 {a b : List (RR × RR)} (ha : chainE a = 0) (hb : chainE b = 0) : chainE (a ++ b) = if 60 < a.length + b.length then 5 else 0 := by
  obtain ⟨_, h1⟩ := chain_ok ha
  obtain ⟨_, h2⟩ := chain_ok hb
  unfold validB at h1 h2
  unfold chainE validB
  rw [List.length_append, List.all_append, h1, h2]
  split <;> rfl
theorem lk_src {s : AS} (ls : List (RR × RR)) : srcD s (.one (.dt (lkD ls))) = some (ls.length, rowC lkC ls) := rfl
theorem lk_clen (ls : List (RR × RR)) : (rowC lkC ls).length = ls.length * 6 := rowC_len lk_len ls
theorem lk_app (a b : List (RR × RR)) : Dt.sl (a.length + b.length) (rowC lkC a ++ rowC lkC b) = lkD (a ++ b) := by
  have h : rowC lkC a ++ rowC lkC b = rowC lkC (a ++ b) := by unfold rowC; rw [List.flatMap_append]
  rw [h]
  exact rowD_of (a ++ b) _ (by rw [List.length_append])
/-- examboard/examboardlaw45.LinkingChain -/
def b10 : AF := ⟨85, 4, [.tmp 8],
  (.seq (.reg [
    ⟨some 6, .box 27 (.tmp 2), none⟩,
    ⟨some 7, .box 27 (.tmp 3), none⟩,
    ⟨some 8, .assign (.const (.bool false)), none⟩])
  (.seq (.reg [
    ⟨some 16, .move (.tmp 0), none⟩,
    ⟨some 17, .call ⟨(.value (.func 43)), #[(.tmp 16)], #[70]⟩, none⟩,
    ⟨some 15, .move (.tmp 17), none⟩,
    ⟨some 18, .extract (.tmp 15) 0, none⟩,
    ⟨some 19, .extract (.tmp 15) 1, none⟩,
    ⟨some 9, .alloc 53, none⟩,
    ⟨none, .store 53 (.tmp 9) (.tmp 18), none⟩,
    ⟨some 10, .assign (.tmp 19), none⟩])
  (.seq (.reg [
    ⟨some 21, .move (.tmp 1), none⟩,
    ⟨some 22, .call ⟨(.value (.func 43)), #[(.tmp 21)], #[70]⟩, none⟩,
    ⟨some 20, .move (.tmp 22), none⟩,
    ⟨some 23, .extract (.tmp 20) 0, none⟩,
    ⟨some 24, .extract (.tmp 20) 1, none⟩,
    ⟨some 11, .alloc 53, none⟩,
    ⟨none, .store 53 (.tmp 11) (.tmp 23), none⟩,
    ⟨some 12, .assign (.tmp 24), none⟩])
  (.seq (.reg [
    ⟨some 26, .buildSlice 70 0 #[], none⟩,
    ⟨some 27, .move (.tmp 0), none⟩,
    ⟨some 28, .call ⟨(.builtin .append), #[(.tmp 26), (.tmp 27)], #[70, 70]⟩, none⟩,
    ⟨some 29, .move (.tmp 1), none⟩,
    ⟨some 30, .call ⟨(.builtin .append), #[(.tmp 28), (.tmp 29)], #[70, 70]⟩, none⟩,
    ⟨some 31, .call ⟨(.value (.func 43)), #[(.tmp 30)], #[70]⟩, none⟩,
    ⟨some 25, .move (.tmp 31), none⟩,
    ⟨some 32, .extract (.tmp 25) 0, none⟩,
    ⟨some 33, .extract (.tmp 25) 1, none⟩,
    ⟨some 13, .alloc 53, none⟩,
    ⟨none, .store 53 (.tmp 13) (.tmp 32), none⟩,
    ⟨some 14, .assign (.tmp 33), none⟩])
  (.seq (.seq (.reg [
    ⟨some 34, .move (.tmp 10), none⟩,
    ⟨some 35, .binOp .neq 57 (.tmp 34) (.const (.int .i64 0)) 57, none⟩,
    ⟨some 36, .move (.tmp 35), none⟩,
    ⟨some 37, .move (.tmp 12), some (36, false)⟩,
    ⟨some 38, .binOp .neq 57 (.tmp 37) (.const (.int .i64 0)) 57, some (36, false)⟩,
    ⟨some 39, .pick (.tmp 36) (.const (.bool true)) (.tmp 38), none⟩])
  (.cond (.tmp 39)
    (.seq (.reg [
      ⟨some 40, .move (.tmp 14), none⟩,
      ⟨some 41, .binOp .neq 57 (.tmp 40) (.const (.int .i64 0)) 57, none⟩,
      ⟨some 42, .move (.tmp 41), none⟩,
      ⟨some 43, .call ⟨(.value (.func 37)), #[], #[]⟩, some (42, true)⟩,
      ⟨some 44, .pick (.tmp 42) (.tmp 43) (.const (.bool false)), none⟩,
      ⟨some 8, .assign (.tmp 44), none⟩])
    .ret)
    .skip))
  (.seq (.seq (.reg [
    ⟨some 45, .move (.tmp 0), none⟩,
    ⟨some 46, .call ⟨(.builtin .len), #[(.tmp 45)], #[70]⟩, none⟩,
    ⟨some 47, .move (.tmp 1), none⟩,
    ⟨some 48, .call ⟨(.builtin .len), #[(.tmp 47)], #[70]⟩, none⟩,
    ⟨some 49, .binOp .add 3 (.tmp 46) (.tmp 48) 3, none⟩,
    ⟨some 50, .binOp .gtr 3 (.tmp 49) (.const (.int .i64 60)) 3, none⟩])
  (.cond (.tmp 50)
    (.seq (.reg [
      ⟨some 51, .move (.tmp 14), none⟩,
      ⟨some 52, .binOp .eql 57 (.tmp 51) (.const (.int .i64 5)) 57, none⟩,
      ⟨some 53, .move (.tmp 52), none⟩,
      ⟨some 54, .call ⟨(.value (.func 37)), #[], #[]⟩, some (53, true)⟩,
      ⟨some 55, .pick (.tmp 53) (.tmp 54) (.const (.bool false)), none⟩,
      ⟨some 8, .assign (.tmp 55), none⟩])
    .ret)
    .skip))
  (.seq (.seq (.dreg [
    ⟨some 56, .move (.tmp 14), none⟩,
    ⟨some 57, .binOp .neq 57 (.tmp 56) (.const (.int .i64 0)) 57, none⟩,
    ⟨some 58, .move (.tmp 57), none⟩,
    ⟨some 59, .load 53 (.tmp 13), some (58, false)⟩,
    ⟨some 60, .load 53 (.tmp 9), some (58, false)⟩,
    ⟨some 61, .load 53 (.tmp 11), some (58, false)⟩,
    ⟨some 62, .call ⟨(.value (.func 32)), #[(.tmp 60), (.tmp 61)], #[53, 53]⟩, some (58, false)⟩,
    ⟨some 63, .call ⟨(.value (.func 34)), #[(.tmp 59), (.tmp 62)], #[53, 53]⟩, some (58, false)⟩,
    ⟨some 64, .unOp .not 4 (.tmp 63), some (58, false)⟩,
    ⟨some 65, .pick (.tmp 58) (.const (.bool true)) (.tmp 64), none⟩,
    ⟨some 66, .move (.tmp 65), none⟩,
    ⟨some 67, .load 53 (.tmp 13), some (66, false)⟩,
    ⟨some 68, .call ⟨(.value (.func 36)), #[(.tmp 67)], #[53]⟩, some (66, false)⟩,
    ⟨some 69, .unOp .not 4 (.tmp 68), some (66, false)⟩,
    ⟨some 70, .pick (.tmp 66) (.const (.bool true)) (.tmp 69), none⟩])
  (.cond (.tmp 70)
    (.seq (.reg [
      ⟨some 8, .assign (.const (.bool false)), none⟩])
    .ret)
    .skip))
  (.seq (.dreg [
    ⟨some 71, .load 53 (.tmp 13), none⟩,
    ⟨some 72, .load 27 (.tmp 6), none⟩,
    ⟨some 73, .call ⟨(.value (.func 33)), #[(.tmp 71), (.tmp 72)], #[53, 27]⟩, none⟩,
    ⟨some 74, .load 53 (.tmp 13), none⟩,
    ⟨some 75, .load 27 (.tmp 7), none⟩,
    ⟨some 76, .call ⟨(.value (.func 33)), #[(.tmp 74), (.tmp 75)], #[53, 27]⟩, none⟩,
    ⟨some 77, .call ⟨(.value (.func 23)), #[(.tmp 73), (.tmp 76)], #[27, 27]⟩, none⟩,
    ⟨some 78, .load 27 (.tmp 6), none⟩,
    ⟨some 79, .load 27 (.tmp 7), none⟩,
    ⟨some 80, .call ⟨(.value (.func 23)), #[(.tmp 78), (.tmp 79)], #[27, 27]⟩, none⟩,
    ⟨some 81, .binOp .eql 3 (.tmp 77) (.tmp 80) 3, none⟩,
    ⟨some 82, .move (.tmp 81), none⟩,
    ⟨some 83, .call ⟨(.value (.func 37)), #[], #[]⟩, some (82, true)⟩,
    ⟨some 84, .pick (.tmp 82) (.tmp 83) (.const (.bool false)), none⟩,
    ⟨some 8, .assign (.tmp 84), none⟩])
  .ret))))))))⟩
theorem c10 : fcomp Tryd.prog 10 = ⟨b10.n, b10.np, b10.res, b10.body.bare⟩ := by kernel_rfl
theorem k10 : fok Tryd.prog 10 = true := by kernel_rfl
set_option maxHeartbeats 8000000 in
theorem l45_LinkingChain (a : List (RR × RR)) (ha : roks 1048576 a) (la : a.length ≤ 1048576) (b : List (RR × RR)) (hb : roks 1048576 b) (lb : b.length ≤ 1048576) {X Y : RR} (hX' : rok 1048576 X) (hY' : rok 1048576 Y) : AFun Tryd.prog 10 [.one (lkD a), .one (lkD b), .agg (rC X), .agg (rC Y)] [.one (.lit (.bool true))] := by
  have hX := hX'.mono (b := 68719476600) (by decide)
  have hY := hY'.mono (b := 68719476600) (by decide)
  have qX := qs_rr hX'
  have qY := qs_rr hY'
  have up : ∀ {ls : List (RR × RR)}, roks 1048576 ls → roks 68719476600 ls := fun h p hp => ⟨(h p hp).1.mono (by decide), (h p hp).2.mono (by decide)⟩
  have hab : roks 1048576 (a ++ b) := fun p hp => by
    rcases List.mem_append.1 hp with h | h
    · exact ha p h
    · exact hb p h
  have lab : (a ++ b).length ≤ 9223372036854775807 := by rw [List.length_append]; omega
  have any : ∀ {ls : List (RR × RR)}, roks 1048576 ls → ls.length ≤ 9223372036854775807 → ∃ (m1 m2 m3 m4 m5 m6 : Dt), AFun Tryd.prog 43 [.one (lkD ls)] [.agg [m1, m2, m3, m4, m5, m6], .one (.lit (.int .i64 (chainE ls)))] := fun {ls} hl hn => by
    by_cases h : chainE ls = 0
    · have := k_Chain0 hl h
      rw [← h] at this
      exact ⟨_, _, _, _, _, _, this⟩
    · exact ⟨_, _, _, _, _, _, k_ChainE (up hl) hn h⟩
  have happ := lk_app a b
  have c1 := lk_clen a
  have c2 := lk_clen b
  by_cases hok : chainE a = 0 ∧ chainE b = 0
  case neg =>
    obtain ⟨m1, m2, m3, m4, m5, m6, k1⟩ := any ha (by omega)
    obtain ⟨n1, n2, n3, n4, n5, n6, k2⟩ := any hb (by omega)
    obtain ⟨o1, o2, o3, o4, o5, o6, k3⟩ := any hab lab
    have hE := chainE_app a b hok
    generalize chainE a = ea at *
    generalize chainE b = eb at *
    generalize chainE (a ++ b) = ec at *
    by_cases h1 : ea = 0
    · have h2 : ¬ eb = 0 := fun e => hok ⟨h1, e⟩
      refine afun_intro mo_ _ _ c10 k10 _ _ rfl (by decide) ?_
      unfold b10
      simp (maxSteps:=1000000) (disch:=first | omega | (simp only [LL];omega)) only [W,V,TY,CC,reduceIte,Nat.reduceEqDiff,Nat.reduceAdd,Nat.reduceLeDiff,Nat.reduceLT,Int.reduceLE,Int.reduceLT,Int.reduceAdd,Int.reduceSub,Int.reduceToNat,Nat.reduceMul,rC]
      refine a_call _ _ k1 (by simp (maxSteps:=1000000) (disch:=first | omega | (simp only [LL];omega)) only [W,V,TY,CC,reduceIte,Nat.reduceEqDiff,Nat.reduceAdd,Nat.reduceLeDiff,Nat.reduceLT,Int.reduceLE,Int.reduceLT,Int.reduceAdd,Int.reduceSub,Int.reduceToNat,Nat.reduceMul,rC,sQ,ratC,eq_self,not_true_eq_false,decide_false,decide_true,beq_self_eq_true,Bool.not_true,h1,h2,hE,not_false_eq_true,lk_src,c1,c2]) ?_
      simp (maxSteps:=1000000) (disch:=first | omega | (simp only [LL];omega)) only [W,V,TY,CC,reduceIte,Nat.reduceEqDiff,Nat.reduceAdd,Nat.reduceLeDiff,Nat.reduceLT,Int.reduceLE,Int.reduceLT,Int.reduceAdd,Int.reduceSub,Int.reduceToNat,Nat.reduceMul,rC,sQ,ratC,eq_self,not_true_eq_false,decide_false,decide_true,beq_self_eq_true,Bool.not_true,h1,h2,hE,not_false_eq_true,lk_src,c1,c2]
      refine a_call _ _ k2 (by simp (maxSteps:=1000000) (disch:=first | omega | (simp only [LL];omega)) only [W,V,TY,CC,reduceIte,Nat.reduceEqDiff,Nat.reduceAdd,Nat.reduceLeDiff,Nat.reduceLT,Int.reduceLE,Int.reduceLT,Int.reduceAdd,Int.reduceSub,Int.reduceToNat,Nat.reduceMul,rC,sQ,ratC,eq_self,not_true_eq_false,decide_false,decide_true,beq_self_eq_true,Bool.not_true,h1,h2,hE,not_false_eq_true,lk_src,c1,c2]) ?_
      simp (maxSteps:=1000000) (disch:=first | omega | (simp only [LL];omega)) only [W,V,TY,CC,reduceIte,Nat.reduceEqDiff,Nat.reduceAdd,Nat.reduceLeDiff,Nat.reduceLT,Int.reduceLE,Int.reduceLT,Int.reduceAdd,Int.reduceSub,Int.reduceToNat,Nat.reduceMul,rC,sQ,ratC,eq_self,not_true_eq_false,decide_false,decide_true,beq_self_eq_true,Bool.not_true,h1,h2,hE,not_false_eq_true,lk_src,c1,c2]
      refine ⟨⟨by omega, by omega⟩, ⟨by omega, by omega⟩, ?_⟩
      refine a_fcall (26, 0) _ _ k3 (by simp (maxSteps:=1000000) (disch:=first | omega | (simp only [LL];omega)) only [W,V,TY,CC,reduceIte,Nat.reduceEqDiff,Nat.reduceAdd,Nat.reduceLeDiff,Nat.reduceLT,Int.reduceLE,Int.reduceLT,Int.reduceAdd,Int.reduceSub,Int.reduceToNat,Nat.reduceMul,rC,sQ,ratC,eq_self,not_true_eq_false,decide_false,decide_true,beq_self_eq_true,Bool.not_true,h1,h2,hE,not_false_eq_true,lk_src,c1,c2,happ]) ?_
      simp (maxSteps:=1000000) (disch:=first | omega | (simp only [LL];omega)) only [W,V,TY,CC,reduceIte,Nat.reduceEqDiff,Nat.reduceAdd,Nat.reduceLeDiff,Nat.reduceLT,Int.reduceLE,Int.reduceLT,Int.reduceAdd,Int.reduceSub,Int.reduceToNat,Nat.reduceMul,rC,sQ,ratC,eq_self,not_true_eq_false,decide_false,decide_true,beq_self_eq_true,Bool.not_true,h1,h2,hE,not_false_eq_true]
      refine a_call _ _ l45_awake (by simp (maxSteps:=1000000) (disch:=first | omega | (simp only [LL];omega)) only [W,V,TY,CC,reduceIte,Nat.reduceEqDiff,Nat.reduceAdd,Nat.reduceLeDiff,Nat.reduceLT,Int.reduceLE,Int.reduceLT,Int.reduceAdd,Int.reduceSub,Int.reduceToNat,Nat.reduceMul,rC,sQ,ratC,eq_self,not_true_eq_false,decide_false,decide_true,beq_self_eq_true,Bool.not_true,h1,h2,hE,not_false_eq_true]) ?_
      simp (maxSteps:=1000000) (disch:=first | omega | (simp only [LL];omega)) only [W,V,TY,CC,reduceIte,Nat.reduceEqDiff,Nat.reduceAdd,Nat.reduceLeDiff,Nat.reduceLT,Int.reduceLE,Int.reduceLT,Int.reduceAdd,Int.reduceSub,Int.reduceToNat,Nat.reduceMul,rC,sQ,ratC,eq_self,not_true_eq_false,decide_false,decide_true,beq_self_eq_true,Bool.not_true,h1,h2,hE,not_false_eq_true]
      refine f_ret _ _ _ ?_
      simp (maxSteps:=1000000) (disch:=first | omega | (simp only [LL];omega)) only [W,V,TY,CC,reduceIte,Nat.reduceEqDiff,Nat.reduceAdd,Nat.reduceLeDiff,Nat.reduceLT,Int.reduceLE,Int.reduceLT,Int.reduceAdd,Int.reduceSub,Int.reduceToNat,Nat.reduceMul,rC,sQ,ratC,eq_self,not_true_eq_false,decide_false,decide_true,beq_self_eq_true,Bool.not_true]
    · have h2 := h1
      refine afun_intro mo_ _ _ c10 k10 _ _ rfl (by decide) ?_
      unfold b10
      simp (maxSteps:=1000000) (disch:=first | omega | (simp only [LL];omega)) only [W,V,TY,CC,reduceIte,Nat.reduceEqDiff,Nat.reduceAdd,Nat.reduceLeDiff,Nat.reduceLT,Int.reduceLE,Int.reduceLT,Int.reduceAdd,Int.reduceSub,Int.reduceToNat,Nat.reduceMul,rC]
      refine a_call _ _ k1 (by simp (maxSteps:=1000000) (disch:=first | omega | (simp only [LL];omega)) only [W,V,TY,CC,reduceIte,Nat.reduceEqDiff,Nat.reduceAdd,Nat.reduceLeDiff,Nat.reduceLT,Int.reduceLE,Int.reduceLT,Int.reduceAdd,Int.reduceSub,Int.reduceToNat,Nat.reduceMul,rC,sQ,ratC,eq_self,not_true_eq_false,decide_false,decide_true,beq_self_eq_true,Bool.not_true,h1,h2,hE,not_false_eq_true,lk_src,c1,c2]) ?_
      simp (maxSteps:=1000000) (disch:=first | omega | (simp only [LL];omega)) only [W,V,TY,CC,reduceIte,Nat.reduceEqDiff,Nat.reduceAdd,Nat.reduceLeDiff,Nat.reduceLT,Int.reduceLE,Int.reduceLT,Int.reduceAdd,Int.reduceSub,Int.reduceToNat,Nat.reduceMul,rC,sQ,ratC,eq_self,not_true_eq_false,decide_false,decide_true,beq_self_eq_true,Bool.not_true,h1,h2,hE,not_false_eq_true,lk_src,c1,c2]
      refine a_call _ _ k2 (by simp (maxSteps:=1000000) (disch:=first | omega | (simp only [LL];omega)) only [W,V,TY,CC,reduceIte,Nat.reduceEqDiff,Nat.reduceAdd,Nat.reduceLeDiff,Nat.reduceLT,Int.reduceLE,Int.reduceLT,Int.reduceAdd,Int.reduceSub,Int.reduceToNat,Nat.reduceMul,rC,sQ,ratC,eq_self,not_true_eq_false,decide_false,decide_true,beq_self_eq_true,Bool.not_true,h1,h2,hE,not_false_eq_true,lk_src,c1,c2]) ?_
      simp (maxSteps:=1000000) (disch:=first | omega | (simp only [LL];omega)) only [W,V,TY,CC,reduceIte,Nat.reduceEqDiff,Nat.reduceAdd,Nat.reduceLeDiff,Nat.reduceLT,Int.reduceLE,Int.reduceLT,Int.reduceAdd,Int.reduceSub,Int.reduceToNat,Nat.reduceMul,rC,sQ,ratC,eq_self,not_true_eq_false,decide_false,decide_true,beq_self_eq_true,Bool.not_true,h1,h2,hE,not_false_eq_true,lk_src,c1,c2]
      refine ⟨⟨by omega, by omega⟩, ⟨by omega, by omega⟩, ?_⟩
      refine a_fcall (26, 0) _ _ k3 (by simp (maxSteps:=1000000) (disch:=first | omega | (simp only [LL];omega)) only [W,V,TY,CC,reduceIte,Nat.reduceEqDiff,Nat.reduceAdd,Nat.reduceLeDiff,Nat.reduceLT,Int.reduceLE,Int.reduceLT,Int.reduceAdd,Int.reduceSub,Int.reduceToNat,Nat.reduceMul,rC,sQ,ratC,eq_self,not_true_eq_false,decide_false,decide_true,beq_self_eq_true,Bool.not_true,h1,h2,hE,not_false_eq_true,lk_src,c1,c2,happ]) ?_
      simp (maxSteps:=1000000) (disch:=first | omega | (simp only [LL];omega)) only [W,V,TY,CC,reduceIte,Nat.reduceEqDiff,Nat.reduceAdd,Nat.reduceLeDiff,Nat.reduceLT,Int.reduceLE,Int.reduceLT,Int.reduceAdd,Int.reduceSub,Int.reduceToNat,Nat.reduceMul,rC,sQ,ratC,eq_self,not_true_eq_false,decide_false,decide_true,beq_self_eq_true,Bool.not_true,h1,h2,hE,not_false_eq_true]
      refine a_call _ _ l45_awake (by simp (maxSteps:=1000000) (disch:=first | omega | (simp only [LL];omega)) only [W,V,TY,CC,reduceIte,Nat.reduceEqDiff,Nat.reduceAdd,Nat.reduceLeDiff,Nat.reduceLT,Int.reduceLE,Int.reduceLT,Int.reduceAdd,Int.reduceSub,Int.reduceToNat,Nat.reduceMul,rC,sQ,ratC,eq_self,not_true_eq_false,decide_false,decide_true,beq_self_eq_true,Bool.not_true,h1,h2,hE,not_false_eq_true]) ?_
      simp (maxSteps:=1000000) (disch:=first | omega | (simp only [LL];omega)) only [W,V,TY,CC,reduceIte,Nat.reduceEqDiff,Nat.reduceAdd,Nat.reduceLeDiff,Nat.reduceLT,Int.reduceLE,Int.reduceLT,Int.reduceAdd,Int.reduceSub,Int.reduceToNat,Nat.reduceMul,rC,sQ,ratC,eq_self,not_true_eq_false,decide_false,decide_true,beq_self_eq_true,Bool.not_true,h1,h2,hE,not_false_eq_true]
      refine f_ret _ _ _ ?_
      simp (maxSteps:=1000000) (disch:=first | omega | (simp only [LL];omega)) only [W,V,TY,CC,reduceIte,Nat.reduceEqDiff,Nat.reduceAdd,Nat.reduceLeDiff,Nat.reduceLT,Int.reduceLE,Int.reduceLT,Int.reduceAdd,Int.reduceSub,Int.reduceToNat,Nat.reduceMul,rC,sQ,ratC,eq_self,not_true_eq_false,decide_false,decide_true,beq_self_eq_true,Bool.not_true]
  case pos =>
    obtain ⟨h1, h2⟩ := hok
    have hE := chainE_app0 h1 h2
    have k1 := k_Chain0 ha h1
    have k2 := k_Chain0 hb h2
    obtain ⟨l1, v1⟩ := chain_ok h1
    obtain ⟨l2, v2⟩ := chain_ok h2
    have p1 := qs_chain ha a.length (Nat.le_refl _)
    have p2 := qs_chain hb b.length (Nat.le_refl _)
    have p3 : a.length * (2 * 1048576 + 4) ≤ 60 * (2 * 1048576 + 4) := Nat.mul_le_mul_right _ l1
    have p4 : b.length * (2 * 1048576 + 4) ≤ 60 * (2 * 1048576 + 4) := Nat.mul_le_mul_right _ l2
    by_cases h60 : 60 < a.length + b.length
    · rw [if_pos h60] at hE
      have k3 := k_ChainE (up hab) lab (by rw [hE]; decide)
      rw [hE] at k3
      have h60' : (60 : Int) < (a.length : Int) + b.length := by omega
      clear p1 p2 p3 p4
      generalize cA a a.length = w1 at *
      generalize cB a a.length = w2 at *
      generalize cA b b.length = w3 at *
      generalize cB b b.length = w4 at *
      refine afun_intro mo_ _ _ c10 k10 _ _ rfl (by decide) ?_
      unfold b10
      simp (maxSteps:=1000000) (disch:=first | omega | (simp only [LL];omega)) only [W,V,TY,CC,reduceIte,Nat.reduceEqDiff,Nat.reduceAdd,Nat.reduceLeDiff,Nat.reduceLT,Int.reduceLE,Int.reduceLT,Int.reduceAdd,Int.reduceSub,Int.reduceToNat,Nat.reduceMul,rC]
      refine a_call _ _ k1 (by simp (maxSteps:=1000000) (disch:=first | omega | (simp only [LL];omega)) only [W,V,TY,CC,reduceIte,Nat.reduceEqDiff,Nat.reduceAdd,Nat.reduceLeDiff,Nat.reduceLT,Int.reduceLE,Int.reduceLT,Int.reduceAdd,Int.reduceSub,Int.reduceToNat,Nat.reduceMul,rC,sQ,ratC,eq_self,not_true_eq_false,decide_false,decide_true,beq_self_eq_true,Bool.not_true,zS,h60', LKR, lk_src, c1, c2]) ?_
      simp (maxSteps:=1000000) (disch:=first | omega | (simp only [LL];omega)) only [W,V,TY,CC,reduceIte,Nat.reduceEqDiff,Nat.reduceAdd,Nat.reduceLeDiff,Nat.reduceLT,Int.reduceLE,Int.reduceLT,Int.reduceAdd,Int.reduceSub,Int.reduceToNat,Nat.reduceMul,rC,sQ,ratC,eq_self,not_true_eq_false,decide_false,decide_true,beq_self_eq_true,Bool.not_true,zS,h60', LKR, lk_src, c1, c2]
      refine a_call _ _ k2 (by simp (maxSteps:=1000000) (disch:=first | omega | (simp only [LL];omega)) only [W,V,TY,CC,reduceIte,Nat.reduceEqDiff,Nat.reduceAdd,Nat.reduceLeDiff,Nat.reduceLT,Int.reduceLE,Int.reduceLT,Int.reduceAdd,Int.reduceSub,Int.reduceToNat,Nat.reduceMul,rC,sQ,ratC,eq_self,not_true_eq_false,decide_false,decide_true,beq_self_eq_true,Bool.not_true,zS,h60', LKR, lk_src, c1, c2]) ?_
      simp (maxSteps:=1000000) (disch:=first | omega | (simp only [LL];omega)) only [W,V,TY,CC,reduceIte,Nat.reduceEqDiff,Nat.reduceAdd,Nat.reduceLeDiff,Nat.reduceLT,Int.reduceLE,Int.reduceLT,Int.reduceAdd,Int.reduceSub,Int.reduceToNat,Nat.reduceMul,rC,sQ,ratC,eq_self,not_true_eq_false,decide_false,decide_true,beq_self_eq_true,Bool.not_true,zS,h60', LKR, lk_src, c1, c2]
      refine ⟨⟨by omega, by omega⟩, ⟨by omega, by omega⟩, ?_⟩
      refine a_fcall (26, 0) _ _ k3 (by simp (maxSteps:=1000000) (disch:=first | omega | (simp only [LL];omega)) only [W,V,TY,CC,reduceIte,Nat.reduceEqDiff,Nat.reduceAdd,Nat.reduceLeDiff,Nat.reduceLT,Int.reduceLE,Int.reduceLT,Int.reduceAdd,Int.reduceSub,Int.reduceToNat,Nat.reduceMul,rC,sQ,ratC,eq_self,not_true_eq_false,decide_false,decide_true,beq_self_eq_true,Bool.not_true,zS,h60', LKR, lk_src, c1, c2, happ]) ?_
      simp (maxSteps:=1000000) (disch:=first | omega | (simp only [LL];omega)) only [W,V,TY,CC,reduceIte,Nat.reduceEqDiff,Nat.reduceAdd,Nat.reduceLeDiff,Nat.reduceLT,Int.reduceLE,Int.reduceLT,Int.reduceAdd,Int.reduceSub,Int.reduceToNat,Nat.reduceMul,rC,sQ,ratC,eq_self,not_true_eq_false,decide_false,decide_true,beq_self_eq_true,Bool.not_true,zS,h60', LKR]
      refine a_call _ _ l45_awake (by simp (maxSteps:=1000000) (disch:=first | omega | (simp only [LL];omega)) only [W,V,TY,CC,reduceIte,Nat.reduceEqDiff,Nat.reduceAdd,Nat.reduceLeDiff,Nat.reduceLT,Int.reduceLE,Int.reduceLT,Int.reduceAdd,Int.reduceSub,Int.reduceToNat,Nat.reduceMul,rC,sQ,ratC,eq_self,not_true_eq_false,decide_false,decide_true,beq_self_eq_true,Bool.not_true,h60', LKR]) ?_
      simp (maxSteps:=1000000) (disch:=first | omega | (simp only [LL];omega)) only [W,V,TY,CC,reduceIte,Nat.reduceEqDiff,Nat.reduceAdd,Nat.reduceLeDiff,Nat.reduceLT,Int.reduceLE,Int.reduceLT,Int.reduceAdd,Int.reduceSub,Int.reduceToNat,Nat.reduceMul,rC,sQ,ratC,eq_self,not_true_eq_false,decide_false,decide_true,beq_self_eq_true,Bool.not_true,h60', LKR]
      refine f_ret _ _ _ ?_
      simp (maxSteps:=1000000) (disch:=first | omega | (simp only [LL];omega)) only [W,V,TY,CC,reduceIte,Nat.reduceEqDiff,Nat.reduceAdd,Nat.reduceLeDiff,Nat.reduceLT,Int.reduceLE,Int.reduceLT,Int.reduceAdd,Int.reduceSub,Int.reduceToNat,Nat.reduceMul,rC,sQ,ratC,eq_self,not_true_eq_false,decide_false,decide_true,beq_self_eq_true,Bool.not_true]
    · rw [if_neg h60] at hE
      have k3 := k_Chain0 hab hE
      have h60' : ¬ (60 : Int) < (a.length : Int) + b.length := by omega
      obtain ⟨r1, r2⟩ := chain_right a b b.length
      rw [← List.length_append] at r1 r2
      rw [r1, r2] at k3
      have pa := cA_pos v1 a.length (Nat.le_refl _)
      have pb := cA_pos v2 b.length (Nat.le_refl _)
      have pp := Rat.mul_pos pa pb
      have co := k_Compose2 (p := cA a a.length) (q := cB a a.length) (u := cA b b.length) (v := cB b b.length) (by omega) (by omega) (by omega) (by omega)
      have q1 := qs_mul (cA a a.length) (cA b b.length)
      have q2 := qs_mul (cA b b.length) (cB a a.length)
      have q3 := qs_add (cA b b.length * cB a a.length) (cB b b.length)
      have sm := f_Same (p := cA a a.length * cA b b.length) (q := cA b b.length * cB a a.length + cB b b.length) (by omega) (by omega)
      have va := k_Valid2 (p := cA a a.length * cA b b.length) (q := cA b b.length * cB a a.length + cB b b.length) (by omega)
      rw [decide_eq_true pp] at va
      generalize cA a a.length * cA b b.length = w5 at *
      generalize cA b b.length * cB a a.length + cB b b.length = w6 at *
      have ax := k_Apply3 (p := w5) (q := w6) (by omega) (by omega) hX (by omega)
      have ay := k_Apply3 (p := w5) (q := w6) (by omega) (by omega) hY (by omega)
      have q4 := qs_mul w5 X.q
      have q5 := qs_add (w5 * X.q) w6
      have q6 := qs_mul w5 Y.q
      have q7 := qs_add (w5 * Y.q) w6
      have cp := rat_Cmp2 (a := w5 * X.q + w6) (b := w5 * Y.q + w6) (by omega) (by omega)
      rw [cmp_mono pp] at cp
      have cx := R_Cmp hX hY
      generalize w5 * X.q + w6 = w7 at *
      generalize w5 * Y.q + w6 = w8 at *
      generalize cmpQ X.q Y.q = cv at *
      clear p1 p2 p3 p4
      generalize cA a a.length = w1 at *
      generalize cB a a.length = w2 at *
      generalize cA b b.length = w3 at *
      generalize cB b b.length = w4 at *
      refine afun_intro mo_ _ _ c10 k10 _ _ rfl (by decide) ?_
      unfold b10
      simp (maxSteps:=1000000) (disch:=first | omega | (simp only [LL];omega)) only [W,V,TY,CC,reduceIte,Nat.reduceEqDiff,Nat.reduceAdd,Nat.reduceLeDiff,Nat.reduceLT,Int.reduceLE,Int.reduceLT,Int.reduceAdd,Int.reduceSub,Int.reduceToNat,Nat.reduceMul,rC]
      refine a_call _ _ k1 (by simp (maxSteps:=1000000) (disch:=first | omega | (simp only [LL];omega)) only [W,V,TY,CC,reduceIte,Nat.reduceEqDiff,Nat.reduceAdd,Nat.reduceLeDiff,Nat.reduceLT,Int.reduceLE,Int.reduceLT,Int.reduceAdd,Int.reduceSub,Int.reduceToNat,Nat.reduceMul,rC,sQ,ratC,eq_self,not_true_eq_false,decide_false,decide_true,beq_self_eq_true,Bool.not_true,h60', LKR, lk_src, c1, c2]) ?_
      simp (maxSteps:=1000000) (disch:=first | omega | (simp only [LL];omega)) only [W,V,TY,CC,reduceIte,Nat.reduceEqDiff,Nat.reduceAdd,Nat.reduceLeDiff,Nat.reduceLT,Int.reduceLE,Int.reduceLT,Int.reduceAdd,Int.reduceSub,Int.reduceToNat,Nat.reduceMul,rC,sQ,ratC,eq_self,not_true_eq_false,decide_false,decide_true,beq_self_eq_true,Bool.not_true,h60', LKR, lk_src, c1, c2]
      refine a_call _ _ k2 (by simp (maxSteps:=1000000) (disch:=first | omega | (simp only [LL];omega)) only [W,V,TY,CC,reduceIte,Nat.reduceEqDiff,Nat.reduceAdd,Nat.reduceLeDiff,Nat.reduceLT,Int.reduceLE,Int.reduceLT,Int.reduceAdd,Int.reduceSub,Int.reduceToNat,Nat.reduceMul,rC,sQ,ratC,eq_self,not_true_eq_false,decide_false,decide_true,beq_self_eq_true,Bool.not_true,h60', LKR, lk_src, c1, c2]) ?_
      simp (maxSteps:=1000000) (disch:=first | omega | (simp only [LL];omega)) only [W,V,TY,CC,reduceIte,Nat.reduceEqDiff,Nat.reduceAdd,Nat.reduceLeDiff,Nat.reduceLT,Int.reduceLE,Int.reduceLT,Int.reduceAdd,Int.reduceSub,Int.reduceToNat,Nat.reduceMul,rC,sQ,ratC,eq_self,not_true_eq_false,decide_false,decide_true,beq_self_eq_true,Bool.not_true,h60', LKR, lk_src, c1, c2]
      refine ⟨⟨by omega, by omega⟩, ⟨by omega, by omega⟩, ?_⟩
      refine a_fcall (26, 0) _ _ k3 (by simp (maxSteps:=1000000) (disch:=first | omega | (simp only [LL];omega)) only [W,V,TY,CC,reduceIte,Nat.reduceEqDiff,Nat.reduceAdd,Nat.reduceLeDiff,Nat.reduceLT,Int.reduceLE,Int.reduceLT,Int.reduceAdd,Int.reduceSub,Int.reduceToNat,Nat.reduceMul,rC,sQ,ratC,eq_self,not_true_eq_false,decide_false,decide_true,beq_self_eq_true,Bool.not_true,h60', LKR, lk_src, c1, c2, happ]) ?_
      simp (maxSteps:=1000000) (disch:=first | omega | (simp only [LL];omega)) only [W,V,TY,CC,reduceIte,Nat.reduceEqDiff,Nat.reduceAdd,Nat.reduceLeDiff,Nat.reduceLT,Int.reduceLE,Int.reduceLT,Int.reduceAdd,Int.reduceSub,Int.reduceToNat,Nat.reduceMul,rC,sQ,ratC,eq_self,not_true_eq_false,decide_false,decide_true,beq_self_eq_true,Bool.not_true,h60', LKR]
      refine a_call _ _ co (by simp (maxSteps:=1000000) (disch:=first | omega | (simp only [LL];omega)) only [W,V,TY,CC,reduceIte,Nat.reduceEqDiff,Nat.reduceAdd,Nat.reduceLeDiff,Nat.reduceLT,Int.reduceLE,Int.reduceLT,Int.reduceAdd,Int.reduceSub,Int.reduceToNat,Nat.reduceMul,rC,sQ,ratC,eq_self,not_true_eq_false,decide_false,decide_true,beq_self_eq_true,Bool.not_true,h60', LKR]) ?_
      simp (maxSteps:=1000000) (disch:=first | omega | (simp only [LL];omega)) only [W,V,TY,CC,reduceIte,Nat.reduceEqDiff,Nat.reduceAdd,Nat.reduceLeDiff,Nat.reduceLT,Int.reduceLE,Int.reduceLT,Int.reduceAdd,Int.reduceSub,Int.reduceToNat,Nat.reduceMul,rC,sQ,ratC,eq_self,not_true_eq_false,decide_false,decide_true,beq_self_eq_true,Bool.not_true,h60', LKR]
      refine a_call _ _ sm (by simp (maxSteps:=1000000) (disch:=first | omega | (simp only [LL];omega)) only [W,V,TY,CC,reduceIte,Nat.reduceEqDiff,Nat.reduceAdd,Nat.reduceLeDiff,Nat.reduceLT,Int.reduceLE,Int.reduceLT,Int.reduceAdd,Int.reduceSub,Int.reduceToNat,Nat.reduceMul,rC,sQ,ratC,eq_self,not_true_eq_false,decide_false,decide_true,beq_self_eq_true,Bool.not_true,h60', LKR]) ?_
      simp (maxSteps:=1000000) (disch:=first | omega | (simp only [LL];omega)) only [W,V,TY,CC,reduceIte,Nat.reduceEqDiff,Nat.reduceAdd,Nat.reduceLeDiff,Nat.reduceLT,Int.reduceLE,Int.reduceLT,Int.reduceAdd,Int.reduceSub,Int.reduceToNat,Nat.reduceMul,rC,sQ,ratC,eq_self,not_true_eq_false,decide_false,decide_true,beq_self_eq_true,Bool.not_true,h60', LKR]
      refine a_call _ _ va (by simp (maxSteps:=1000000) (disch:=first | omega | (simp only [LL];omega)) only [W,V,TY,CC,reduceIte,Nat.reduceEqDiff,Nat.reduceAdd,Nat.reduceLeDiff,Nat.reduceLT,Int.reduceLE,Int.reduceLT,Int.reduceAdd,Int.reduceSub,Int.reduceToNat,Nat.reduceMul,rC,sQ,ratC,eq_self,not_true_eq_false,decide_false,decide_true,beq_self_eq_true,Bool.not_true,h60', LKR]) ?_
      simp (maxSteps:=1000000) (disch:=first | omega | (simp only [LL];omega)) only [W,V,TY,CC,reduceIte,Nat.reduceEqDiff,Nat.reduceAdd,Nat.reduceLeDiff,Nat.reduceLT,Int.reduceLE,Int.reduceLT,Int.reduceAdd,Int.reduceSub,Int.reduceToNat,Nat.reduceMul,rC,sQ,ratC,eq_self,not_true_eq_false,decide_false,decide_true,beq_self_eq_true,Bool.not_true,h60', LKR]
      refine a_call _ _ ax (by simp (maxSteps:=1000000) (disch:=first | omega | (simp only [LL];omega)) only [W,V,TY,CC,reduceIte,Nat.reduceEqDiff,Nat.reduceAdd,Nat.reduceLeDiff,Nat.reduceLT,Int.reduceLE,Int.reduceLT,Int.reduceAdd,Int.reduceSub,Int.reduceToNat,Nat.reduceMul,rC,sQ,ratC,eq_self,not_true_eq_false,decide_false,decide_true,beq_self_eq_true,Bool.not_true,h60', LKR]) ?_
      simp (maxSteps:=1000000) (disch:=first | omega | (simp only [LL];omega)) only [W,V,TY,CC,reduceIte,Nat.reduceEqDiff,Nat.reduceAdd,Nat.reduceLeDiff,Nat.reduceLT,Int.reduceLE,Int.reduceLT,Int.reduceAdd,Int.reduceSub,Int.reduceToNat,Nat.reduceMul,rC,sQ,ratC,eq_self,not_true_eq_false,decide_false,decide_true,beq_self_eq_true,Bool.not_true,h60', LKR]
      refine a_call _ _ ay (by simp (maxSteps:=1000000) (disch:=first | omega | (simp only [LL];omega)) only [W,V,TY,CC,reduceIte,Nat.reduceEqDiff,Nat.reduceAdd,Nat.reduceLeDiff,Nat.reduceLT,Int.reduceLE,Int.reduceLT,Int.reduceAdd,Int.reduceSub,Int.reduceToNat,Nat.reduceMul,rC,sQ,ratC,eq_self,not_true_eq_false,decide_false,decide_true,beq_self_eq_true,Bool.not_true,h60', LKR]) ?_
      simp (maxSteps:=1000000) (disch:=first | omega | (simp only [LL];omega)) only [W,V,TY,CC,reduceIte,Nat.reduceEqDiff,Nat.reduceAdd,Nat.reduceLeDiff,Nat.reduceLT,Int.reduceLE,Int.reduceLT,Int.reduceAdd,Int.reduceSub,Int.reduceToNat,Nat.reduceMul,rC,sQ,ratC,eq_self,not_true_eq_false,decide_false,decide_true,beq_self_eq_true,Bool.not_true,h60', LKR]
      refine a_call _ _ cp (by simp (maxSteps:=1000000) (disch:=first | omega | (simp only [LL];omega)) only [W,V,TY,CC,reduceIte,Nat.reduceEqDiff,Nat.reduceAdd,Nat.reduceLeDiff,Nat.reduceLT,Int.reduceLE,Int.reduceLT,Int.reduceAdd,Int.reduceSub,Int.reduceToNat,Nat.reduceMul,rC,sQ,ratC,eq_self,not_true_eq_false,decide_false,decide_true,beq_self_eq_true,Bool.not_true,h60', LKR]) ?_
      simp (maxSteps:=1000000) (disch:=first | omega | (simp only [LL];omega)) only [W,V,TY,CC,reduceIte,Nat.reduceEqDiff,Nat.reduceAdd,Nat.reduceLeDiff,Nat.reduceLT,Int.reduceLE,Int.reduceLT,Int.reduceAdd,Int.reduceSub,Int.reduceToNat,Nat.reduceMul,rC,sQ,ratC,eq_self,not_true_eq_false,decide_false,decide_true,beq_self_eq_true,Bool.not_true,h60', LKR]
      refine a_call _ _ cx (by simp (maxSteps:=1000000) (disch:=first | omega | (simp only [LL];omega)) only [W,V,TY,CC,reduceIte,Nat.reduceEqDiff,Nat.reduceAdd,Nat.reduceLeDiff,Nat.reduceLT,Int.reduceLE,Int.reduceLT,Int.reduceAdd,Int.reduceSub,Int.reduceToNat,Nat.reduceMul,rC,sQ,ratC,eq_self,not_true_eq_false,decide_false,decide_true,beq_self_eq_true,Bool.not_true,h60', LKR]) ?_
      simp (maxSteps:=1000000) (disch:=first | omega | (simp only [LL];omega)) only [W,V,TY,CC,reduceIte,Nat.reduceEqDiff,Nat.reduceAdd,Nat.reduceLeDiff,Nat.reduceLT,Int.reduceLE,Int.reduceLT,Int.reduceAdd,Int.reduceSub,Int.reduceToNat,Nat.reduceMul,rC,sQ,ratC,eq_self,not_true_eq_false,decide_false,decide_true,beq_self_eq_true,Bool.not_true,h60', LKR]
      refine a_call _ _ l45_awake (by simp (maxSteps:=1000000) (disch:=first | omega | (simp only [LL];omega)) only [W,V,TY,CC,reduceIte,Nat.reduceEqDiff,Nat.reduceAdd,Nat.reduceLeDiff,Nat.reduceLT,Int.reduceLE,Int.reduceLT,Int.reduceAdd,Int.reduceSub,Int.reduceToNat,Nat.reduceMul,rC,sQ,ratC,eq_self,not_true_eq_false,decide_false,decide_true,beq_self_eq_true,Bool.not_true,h60', LKR]) ?_
      simp (maxSteps:=1000000) (disch:=first | omega | (simp only [LL];omega)) only [W,V,TY,CC,reduceIte,Nat.reduceEqDiff,Nat.reduceAdd,Nat.reduceLeDiff,Nat.reduceLT,Int.reduceLE,Int.reduceLT,Int.reduceAdd,Int.reduceSub,Int.reduceToNat,Nat.reduceMul,rC,sQ,ratC,eq_self,not_true_eq_false,decide_false,decide_true,beq_self_eq_true,Bool.not_true,h60', LKR]
      refine f_ret _ _ _ ?_
      simp (maxSteps:=1000000) (disch:=first | omega | (simp only [LL];omega)) only [W,V,TY,CC,reduceIte,Nat.reduceEqDiff,Nat.reduceAdd,Nat.reduceLeDiff,Nat.reduceLT,Int.reduceLE,Int.reduceLT,Int.reduceAdd,Int.reduceSub,Int.reduceToNat,Nat.reduceMul,rC,sQ,ratC,eq_self,not_true_eq_false,decide_false,decide_true,beq_self_eq_true,Bool.not_true]
end Go.Proofs.YtljmgdepldpmdaaDoor.E

set_option linter.unusedSimpArgs false
set_option linter.unusedVariables false
set_option maxHeartbeats 2000000
namespace Go.Proofs.YtljmgdepldpmdaaDoor.E
open Go.RowKit Go.ChangeShapes Go.WideShapes Go.Deep Limbs
section
variable {H : Type}
theorem bk_one (d : DataW H) : 1 ≤ Rows.uptoBulk d := by
  cases d with
  | lit l => cases l <;> simp [Rows.uptoBulk]
  | nil => simp [Rows.uptoBulk]
  | ptr d => simp [Rows.uptoBulk]
  | slice elems spare => simp [Rows.uptoBulk]
  | agg parts => simp [Rows.uptoBulk]
  | iface t d => simp [Rows.uptoBulk]
  | map entries => simp [Rows.uptoBulk]
  | held h => simp [Rows.uptoBulk]
theorem bk_part {d : DataW H} {l : List (DataW H)} (h : d ∈ l) : Rows.uptoBulk d ≤ Rows.uptoBulkAll l := by
  induction l with
  | nil => cases h
  | cons x r ih =>
    simp only [Rows.uptoBulkAll]
    cases List.mem_cons.1 h with
    | inl e => subst e; omega
    | inr e => have := ih e; omega
theorem bk_len (l : List (DataW H)) : l.length ≤ Rows.uptoBulkAll l := by
  induction l with
  | nil => simp [Rows.uptoBulkAll]
  | cons x r ih => have := bk_one x; simp only [Rows.uptoBulkAll, List.length_cons]; omega
variable {enc : TypeId × Value → H} {P : Program} {w : World} {base : Nat} {sp : Nat → Bool} {hd : Bool}
/-- a slice of one-cell elements -/
theorem rdB_slice {α : Type} [Inhabited α] (g : α → Dt) (Good : α → DataW H → Prop) {t e : TypeId} (ht : P.underlying t = some (.slice e)) (hc : P.cellsOf e = 1)
    (hel : ∀ n V D Pl, DataW.trod enc P w base sp hd n e [V] = some (D, Pl) → ∃ x, Good x D ∧ Rep w (fun k => k < w.heap.size) (g x) V) {fuel : Nat} {cs : List Value} {y : DataW H × List MemPlace}
    (h : DataW.trod enc P w base sp hd fuel t cs = some y) : ∃ l : List α, (∀ x ∈ l, ∃ D, Good x D ∧ Rows.uptoBulk D + 1 ≤ Rows.uptoBulk y.1) ∧ l.length + 1 ≤ Rows.uptoBulk y.1 ∧ ∃ v, cs = [v] ∧ Rep w (fun k => k < w.heap.size) (rowD (fun x => [g x]) l) v := by
  rcases open_slice1 ht hc h with ⟨rfl, rfl⟩ | ⟨a, len, cap, m, n, V, D, Pl, rfl, _, hl, _, hm, rfl, hx⟩
  · exact ⟨[], fun x hx => by simp at hx, by simp [Rows.uptoBulk], _, rfl, .sl none 0 0 [] [] rfl (Nat.le_refl _) (fun j u hj => by simp at hj) (fun j u d hj => by simp at hj)⟩
  · have hle : len ≤ m := by rw [hm]; split <;> omega
    obtain ⟨X, hX⟩ := choose_lt (n := len) (α := α) (p := fun i x => Good x (D i) ∧ Rep w (fun k => k < w.heap.size) (g x) (V i)) (fun i hi => hel n _ _ _ (hx i (by omega)).2)
    refine ⟨(List.range len).map X, fun x hxm => ?_, ?_, _, rfl, ?_⟩
    · obtain ⟨i, hi, rfl⟩ := List.mem_map.1 hxm
      refine ⟨D i, (hX i (by simpa using hi)).1, ?_⟩
      have := bk_part (d := D i) (l := (List.range len).map D) (List.mem_map.2 ⟨i, hi, rfl⟩)
      show Rows.uptoBulk (D i) + 1 ≤ Rows.uptoBulk (.slice _ _)
      simp only [Rows.uptoBulk]
      omega
    · have := bk_len ((List.range len).map D)
      show _ ≤ Rows.uptoBulk (.slice _ _)
      simp only [Rows.uptoBulk, List.length_map, List.length_range] at *
      omega
    · have hr : rowD (fun x => [g x]) ((List.range len).map X) = .sl len ((List.range len).map fun i => g (X i)) := by
        unfold rowD rowC
        congr 1
        · simp
        · rw [List.flatMap_map]
          induction List.range len with
          | nil => rfl
          | cons i l ih => simp only [List.flatMap_cons, List.map_cons, ih]; rfl
      rw [hr]
      refine .sl (some a) len cap _ ((List.range len).map V) (by simp) hl (fun j u hj => ?_) (fun j u d hj hd' => ?_)
      · rw [List.getElem?_map] at hj
        cases hq : (List.range len)[j]? with
        | none => rw [hq] at hj; simp at hj
        | some i =>
          rw [hq] at hj
          obtain ⟨hlt, hi⟩ := List.getElem?_eq_some_iff.1 hq
          simp only [List.length_range] at hlt
          simp only [List.getElem_range] at hi
          subst hi
          simp only [Option.map_some, Option.some.injEq] at hj
          subst hj
          have := (hx j (by omega)).1
          exact ⟨a, rfl, cell_block this, this⟩
      · rw [List.getElem?_map] at hj hd'
        cases hq : (List.range len)[j]? with
        | none => rw [hq] at hj; simp at hj
        | some i =>
          rw [hq] at hj hd'
          obtain ⟨hlt, hi⟩ := List.getElem?_eq_some_iff.1 hq
          simp only [List.length_range] at hlt
          simp only [Option.map_some, Option.some.injEq] at hj hd'
          subst hj; subst hd'
          have : i < len := by simp at hi; omega
          exact (hX i this).2
theorem rdB_nat {t e : TypeId} (ht : P.underlying t = some (.slice e)) (he : P.underlying e = some (.int .u32)) (hc : P.cellsOf e = 1) {fuel : Nat} {cs : List Value} {y : DataW H × List MemPlace}
    (h : DataW.trod enc P w base sp hd fuel t cs = some y) : ∃ l : List Int, Lim l ∧ l.length + 1 ≤ Rows.uptoBulk y.1 ∧ ∃ v, cs = [v] ∧ Rep w (fun k => k < w.heap.size) (natD l) v := by
  obtain ⟨l, h1, h2, h3⟩ := rdB_slice (fun n => .lit (.int .u32 n)) (fun x _ => 0 ≤ x ∧ x < 4294967296) ht hc (fun n V D Pl hV => by
    obtain ⟨x, hx, _, hw⟩ := DataW.trod_int he hV
    cases hx
    have := bounds_u32 hw
    exact ⟨x, ⟨this.1, by omega⟩, .lit _ rfl⟩) h
  exact ⟨l, fun x hx => by obtain ⟨_, h, _⟩ := h1 x hx; exact h, h2, h3⟩
theorem rdB_ints {t e : TypeId} (ht : P.underlying t = some (.slice e)) (he : P.underlying e = some (.int .i64)) (hc : P.cellsOf e = 1) {fuel : Nat} {cs : List Value} {y : DataW H × List MemPlace}
    (h : DataW.trod enc P w base sp hd fuel t cs = some y) : ∃ l : List Int, (∀ x ∈ l, -9223372036854775808 ≤ x ∧ x ≤ 9223372036854775807) ∧ l.length + 1 ≤ Rows.uptoBulk y.1 ∧ ∃ v, cs = [v] ∧ Rep w (fun k => k < w.heap.size) (intsD l) v := by
  obtain ⟨l, h1, h2, h3⟩ := rdB_slice (fun n => .lit (.int .i64 n)) (fun x _ => -9223372036854775808 ≤ x ∧ x ≤ 9223372036854775807) ht hc (fun n V D Pl hV => by
    obtain ⟨x, hx, _, hw⟩ := DataW.trod_int he hV
    cases hx
    exact ⟨x, bounds_i64 hw, .lit _ rfl⟩) h
  exact ⟨l, fun x hx => by obtain ⟨_, h, _⟩ := h1 x hx; exact h, h2, h3⟩
/-- the types of a rational number -/
structure RatTy (P : Program) (t : TypeId) : Prop where
  ex : ∃ (tI tN tB e : TypeId) (f0 f1 g0 g1 : Field), P.underlying t = some (.struct #[f0, f1]) ∧ (f0.type = tI ∧ f0.offset = 0) ∧ (f1.type = tN ∧ f1.offset = 2) ∧ P.cellsOf t = 3 ∧ P.cellsOf tI = 2 ∧
    P.underlying tI = some (.struct #[g0, g1]) ∧ (g0.type = tB ∧ g0.offset = 0) ∧ (g1.type = tN ∧ g1.offset = 1) ∧ P.underlying tB = some .bool ∧ P.cellsOf tB = 1 ∧ P.cellsOf tN = 1 ∧
    P.underlying tN = some (.slice e) ∧ P.underlying e = some (.int .u32) ∧ P.cellsOf e = 1
/-- a rational number, as it was handed over -/
theorem rdB_ratio {t : TypeId} (hty : RatTy P t) {fuel : Nat} {cs : List Value} {y : DataW H × List MemPlace}
    (h : DataW.trod enc P w base sp hd fuel t cs = some y) : ∃ x : RR, rok (Rows.uptoBulk y.1) x ∧ Fits (Rep w (fun k => k < w.heap.size)) (rC x) cs := by
  obtain ⟨tI, tN, tB, e, f0, f1, g0, g1, ht, h0, h1, hct, hcI, hI, i0, i1, hB, hcB, hcN, hs, he, hc⟩ := hty.ex
  obtain ⟨y0, y1, k, hy, hl, k0, k1⟩ := trod_struct2 ht h
  rw [h0.1, h0.2, hcI] at k0
  rw [h1.1, h1.2, hcN] at k1
  obtain ⟨z0, z1, k', hz, hl', l0, l1⟩ := trod_struct2 hI k0
  rw [i0.1, i0.2, hcB] at l0
  rw [i1.1, i1.2, hcN] at l1
  obtain ⟨n, e0, hz0⟩ := DataW.trod_bool hB l0
  obtain ⟨m, hm, bm, v1, e1, r1⟩ := rdB_nat hs he hc l1
  obtain ⟨q, hq, bq, v2, e2, r2⟩ := rdB_nat hs he hc k1
  have hb : Rows.uptoBulk y.1 = Rows.uptoBulk z0.1 + Rows.uptoBulk z1.1 + 1 + Rows.uptoBulk y1.1 + 1 := by
    rw [hy, hz]
    simp only [Rows.uptoBulk, Rows.uptoBulkAll]
    omega
  refine ⟨⟨n, m, q⟩, ⟨hm, hq, by show m.length ≤ _; omega, by show q.length ≤ _; omega⟩, ?_⟩
  rw [hct] at hl
  match cs, hl with
  | [u0, u1, u2], _ =>
    simp at e0 e1 e2
    subst e0; subst e1; subst e2
    exact Fits.cons (.lit _ rfl) (Fits.cons r1 (Fits.cons r2 (Fits.nil _)))
/-- two rational numbers side by side -/
theorem rdB_pair {t tR : TypeId} {f0 f1 : Field} (ht : P.underlying t = some (.struct #[f0, f1])) (h0 : f0.type = tR ∧ f0.offset = 0) (h1 : f1.type = tR ∧ f1.offset = 3) (hct : P.cellsOf t = 6) (hcR : P.cellsOf tR = 3) (hty : RatTy P tR) {fuel : Nat} {cs : List Value} {y : DataW H × List MemPlace}
    (h : DataW.trod enc P w base sp hd fuel t cs = some y) : ∃ x z : RR, rok (Rows.uptoBulk y.1) x ∧ rok (Rows.uptoBulk y.1) z ∧ Fits (Rep w (fun k => k < w.heap.size)) (rC x ++ rC z) cs := by
  obtain ⟨y0, y1, k, hy, hl, k0, k1⟩ := trod_struct2 ht h
  rw [h0.1, h0.2, hcR] at k0
  rw [h1.1, h1.2, hcR] at k1
  obtain ⟨x, hx, rx⟩ := rdB_ratio hty k0
  obtain ⟨z, hz, rz⟩ := rdB_ratio hty k1
  have hb : Rows.uptoBulk y.1 = Rows.uptoBulk y0.1 + Rows.uptoBulk y1.1 + 1 := by
    rw [hy]
    simp only [Rows.uptoBulk, Rows.uptoBulkAll]
    omega
  refine ⟨x, z, hx.mono (by omega), hz.mono (by omega), ?_⟩
  have := rx.append rz
  rw [hct] at hl
  match cs, hl with
  | [u0, u1, u2, u3, u4, u5], _ => exact this
theorem rdV_ratio {t : TypeId} (hty : RatTy P t) {r : Reach} {b0 : Nat} {v : Value} {d : DataW H} {ps : List MemPlace} (hval : Value.okWide P w r b0 t v) (h : DataW.Trod enc P w base sp hd t v d ps) :
    ∃ x : RR, rok (Rows.uptoBulk d) x ∧ MR w (fun k => k < w.heap.size) (.agg (rC x)) v := by
  obtain ⟨tI, tN, tB, e, f0, f1, g0, g1, ht, _⟩ := hty.ex
  obtain ⟨cs, rfl, hsz⟩ := okWide_struct ht hval
  obtain ⟨fuel, hf⟩ := h
  obtain ⟨x, hx, hr⟩ := rdB_ratio hty hf
  exact ⟨x, hx, cs.toList, by simp, hr⟩
theorem rdV_pair {t tR : TypeId} {f0 f1 : Field} (ht : P.underlying t = some (.struct #[f0, f1])) (h0 : f0.type = tR ∧ f0.offset = 0) (h1 : f1.type = tR ∧ f1.offset = 3) (hct : P.cellsOf t = 6) (hcR : P.cellsOf tR = 3) (hty : RatTy P tR) {r : Reach} {b0 : Nat} {v : Value} {d : DataW H} {ps : List MemPlace} (hval : Value.okWide P w r b0 t v) (h : DataW.Trod enc P w base sp hd t v d ps) :
    ∃ x z : RR, rok (Rows.uptoBulk d) x ∧ rok (Rows.uptoBulk d) z ∧ MR w (fun k => k < w.heap.size) (.agg (rC x ++ rC z)) v := by
  obtain ⟨cs, rfl, hsz⟩ := okWide_struct ht hval
  obtain ⟨fuel, hf⟩ := h
  obtain ⟨x, z, hx, hz, hr⟩ := rdB_pair ht h0 h1 hct hcR hty hf
  exact ⟨x, z, hx, hz, cs.toList, by simp, hr⟩
theorem rdV_ints {t e : TypeId} (ht : P.underlying t = some (.slice e)) (he : P.underlying e = some (.int .i64)) (hc : P.cellsOf e = 1) {r : Reach} {b0 : Nat} {v : Value} {d : DataW H} {ps : List MemPlace} (hval : Value.okWide P w r b0 t v) (h : DataW.Trod enc P w base sp hd t v d ps) :
    ∃ l : List Int, (∀ x ∈ l, -9223372036854775808 ≤ x ∧ x ≤ 9223372036854775807) ∧ l.length + 1 ≤ Rows.uptoBulk d ∧ MR w (fun k => k < w.heap.size) (.one (intsD l)) v := by
  obtain ⟨fuel, hf⟩ := h
  obtain ⟨a, len, cap, rfl⟩ := okWide_slice ht hval
  obtain ⟨l, h1, h2, v, hv, hr⟩ := rdB_ints ht he hc hf
  have hv' : [Value.slice a len cap] = [v] := hv
  cases hv'
  exact ⟨l, h1, h2, hr⟩
end
end Go.Proofs.YtljmgdepldpmdaaDoor.E

set_option linter.unusedSimpArgs false
set_option linter.unusedVariables false
set_option maxHeartbeats 2000000
namespace Go.Proofs.YtljmgdepldpmdaaDoor.E
open Go.RowKit Go.ChangeShapes Go.WideShapes Go.Deep Limbs
theorem flat_len {α : Type} (F : Nat → List α) (sz : Nat) : ∀ len, (∀ i, i < len → (F i).length = sz) → ((List.range len).flatMap F).length = len * sz
  | 0, _ => by simp
  | len + 1, h => by
    rw [List.range_succ, List.flatMap_append, List.length_append, flat_len F sz len fun i hi => h i (by omega)]
    simp only [List.flatMap_cons, List.flatMap_nil, List.append_nil]
    rw [h len (by omega), Nat.add_mul]
    omega
theorem flat_get {α : Type} (F : Nat → List α) {sz : Nat} (hs : 0 < sz) : ∀ len, (∀ i, i < len → (F i).length = sz) → ∀ (j : Nat) (u : α), ((List.range len).flatMap F)[j]? = some u → j / sz < len ∧ (F (j / sz))[j % sz]? = some u
  | 0, _, j, u, hj => by simp at hj
  | len + 1, h, j, u, hj => by
    have hl := flat_len F sz len fun i hi => h i (by omega)
    rw [List.range_succ, List.flatMap_append] at hj
    simp only [List.flatMap_cons, List.flatMap_nil, List.append_nil] at hj
    rcases Nat.lt_or_ge j (len * sz) with h1 | h1
    · rw [List.getElem?_append_left (by omega)] at hj
      obtain ⟨h2, h3⟩ := flat_get F hs len (fun i hi => h i (by omega)) j u hj
      exact ⟨by omega, h3⟩
    · rw [List.getElem?_append_right (by omega), hl] at hj
      have h2 : j - len * sz < sz := by
        have := (List.getElem?_eq_some_iff.1 hj).1
        rw [h len (by omega)] at this
        exact this
      have h3 : j / sz = len := Nat.div_eq_of_lt_le h1 (by rw [Nat.add_mul]; omega)
      have h5 : j % sz = j - len * sz := by
        have := Nat.div_add_mod j sz
        rw [h3, Nat.mul_comm] at this
        omega
      rw [h3, h5]
      exact ⟨by omega, hj⟩
section
variable {H : Type} {enc : TypeId × Value → H} {P : Program} {w : World} {base : Nat} {sp : Nat → Bool} {hd : Bool}
theorem rdB_links {t e tR : TypeId} {f0 f1 : Field} (ht : P.underlying t = some (.slice e)) (hse : P.underlying e = some (.struct #[f0, f1])) (h0 : f0.type = tR ∧ f0.offset = 0) (h1 : f1.type = tR ∧ f1.offset = 3) (hce : P.cellsOf e = 6) (hcR : P.cellsOf tR = 3) (hty : RatTy P tR) {fuel : Nat} {cs : List Value} {y : DataW H × List MemPlace}
    (h : DataW.trod enc P w base sp hd fuel t cs = some y) : ∃ l : List (RR × RR), (∀ p ∈ l, rok (Rows.uptoBulk y.1) p.1 ∧ rok (Rows.uptoBulk y.1) p.2) ∧ l.length + 1 ≤ Rows.uptoBulk y.1 ∧ ∃ v, cs = [v] ∧ Rep w (fun k => k < w.heap.size) (lkD l) v := by
  rcases open_slice ht h with ⟨rfl, rfl⟩ | ⟨a, len, cap, m, n, D, Pl, rfl, _, hl, _, hm, rfl, hx⟩
  · exact ⟨[], fun x hx => by simp at hx, by simp [Rows.uptoBulk], _, rfl, .sl none 0 0 [] [] rfl (Nat.le_refl _) (fun j u hj => by simp at hj) (fun j u d hj => by simp at hj)⟩
  · have hle : len ≤ m := by rw [hm]; split <;> omega
    rw [hce] at hx
    obtain ⟨X, hX⟩ := choose_lt (n := len) (α := List Value × (RR × RR)) (p := fun i c => w.cells? base (a.add (i * 6)) 6 = some c.1 ∧ (rok (Rows.uptoBulk (D i)) c.2.1 ∧ rok (Rows.uptoBulk (D i)) c.2.2) ∧ Fits (Rep w (fun k => k < w.heap.size)) (lkC c.2) c.1) (fun i hi => by
      obtain ⟨cs', e1, e2⟩ := hx i (by omega)
      obtain ⟨p, q, rp, rq, fp⟩ := rdB_pair hse h0 h1 hce hcR hty e2
      exact ⟨(cs', (p, q)), e1, ⟨rp, rq⟩, fp⟩)
    have hcs : ∀ i, i < len → (X i).1.length = 6 := fun i hi => (World.cells?_some (hX i hi).1).2.1
    refine ⟨(List.range len).map fun i => (X i).2, fun p hp => ?_, ?_, _, rfl, ?_⟩
    · obtain ⟨i, hi, rfl⟩ := List.mem_map.1 hp
      have hi' : i < len := by simpa using hi
      have hb := bk_part (d := D i) (l := (List.range len).map D) (List.mem_map.2 ⟨i, hi, rfl⟩)
      have hb' : Rows.uptoBulk (D i) ≤ Rows.uptoBulk (.slice ((List.range len).map D) ((List.range (m - len)).map fun j => D (len + j))) := by
        simp only [Rows.uptoBulk]
        omega
      exact ⟨(hX i hi').2.1.1.mono hb', (hX i hi').2.1.2.mono hb'⟩
    · have := bk_len ((List.range len).map D)
      show _ ≤ Rows.uptoBulk (.slice _ _)
      simp only [Rows.uptoBulk, List.length_map, List.length_range] at *
      omega
    · have hr : lkD ((List.range len).map fun i => (X i).2) = .sl len ((List.range len).flatMap fun i => lkC (X i).2) := by
        unfold lkD rowD rowC
        rw [List.flatMap_map]
        congr 1
        simp
      rw [hr]
      have l1 := flat_len (fun i => (X i).1) 6 len hcs
      have l2 := flat_len (fun i => lkC (X i).2) 6 len (fun _ _ => rfl)
      refine .sl (some a) len cap _ ((List.range len).flatMap fun i => (X i).1) (by omega) hl (fun j u hj => ?_) (fun j u d hj hd' => ?_)
      · obtain ⟨h2, h3⟩ := flat_get (fun i => (X i).1) (sz := 6) (by decide) len hcs j u hj
        have hc := (World.cells?_some (hX _ h2).1).2.2 (j % 6) (Nat.mod_lt _ (by decide))
        rw [add_of_add, show j / 6 * 6 + j % 6 = j by omega, h3] at hc
        exact ⟨a, rfl, cell_block hc, hc⟩
      · obtain ⟨h2, h3⟩ := flat_get (fun i => (X i).1) (sz := 6) (by decide) len hcs j u hj
        obtain ⟨_, h4⟩ := flat_get (fun i => lkC (X i).2) (sz := 6) (by decide) len (fun _ _ => rfl) j d hd'
        exact (hX _ h2).2.2.2 _ u d h3 h4
theorem rdV_links {t e tR : TypeId} {f0 f1 : Field} (ht : P.underlying t = some (.slice e)) (hse : P.underlying e = some (.struct #[f0, f1])) (h0 : f0.type = tR ∧ f0.offset = 0) (h1 : f1.type = tR ∧ f1.offset = 3) (hce : P.cellsOf e = 6) (hcR : P.cellsOf tR = 3) (hty : RatTy P tR) {r : Reach} {b0 : Nat} {v : Value} {d : DataW H} {ps : List MemPlace} (hval : Value.okWide P w r b0 t v) (h : DataW.Trod enc P w base sp hd t v d ps) :
    ∃ l : List (RR × RR), (∀ p ∈ l, rok (Rows.uptoBulk d) p.1 ∧ rok (Rows.uptoBulk d) p.2) ∧ l.length + 1 ≤ Rows.uptoBulk d ∧ MR w (fun k => k < w.heap.size) (.one (lkD l)) v := by
  obtain ⟨fuel, hf⟩ := h
  obtain ⟨a, len, cap, rfl⟩ := okWide_slice ht hval
  obtain ⟨l, h2, h3, v, hv, hr⟩ := rdB_links ht hse h0 h1 hce hcR hty hf
  have hv' : [Value.slice a len cap] = [v] := hv
  cases hv'
  exact ⟨l, h2, h3, hr⟩
end
end Go.Proofs.YtljmgdepldpmdaaDoor.E
