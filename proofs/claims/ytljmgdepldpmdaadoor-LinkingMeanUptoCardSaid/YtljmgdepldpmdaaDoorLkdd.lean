/- An abstract interpreter over data, and contracts of the program's functions, part 4; no condition. -/
import Derived.Test.YtljmgdepldpmdaaDoorLkdc
set_option linter.unusedSimpArgs false
set_option linter.unusedVariables false
set_option maxHeartbeats 2000000
namespace Go.Proofs.YtljmgdepldpmdaaDoor.E
open Go.RowKit Limbs
/-- the limbs of a number in lowest terms -/
def qs (q : Rat) : Nat := max (zl q.num) (nl q.den).length
theorem qs_num (q : Rat) : (nl q.num.natAbs).length ≤ qs q := Nat.le_max_left _ _
theorem qs_den (q : Rat) : (nl q.den).length ≤ qs q := Nat.le_max_right _ _
theorem qs_rv (n : Bool) {m d : List Int} (hm : Lim m) (hd : Lim d) : qs (rv n m d) ≤ max m.length (d.length + 1) := by
  obtain ⟨h1, h2⟩ := rv_size n hm hd
  unfold qs
  omega
theorem qs_mk (x : Int) (k : Nat) : qs (mkRat x k) ≤ max (zl x) ((nl k).length + 1) := by
  rw [← rv_mk]
  exact qs_rv _ (nl_lim _) (nl_lim _)
theorem qs_sub (a b : Rat) : qs (a - b) ≤ qs a + qs b + 1 := by
  have ha := a.den_pos
  have hb := b.den_pos
  have e : a - b = mkRat (a.num * b.den - b.num * a.den) (a.den * b.den) := Rat.sub_def' a b
  rw [e]
  refine Nat.le_trans (qs_mk _ _) ?_
  have h1 := zl_sub (a.num * (b.den : Int)) (b.num * (a.den : Int))
  have h2 := zl_mul a.num (b.den : Int)
  have h3 := zl_mul b.num (a.den : Int)
  have h4 := zl_mul (a.den : Int) (b.den : Int)
  rw [← Int.natCast_mul] at h4
  have e1 := zl_nat a.den
  have e2 := zl_nat b.den
  have e3 := zl_nat (a.den * b.den)
  unfold qs
  omega
theorem qs_add (a b : Rat) : qs (a + b) ≤ qs a + qs b + 1 := by
  have e : a + b = mkRat (a.num * b.den + b.num * a.den) (a.den * b.den) := Rat.add_def' a b
  rw [e]
  refine Nat.le_trans (qs_mk _ _) ?_
  have h1 := zl_add (a.num * (b.den : Int)) (b.num * (a.den : Int))
  have h2 := zl_mul a.num (b.den : Int)
  have h3 := zl_mul b.num (a.den : Int)
  have h4 := zl_mul (a.den : Int) (b.den : Int)
  rw [← Int.natCast_mul] at h4
  have e1 := zl_nat a.den
  have e2 := zl_nat b.den
  have e3 := zl_nat (a.den * b.den)
  unfold qs
  omega
theorem qs_mul (a b : Rat) : qs (a * b) ≤ qs a + qs b + 1 := by
  have e : a * b = mkRat (a.num * b.num) (a.den * b.den) := Rat.mul_def' a b
  rw [e]
  refine Nat.le_trans (qs_mk _ _) ?_
  have h2 := zl_mul a.num b.num
  have h4 := zl_mul (a.den : Int) (b.den : Int)
  rw [← Int.natCast_mul] at h4
  have e1 := zl_nat a.den
  have e2 := zl_nat b.den
  have e3 := zl_nat (a.den * b.den)
  unfold qs
  omega
theorem qs_neg (a : Rat) : qs (-a) = qs a := by unfold qs; rw [Rat.neg_num, Rat.neg_den, zl_neg]
theorem qs_div (x y : Int) : qs (Rat.divInt x y) ≤ max (zl x) (zl y + 1) := by
  by_cases h : y = 0
  · rw [h, Rat.divInt_zero]
    refine Nat.le_trans ?_ (Nat.le_max_right _ _)
    unfold qs zl
    rw [Rat.zero_num, Rat.zero_den, show (0 : Int).natAbs = 0 from rfl, nl_zero]
    have : (nl 1).length ≤ 1 := nl_len (by decide)
    simp
    omega
  · rw [divInt_abs x y h]
    refine Nat.le_trans (qs_mk _ _) ?_
    have : zl (if y < 0 then -x else x) = zl x := by split; exact zl_neg x; rfl
    rw [this]
    exact Nat.le_refl _
theorem zl_i64 {x : Int} (x0 : -9223372036854775808 ≤ x) (x1 : x < 9223372036854775808) : zl x ≤ 2 := nl_len (by omega)
section
variable {a b : Rat} (ha : qs a < 68719476730) (hb : qs b < 68719476730)
theorem rat_Cmp' (n : Bool) (m d : List Int) (hm : Lim m) (hd : Lim d) (lm : m.length < 68719476736) (ld : d.length < 68719476736) (hb : qs b < 68719476730) : AFun Tryd.prog 23 [.agg [.lit (.bool n), natD m, natD d], .agg (ratC b)] [.one (.lit (.int .i64 (cmpQ (rv n m d) b)))] := by
  have h3 := qs_num b
  have h4 := qs_den b
  have := rat_Cmp n m d (decide (b.num < 0)) (nl b.num.natAbs) (nl b.den) hm hd (nl_lim _) (nl_lim _) lm ld (by omega) (by omega)
  rwa [rv_ratC] at this
include ha hb
theorem rat_Cmp2 : AFun Tryd.prog 23 [.agg (ratC a), .agg (ratC b)] [.one (.lit (.int .i64 (cmpQ a b)))] := by
  have h1 := qs_num a
  have h2 := qs_den a
  have := rat_Cmp' (b := b) (decide (a.num < 0)) (nl a.num.natAbs) (nl a.den) (nl_lim _) (nl_lim _) (by omega) (by omega) hb
  rwa [rv_ratC] at this
theorem rat_Sub2 : AFun Tryd.prog 16 [.agg (ratC a), .agg (ratC b)] [.agg (ratC (a - b))] := by
  have h1 := qs_num a
  have h2 := qs_den a
  have h3 := qs_num b
  have h4 := qs_den b
  have := rat_Sub (decide (a.num < 0)) (nl a.num.natAbs) (nl a.den) (decide (b.num < 0)) (nl b.num.natAbs) (nl b.den) (nl_lim _) (nl_lim _) (nl_lim _) (nl_lim _) (by omega) (by omega) (by omega) (by omega)
  rwa [rv_ratC, rv_ratC] at this
theorem rat_Mul2 : AFun Tryd.prog 18 [.agg (ratC a), .agg (ratC b)] [.agg (ratC (a * b))] := by
  have h1 := qs_num a
  have h2 := qs_den a
  have h3 := qs_num b
  have h4 := qs_den b
  have := rat_Mul (decide (a.num < 0)) (nl a.num.natAbs) (nl a.den) (decide (b.num < 0)) (nl b.num.natAbs) (nl b.den) (nl_lim _) (nl_lim _) (nl_lim _) (nl_lim _) (by omega) (by omega) (by omega) (by omega)
  rwa [rv_ratC, rv_ratC] at this
end
end Go.Proofs.YtljmgdepldpmdaaDoor.E

set_option linter.unusedSimpArgs false
set_option linter.unusedVariables false
set_option maxHeartbeats 2000000
namespace Go.Proofs.YtljmgdepldpmdaaDoor.E
open Go.RowKit Limbs
theorem divInt_one (x : Int) : Rat.divInt x 1 = (x : Rat) := by rw [Rat.divInt_eq_div]; show (x : Rat) / ((1 : Int) : Rat) = x; rw [show ((1 : Int) : Rat) = 1 from rfl]; grind
theorem cmpQ_le (a b : Rat) : cmpQ a b ≤ 0 ↔ a ≤ b := by
  unfold cmpQ
  by_cases h1 : a < b
  · rw [if_pos h1]; exact ⟨fun _ => Rat.le_of_lt h1, fun _ => by decide⟩
  · rw [if_neg h1]
    by_cases h2 : b < a
    · rw [if_pos h2]; exact ⟨fun h => absurd h (by decide), fun h => absurd h (Rat.not_le.2 h2)⟩
    · rw [if_neg h2]; exact ⟨fun _ => Rat.not_lt.1 h2, fun _ => by decide⟩
theorem cmpQ_lt (a b : Rat) : cmpQ a b < 0 ↔ a < b := by
  unfold cmpQ
  by_cases h1 : a < b
  · rw [if_pos h1]; exact ⟨fun _ => h1, fun _ => by decide⟩
  · rw [if_neg h1]
    split
    · exact ⟨fun h => absurd h (by decide), fun h => absurd h h1⟩
    · exact ⟨fun h => absurd h (by decide), fun h => absurd h h1⟩
end Go.Proofs.YtljmgdepldpmdaaDoor.E

set_option linter.unusedSimpArgs false
set_option linter.unusedVariables false
set_option maxHeartbeats 2000000
namespace Go.Proofs.YtljmgdepldpmdaaDoor.E
open Go.RowKit Limbs
/-- examboard/ratio.Norm -/
def b57 : AF := ⟨8, 1, [.cell 2 27],
  (.seq (.reg [
    ⟨some 1, .box 27 (.tmp 0), none⟩,
    ⟨some 2, .alloc 27, none⟩])
  (.seq (.reg [
    ⟨some 3, .fieldAddr 27 (.tmp 1) 0, none⟩,
    ⟨some 4, .load 25 (.tmp 3), none⟩,
    ⟨some 5, .fieldAddr 27 (.tmp 1) 1, none⟩,
    ⟨some 6, .load 23 (.tmp 5), none⟩,
    ⟨some 7, .call ⟨(.value (.func 47)), #[(.tmp 4), (.tmp 6)], #[25, 23]⟩, none⟩,
    ⟨none, .store 27 (.tmp 2) (.tmp 7), none⟩])
  .ret))⟩
theorem c57 : fcomp Tryd.prog 57 = ⟨b57.n, b57.np, b57.res, b57.body.bare⟩ := by kernel_rfl
theorem k57 : fok Tryd.prog 57 = true := by kernel_rfl
theorem rat_Norm (n : Bool) (m d : List Int) (hm : Lim m) (hd : Lim d) (lm : m.length < 2199023255552) (ld : d.length < 2199023255552) : AFun Tryd.prog 57 [.agg [.lit (.bool n), natD m, natD d]] [.agg (ratC (rv n m d))] := by
  refine afun_intro mo_ _ _ c57 k57 _ _ rfl (by decide) ?_
  unfold b57
  simp (maxSteps:=1000000) (disch:=first | omega | (simp only [LL];omega)) only [W,V,TY,CC,reduceIte,Nat.reduceEqDiff,Nat.reduceAdd,Nat.reduceLeDiff,Nat.reduceLT,Int.reduceLE,Int.reduceLT,Int.reduceAdd,Int.reduceSub,Int.reduceToNat,Nat.reduceMul]
  refine a_call _ _ (rat_lowest n m d hm hd lm ld) (by simp (maxSteps:=1000000) (disch:=first | omega | (simp only [LL];omega)) only [W,V,TY,CC,reduceIte,Nat.reduceEqDiff,Nat.reduceAdd,Nat.reduceLeDiff,Nat.reduceLT,Int.reduceLE,Int.reduceLT,Int.reduceAdd,Int.reduceSub,Int.reduceToNat,Nat.reduceMul]) ?_
  simp (maxSteps:=1000000) (disch:=first | omega | (simp only [LL];omega)) only [W,V,TY,CC,reduceIte,Nat.reduceEqDiff,Nat.reduceAdd,Nat.reduceLeDiff,Nat.reduceLT,Int.reduceLE,Int.reduceLT,Int.reduceAdd,Int.reduceSub,Int.reduceToNat,Nat.reduceMul,ratC]
  refine f_ret _ _ _ ?_
  simp (maxSteps:=1000000) (disch:=first | omega | (simp only [LL];omega)) only [W,V,TY,CC,reduceIte,Nat.reduceEqDiff,Nat.reduceAdd,Nat.reduceLeDiff,Nat.reduceLT,Int.reduceLE,Int.reduceLT,Int.reduceAdd,Int.reduceSub,Int.reduceToNat,Nat.reduceMul,ratC]
/-- the sign -/
def sgnQ (q : Rat) : Int := if q < 0 then -1 else if q = 0 then 0 else 1
theorem sgn_mk (a : Int) {k : Nat} (hk : 0 < k) : sgn a = sgnQ (mkRat a k) := by
  unfold sgn sgnQ
  have h := mk_neg a hk
  have h0 : mkRat a k = 0 ↔ a = 0 := Rat.mkRat_eq_zero (by omega)
  by_cases h1 : a < 0
  · rw [if_pos h1, if_pos (h.2 h1)]
  · rw [if_neg h1, if_neg (fun e => h1 (h.1 e))]
    by_cases h2 : a = 0
    · rw [if_pos h2, if_pos (h0.2 h2)]
    · rw [if_neg h2, if_neg (fun e => h2 (h0.1 e))]
/-- examboard/ratio.Sign -/
def b22 : AF := ⟨12, 1, [.tmp 2],
  (.seq (.reg [
    ⟨some 1, .box 27 (.tmp 0), none⟩,
    ⟨some 2, .assign (.const (.int .i64 0)), none⟩])
  (.seq (.reg [
    ⟨some 6, .load 27 (.tmp 1), none⟩,
    ⟨some 7, .call ⟨(.value (.func 46)), #[(.tmp 6)], #[27]⟩, none⟩,
    ⟨some 5, .move (.tmp 7), none⟩,
    ⟨some 8, .extract (.tmp 5) 0, none⟩,
    ⟨some 9, .extract (.tmp 5) 1, none⟩,
    ⟨some 3, .alloc 25, none⟩,
    ⟨some 4, .alloc 25, none⟩,
    ⟨none, .store 25 (.tmp 3) (.tmp 8), none⟩,
    ⟨none, .store 25 (.tmp 4) (.tmp 9), none⟩])
  (.seq (.reg [
    ⟨some 10, .load 25 (.tmp 3), none⟩,
    ⟨some 11, .call ⟨(.value (.func 53)), #[(.tmp 10)], #[25]⟩, none⟩,
    ⟨some 2, .assign (.tmp 11), none⟩])
  .ret)))⟩
theorem c22 : fcomp Tryd.prog 22 = ⟨b22.n, b22.np, b22.res, b22.body.bare⟩ := by kernel_rfl
theorem k22 : fok Tryd.prog 22 = true := by kernel_rfl
theorem rat_Sign (n : Bool) (m d : List Int) (hm : Lim m) (hd : Lim d) (lm : m.length < 549755813888) (ld : d.length < 549755813888) : AFun Tryd.prog 22 [.agg [.lit (.bool n), natD m, natD d]] [.one (.lit (.int .i64 (sgnQ (rv n m d))))] := by
  refine afun_intro mo_ _ _ c22 k22 _ _ rfl (by decide) ?_
  unfold b22
  have k1 := pM_len m d
  rw [← rv_parts n m d, ← sgn_mk _ (pD_pos d)]
  simp (maxSteps:=1000000) (disch:=first | omega | (simp only [LL];omega)) only [W,V,TY,CC,reduceIte,Nat.reduceEqDiff,Nat.reduceAdd,Nat.reduceLeDiff,Nat.reduceLT,Int.reduceLE,Int.reduceLT,Int.reduceAdd,Int.reduceSub,Int.reduceToNat,Nat.reduceMul]
  refine a_call _ _ (rat_parts n m d hm hd lm ld) (by simp (maxSteps:=1000000) (disch:=first | omega | (simp only [LL];omega)) only [W,V,TY,CC,reduceIte,Nat.reduceEqDiff,Nat.reduceAdd,Nat.reduceLeDiff,Nat.reduceLT,Int.reduceLE,Int.reduceLT,Int.reduceAdd,Int.reduceSub,Int.reduceToNat,Nat.reduceMul]) ?_
  simp (maxSteps:=1000000) (disch:=first | omega | (simp only [LL];omega)) only [W,V,TY,CC,reduceIte,Nat.reduceEqDiff,Nat.reduceAdd,Nat.reduceLeDiff,Nat.reduceLT,Int.reduceLE,Int.reduceLT,Int.reduceAdd,Int.reduceSub,Int.reduceToNat,Nat.reduceMul,intC_nat]
  refine a_call _ _ (int_Sign (pN n d) (pM m d) (pM_lim hm d) (by omega)) (by simp (maxSteps:=1000000) (disch:=first | omega | (simp only [LL];omega)) only [W,V,TY,CC,reduceIte,Nat.reduceEqDiff,Nat.reduceAdd,Nat.reduceLeDiff,Nat.reduceLT,Int.reduceLE,Int.reduceLT,Int.reduceAdd,Int.reduceSub,Int.reduceToNat,Nat.reduceMul]) ?_
  simp (maxSteps:=1000000) (disch:=first | omega | (simp only [LL];omega)) only [W,V,TY,CC,reduceIte,Nat.reduceEqDiff,Nat.reduceAdd,Nat.reduceLeDiff,Nat.reduceLT,Int.reduceLE,Int.reduceLT,Int.reduceAdd,Int.reduceSub,Int.reduceToNat,Nat.reduceMul]
  refine f_ret _ _ _ ?_
  simp (maxSteps:=1000000) (disch:=first | omega | (simp only [LL];omega)) only [W,V,TY,CC,reduceIte,Nat.reduceEqDiff,Nat.reduceAdd,Nat.reduceLeDiff,Nat.reduceLT,Int.reduceLE,Int.reduceLT,Int.reduceAdd,Int.reduceSub,Int.reduceToNat,Nat.reduceMul]
/-- examboard/ratio.Add -/
def b14 : AF := ⟨32, 2, [.cell 4 27],
  (.seq (.reg [
    ⟨some 2, .box 27 (.tmp 0), none⟩,
    ⟨some 3, .box 27 (.tmp 1), none⟩,
    ⟨some 4, .alloc 27, none⟩])
  (.seq (.reg [
    ⟨some 10, .load 27 (.tmp 2), none⟩,
    ⟨some 11, .call ⟨(.value (.func 46)), #[(.tmp 10)], #[27]⟩, none⟩,
    ⟨some 9, .move (.tmp 11), none⟩,
    ⟨some 12, .extract (.tmp 9) 0, none⟩,
    ⟨some 13, .extract (.tmp 9) 1, none⟩,
    ⟨some 5, .alloc 25, none⟩,
    ⟨some 6, .alloc 25, none⟩,
    ⟨none, .store 25 (.tmp 5) (.tmp 12), none⟩,
    ⟨none, .store 25 (.tmp 6) (.tmp 13), none⟩])
  (.seq (.reg [
    ⟨some 15, .load 27 (.tmp 3), none⟩,
    ⟨some 16, .call ⟨(.value (.func 46)), #[(.tmp 15)], #[27]⟩, none⟩,
    ⟨some 14, .move (.tmp 16), none⟩,
    ⟨some 17, .extract (.tmp 14) 0, none⟩,
    ⟨some 18, .extract (.tmp 14) 1, none⟩,
    ⟨some 7, .alloc 25, none⟩,
    ⟨some 8, .alloc 25, none⟩,
    ⟨none, .store 25 (.tmp 7) (.tmp 17), none⟩,
    ⟨none, .store 25 (.tmp 8) (.tmp 18), none⟩])
  (.seq (.dreg [
    ⟨some 19, .load 25 (.tmp 5), none⟩,
    ⟨some 20, .load 25 (.tmp 8), none⟩,
    ⟨some 21, .call ⟨(.value (.func 49)), #[(.tmp 19), (.tmp 20)], #[25, 25]⟩, none⟩,
    ⟨some 22, .load 25 (.tmp 7), none⟩,
    ⟨some 23, .load 25 (.tmp 6), none⟩,
    ⟨some 24, .call ⟨(.value (.func 49)), #[(.tmp 22), (.tmp 23)], #[25, 25]⟩, none⟩,
    ⟨some 25, .call ⟨(.value (.func 48)), #[(.tmp 21), (.tmp 24)], #[25, 25]⟩, none⟩,
    ⟨some 26, .fieldAddr 25 (.tmp 6) 1, none⟩,
    ⟨some 27, .load 23 (.tmp 26), none⟩,
    ⟨some 28, .fieldAddr 25 (.tmp 8) 1, none⟩,
    ⟨some 29, .load 23 (.tmp 28), none⟩,
    ⟨some 30, .call ⟨(.value (.func 50)), #[(.tmp 27), (.tmp 29)], #[23, 23]⟩, none⟩,
    ⟨some 31, .call ⟨(.value (.func 47)), #[(.tmp 25), (.tmp 30)], #[25, 23]⟩, none⟩,
    ⟨none, .store 27 (.tmp 4) (.tmp 31), none⟩])
  .ret))))⟩
theorem c14 : fcomp Tryd.prog 14 = ⟨b14.n, b14.np, b14.res, b14.body.bare⟩ := by kernel_rfl
theorem k14 : fok Tryd.prog 14 = true := by kernel_rfl
theorem rat_Add (n : Bool) (m d : List Int) (n' : Bool) (m' d' : List Int) (hm : Lim m) (hd : Lim d) (hm' : Lim m') (hd' : Lim d') (lm : m.length < 68719476736) (ld : d.length < 68719476736) (lm' : m'.length < 68719476736) (ld' : d'.length < 68719476736) :
    AFun Tryd.prog 14 [.agg [.lit (.bool n), natD m, natD d], .agg [.lit (.bool n'), natD m', natD d']] [.agg (ratC (rv n m d + rv n' m' d'))] := by
  refine afun_intro mo_ _ _ c14 k14 _ _ rfl (by decide) ?_
  unfold b14
  rw [← rv_parts n m d, ← rv_parts n' m' d', mk_add _ _ (pD_pos d) (pD_pos d')]
  have k1 := pM_len m d
  have k2 := pM_len m' d'
  have k3 := pD_len hd
  have k4 := pD_len hd'
  have k5 := zl_iv (n := pN n d) (pM_lim hm d)
  have k6 := zl_iv (n := pN n' d') (pM_lim hm' d')
  have k7 := zl_mul (iv (pN n d) (pM m d)) (pD d' : Int)
  have k8 := zl_mul (iv (pN n' d') (pM m' d')) (pD d : Int)
  have k9 := zl_nat (pD d)
  have k10 := zl_nat (pD d')
  have k11 := zl_mul (pD d : Int) (pD d' : Int)
  rw [← Int.natCast_mul] at k11
  have k12 := zl_nat (pD d * pD d')
  generalize hX : iv (pN n d) (pM m d) * (pD d' : Int) = X at *
  generalize hY : iv (pN n' d') (pM m' d') * (pD d : Int) = Y at *
  have k13 := zl_add X Y
  simp (maxSteps:=1000000) (disch:=first | omega | (simp only [LL];omega)) only [W,V,TY,CC,reduceIte,Nat.reduceEqDiff,Nat.reduceAdd,Nat.reduceLeDiff,Nat.reduceLT,Int.reduceLE,Int.reduceLT,Int.reduceAdd,Int.reduceSub,Int.reduceToNat,Nat.reduceMul]
  refine a_call _ _ (rat_parts n m d hm hd (by omega) (by omega)) (by simp (maxSteps:=1000000) (disch:=first | omega | (simp only [LL];omega)) only [W,V,TY,CC,reduceIte,Nat.reduceEqDiff,Nat.reduceAdd,Nat.reduceLeDiff,Nat.reduceLT,Int.reduceLE,Int.reduceLT,Int.reduceAdd,Int.reduceSub,Int.reduceToNat,Nat.reduceMul]) ?_
  simp (maxSteps:=1000000) (disch:=first | omega | (simp only [LL];omega)) only [W,V,TY,CC,reduceIte,Nat.reduceEqDiff,Nat.reduceAdd,Nat.reduceLeDiff,Nat.reduceLT,Int.reduceLE,Int.reduceLT,Int.reduceAdd,Int.reduceSub,Int.reduceToNat,Nat.reduceMul,intC_nat]
  refine a_call _ _ (rat_parts n' m' d' hm' hd' (by omega) (by omega)) (by simp (maxSteps:=1000000) (disch:=first | omega | (simp only [LL];omega)) only [W,V,TY,CC,reduceIte,Nat.reduceEqDiff,Nat.reduceAdd,Nat.reduceLeDiff,Nat.reduceLT,Int.reduceLE,Int.reduceLT,Int.reduceAdd,Int.reduceSub,Int.reduceToNat,Nat.reduceMul]) ?_
  simp (maxSteps:=1000000) (disch:=first | omega | (simp only [LL];omega)) only [W,V,TY,CC,reduceIte,Nat.reduceEqDiff,Nat.reduceAdd,Nat.reduceLeDiff,Nat.reduceLT,Int.reduceLE,Int.reduceLT,Int.reduceAdd,Int.reduceSub,Int.reduceToNat,Nat.reduceMul,intC_nat]
  refine a_call _ _ (int_Mul (pN n d) false (pM m d) (nl (pD d')) (pM_lim hm d) (nl_lim _) (by omega) (by omega)) (by simp (maxSteps:=1000000) (disch:=first | omega | (simp only [LL];omega)) only [W,V,TY,CC,reduceIte,Nat.reduceEqDiff,Nat.reduceAdd,Nat.reduceLeDiff,Nat.reduceLT,Int.reduceLE,Int.reduceLT,Int.reduceAdd,Int.reduceSub,Int.reduceToNat,Nat.reduceMul]) ?_
  rw [iv_nat, hX]
  simp (maxSteps:=1000000) (disch:=first | omega | (simp only [LL];omega)) only [W,V,TY,CC,reduceIte,Nat.reduceEqDiff,Nat.reduceAdd,Nat.reduceLeDiff,Nat.reduceLT,Int.reduceLE,Int.reduceLT,Int.reduceAdd,Int.reduceSub,Int.reduceToNat,Nat.reduceMul,intC]
  refine a_call _ _ (int_Mul (pN n' d') false (pM m' d') (nl (pD d)) (pM_lim hm' d') (nl_lim _) (by omega) (by omega)) (by simp (maxSteps:=1000000) (disch:=first | omega | (simp only [LL];omega)) only [W,V,TY,CC,reduceIte,Nat.reduceEqDiff,Nat.reduceAdd,Nat.reduceLeDiff,Nat.reduceLT,Int.reduceLE,Int.reduceLT,Int.reduceAdd,Int.reduceSub,Int.reduceToNat,Nat.reduceMul]) ?_
  rw [iv_nat, hY]
  simp (maxSteps:=1000000) (disch:=first | omega | (simp only [LL];omega)) only [W,V,TY,CC,reduceIte,Nat.reduceEqDiff,Nat.reduceAdd,Nat.reduceLeDiff,Nat.reduceLT,Int.reduceLE,Int.reduceLT,Int.reduceAdd,Int.reduceSub,Int.reduceToNat,Nat.reduceMul,intC]
  refine a_call _ _ (int_Add (decide (X < 0)) (decide (Y < 0)) (nl X.natAbs) (nl Y.natAbs) (nl_lim _) (nl_lim _) (show zl X < _ by omega) (show zl Y < _ by omega)) (by simp (maxSteps:=1000000) (disch:=first | omega | (simp only [LL];omega)) only [W,V,TY,CC,reduceIte,Nat.reduceEqDiff,Nat.reduceAdd,Nat.reduceLeDiff,Nat.reduceLT,Int.reduceLE,Int.reduceLT,Int.reduceAdd,Int.reduceSub,Int.reduceToNat,Nat.reduceMul]) ?_
  rw [iv_nl, iv_nl]
  simp (maxSteps:=1000000) (disch:=first | omega | (simp only [LL];omega)) only [W,V,TY,CC,reduceIte,Nat.reduceEqDiff,Nat.reduceAdd,Nat.reduceLeDiff,Nat.reduceLT,Int.reduceLE,Int.reduceLT,Int.reduceAdd,Int.reduceSub,Int.reduceToNat,Nat.reduceMul,intC]
  refine a_call _ _ (nat_Mul (nl (pD d)) (nl (pD d')) (nl_lim _) (nl_lim _) (by omega) (by omega)) (by simp (maxSteps:=1000000) (disch:=first | omega | (simp only [LL];omega)) only [W,V,TY,CC,reduceIte,Nat.reduceEqDiff,Nat.reduceAdd,Nat.reduceLeDiff,Nat.reduceLT,Int.reduceLE,Int.reduceLT,Int.reduceAdd,Int.reduceSub,Int.reduceToNat,Nat.reduceMul]) ?_
  rw [nv_nl, nv_nl]
  simp (maxSteps:=1000000) (disch:=first | omega | (simp only [LL];omega)) only [W,V,TY,CC,reduceIte,Nat.reduceEqDiff,Nat.reduceAdd,Nat.reduceLeDiff,Nat.reduceLT,Int.reduceLE,Int.reduceLT,Int.reduceAdd,Int.reduceSub,Int.reduceToNat,Nat.reduceMul]
  refine a_call _ _ (rat_lowest (decide (X + Y < 0)) (nl (X + Y).natAbs) (nl (pD d * pD d')) (nl_lim _) (nl_lim _) (show zl (X + Y) < _ by omega) (by omega)) (by simp (maxSteps:=1000000) (disch:=first | omega | (simp only [LL];omega)) only [W,V,TY,CC,reduceIte,Nat.reduceEqDiff,Nat.reduceAdd,Nat.reduceLeDiff,Nat.reduceLT,Int.reduceLE,Int.reduceLT,Int.reduceAdd,Int.reduceSub,Int.reduceToNat,Nat.reduceMul]) ?_
  unfold rv
  rw [iv_nl, nv_nl]
  simp (maxSteps:=1000000) (disch:=first | omega | (simp only [LL];omega)) only [W,V,TY,CC,reduceIte,Nat.reduceEqDiff,Nat.reduceAdd,Nat.reduceLeDiff,Nat.reduceLT,Int.reduceLE,Int.reduceLT,Int.reduceAdd,Int.reduceSub,Int.reduceToNat,Nat.reduceMul,ratC]
  refine f_ret _ _ _ ?_
  simp (maxSteps:=1000000) (disch:=first | omega | (simp only [LL];omega)) only [W,V,TY,CC,reduceIte,Nat.reduceEqDiff,Nat.reduceAdd,Nat.reduceLeDiff,Nat.reduceLT,Int.reduceLE,Int.reduceLT,Int.reduceAdd,Int.reduceSub,Int.reduceToNat,Nat.reduceMul,ratC]
section
variable {a b : Rat} (ha : qs a < 68719476730) (hb : qs b < 68719476730)
include ha hb
theorem rat_Add2 : AFun Tryd.prog 14 [.agg (ratC a), .agg (ratC b)] [.agg (ratC (a + b))] := by
  have h1 := qs_num a
  have h2 := qs_den a
  have h3 := qs_num b
  have h4 := qs_den b
  have := rat_Add (decide (a.num < 0)) (nl a.num.natAbs) (nl a.den) (decide (b.num < 0)) (nl b.num.natAbs) (nl b.den) (nl_lim _) (nl_lim _) (nl_lim _) (nl_lim _) (by omega) (by omega) (by omega) (by omega)
  rwa [rv_ratC, rv_ratC] at this
omit hb in
theorem rat_Sign2 : AFun Tryd.prog 22 [.agg (ratC a)] [.one (.lit (.int .i64 (sgnQ a)))] := by
  have h1 := qs_num a
  have h2 := qs_den a
  have := rat_Sign (decide (a.num < 0)) (nl a.num.natAbs) (nl a.den) (nl_lim _) (nl_lim _) (by omega) (by omega)
  rwa [rv_ratC] at this
end
end Go.Proofs.YtljmgdepldpmdaaDoor.E

set_option linter.unusedSimpArgs false
set_option linter.unusedVariables false
set_option maxHeartbeats 2000000
namespace Go.Proofs.YtljmgdepldpmdaaDoor.E
open Go.RowKit Limbs
theorem maxLen_eq : maxLen = 9223372036854775807 := rfl
theorem sd_row {s : AS} {r : Nat × Nat} {ver : Nat} (row : Row) (h : s.r r = some row) (hv : row.ver = ver) (hl : row.live = false) : srcD s (.one (.row r ver)) = some (row.n, row.cells) := by
  unfold srcD toD
  simp only [h]
  rw [if_pos ⟨hv, hl⟩]
def digS : ByteArray := ⟨#[48, 49, 50, 51, 52, 53, 54, 55, 56, 57, 97, 98, 99, 100, 101, 102, 103, 104, 105, 106, 107, 108, 109, 110, 111, 112, 113, 114, 115, 116, 117, 118, 119, 120, 121, 122]⟩
def twoS : ByteArray := ⟨#[48, 48, 48, 49, 48, 50, 48, 51, 48, 52, 48, 53, 48, 54, 48, 55, 48, 56, 48, 57, 49, 48, 49, 49, 49, 50, 49, 51, 49, 52, 49, 53, 49, 54, 49, 55, 49, 56, 49, 57, 50, 48, 50, 49, 50, 50, 50, 51, 50, 52, 50, 53, 50, 54, 50, 55, 50, 56, 50, 57, 51, 48, 51, 49, 51, 50, 51, 51, 51, 52, 51, 53, 51, 54, 51, 55, 51, 56, 51, 57, 52, 48, 52, 49, 52, 50, 52, 51, 52, 52, 52, 53, 52, 54, 52, 55, 52, 56, 52, 57, 53, 48, 53, 49, 53, 50, 53, 51, 53, 52, 53, 53, 53, 54, 53, 55, 53, 56, 53, 57, 54, 48, 54, 49, 54, 50, 54, 51, 54, 52, 54, 53, 54, 54, 54, 55, 54, 56, 54, 57, 55, 48, 55, 49, 55, 50, 55, 51, 55, 52, 55, 53, 55, 54, 55, 55, 55, 56, 55, 57, 56, 48, 56, 49, 56, 50, 56, 51, 56, 52, 56, 53, 56, 54, 56, 55, 56, 56, 56, 57, 57, 48, 57, 49, 57, 50, 57, 51, 57, 52, 57, 53, 57, 54, 57, 55, 57, 56, 57, 57]⟩
theorem digS_size : digS.size = 36 := by decide +kernel
theorem twoS_size : twoS.size = 200 := by decide +kernel
/-- the digits of a number below 100 -/
def smallS (i : Int) : ByteArray := if i < 10 then digS.extract i.toNat (i + 1).toNat else twoS.extract (i * 2).toNat (i * 2 + 2).toNat
/-- internal/strconv.small -/
def b98 : AF := ⟨15, 1, [.tmp 2],
  (.seq (.reg [
    ⟨some 2, .assign (.const (.string ⟨#[]⟩)), none⟩])
  (.seq (.seq (.reg [
    ⟨some 3, .move (.tmp 0), none⟩,
    ⟨some 4, .binOp .lss 3 (.tmp 3) (.const (.int .i64 10)) 3, none⟩])
  (.cond (.tmp 4)
    (.seq (.reg [
      ⟨some 5, .move (.tmp 0), none⟩,
      ⟨some 6, .move (.tmp 0), none⟩,
      ⟨some 7, .binOp .add 3 (.tmp 6) (.const (.int .i64 1)) 3, none⟩,
      ⟨some 8, .slice 9 (.const (.string ⟨#[48, 49, 50, 51, 52, 53, 54, 55, 56, 57, 97, 98, 99, 100, 101, 102, 103, 104, 105, 106, 107, 108, 109, 110, 111, 112, 113, 114, 115, 116, 117, 118, 119, 120, 121, 122]⟩)) (some (.tmp 5)) (some (.tmp 7)) none, none⟩,
      ⟨some 2, .assign (.tmp 8), none⟩])
    .ret)
    .skip))
  (.seq (.reg [
    ⟨some 9, .move (.tmp 0), none⟩,
    ⟨some 10, .binOp .mul 3 (.tmp 9) (.const (.int .i64 2)) 3, none⟩,
    ⟨some 11, .move (.tmp 0), none⟩,
    ⟨some 12, .binOp .mul 3 (.tmp 11) (.const (.int .i64 2)) 3, none⟩,
    ⟨some 13, .binOp .add 3 (.tmp 12) (.const (.int .i64 2)) 3, none⟩,
    ⟨some 14, .slice 9 (.const (.string ⟨#[48, 48, 48, 49, 48, 50, 48, 51, 48, 52, 48, 53, 48, 54, 48, 55, 48, 56, 48, 57, 49, 48, 49, 49, 49, 50, 49, 51, 49, 52, 49, 53, 49, 54, 49, 55, 49, 56, 49, 57, 50, 48, 50, 49, 50, 50, 50, 51, 50, 52, 50, 53, 50, 54, 50, 55, 50, 56, 50, 57, 51, 48, 51, 49, 51, 50, 51, 51, 51, 52, 51, 53, 51, 54, 51, 55, 51, 56, 51, 57, 52, 48, 52, 49, 52, 50, 52, 51, 52, 52, 52, 53, 52, 54, 52, 55, 52, 56, 52, 57, 53, 48, 53, 49, 53, 50, 53, 51, 53, 52, 53, 53, 53, 54, 53, 55, 53, 56, 53, 57, 54, 48, 54, 49, 54, 50, 54, 51, 54, 52, 54, 53, 54, 54, 54, 55, 54, 56, 54, 57, 55, 48, 55, 49, 55, 50, 55, 51, 55, 52, 55, 53, 55, 54, 55, 55, 55, 56, 55, 57, 56, 48, 56, 49, 56, 50, 56, 51, 56, 52, 56, 53, 56, 54, 56, 55, 56, 56, 56, 57, 57, 48, 57, 49, 57, 50, 57, 51, 57, 52, 57, 53, 57, 54, 57, 55, 57, 56, 57, 57]⟩)) (some (.tmp 10)) (some (.tmp 13)) none, none⟩,
    ⟨some 2, .assign (.tmp 14), none⟩])
  .ret)))⟩
theorem c98 : fcomp Tryd.prog 98 = ⟨b98.n, b98.np, b98.res, b98.body.bare⟩ := by kernel_rfl
theorem k98 : fok Tryd.prog 98 = true := by kernel_rfl
theorem str_small (i : Int) (h0 : 0 ≤ i) (h1 : i < 100) : AFun Tryd.prog 98 [.one (.lit (.int .i64 i))] [.one (.lit (.string (smallS i)))] := by
  refine afun_intro mo_ _ _ c98 k98 _ _ rfl (by decide) ?_
  unfold b98
  simp (maxSteps:=1000000) (disch:=first | omega | (simp only [LL];omega)) only [W,V,TY,CC,reduceIte,Nat.reduceEqDiff,Nat.reduceAdd,Nat.reduceLeDiff,Nat.reduceLT,Int.reduceLE,Int.reduceLT,Int.reduceAdd,Int.reduceSub,Int.reduceToNat,Nat.reduceMul]
  unfold smallS
  have z1 := digS_size
  have z2 := twoS_size
  refine c_split (fun h => ?_) (fun h => ?_)
  · rw [if_pos h]
    simp (maxSteps:=1000000) (disch:=first | omega | (simp only [LL];omega)) only [W,V,TY,CC,reduceIte,Nat.reduceEqDiff,Nat.reduceAdd,Nat.reduceLeDiff,Nat.reduceLT,Int.reduceLE,Int.reduceLT,Int.reduceAdd,Int.reduceSub,Int.reduceToNat,Nat.reduceMul]
    refine a_sslice digS i (i + 1) (by simp (maxSteps:=1000000) (disch:=first | omega | (simp only [LL];omega)) only [W,V,TY,CC,reduceIte,Nat.reduceEqDiff,Nat.reduceAdd,Nat.reduceLeDiff,Nat.reduceLT,Int.reduceLE,Int.reduceLT,Int.reduceAdd,Int.reduceSub,Int.reduceToNat,Nat.reduceMul]) (by simp (maxSteps:=1000000) (disch:=first | omega | (simp only [LL];omega)) only [W,V,TY,CC,reduceIte,Nat.reduceEqDiff,Nat.reduceAdd,Nat.reduceLeDiff,Nat.reduceLT,Int.reduceLE,Int.reduceLT,Int.reduceAdd,Int.reduceSub,Int.reduceToNat,Nat.reduceMul,digS]) (by simp (maxSteps:=1000000) (disch:=first | omega | (simp only [LL];omega)) only [W,V,TY,CC,reduceIte,Nat.reduceEqDiff,Nat.reduceAdd,Nat.reduceLeDiff,Nat.reduceLT,Int.reduceLE,Int.reduceLT,Int.reduceAdd,Int.reduceSub,Int.reduceToNat,Nat.reduceMul]) (by simp (maxSteps:=1000000) (disch:=first | omega | (simp only [LL];omega)) only [W,V,TY,CC,reduceIte,Nat.reduceEqDiff,Nat.reduceAdd,Nat.reduceLeDiff,Nat.reduceLT,Int.reduceLE,Int.reduceLT,Int.reduceAdd,Int.reduceSub,Int.reduceToNat,Nat.reduceMul]) ⟨by omega, by omega, by omega⟩ ?_
    simp (maxSteps:=1000000) (disch:=first | omega | (simp only [LL];omega)) only [W,V,TY,CC,reduceIte,Nat.reduceEqDiff,Nat.reduceAdd,Nat.reduceLeDiff,Nat.reduceLT,Int.reduceLE,Int.reduceLT,Int.reduceAdd,Int.reduceSub,Int.reduceToNat,Nat.reduceMul]
    refine f_ret _ _ _ ?_
    simp (maxSteps:=1000000) (disch:=first | omega | (simp only [LL];omega)) only [W,V,TY,CC,reduceIte,Nat.reduceEqDiff,Nat.reduceAdd,Nat.reduceLeDiff,Nat.reduceLT,Int.reduceLE,Int.reduceLT,Int.reduceAdd,Int.reduceSub,Int.reduceToNat,Nat.reduceMul]
  · rw [if_neg h]
    simp (maxSteps:=1000000) (disch:=first | omega | (simp only [LL];omega)) only [W,V,TY,CC,reduceIte,Nat.reduceEqDiff,Nat.reduceAdd,Nat.reduceLeDiff,Nat.reduceLT,Int.reduceLE,Int.reduceLT,Int.reduceAdd,Int.reduceSub,Int.reduceToNat,Nat.reduceMul]
    refine a_sslice twoS (i * 2) (i * 2 + 2) (by simp (maxSteps:=1000000) (disch:=first | omega | (simp only [LL];omega)) only [W,V,TY,CC,reduceIte,Nat.reduceEqDiff,Nat.reduceAdd,Nat.reduceLeDiff,Nat.reduceLT,Int.reduceLE,Int.reduceLT,Int.reduceAdd,Int.reduceSub,Int.reduceToNat,Nat.reduceMul]) (by simp (maxSteps:=1000000) (disch:=first | omega | (simp only [LL];omega)) only [W,V,TY,CC,reduceIte,Nat.reduceEqDiff,Nat.reduceAdd,Nat.reduceLeDiff,Nat.reduceLT,Int.reduceLE,Int.reduceLT,Int.reduceAdd,Int.reduceSub,Int.reduceToNat,Nat.reduceMul,twoS]) (by simp (maxSteps:=1000000) (disch:=first | omega | (simp only [LL];omega)) only [W,V,TY,CC,reduceIte,Nat.reduceEqDiff,Nat.reduceAdd,Nat.reduceLeDiff,Nat.reduceLT,Int.reduceLE,Int.reduceLT,Int.reduceAdd,Int.reduceSub,Int.reduceToNat,Nat.reduceMul]) (by simp (maxSteps:=1000000) (disch:=first | omega | (simp only [LL];omega)) only [W,V,TY,CC,reduceIte,Nat.reduceEqDiff,Nat.reduceAdd,Nat.reduceLeDiff,Nat.reduceLT,Int.reduceLE,Int.reduceLT,Int.reduceAdd,Int.reduceSub,Int.reduceToNat,Nat.reduceMul]) ⟨by omega, by omega, by omega⟩ ?_
    simp (maxSteps:=1000000) (disch:=first | omega | (simp only [LL];omega)) only [W,V,TY,CC,reduceIte,Nat.reduceEqDiff,Nat.reduceAdd,Nat.reduceLeDiff,Nat.reduceLT,Int.reduceLE,Int.reduceLT,Int.reduceAdd,Int.reduceSub,Int.reduceToNat,Nat.reduceMul]
    refine f_ret _ _ _ ?_
    simp (maxSteps:=1000000) (disch:=first | omega | (simp only [LL];omega)) only [W,V,TY,CC,reduceIte,Nat.reduceEqDiff,Nat.reduceAdd,Nat.reduceLeDiff,Nat.reduceLT,Int.reduceLE,Int.reduceLT,Int.reduceAdd,Int.reduceSub,Int.reduceToNat,Nat.reduceMul]
/-- internal/strconv.FormatUint -/
def b97 : AF := ⟨32, 2, [.tmp 4],
  (.seq (.reg [
    ⟨some 4, .assign (.const (.string ⟨#[]⟩)), none⟩])
  (.seq (.seq (.reg [
    ⟨some 9, .move (.tmp 1), none⟩,
    ⟨some 10, .binOp .eql 3 (.tmp 9) (.const (.int .i64 10)) 3, none⟩])
  (.cond (.tmp 10)
    (.seq (.seq (.reg [
      ⟨some 11, .move (.tmp 0), none⟩,
      ⟨some 12, .binOp .lss 99 (.tmp 11) (.const (.int .u64 100)) 99, none⟩])
    (.cond (.tmp 12)
      (.seq (.reg [
        ⟨some 13, .move (.tmp 0), none⟩,
        ⟨some 14, .convert 99 3 (.tmp 13), none⟩,
        ⟨some 15, .call ⟨(.value (.func 98)), #[(.tmp 14)], #[3]⟩, none⟩,
        ⟨some 4, .assign (.tmp 15), none⟩])
      .ret)
      .skip))
    (.seq (.reg [
      ⟨some 5, .alloc 128, none⟩])
    (.seq (.reg [
      ⟨some 16, .move (.tmp 0), none⟩,
      ⟨some 17, .call ⟨(.value (.func 99)), #[(.tmp 16)], #[99]⟩, none⟩,
      ⟨some 6, .assign (.tmp 17), none⟩])
    (.seq (.reg [
      ⟨some 18, .move (.tmp 6), none⟩,
      ⟨some 19, .slice 128 (.tmp 5) none (some (.tmp 18)) none, none⟩,
      ⟨some 20, .move (.tmp 0), none⟩,
      ⟨some 21, .call ⟨(.value (.func 100)), #[(.tmp 19), (.tmp 20)], #[120, 99]⟩, none⟩])
    (.seq (.reg [
      ⟨some 22, .move (.tmp 6), none⟩,
      ⟨some 23, .slice 128 (.tmp 5) none (some (.tmp 22)) none, none⟩,
      ⟨some 24, .convert 120 9 (.tmp 23), none⟩,
      ⟨some 4, .assign (.tmp 24), none⟩])
    .ret)))))
    .skip))
  (.seq (.reg [
    ⟨some 26, .move (.tmp 0), none⟩,
    ⟨some 27, .move (.tmp 1), none⟩,
    ⟨some 28, .call ⟨(.value (.func 101)), #[(.const (.slice none 0 0)), (.tmp 26), (.tmp 27), (.const (.bool false)), (.const (.bool false))], #[120, 99, 3, 4, 4]⟩, none⟩,
    ⟨some 25, .move (.tmp 28), none⟩,
    ⟨some 29, .extract (.tmp 25) 0, none⟩,
    ⟨some 30, .extract (.tmp 25) 1, none⟩,
    ⟨some 7, .assign (.tmp 29), none⟩,
    ⟨some 8, .assign (.tmp 30), none⟩])
  (.seq (.reg [
    ⟨some 31, .move (.tmp 8), none⟩,
    ⟨some 4, .assign (.tmp 31), none⟩])
  .ret))))⟩
theorem c97 : fcomp Tryd.prog 97 = ⟨b97.n, b97.np, b97.res, b97.body.bare⟩ := by kernel_rfl
theorem k97 : fok Tryd.prog 97 = true := by kernel_rfl
theorem istr_FormatUint (i : Int) (h0 : 0 ≤ i) (h1 : i < 100) : AFun Tryd.prog 97 [.one (.lit (.int .u64 i)), .one (.lit (.int .i64 10))] [.one (.lit (.string (smallS i)))] := by
  refine afun_intro mo_ _ _ c97 k97 _ _ rfl (by decide) ?_
  unfold b97
  simp (maxSteps:=1000000) (disch:=first | omega | (simp only [LL];omega)) only [W,V,TY,CC,reduceIte,Nat.reduceEqDiff,Nat.reduceAdd,Nat.reduceLeDiff,Nat.reduceLT,Int.reduceLE,Int.reduceLT,Int.reduceAdd,Int.reduceSub,Int.reduceToNat,Nat.reduceMul]
  refine c_split (fun h => ?_) (fun h => by omega)
  simp (maxSteps:=1000000) (disch:=first | omega | (simp only [LL];omega)) only [W,V,TY,CC,reduceIte,Nat.reduceEqDiff,Nat.reduceAdd,Nat.reduceLeDiff,Nat.reduceLT,Int.reduceLE,Int.reduceLT,Int.reduceAdd,Int.reduceSub,Int.reduceToNat,Nat.reduceMul]
  refine a_call _ _ (str_small i h0 h1) (by simp (maxSteps:=1000000) (disch:=first | omega | (simp only [LL];omega)) only [W,V,TY,CC,reduceIte,Nat.reduceEqDiff,Nat.reduceAdd,Nat.reduceLeDiff,Nat.reduceLT,Int.reduceLE,Int.reduceLT,Int.reduceAdd,Int.reduceSub,Int.reduceToNat,Nat.reduceMul]) ?_
  simp (maxSteps:=1000000) (disch:=first | omega | (simp only [LL];omega)) only [W,V,TY,CC,reduceIte,Nat.reduceEqDiff,Nat.reduceAdd,Nat.reduceLeDiff,Nat.reduceLT,Int.reduceLE,Int.reduceLT,Int.reduceAdd,Int.reduceSub,Int.reduceToNat,Nat.reduceMul]
  refine f_ret _ _ _ ?_
  simp (maxSteps:=1000000) (disch:=first | omega | (simp only [LL];omega)) only [W,V,TY,CC,reduceIte,Nat.reduceEqDiff,Nat.reduceAdd,Nat.reduceLeDiff,Nat.reduceLT,Int.reduceLE,Int.reduceLT,Int.reduceAdd,Int.reduceSub,Int.reduceToNat,Nat.reduceMul]
/-- strconv.FormatUint -/
def b89 : AF := ⟨8, 2, [.tmp 4],
  (.seq (.reg [
    ⟨some 4, .assign (.const (.string ⟨#[]⟩)), none⟩])
  (.seq (.reg [
    ⟨some 5, .move (.tmp 0), none⟩,
    ⟨some 6, .move (.tmp 1), none⟩,
    ⟨some 7, .call ⟨(.value (.func 97)), #[(.tmp 5), (.tmp 6)], #[99, 3]⟩, none⟩,
    ⟨some 4, .assign (.tmp 7), none⟩])
  .ret))⟩
theorem c89 : fcomp Tryd.prog 89 = ⟨b89.n, b89.np, b89.res, b89.body.bare⟩ := by kernel_rfl
theorem k89 : fok Tryd.prog 89 = true := by kernel_rfl
theorem str_FormatUint (i : Int) (h0 : 0 ≤ i) (h1 : i < 100) : AFun Tryd.prog 89 [.one (.lit (.int .u64 i)), .one (.lit (.int .i64 10))] [.one (.lit (.string (smallS i)))] := by
  refine afun_intro mo_ _ _ c89 k89 _ _ rfl (by decide) ?_
  unfold b89
  simp (maxSteps:=1000000) (disch:=first | omega | (simp only [LL];omega)) only [W,V,TY,CC,reduceIte,Nat.reduceEqDiff,Nat.reduceAdd,Nat.reduceLeDiff,Nat.reduceLT,Int.reduceLE,Int.reduceLT,Int.reduceAdd,Int.reduceSub,Int.reduceToNat,Nat.reduceMul]
  refine a_call _ _ (istr_FormatUint i h0 h1) (by simp (maxSteps:=1000000) (disch:=first | omega | (simp only [LL];omega)) only [W,V,TY,CC,reduceIte,Nat.reduceEqDiff,Nat.reduceAdd,Nat.reduceLeDiff,Nat.reduceLT,Int.reduceLE,Int.reduceLT,Int.reduceAdd,Int.reduceSub,Int.reduceToNat,Nat.reduceMul]) ?_
  simp (maxSteps:=1000000) (disch:=first | omega | (simp only [LL];omega)) only [W,V,TY,CC,reduceIte,Nat.reduceEqDiff,Nat.reduceAdd,Nat.reduceLeDiff,Nat.reduceLT,Int.reduceLE,Int.reduceLT,Int.reduceAdd,Int.reduceSub,Int.reduceToNat,Nat.reduceMul]
  refine f_ret _ _ _ ?_
  simp (maxSteps:=1000000) (disch:=first | omega | (simp only [LL];omega)) only [W,V,TY,CC,reduceIte,Nat.reduceEqDiff,Nat.reduceAdd,Nat.reduceLeDiff,Nat.reduceLT,Int.reduceLE,Int.reduceLT,Int.reduceAdd,Int.reduceSub,Int.reduceToNat,Nat.reduceMul]
end Go.Proofs.YtljmgdepldpmdaaDoor.E

set_option linter.unusedSimpArgs false
set_option linter.unusedVariables false
set_option maxHeartbeats 2000000
namespace Go.Proofs.YtljmgdepldpmdaaDoor.E
open Go.RowKit Limbs
theorem nl_small {v : Nat} (h0 : 0 < v) (h1 : v < 4294967296) : nl v = [(v : Int)] := by
  have hl : (nl v).length ≤ 1 := nl_len (by omega)
  have hn : nl v ≠ [] := fun e => by have := nl_eq_nil.1 e; omega
  have hv := nv_nl v
  match h : nl v, hn, hl with
  | [x], _, _ =>
    rw [h] at hv
    have hx := (nl_lim v)
    rw [h] at hx
    have := hx x (List.mem_singleton.2 rfl)
    unfold nv at hv
    simp only [val] at hv
    congr 1
    omega
  | _ :: _ :: _, _, hl => simp at hl
/-- examboard/nat.Print -/
def b70 : AF := ⟨60, 1, [.tmp 2],
  (.seq (.reg [
    ⟨some 2, .assign (.const (.string ⟨#[]⟩)), none⟩])
  (.seq (.reg [
    ⟨some 10, .move (.tmp 0), none⟩,
    ⟨some 11, .call ⟨(.value (.func 84)), #[(.tmp 10)], #[23]⟩, none⟩,
    ⟨some 3, .assign (.tmp 11), none⟩])
  (.seq (.reg [
    ⟨some 4, .assign (.const (.slice none 0 0)), none⟩])
  (.seq (.block 0 (.loop (.seq (.seq (.reg [
    ⟨some 12, .move (.tmp 3), none⟩,
    ⟨some 13, .call ⟨(.builtin .len), #[(.tmp 12)], #[23]⟩, none⟩,
    ⟨some 14, .binOp .gtr 3 (.tmp 13) (.const (.int .i64 0)) 3, none⟩])
  (.cond (.tmp 14)
    .skip
    (.exit 0)))
  (.block 1 (.seq (.reg [
    ⟨some 16, .move (.tmp 3), none⟩,
    ⟨some 17, .call ⟨(.value (.func 88)), #[(.tmp 16), (.const (.int .u32 1000000000))], #[23, 113]⟩, none⟩,
    ⟨some 15, .move (.tmp 17), none⟩,
    ⟨some 18, .extract (.tmp 15) 0, none⟩,
    ⟨some 19, .extract (.tmp 15) 1, none⟩,
    ⟨some 5, .assign (.tmp 18), none⟩,
    ⟨some 6, .assign (.tmp 19), none⟩])
  (.seq (.reg [
    ⟨some 20, .move (.tmp 4), none⟩,
    ⟨some 21, .move (.tmp 6), none⟩,
    ⟨some 22, .buildSlice 22 1 #[(0, (.tmp 21))], none⟩,
    ⟨some 23, .call ⟨(.builtin .append), #[(.tmp 20), (.tmp 22)], #[22, 22]⟩, none⟩,
    ⟨some 4, .assign (.tmp 23), none⟩])
  (.reg [
    ⟨some 24, .move (.tmp 5), none⟩,
    ⟨some 3, .assign (.tmp 24), none⟩])))))))
  (.seq (.seq (.reg [
    ⟨some 25, .move (.tmp 4), none⟩,
    ⟨some 26, .call ⟨(.builtin .len), #[(.tmp 25)], #[22]⟩, none⟩,
    ⟨some 27, .binOp .eql 3 (.tmp 26) (.const (.int .i64 0)) 3, none⟩])
  (.cond (.tmp 27)
    (.seq (.reg [
      ⟨some 2, .assign (.const (.string ⟨#[48]⟩)), none⟩])
    .ret)
    .skip))
  (.seq (.reg [
    ⟨some 7, .assign (.const (.slice none 0 0)), none⟩])
  (.seq (.seq (.reg [
    ⟨some 28, .move (.tmp 4), none⟩,
    ⟨some 29, .call ⟨(.builtin .len), #[(.tmp 28)], #[22]⟩, none⟩,
    ⟨some 30, .binOp .sub 3 (.tmp 29) (.const (.int .i64 1)) 3, none⟩,
    ⟨some 8, .assign (.tmp 30), none⟩])
  (.block 2 (.loop (.seq (.seq (.reg [
    ⟨some 31, .move (.tmp 8), none⟩,
    ⟨some 32, .binOp .geq 3 (.tmp 31) (.const (.int .i64 0)) 3, none⟩])
  (.cond (.tmp 32)
    .skip
    (.exit 2)))
  (.seq (.block 3 (.seq (.reg [
    ⟨some 35, .move (.tmp 4), none⟩,
    ⟨some 36, .move (.tmp 8), none⟩,
    ⟨some 37, .indexAddr 22 (.tmp 35) (.tmp 36), none⟩,
    ⟨some 38, .load 113 (.tmp 37), none⟩,
    ⟨some 39, .convert 113 99 (.tmp 38), none⟩,
    ⟨some 40, .call ⟨(.value (.func 89)), #[(.tmp 39), (.const (.int .i64 10))], #[99, 3]⟩, none⟩,
    ⟨some 9, .assign (.tmp 40), none⟩])
  (.seq (.seq (.reg [
    ⟨some 41, .move (.tmp 8), none⟩,
    ⟨some 42, .move (.tmp 4), none⟩,
    ⟨some 43, .call ⟨(.builtin .len), #[(.tmp 42)], #[22]⟩, none⟩,
    ⟨some 44, .binOp .sub 3 (.tmp 43) (.const (.int .i64 1)) 3, none⟩,
    ⟨some 45, .binOp .lss 3 (.tmp 41) (.tmp 44) 3, none⟩])
  (.cond (.tmp 45)
    (.seq (.reg [
      ⟨some 46, .move (.tmp 9), none⟩,
      ⟨some 47, .call ⟨(.builtin .len), #[(.tmp 46)], #[9]⟩, none⟩,
      ⟨some 48, .binOp .sub 3 (.const (.int .i64 9)) (.tmp 47) 3, none⟩,
      ⟨some 49, .move (.const (.int .i64 0)), none⟩])
    (.block 4 (.loop (.seq (.reg [
      ⟨some 50, .binOp .lss 3 (.tmp 49) (.tmp 48) 3, none⟩])
    (.seq (.cond (.tmp 50)
      .skip
      (.exit 4))
    (.seq (.block 5 (.reg [
      ⟨some 51, .move (.tmp 7), none⟩,
      ⟨some 52, .buildSlice 120 1 #[(0, (.const (.int .u8 48)))], none⟩,
      ⟨some 53, .call ⟨(.builtin .append), #[(.tmp 51), (.tmp 52)], #[120, 120]⟩, none⟩,
      ⟨some 7, .assign (.tmp 53), none⟩]))
    (.reg [
      ⟨some 54, .binOp .add 3 (.tmp 49) (.const (.int .i64 1)) 3, none⟩,
      ⟨some 49, .move (.tmp 54), none⟩])))))))
    .skip))
  (.reg [
    ⟨some 55, .move (.tmp 7), none⟩,
    ⟨some 56, .move (.tmp 9), none⟩,
    ⟨some 57, .call ⟨(.builtin .append), #[(.tmp 55), (.tmp 56)], #[120, 9]⟩, none⟩,
    ⟨some 7, .assign (.tmp 57), none⟩]))))
  (.reg [
    ⟨some 33, .move (.tmp 8), none⟩,
    ⟨some 34, .binOp .sub 3 (.tmp 33) (.const (.int .i64 1)) 3, none⟩,
    ⟨some 8, .assign (.tmp 34), none⟩]))))))
  (.seq (.seq (.gh [.frz 7])
  (.reg [
    ⟨some 58, .move (.tmp 7), none⟩,
    ⟨some 59, .convert 120 9 (.tmp 58), none⟩,
    ⟨some 2, .assign (.tmp 59), none⟩]))
  .ret))))))))⟩
theorem c70 : fcomp Tryd.prog 70 = ⟨b70.n, b70.np, b70.res, b70.body.bare⟩ := by kernel_rfl
theorem k70 : fok Tryd.prog 70 = true := by kernel_rfl
theorem nat_Print (v : Nat) (b : ByteArray) (h0 : 0 < v) (h1 : v < 1000000000) (hb : b.size ≤ 9) (hF : AFun Tryd.prog 89 [.one (.lit (.int .u64 v)), .one (.lit (.int .i64 10))] [.one (.lit (.string b))]) : AFun Tryd.prog 70 [.one (natD (nl v))] [.one (.lit (.string b))] := by
  refine afun_intro mo_ _ _ c70 k70 _ _ rfl (by decide) ?_
  unfold b70
  have e := nl_small h0 (by omega)
  have hlim := nl_lim v
  have hlen : (nl v).length = 1 := by rw [e]; rfl
  simp (maxSteps:=1000000) (disch:=first | omega | (simp only [LL];omega)) only [W,V,TY,CC,reduceIte,Nat.reduceEqDiff,Nat.reduceAdd,Nat.reduceLeDiff,Nat.reduceLT,Int.reduceLE,Int.reduceLT,Int.reduceAdd,Int.reduceSub,Int.reduceToNat,Nat.reduceMul]
  refine a_call _ _ (nat_Norm (nl v) hlim (by omega)) (by simp (maxSteps:=1000000) (disch:=first | omega | (simp only [LL];omega)) only [W,V,TY,CC,reduceIte,Nat.reduceEqDiff,Nat.reduceAdd,Nat.reduceLeDiff,Nat.reduceLT,Int.reduceLE,Int.reduceLT,Int.reduceAdd,Int.reduceSub,Int.reduceToNat,Nat.reduceMul]) ?_
  rw [show tr (nl v) = nl v by unfold tr; rw [nv_nl]]
  simp (maxSteps:=1000000) (disch:=first | omega | (simp only [LL];omega)) only [W,V,TY,CC,reduceIte,Nat.reduceEqDiff,Nat.reduceAdd,Nat.reduceLeDiff,Nat.reduceLT,Int.reduceLE,Int.reduceLT,Int.reduceAdd,Int.reduceSub,Int.reduceToNat,Nat.reduceMul]
  refine w_loop (fun k s => (k = 1 ∧ s.t 3 = .one (.dt (natD (nl v))) ∧ s.t 4 = .one .z ∧ s.g 23 = 0 ∧ s.g 57 = 0) ∨ (k = 0 ∧ s.t 3 = .one (.dt (natD (nl 0))) ∧ s.t 4 = .one (.row (23, 0) 0) ∧ s.r (23, 0) = some ⟨113, 1, 1, natC [(v : Int)], 0, true⟩ ∧ s.g 57 = 0)) 1 (.inl ⟨rfl, ?_, ?_, ?_, ?_⟩) ?_
  · simp (maxSteps:=1000000) (disch:=first | omega | (simp only [LL];omega)) only [W,V,TY,CC,reduceIte,Nat.reduceEqDiff,Nat.reduceAdd,Nat.reduceLeDiff,Nat.reduceLT,Int.reduceLE,Int.reduceLT,Int.reduceAdd,Int.reduceSub,Int.reduceToNat,Nat.reduceMul]
  · simp (maxSteps:=1000000) (disch:=first | omega | (simp only [LL];omega)) only [W,V,TY,CC,reduceIte,Nat.reduceEqDiff,Nat.reduceAdd,Nat.reduceLeDiff,Nat.reduceLT,Int.reduceLE,Int.reduceLT,Int.reduceAdd,Int.reduceSub,Int.reduceToNat,Nat.reduceMul]
  · simp (maxSteps:=1000000) (disch:=first | omega | (simp only [LL];omega)) only [W,V,TY,CC,reduceIte,Nat.reduceEqDiff,Nat.reduceAdd,Nat.reduceLeDiff,Nat.reduceLT,Int.reduceLE,Int.reduceLT,Int.reduceAdd,Int.reduceSub,Int.reduceToNat,Nat.reduceMul]
  · simp (maxSteps:=1000000) (disch:=first | omega | (simp only [LL];omega)) only [W,V,TY,CC,reduceIte,Nat.reduceEqDiff,Nat.reduceAdd,Nat.reduceLeDiff,Nat.reduceLT,Int.reduceLE,Int.reduceLT,Int.reduceAdd,Int.reduceSub,Int.reduceToNat,Nat.reduceMul]
  intro k s hwf hi
  rcases hi with ⟨rfl, t3, t4, g23, g57⟩ | ⟨rfl, t3, t4, r23, g57⟩
  · simp (maxSteps:=1000000) (disch:=first | omega | (simp only [LL];omega)) only [W,V,TY,CC,reduceIte,Nat.reduceEqDiff,Nat.reduceAdd,Nat.reduceLeDiff,Nat.reduceLT,Int.reduceLE,Int.reduceLT,Int.reduceAdd,Int.reduceSub,Int.reduceToNat,Nat.reduceMul,t3,t4,g23,g57,hlen]
    refine a_call _ _ (nat_divSmall (nl v) 1000000000 hlim (by omega) (by decide) (by decide)) (by simp (maxSteps:=1000000) (disch:=first | omega | (simp only [LL];omega)) only [W,V,TY,CC,reduceIte,Nat.reduceEqDiff,Nat.reduceAdd,Nat.reduceLeDiff,Nat.reduceLT,Int.reduceLE,Int.reduceLT,Int.reduceAdd,Int.reduceSub,Int.reduceToNat,Nat.reduceMul,t3]) ?_
    rw [nv_nl, show v / (Int.toNat 1000000000) = 0 from Nat.div_eq_of_lt h1, show v % (Int.toNat 1000000000) = v from Nat.mod_eq_of_lt h1]
    have ec : [Dt.lit (.int .u32 (v : Int))] = natC [(v : Int)] := rfl
    simp (maxSteps:=1000000) (disch:=first | omega | (simp only [LL];omega)) only [W,V,TY,CC,reduceIte,Nat.reduceEqDiff,Nat.reduceAdd,Nat.reduceLeDiff,Nat.reduceLT,Int.reduceLE,Int.reduceLT,Int.reduceAdd,Int.reduceSub,Int.reduceToNat,Nat.reduceMul,t3,t4,g23,g57,maxLen_eq,ec]
    refine ⟨0, by omega, .inr rfl⟩
  · have z1 : ((1 : Int) = 0) = False := eq_false (by decide)
    simp (maxSteps:=1000000) (disch:=first | omega | (simp only [LL];omega)) only [W,V,TY,CC,reduceIte,Nat.reduceEqDiff,Nat.reduceAdd,Nat.reduceLeDiff,Nat.reduceLT,Int.reduceLE,Int.reduceLT,Int.reduceAdd,Int.reduceSub,Int.reduceToNat,Nat.reduceMul,t3,t4,r23,g57,nl_zero,z1]
    refine w_loop (fun k s => (k = 1 ∧ s.t 8 = .one (.dt (.lit (.int .i64 0))) ∧ s.t 4 = .one (.row (23, 0) 0) ∧ s.r (23, 0) = some ⟨113, 1, 1, natC [(v : Int)], 0, true⟩ ∧ s.t 7 = .one .z ∧ s.g 57 = 0) ∨ (k = 0 ∧ s.t 8 = .one (.dt (.lit (.int .i64 (-1)))) ∧ s.t 7 = .one (.row (57, 0) 0) ∧ s.r (57, 0) = some ⟨5, 1, b.size, strD b, 0, true⟩)) 1 (.inl ⟨rfl, ?_, ?_, ?_, ?_, ?_⟩) ?_
    · simp (maxSteps:=1000000) (disch:=first | omega | (simp only [LL];omega)) only [W,V,TY,CC,reduceIte,Nat.reduceEqDiff,Nat.reduceAdd,Nat.reduceLeDiff,Nat.reduceLT,Int.reduceLE,Int.reduceLT,Int.reduceAdd,Int.reduceSub,Int.reduceToNat,Nat.reduceMul,t3,t4,r23,g57]
    · simp (maxSteps:=1000000) (disch:=first | omega | (simp only [LL];omega)) only [W,V,TY,CC,reduceIte,Nat.reduceEqDiff,Nat.reduceAdd,Nat.reduceLeDiff,Nat.reduceLT,Int.reduceLE,Int.reduceLT,Int.reduceAdd,Int.reduceSub,Int.reduceToNat,Nat.reduceMul,t3,t4,r23,g57]
    · simp (maxSteps:=1000000) (disch:=first | omega | (simp only [LL];omega)) only [W,V,TY,CC,reduceIte,Nat.reduceEqDiff,Nat.reduceAdd,Nat.reduceLeDiff,Nat.reduceLT,Int.reduceLE,Int.reduceLT,Int.reduceAdd,Int.reduceSub,Int.reduceToNat,Nat.reduceMul,t3,t4,r23,g57]
    · simp (maxSteps:=1000000) (disch:=first | omega | (simp only [LL];omega)) only [W,V,TY,CC,reduceIte,Nat.reduceEqDiff,Nat.reduceAdd,Nat.reduceLeDiff,Nat.reduceLT,Int.reduceLE,Int.reduceLT,Int.reduceAdd,Int.reduceSub,Int.reduceToNat,Nat.reduceMul,t3,t4,r23,g57]
    · simp (maxSteps:=1000000) (disch:=first | omega | (simp only [LL];omega)) only [W,V,TY,CC,reduceIte,Nat.reduceEqDiff,Nat.reduceAdd,Nat.reduceLeDiff,Nat.reduceLT,Int.reduceLE,Int.reduceLT,Int.reduceAdd,Int.reduceSub,Int.reduceToNat,Nat.reduceMul,t3,t4,r23,g57]
    clear t3 t4 r23 g57 hwf
    intro k s hwf hi
    rcases hi with ⟨rfl, t8, t4, r23, t7, g57⟩ | ⟨rfl, t8, t7, r57⟩
    · have ec : natC [(v : Int)] = [Dt.lit (.int .u32 (v : Int))] := rfl
      have wv : IntKind.u64.wrap (v : Int) = v := by rw [IntKind.wrap_u64]; omega
      simp (maxSteps:=1000000) (disch:=first | omega | (simp only [LL];omega)) only [W,V,TY,CC,reduceIte,Nat.reduceEqDiff,Nat.reduceAdd,Nat.reduceLeDiff,Nat.reduceLT,Int.reduceLE,Int.reduceLT,Int.reduceAdd,Int.reduceSub,Int.reduceToNat,Nat.reduceMul,t8,t4,r23,t7,g57,ec,wv]
      refine a_call _ _ hF (by simp (maxSteps:=1000000) (disch:=first | omega | (simp only [LL];omega)) only [W,V,TY,CC,reduceIte,Nat.reduceEqDiff,Nat.reduceAdd,Nat.reduceLeDiff,Nat.reduceLT,Int.reduceLE,Int.reduceLT,Int.reduceAdd,Int.reduceSub,Int.reduceToNat,Nat.reduceMul,t8,t4,r23,t7,g57]) ?_
      simp (maxSteps:=1000000) (disch:=first | omega | (simp only [LL];omega)) only [W,V,TY,CC,reduceIte,Nat.reduceEqDiff,Nat.reduceAdd,Nat.reduceLeDiff,Nat.reduceLT,Int.reduceLE,Int.reduceLT,Int.reduceAdd,Int.reduceSub,Int.reduceToNat,Nat.reduceMul,t8,t4,r23,t7,g57]
      refine a_sapp b 5 (by simp (maxSteps:=1000000) (disch:=first | omega | (simp only [LL];omega)) only [W,V,TY,CC,reduceIte,Nat.reduceEqDiff,Nat.reduceAdd,Nat.reduceLeDiff,Nat.reduceLT,Int.reduceLE,Int.reduceLT,Int.reduceAdd,Int.reduceSub,Int.reduceToNat,Nat.reduceMul]) (by simp (maxSteps:=1000000) (disch:=first | omega | (simp only [LL];omega)) only [W,V,TY,CC,reduceIte,Nat.reduceEqDiff,Nat.reduceAdd,Nat.reduceLeDiff,Nat.reduceLT,Int.reduceLE,Int.reduceLT,Int.reduceAdd,Int.reduceSub,Int.reduceToNat,Nat.reduceMul]) (by simp (maxSteps:=1000000) (disch:=first | omega | (simp only [LL];omega)) only [W,V,TY,CC,reduceIte,Nat.reduceEqDiff,Nat.reduceAdd,Nat.reduceLeDiff,Nat.reduceLT,Int.reduceLE,Int.reduceLT,Int.reduceAdd,Int.reduceSub,Int.reduceToNat,Nat.reduceMul]) (by simp (maxSteps:=1000000) (disch:=first | omega | (simp only [LL];omega)) only [W,V,TY,CC,reduceIte,Nat.reduceEqDiff,Nat.reduceAdd,Nat.reduceLeDiff,Nat.reduceLT,Int.reduceLE,Int.reduceLT,Int.reduceAdd,Int.reduceSub,Int.reduceToNat,Nat.reduceMul]) ?_ ?_
      · simp (maxSteps:=1000000) (disch:=first | omega | (simp only [LL];omega)) only [W,V,TY,CC,reduceIte,Nat.reduceEqDiff,Nat.reduceAdd,Nat.reduceLeDiff,Nat.reduceLT,Int.reduceLE,Int.reduceLT,Int.reduceAdd,Int.reduceSub,Int.reduceToNat,Nat.reduceMul,t7,maxLen_eq,strD_len]
        omega
      simp (maxSteps:=1000000) (disch:=first | omega | (simp only [LL];omega)) only [W,V,TY,CC,reduceIte,Nat.reduceEqDiff,Nat.reduceAdd,Nat.reduceLeDiff,Nat.reduceLT,Int.reduceLE,Int.reduceLT,Int.reduceAdd,Int.reduceSub,Int.reduceToNat,Nat.reduceMul,t8,t4,r23,t7,g57]
      exact ⟨0, by omega, .inr rfl⟩
    · simp (maxSteps:=1000000) (disch:=first | omega | (simp only [LL];omega)) only [W,V,TY,CC,reduceIte,Nat.reduceEqDiff,Nat.reduceAdd,Nat.reduceLeDiff,Nat.reduceLT,Int.reduceLE,Int.reduceLT,Int.reduceAdd,Int.reduceSub,Int.reduceToNat,Nat.reduceMul,t8,t7,r57]
      refine a_sconv b 5 (by simp (maxSteps:=1000000) (disch:=first | omega | (simp only [LL];omega)) only [W,V,TY,CC,reduceIte,Nat.reduceEqDiff,Nat.reduceAdd,Nat.reduceLeDiff,Nat.reduceLT,Int.reduceLE,Int.reduceLT,Int.reduceAdd,Int.reduceSub,Int.reduceToNat,Nat.reduceMul]) (by simp (maxSteps:=1000000) (disch:=first | omega | (simp only [LL];omega)) only [W,V,TY,CC,reduceIte,Nat.reduceEqDiff,Nat.reduceAdd,Nat.reduceLeDiff,Nat.reduceLT,Int.reduceLE,Int.reduceLT,Int.reduceAdd,Int.reduceSub,Int.reduceToNat,Nat.reduceMul]) (by simp (maxSteps:=1000000) (disch:=first | omega | (simp only [LL];omega)) only [W,V,TY,CC,reduceIte,Nat.reduceEqDiff,Nat.reduceAdd,Nat.reduceLeDiff,Nat.reduceLT,Int.reduceLE,Int.reduceLT,Int.reduceAdd,Int.reduceSub,Int.reduceToNat,Nat.reduceMul]) ?_ ?_
      · simp (maxSteps:=1000000) (disch:=first | omega | (simp only [LL];omega)) only [W,V,TY,CC,reduceIte,Nat.reduceEqDiff,Nat.reduceAdd,Nat.reduceLeDiff,Nat.reduceLT,Int.reduceLE,Int.reduceLT,Int.reduceAdd,Int.reduceSub,Int.reduceToNat,Nat.reduceMul,t8,t7,r57]
        exact sd_row ⟨5, 1, b.size, strD b, 0, false⟩ (by simp (maxSteps:=1000000) (disch:=first | omega | (simp only [LL];omega)) only [W,V,TY,CC,reduceIte,Nat.reduceEqDiff,Nat.reduceAdd,Nat.reduceLeDiff,Nat.reduceLT,Int.reduceLE,Int.reduceLT,Int.reduceAdd,Int.reduceSub,Int.reduceToNat,Nat.reduceMul,r57]) rfl rfl
      simp (maxSteps:=1000000) (disch:=first | omega | (simp only [LL];omega)) only [W,V,TY,CC,reduceIte,Nat.reduceEqDiff,Nat.reduceAdd,Nat.reduceLeDiff,Nat.reduceLT,Int.reduceLE,Int.reduceLT,Int.reduceAdd,Int.reduceSub,Int.reduceToNat,Nat.reduceMul]
      refine f_ret _ _ _ ?_
      simp (maxSteps:=1000000) (disch:=first | omega | (simp only [LL];omega)) only [W,V,TY,CC,reduceIte,Nat.reduceEqDiff,Nat.reduceAdd,Nat.reduceLeDiff,Nat.reduceLT,Int.reduceLE,Int.reduceLT,Int.reduceAdd,Int.reduceSub,Int.reduceToNat,Nat.reduceMul]
theorem nat_Print0 : AFun Tryd.prog 70 [.one (natD (nl 0))] [.one (.lit (.string ⟨#[48]⟩))] := by
  refine afun_intro mo_ _ _ c70 k70 _ _ rfl (by decide) ?_
  unfold b70
  have hlim := nl_lim 0
  have hlen : (nl 0).length = 0 := by rw [nl_zero]; rfl
  simp (maxSteps:=1000000) (disch:=first | omega | (simp only [LL];omega)) only [W,V,TY,CC,reduceIte,Nat.reduceEqDiff,Nat.reduceAdd,Nat.reduceLeDiff,Nat.reduceLT,Int.reduceLE,Int.reduceLT,Int.reduceAdd,Int.reduceSub,Int.reduceToNat,Nat.reduceMul]
  refine a_call _ _ (nat_Norm (nl 0) hlim (by omega)) (by simp (maxSteps:=1000000) (disch:=first | omega | (simp only [LL];omega)) only [W,V,TY,CC,reduceIte,Nat.reduceEqDiff,Nat.reduceAdd,Nat.reduceLeDiff,Nat.reduceLT,Int.reduceLE,Int.reduceLT,Int.reduceAdd,Int.reduceSub,Int.reduceToNat,Nat.reduceMul]) ?_
  rw [show tr (nl 0) = nl 0 by unfold tr; rw [nv_nl]]
  simp (maxSteps:=1000000) (disch:=first | omega | (simp only [LL];omega)) only [W,V,TY,CC,reduceIte,Nat.reduceEqDiff,Nat.reduceAdd,Nat.reduceLeDiff,Nat.reduceLT,Int.reduceLE,Int.reduceLT,Int.reduceAdd,Int.reduceSub,Int.reduceToNat,Nat.reduceMul]
  refine w_loop (fun k s => s.t 3 = .one (.dt (natD (nl 0))) ∧ s.t 4 = .one .z) 0 ⟨?_, ?_⟩ ?_
  · simp (maxSteps:=1000000) (disch:=first | omega | (simp only [LL];omega)) only [W,V,TY,CC,reduceIte,Nat.reduceEqDiff,Nat.reduceAdd,Nat.reduceLeDiff,Nat.reduceLT,Int.reduceLE,Int.reduceLT,Int.reduceAdd,Int.reduceSub,Int.reduceToNat,Nat.reduceMul]
  · simp (maxSteps:=1000000) (disch:=first | omega | (simp only [LL];omega)) only [W,V,TY,CC,reduceIte,Nat.reduceEqDiff,Nat.reduceAdd,Nat.reduceLeDiff,Nat.reduceLT,Int.reduceLE,Int.reduceLT,Int.reduceAdd,Int.reduceSub,Int.reduceToNat,Nat.reduceMul]
  intro k s hwf ⟨t3, t4⟩
  simp (maxSteps:=1000000) (disch:=first | omega | (simp only [LL];omega)) only [W,V,TY,CC,reduceIte,Nat.reduceEqDiff,Nat.reduceAdd,Nat.reduceLeDiff,Nat.reduceLT,Int.reduceLE,Int.reduceLT,Int.reduceAdd,Int.reduceSub,Int.reduceToNat,Nat.reduceMul,t3,t4,hlen]
  refine f_ret _ _ _ ?_
  simp (maxSteps:=1000000) (disch:=first | omega | (simp only [LL];omega)) only [W,V,TY,CC,reduceIte,Nat.reduceEqDiff,Nat.reduceAdd,Nat.reduceLeDiff,Nat.reduceLT,Int.reduceLE,Int.reduceLT,Int.reduceAdd,Int.reduceSub,Int.reduceToNat,Nat.reduceMul]
/-- a natural number below 100, in digits -/
def dig (v : Nat) : ByteArray := if v = 0 then ⟨#[48]⟩ else smallS v
theorem smallS_size {i : Int} (h0 : 0 ≤ i) (h1 : i < 100) : (smallS i).size ≤ 2 := by
  unfold smallS
  split
  · rw [ByteArray.size_extract, digS_size]; omega
  · rw [ByteArray.size_extract, twoS_size]; omega
theorem dig_size {v : Nat} (h1 : v < 100) : (dig v).size ≤ 2 := by
  unfold dig
  split
  · decide
  · exact smallS_size (by omega) (by omega)
theorem nat_Print2 (v : Nat) (h1 : v < 100) : AFun Tryd.prog 70 [.one (natD (nl v))] [.one (.lit (.string (dig v)))] := by
  unfold dig
  split
  · rename_i h; subst h; exact nat_Print0
  · have := smallS_size (i := v) (by omega) (by omega)
    exact nat_Print v _ (by omega) (by omega) (by omega) (str_FormatUint v (by omega) (by omega))
/-- an integer, in digits -/
def digI (z : Int) : ByteArray := if z < 0 then ⟨#[45]⟩ ++ dig z.natAbs else dig z.natAbs
/-- examboard/integer.Print -/
def b67 : AF := ⟨13, 1, [.tmp 2],
  (.seq (.reg [
    ⟨some 1, .box 25 (.tmp 0), none⟩,
    ⟨some 2, .assign (.const (.string ⟨#[]⟩)), none⟩])
  (.seq (.seq (.reg [
    ⟨some 3, .load 25 (.tmp 1), none⟩,
    ⟨some 4, .call ⟨(.value (.func 53)), #[(.tmp 3)], #[25]⟩, none⟩,
    ⟨some 5, .binOp .lss 3 (.tmp 4) (.const (.int .i64 0)) 3, none⟩])
  (.cond (.tmp 5)
    (.seq (.reg [
      ⟨some 6, .fieldAddr 25 (.tmp 1) 1, none⟩,
      ⟨some 7, .load 23 (.tmp 6), none⟩,
      ⟨some 8, .call ⟨(.value (.func 70)), #[(.tmp 7)], #[23]⟩, none⟩,
      ⟨some 9, .binOp .add 9 (.const (.string ⟨#[45]⟩)) (.tmp 8) 9, none⟩,
      ⟨some 2, .assign (.tmp 9), none⟩])
    .ret)
    .skip))
  (.seq (.reg [
    ⟨some 10, .fieldAddr 25 (.tmp 1) 1, none⟩,
    ⟨some 11, .load 23 (.tmp 10), none⟩,
    ⟨some 12, .call ⟨(.value (.func 70)), #[(.tmp 11)], #[23]⟩, none⟩,
    ⟨some 2, .assign (.tmp 12), none⟩])
  .ret)))⟩
theorem c67 : fcomp Tryd.prog 67 = ⟨b67.n, b67.np, b67.res, b67.body.bare⟩ := by kernel_rfl
theorem k67 : fok Tryd.prog 67 = true := by kernel_rfl
theorem int_Print (z : Int) (h0 : -100 < z) (h1 : z < 100) : AFun Tryd.prog 67 [.agg (intC z)] [.one (.lit (.string (digI z)))] := by
  refine afun_intro mo_ _ _ c67 k67 _ _ rfl (by decide) ?_
  unfold b67
  have hl : (nl z.natAbs).length ≤ 1 := nl_len (by omega)
  have hz : (dig z.natAbs).size ≤ 2 := dig_size (by omega)
  have h45 : (⟨#[45]⟩ : ByteArray).size = 1 := rfl
  have cs : sgn z < 0 ↔ z < 0 := by unfold sgn; split <;> (try split) <;> omega
  unfold digI
  simp (maxSteps:=1000000) (disch:=first | omega | (simp only [LL];omega)) only [W,V,TY,CC,reduceIte,Nat.reduceEqDiff,Nat.reduceAdd,Nat.reduceLeDiff,Nat.reduceLT,Int.reduceLE,Int.reduceLT,Int.reduceAdd,Int.reduceSub,Int.reduceToNat,Nat.reduceMul,intC]
  refine a_call _ _ (int_Sign (decide (z < 0)) (nl z.natAbs) (nl_lim _) (by omega)) (by simp (maxSteps:=1000000) (disch:=first | omega | (simp only [LL];omega)) only [W,V,TY,CC,reduceIte,Nat.reduceEqDiff,Nat.reduceAdd,Nat.reduceLeDiff,Nat.reduceLT,Int.reduceLE,Int.reduceLT,Int.reduceAdd,Int.reduceSub,Int.reduceToNat,Nat.reduceMul]) ?_
  rw [iv_nl]
  simp (maxSteps:=1000000) (disch:=first | omega | (simp only [LL];omega)) only [W,V,TY,CC,reduceIte,Nat.reduceEqDiff,Nat.reduceAdd,Nat.reduceLeDiff,Nat.reduceLT,Int.reduceLE,Int.reduceLT,Int.reduceAdd,Int.reduceSub,Int.reduceToNat,Nat.reduceMul]
  refine c_split (fun h => ?_) (fun h => ?_)
  · rw [if_pos (cs.1 h)]
    simp (maxSteps:=1000000) (disch:=first | omega | (simp only [LL];omega)) only [W,V,TY,CC,reduceIte,Nat.reduceEqDiff,Nat.reduceAdd,Nat.reduceLeDiff,Nat.reduceLT,Int.reduceLE,Int.reduceLT,Int.reduceAdd,Int.reduceSub,Int.reduceToNat,Nat.reduceMul]
    refine a_call _ _ (nat_Print2 z.natAbs (by omega)) (by simp (maxSteps:=1000000) (disch:=first | omega | (simp only [LL];omega)) only [W,V,TY,CC,reduceIte,Nat.reduceEqDiff,Nat.reduceAdd,Nat.reduceLeDiff,Nat.reduceLT,Int.reduceLE,Int.reduceLT,Int.reduceAdd,Int.reduceSub,Int.reduceToNat,Nat.reduceMul]) ?_
    simp (maxSteps:=1000000) (disch:=first | omega | (simp only [LL];omega)) only [W,V,TY,CC,reduceIte,Nat.reduceEqDiff,Nat.reduceAdd,Nat.reduceLeDiff,Nat.reduceLT,Int.reduceLE,Int.reduceLT,Int.reduceAdd,Int.reduceSub,Int.reduceToNat,Nat.reduceMul,h45]
    refine ⟨by omega, f_ret _ _ _ ?_⟩
    simp (maxSteps:=1000000) (disch:=first | omega | (simp only [LL];omega)) only [W,V,TY,CC,reduceIte,Nat.reduceEqDiff,Nat.reduceAdd,Nat.reduceLeDiff,Nat.reduceLT,Int.reduceLE,Int.reduceLT,Int.reduceAdd,Int.reduceSub,Int.reduceToNat,Nat.reduceMul]
  · rw [if_neg (fun e => h (cs.2 e))]
    simp (maxSteps:=1000000) (disch:=first | omega | (simp only [LL];omega)) only [W,V,TY,CC,reduceIte,Nat.reduceEqDiff,Nat.reduceAdd,Nat.reduceLeDiff,Nat.reduceLT,Int.reduceLE,Int.reduceLT,Int.reduceAdd,Int.reduceSub,Int.reduceToNat,Nat.reduceMul]
    refine a_call _ _ (nat_Print2 z.natAbs (by omega)) (by simp (maxSteps:=1000000) (disch:=first | omega | (simp only [LL];omega)) only [W,V,TY,CC,reduceIte,Nat.reduceEqDiff,Nat.reduceAdd,Nat.reduceLeDiff,Nat.reduceLT,Int.reduceLE,Int.reduceLT,Int.reduceAdd,Int.reduceSub,Int.reduceToNat,Nat.reduceMul]) ?_
    simp (maxSteps:=1000000) (disch:=first | omega | (simp only [LL];omega)) only [W,V,TY,CC,reduceIte,Nat.reduceEqDiff,Nat.reduceAdd,Nat.reduceLeDiff,Nat.reduceLT,Int.reduceLE,Int.reduceLT,Int.reduceAdd,Int.reduceSub,Int.reduceToNat,Nat.reduceMul]
    refine f_ret _ _ _ ?_
    simp (maxSteps:=1000000) (disch:=first | omega | (simp only [LL];omega)) only [W,V,TY,CC,reduceIte,Nat.reduceEqDiff,Nat.reduceAdd,Nat.reduceLeDiff,Nat.reduceLT,Int.reduceLE,Int.reduceLT,Int.reduceAdd,Int.reduceSub,Int.reduceToNat,Nat.reduceMul]
/-- a number, in digits -/
def digQ (q : Rat) : ByteArray := if q.den = 1 then digI q.num else digI q.num ++ (⟨#[47]⟩ ++ dig q.den)
theorem digI_size {z : Int} (h0 : -100 < z) (h1 : z < 100) : (digI z).size ≤ 3 := by
  have hz : (dig z.natAbs).size ≤ 2 := dig_size (by omega)
  have h45 : (⟨#[45]⟩ : ByteArray).size = 1 := rfl
  unfold digI
  split
  · rw [ByteArray.size_append, h45]; omega
  · omega
/-- examboard/ratio.Print -/
def b41 : AF := ⟨22, 1, [.tmp 2],
  (.seq (.reg [
    ⟨some 1, .box 27 (.tmp 0), none⟩,
    ⟨some 2, .assign (.const (.string ⟨#[]⟩)), none⟩])
  (.seq (.reg [
    ⟨some 5, .load 27 (.tmp 1), none⟩,
    ⟨some 6, .call ⟨(.value (.func 57)), #[(.tmp 5)], #[27]⟩, none⟩,
    ⟨some 3, .alloc 27, none⟩,
    ⟨none, .store 27 (.tmp 3) (.tmp 6), none⟩])
  (.seq (.reg [
    ⟨some 7, .fieldAddr 27 (.tmp 3) 0, none⟩,
    ⟨some 8, .load 25 (.tmp 7), none⟩,
    ⟨some 9, .call ⟨(.value (.func 67)), #[(.tmp 8)], #[25]⟩, none⟩,
    ⟨some 4, .assign (.tmp 9), none⟩])
  (.seq (.seq (.dreg [
    ⟨some 10, .fieldAddr 27 (.tmp 3) 1, none⟩,
    ⟨some 11, .load 23 (.tmp 10), none⟩,
    ⟨some 12, .call ⟨(.value (.func 69)), #[(.const (.int .u64 1))], #[99]⟩, none⟩,
    ⟨some 13, .call ⟨(.value (.func 68)), #[(.tmp 11), (.tmp 12)], #[23, 23]⟩, none⟩,
    ⟨some 14, .binOp .neq 3 (.tmp 13) (.const (.int .i64 0)) 3, none⟩])
  (.cond (.tmp 14)
    (.reg [
      ⟨some 15, .move (.tmp 4), none⟩,
      ⟨some 16, .fieldAddr 27 (.tmp 3) 1, none⟩,
      ⟨some 17, .load 23 (.tmp 16), none⟩,
      ⟨some 18, .call ⟨(.value (.func 70)), #[(.tmp 17)], #[23]⟩, none⟩,
      ⟨some 19, .binOp .add 9 (.const (.string ⟨#[47]⟩)) (.tmp 18) 9, none⟩,
      ⟨some 20, .binOp .add 9 (.tmp 15) (.tmp 19) 9, none⟩,
      ⟨some 4, .assign (.tmp 20), none⟩])
    .skip))
  (.seq (.reg [
    ⟨some 21, .move (.tmp 4), none⟩,
    ⟨some 2, .assign (.tmp 21), none⟩])
  .ret)))))⟩
theorem c41 : fcomp Tryd.prog 41 = ⟨b41.n, b41.np, b41.res, b41.body.bare⟩ := by kernel_rfl
theorem k41 : fok Tryd.prog 41 = true := by kernel_rfl
theorem rat_Print (q : Rat) (h0 : -100 < q.num) (h1 : q.num < 100) (h2 : q.den < 100) : AFun Tryd.prog 41 [.agg (ratC q)] [.one (.lit (.string (digQ q)))] := by
  refine afun_intro mo_ _ _ c41 k41 _ _ rfl (by decide) ?_
  unfold b41
  have l1 : (nl q.num.natAbs).length ≤ 1 := nl_len (by omega)
  have l2 : (nl q.den).length ≤ 1 := nl_len (by omega)
  have l3 : (nl (Int.toNat 1)).length ≤ 1 := nl_len (by decide)
  have z1 := digI_size h0 h1
  have z2 := dig_size h2
  have h47 : (⟨#[47]⟩ : ByteArray).size = 1 := rfl
  have cn := rat_Norm (decide (q.num < 0)) (nl q.num.natAbs) (nl q.den) (nl_lim _) (nl_lim _) (by omega) (by omega)
  rw [rv_ratC] at cn
  have ci := int_Print q.num h0 h1
  simp only [intC] at ci
  unfold digQ
  simp (maxSteps:=1000000) (disch:=first | omega | (simp only [LL];omega)) only [W,V,TY,CC,reduceIte,Nat.reduceEqDiff,Nat.reduceAdd,Nat.reduceLeDiff,Nat.reduceLT,Int.reduceLE,Int.reduceLT,Int.reduceAdd,Int.reduceSub,Int.reduceToNat,Nat.reduceMul,ratC]
  refine a_call _ _ cn (by simp (maxSteps:=1000000) (disch:=first | omega | (simp only [LL];omega)) only [W,V,TY,CC,reduceIte,Nat.reduceEqDiff,Nat.reduceAdd,Nat.reduceLeDiff,Nat.reduceLT,Int.reduceLE,Int.reduceLT,Int.reduceAdd,Int.reduceSub,Int.reduceToNat,Nat.reduceMul]) ?_
  simp (maxSteps:=1000000) (disch:=first | omega | (simp only [LL];omega)) only [W,V,TY,CC,reduceIte,Nat.reduceEqDiff,Nat.reduceAdd,Nat.reduceLeDiff,Nat.reduceLT,Int.reduceLE,Int.reduceLT,Int.reduceAdd,Int.reduceSub,Int.reduceToNat,Nat.reduceMul,ratC]
  refine a_call _ _ ci (by simp (maxSteps:=1000000) (disch:=first | omega | (simp only [LL];omega)) only [W,V,TY,CC,reduceIte,Nat.reduceEqDiff,Nat.reduceAdd,Nat.reduceLeDiff,Nat.reduceLT,Int.reduceLE,Int.reduceLT,Int.reduceAdd,Int.reduceSub,Int.reduceToNat,Nat.reduceMul]) ?_
  simp (maxSteps:=1000000) (disch:=first | omega | (simp only [LL];omega)) only [W,V,TY,CC,reduceIte,Nat.reduceEqDiff,Nat.reduceAdd,Nat.reduceLeDiff,Nat.reduceLT,Int.reduceLE,Int.reduceLT,Int.reduceAdd,Int.reduceSub,Int.reduceToNat,Nat.reduceMul]
  refine a_call _ _ (nat_Of 1 (by decide) (by decide)) (by simp (maxSteps:=1000000) (disch:=first | omega | (simp only [LL];omega)) only [W,V,TY,CC,reduceIte,Nat.reduceEqDiff,Nat.reduceAdd,Nat.reduceLeDiff,Nat.reduceLT,Int.reduceLE,Int.reduceLT,Int.reduceAdd,Int.reduceSub,Int.reduceToNat,Nat.reduceMul]) ?_
  simp (maxSteps:=1000000) (disch:=first | omega | (simp only [LL];omega)) only [W,V,TY,CC,reduceIte,Nat.reduceEqDiff,Nat.reduceAdd,Nat.reduceLeDiff,Nat.reduceLT,Int.reduceLE,Int.reduceLT,Int.reduceAdd,Int.reduceSub,Int.reduceToNat,Nat.reduceMul]
  refine a_call _ _ (nat_Cmp (nl q.den) (nl (Int.toNat 1)) (nl_lim _) (nl_lim _) (by omega) (by omega)) (by simp (maxSteps:=1000000) (disch:=first | omega | (simp only [LL];omega)) only [W,V,TY,CC,reduceIte,Nat.reduceEqDiff,Nat.reduceAdd,Nat.reduceLeDiff,Nat.reduceLT,Int.reduceLE,Int.reduceLT,Int.reduceAdd,Int.reduceSub,Int.reduceToNat,Nat.reduceMul]) ?_
  rw [val_nl, val_nl]
  have hc : cmpZ (q.den : Int) ((Int.toNat 1 : Nat) : Int) = 0 ↔ q.den = 1 := by unfold cmpZ; split <;> (try split) <;> omega
  simp (maxSteps:=1000000) (disch:=first | omega | (simp only [LL];omega)) only [W,V,TY,CC,reduceIte,Nat.reduceEqDiff,Nat.reduceAdd,Nat.reduceLeDiff,Nat.reduceLT,Int.reduceLE,Int.reduceLT,Int.reduceAdd,Int.reduceSub,Int.reduceToNat,Nat.reduceMul]
  refine c_split (fun h => ?_) (fun h => ?_)
  · rw [if_neg (fun e => h (hc.2 e))]
    simp (maxSteps:=1000000) (disch:=first | omega | (simp only [LL];omega)) only [W,V,TY,CC,reduceIte,Nat.reduceEqDiff,Nat.reduceAdd,Nat.reduceLeDiff,Nat.reduceLT,Int.reduceLE,Int.reduceLT,Int.reduceAdd,Int.reduceSub,Int.reduceToNat,Nat.reduceMul]
    refine a_call _ _ (nat_Print2 q.den h2) (by simp (maxSteps:=1000000) (disch:=first | omega | (simp only [LL];omega)) only [W,V,TY,CC,reduceIte,Nat.reduceEqDiff,Nat.reduceAdd,Nat.reduceLeDiff,Nat.reduceLT,Int.reduceLE,Int.reduceLT,Int.reduceAdd,Int.reduceSub,Int.reduceToNat,Nat.reduceMul]) ?_
    have z3 : (⟨#[47]⟩ ++ dig q.den : ByteArray).size ≤ 3 := by rw [ByteArray.size_append, h47]; omega
    simp (maxSteps:=1000000) (disch:=first | omega | (simp only [LL];omega)) only [W,V,TY,CC,reduceIte,Nat.reduceEqDiff,Nat.reduceAdd,Nat.reduceLeDiff,Nat.reduceLT,Int.reduceLE,Int.reduceLT,Int.reduceAdd,Int.reduceSub,Int.reduceToNat,Nat.reduceMul,h47]
    refine ⟨by omega, by omega, f_ret _ _ _ ?_⟩
    simp (maxSteps:=1000000) (disch:=first | omega | (simp only [LL];omega)) only [W,V,TY,CC,reduceIte,Nat.reduceEqDiff,Nat.reduceAdd,Nat.reduceLeDiff,Nat.reduceLT,Int.reduceLE,Int.reduceLT,Int.reduceAdd,Int.reduceSub,Int.reduceToNat,Nat.reduceMul]
  · rw [if_pos (hc.1 (Classical.not_not.1 h))]
    simp (maxSteps:=1000000) (disch:=first | omega | (simp only [LL];omega)) only [W,V,TY,CC,reduceIte,Nat.reduceEqDiff,Nat.reduceAdd,Nat.reduceLeDiff,Nat.reduceLT,Int.reduceLE,Int.reduceLT,Int.reduceAdd,Int.reduceSub,Int.reduceToNat,Nat.reduceMul]
    refine f_ret _ _ _ ?_
    simp (maxSteps:=1000000) (disch:=first | omega | (simp only [LL];omega)) only [W,V,TY,CC,reduceIte,Nat.reduceEqDiff,Nat.reduceAdd,Nat.reduceLeDiff,Nat.reduceLT,Int.reduceLE,Int.reduceLT,Int.reduceAdd,Int.reduceSub,Int.reduceToNat,Nat.reduceMul]
end Go.Proofs.YtljmgdepldpmdaaDoor.E

set_option linter.unusedSimpArgs false
set_option linter.unusedVariables false
set_option maxHeartbeats 2000000
namespace Go.Proofs.YtljmgdepldpmdaaDoor.E
open Go.RowKit Limbs
theorem qs_int {x : Int} (h0 : -9223372036854775808 ≤ x) (h1 : x < 9223372036854775808) : qs ((x : Int) : Rat) ≤ 10 := by
  rw [← divInt_one]
  refine Nat.le_trans (qs_div _ _) ?_
  have := zl_i64 h0 h1
  have := zl_i64 (x := 1) (by omega) (by omega)
  omega
end Go.Proofs.YtljmgdepldpmdaaDoor.E

set_option linter.unusedSimpArgs false
set_option linter.unusedVariables false
set_option maxHeartbeats 2000000
namespace Go.Proofs.YtljmgdepldpmdaaDoor.E
open Go.RowKit Limbs
/-! ### the lesser and the greater -/
def qmin (p q : Rat) : Rat := if q < p then q else p
def qmax (p q : Rat) : Rat := if q < p then p else q
theorem cmpQ_eq (a b : Rat) : cmpQ a b = 0 ↔ a = b := by
  unfold cmpQ
  constructor
  · intro h
    split at h
    · cases h
    · split at h
      · cases h
      · grind
  · rintro rfl
    rw [if_neg Rat.lt_irrefl, if_neg Rat.lt_irrefl]
/-! ### widths -/
theorem sgnQ_zero (z : Rat) : sgnQ z = 0 ↔ z = 0 := by
  unfold sgnQ
  split
  · exact ⟨fun h => (by cases h), fun h => (by grind)⟩
  · split
    · exact ⟨fun _ => by assumption, fun _ => rfl⟩
    · exact ⟨fun h => (by cases h), fun h => (by contradiction)⟩
/-! ### a number in an interval -/
def inI (x y z : Rat) : Prop := qmin x y ≤ z ∧ z ≤ qmax x y
instance (x y z : Rat) : Decidable (inI x y z) := by unfold inI; infer_instance
/-- the least and the greatest of the four products -/
def m4 (a b c d : Rat) : Rat := qmin (qmin (qmin a b) c) d
/-! ### an interval in an interval -/
def subI (x y u v : Rat) : Prop := inI u v x ∧ inI u v y
instance (x y u v : Rat) : Decidable (subI x y u v) := by unfold subI; infer_instance
/-! ### between -/
/-! ### the intersection and the hull -/
end Go.Proofs.YtljmgdepldpmdaaDoor.E

set_option linter.unusedSimpArgs false
set_option linter.unusedVariables false
set_option maxHeartbeats 2000000
namespace Go.Proofs.YtljmgdepldpmdaaDoor.E
open Go.RowKit Limbs
/-! ### numbers as they were handed over -/
structure RR where
  n : Bool
  m : List Int
  d : List Int
def rC (x : RR) : List Dt := [.lit (.bool x.n), natD x.m, natD x.d]
def RR.q (x : RR) : Rat := rv x.n x.m x.d
structure rok (k : Nat) (x : RR) : Prop where
  m : Lim x.m
  d : Lim x.d
  lm : x.m.length ≤ k
  ld : x.d.length ≤ k
theorem rok.mono {a b : Nat} {x : RR} (h : rok a x) (hab : a ≤ b) : rok b x := ⟨h.m, h.d, Nat.le_trans h.lm hab, Nat.le_trans h.ld hab⟩
/-- a number in lowest terms -/
def nr (q : Rat) : RR := ⟨decide (q.num < 0), nl q.num.natAbs, nl q.den⟩
theorem rC_nr (q : Rat) : rC (nr q) = ratC q := rfl
theorem nr_q (q : Rat) : (nr q).q = q := rv_ratC q
theorem rok_nr {k : Nat} {q : Rat} (h : qs q ≤ k) : rok k (nr q) := ⟨nl_lim _, nl_lim _, Nat.le_trans (qs_num q) h, Nat.le_trans (qs_den q) h⟩
theorem qs_rr {k : Nat} {x : RR} (h : rok k x) : qs x.q ≤ k + 1 := by
  have := qs_rv x.n h.m h.d
  have := h.lm
  have := h.ld
  unfold RR.q
  omega
section
variable {x y : RR} (hx : rok 68719476600 x) (hy : rok 68719476600 y)
include hx hy
theorem R_Cmp : AFun Tryd.prog 23 [.agg (rC x), .agg (rC y)] [.one (.lit (.int .i64 (cmpQ x.q y.q)))] := by
  obtain ⟨h1, h2, h3, h4⟩ := hx
  obtain ⟨k1, k2, k3, k4⟩ := hy
  exact rat_Cmp x.n x.m x.d y.n y.m y.d h1 h2 k1 k2 (by omega) (by omega) (by omega) (by omega)
theorem R_Add : AFun Tryd.prog 14 [.agg (rC x), .agg (rC y)] [.agg (ratC (x.q + y.q))] := by
  obtain ⟨h1, h2, h3, h4⟩ := hx
  obtain ⟨k1, k2, k3, k4⟩ := hy
  exact rat_Add x.n x.m x.d y.n y.m y.d h1 h2 k1 k2 (by omega) (by omega) (by omega) (by omega)
theorem R_Mul : AFun Tryd.prog 18 [.agg (rC x), .agg (rC y)] [.agg (ratC (x.q * y.q))] := by
  obtain ⟨h1, h2, h3, h4⟩ := hx
  obtain ⟨k1, k2, k3, k4⟩ := hy
  exact rat_Mul x.n x.m x.d y.n y.m y.d h1 h2 k1 k2 (by omega) (by omega) (by omega) (by omega)
omit hy
theorem R_Sign : AFun Tryd.prog 22 [.agg (rC x)] [.one (.lit (.int .i64 (sgnQ x.q)))] := by
  obtain ⟨h1, h2, h3, h4⟩ := hx
  exact rat_Sign x.n x.m x.d h1 h2 (by omega) (by omega)
end
/-! ### the lesser and the greater -/
def sQ (p q : Rat) : List Dt := ratC p ++ ratC q
section
variable {x y : RR} (hx : rok 68719476600 x) (hy : rok 68719476600 y)
include hx hy
end
section
variable {x y u v : RR} (hx : rok 68719476600 x) (hy : rok 68719476600 y) (hu : rok 68719476600 u) (hv : rok 68719476600 v)
include hx hy hu hv
end
section
variable {x y u v : RR} (hx : rok 68719476600 x) (hy : rok 68719476600 y) (hu : rok 68719476600 u) (hv : rok 68719476600 v)
include hx hy hu
include hv
end
end Go.Proofs.YtljmgdepldpmdaaDoor.E

set_option linter.unusedSimpArgs false
set_option linter.unusedVariables false
set_option maxHeartbeats 2000000
namespace Go.Proofs.YtljmgdepldpmdaaDoor.E
open Go.RowKit Limbs
/-- the interval of two zeros that aren't numbers -/
def zS : List Dt := [.lit (.bool false), natD [], natD [], .lit (.bool false), natD [], natD []]
section
variable {x y u v : RR} (hx : rok 68719476600 x) (hy : rok 68719476600 y) (hu : rok 68719476600 u) (hv : rok 68719476600 v)
include hx hy hu hv
end
end Go.Proofs.YtljmgdepldpmdaaDoor.E

set_option linter.unusedSimpArgs false
set_option linter.unusedVariables false
set_option maxHeartbeats 2000000
namespace Go.Proofs.YtljmgdepldpmdaaDoor.E
open Go.RowKit Limbs
/-- examboard/ratio.Neg -/
def b61 : AF := ⟨9, 1, [.cell 2 27],
  (.seq (.reg [
    ⟨some 1, .box 27 (.tmp 0), none⟩,
    ⟨some 2, .alloc 27, none⟩])
  (.seq (.dreg [
    ⟨some 3, .fieldAddr 27 (.tmp 1) 0, none⟩,
    ⟨some 4, .load 25 (.tmp 3), none⟩,
    ⟨some 5, .call ⟨(.value (.func 83)), #[(.tmp 4)], #[25]⟩, none⟩,
    ⟨some 6, .fieldAddr 27 (.tmp 1) 1, none⟩,
    ⟨some 7, .load 23 (.tmp 6), none⟩,
    ⟨some 8, .call ⟨(.value (.func 47)), #[(.tmp 5), (.tmp 7)], #[25, 23]⟩, none⟩,
    ⟨none, .store 27 (.tmp 2) (.tmp 8), none⟩])
  .ret))⟩
theorem c61 : fcomp Tryd.prog 61 = ⟨b61.n, b61.np, b61.res, b61.body.bare⟩ := by kernel_rfl
theorem k61 : fok Tryd.prog 61 = true := by kernel_rfl
theorem rat_Neg (n : Bool) (m d : List Int) (hm : Lim m) (hd : Lim d) (lm : m.length < 549755813888) (ld : d.length < 549755813888) : AFun Tryd.prog 61 [.agg [.lit (.bool n), natD m, natD d]] [.agg (ratC (-rv n m d))] := by
  refine afun_intro mo_ _ _ c61 k61 _ _ rfl (by decide) ?_
  unfold b61
  have w1 := zl_iv (n := n) hm
  have w2 := zl_neg (iv n m)
  have cn := int_Neg n m hm (by omega)
  have e : -rv n m d = mkRat (-iv n m) (nv d) := by unfold rv; rw [Rat.neg_mkRat]
  have cl := rat_lowest (decide (-iv n m < 0)) (nl (-iv n m).natAbs) d (nl_lim _) hd (show zl (-iv n m) < _ by omega) (by omega)
  rw [show rv (decide (-iv n m < 0)) (nl (-iv n m).natAbs) d = -rv n m d by rw [e]; unfold rv; rw [iv_nl]] at cl
  generalize -iv n m = x at *
  simp (maxSteps:=1000000) (disch:=first | omega | (simp only [LL];omega)) only [W,V,TY,CC,reduceIte,Nat.reduceEqDiff,Nat.reduceAdd,Nat.reduceLeDiff,Nat.reduceLT,Int.reduceLE,Int.reduceLT,Int.reduceAdd,Int.reduceSub,Int.reduceToNat,Nat.reduceMul]
  refine a_call _ _ cn (by simp (maxSteps:=1000000) (disch:=first | omega | (simp only [LL];omega)) only [W,V,TY,CC,reduceIte,Nat.reduceEqDiff,Nat.reduceAdd,Nat.reduceLeDiff,Nat.reduceLT,Int.reduceLE,Int.reduceLT,Int.reduceAdd,Int.reduceSub,Int.reduceToNat,Nat.reduceMul]) ?_
  simp (maxSteps:=1000000) (disch:=first | omega | (simp only [LL];omega)) only [W,V,TY,CC,reduceIte,Nat.reduceEqDiff,Nat.reduceAdd,Nat.reduceLeDiff,Nat.reduceLT,Int.reduceLE,Int.reduceLT,Int.reduceAdd,Int.reduceSub,Int.reduceToNat,Nat.reduceMul,intC]
  refine a_call _ _ cl (by simp (maxSteps:=1000000) (disch:=first | omega | (simp only [LL];omega)) only [W,V,TY,CC,reduceIte,Nat.reduceEqDiff,Nat.reduceAdd,Nat.reduceLeDiff,Nat.reduceLT,Int.reduceLE,Int.reduceLT,Int.reduceAdd,Int.reduceSub,Int.reduceToNat,Nat.reduceMul]) ?_
  simp (maxSteps:=1000000) (disch:=first | omega | (simp only [LL];omega)) only [W,V,TY,CC,reduceIte,Nat.reduceEqDiff,Nat.reduceAdd,Nat.reduceLeDiff,Nat.reduceLT,Int.reduceLE,Int.reduceLT,Int.reduceAdd,Int.reduceSub,Int.reduceToNat,Nat.reduceMul,ratC]
  refine f_ret _ _ _ ?_
  simp (maxSteps:=1000000) (disch:=first | omega | (simp only [LL];omega)) only [W,V,TY,CC,reduceIte,Nat.reduceEqDiff,Nat.reduceAdd,Nat.reduceLeDiff,Nat.reduceLT,Int.reduceLE,Int.reduceLT,Int.reduceAdd,Int.reduceSub,Int.reduceToNat,Nat.reduceMul,ratC]
theorem div_mk (a b : Int) (d e : Nat) : mkRat a d / mkRat b e = Rat.divInt (a * e) (d * b) := by
  rw [Rat.div_def, ← Rat.divInt_ofNat, ← Rat.divInt_ofNat, Rat.inv_divInt, Rat.divInt_mul_divInt]
theorem mk_ne (b : Int) {e d : Nat} (he : 0 < e) (hd : 0 < d) : decide ((d : Int) * b ≠ 0) = decide (mkRat b e ≠ 0) := by
  have h : mkRat b e = 0 ↔ b = 0 := Rat.mkRat_eq_zero (by omega)
  refine decide_eq_decide.2 ⟨fun h1 e => h1 (by rw [h.1 e, Int.mul_zero]), fun h1 e => ?_⟩
  rcases Int.mul_eq_zero.1 e with e | e
  · omega
  · exact h1 (h.2 e)
/-- examboard/ratio.Div -/
def b59 : AF := ⟨29, 2, [.cell 4 27, .tmp 5],
  (.seq (.reg [
    ⟨some 2, .box 27 (.tmp 0), none⟩,
    ⟨some 3, .box 27 (.tmp 1), none⟩,
    ⟨some 4, .alloc 27, none⟩,
    ⟨some 5, .assign (.const (.bool false)), none⟩])
  (.seq (.reg [
    ⟨some 11, .load 27 (.tmp 2), none⟩,
    ⟨some 12, .call ⟨(.value (.func 46)), #[(.tmp 11)], #[27]⟩, none⟩,
    ⟨some 10, .move (.tmp 12), none⟩,
    ⟨some 13, .extract (.tmp 10) 0, none⟩,
    ⟨some 14, .extract (.tmp 10) 1, none⟩,
    ⟨some 6, .alloc 25, none⟩,
    ⟨some 7, .alloc 25, none⟩,
    ⟨none, .store 25 (.tmp 6) (.tmp 13), none⟩,
    ⟨none, .store 25 (.tmp 7) (.tmp 14), none⟩])
  (.seq (.reg [
    ⟨some 16, .load 27 (.tmp 3), none⟩,
    ⟨some 17, .call ⟨(.value (.func 46)), #[(.tmp 16)], #[27]⟩, none⟩,
    ⟨some 15, .move (.tmp 17), none⟩,
    ⟨some 18, .extract (.tmp 15) 0, none⟩,
    ⟨some 19, .extract (.tmp 15) 1, none⟩,
    ⟨some 8, .alloc 25, none⟩,
    ⟨some 9, .alloc 25, none⟩,
    ⟨none, .store 25 (.tmp 8) (.tmp 18), none⟩,
    ⟨none, .store 25 (.tmp 9) (.tmp 19), none⟩])
  (.seq (.dreg [
    ⟨some 20, .load 25 (.tmp 6), none⟩,
    ⟨some 21, .load 25 (.tmp 9), none⟩,
    ⟨some 22, .call ⟨(.value (.func 49)), #[(.tmp 20), (.tmp 21)], #[25, 25]⟩, none⟩,
    ⟨some 23, .load 25 (.tmp 7), none⟩,
    ⟨some 24, .load 25 (.tmp 8), none⟩,
    ⟨some 25, .call ⟨(.value (.func 49)), #[(.tmp 23), (.tmp 24)], #[25, 25]⟩, none⟩,
    ⟨some 26, .call ⟨(.value (.func 73)), #[(.tmp 22), (.tmp 25)], #[25, 25]⟩, none⟩,
    ⟨some 27, .extract (.tmp 26) 0, none⟩,
    ⟨some 28, .extract (.tmp 26) 1, none⟩,
    ⟨none, .store 27 (.tmp 4) (.tmp 27), none⟩,
    ⟨some 5, .assign (.tmp 28), none⟩])
  .ret))))⟩
theorem c59 : fcomp Tryd.prog 59 = ⟨b59.n, b59.np, b59.res, b59.body.bare⟩ := by kernel_rfl
theorem k59 : fok Tryd.prog 59 = true := by kernel_rfl
theorem rat_Div (n : Bool) (m d : List Int) (n' : Bool) (m' d' : List Int) (hm : Lim m) (hd : Lim d) (hm' : Lim m') (hd' : Lim d') (lm : m.length < 68719476736) (ld : d.length < 68719476736) (lm' : m'.length < 68719476736) (ld' : d'.length < 68719476736) :
    AFun Tryd.prog 59 [.agg [.lit (.bool n), natD m, natD d], .agg [.lit (.bool n'), natD m', natD d']] [.agg (ratC (rv n m d / rv n' m' d')), .one (.lit (.bool (decide (rv n' m' d' ≠ 0))))] := by
  refine afun_intro mo_ _ _ c59 k59 _ _ rfl (by decide) ?_
  unfold b59
  rw [← rv_parts n m d, ← rv_parts n' m' d', div_mk, ← mk_ne _ (pD_pos d') (pD_pos d)]
  have w1 := pM_len m d
  have w2 := pM_len m' d'
  have w3 := pD_len hd
  have w4 := pD_len hd'
  have w5 := zl_iv (n := pN n d) (pM_lim hm d)
  have w6 := zl_iv (n := pN n' d') (pM_lim hm' d')
  have w7 := zl_mul (iv (pN n d) (pM m d)) (pD d' : Int)
  have w8 := zl_mul (pD d : Int) (iv (pN n' d') (pM m' d'))
  have w9 := zl_nat (pD d)
  have w10 := zl_nat (pD d')
  have p1 := rat_parts n m d hm hd (by omega) (by omega)
  have p2 := rat_parts n' m' d' hm' hd' (by omega) (by omega)
  have m1 := int_Mul (pN n d) false (pM m d) (nl (pD d')) (pM_lim hm d) (nl_lim _) (by omega) (by omega)
  have m2 := int_Mul false (pN n' d') (nl (pD d)) (pM m' d') (nl_lim _) (pM_lim hm' d') (by omega) (by omega)
  rw [iv_nat] at m1 m2
  generalize iv (pN n d) (pM m d) * (pD d' : Int) = X at *
  generalize (pD d : Int) * iv (pN n' d') (pM m' d') = Y at *
  have mk := rat_Make (decide (X < 0)) (decide (Y < 0)) (nl X.natAbs) (nl Y.natAbs) (nl_lim _) (nl_lim _) (show zl X < _ by omega) (show zl Y < _ by omega)
  rw [iv_nl, iv_nl] at mk
  simp (maxSteps:=1000000) (disch:=first | omega | (simp only [LL];omega)) only [W,V,TY,CC,reduceIte,Nat.reduceEqDiff,Nat.reduceAdd,Nat.reduceLeDiff,Nat.reduceLT,Int.reduceLE,Int.reduceLT,Int.reduceAdd,Int.reduceSub,Int.reduceToNat,Nat.reduceMul]
  refine a_call _ _ p1 (by simp (maxSteps:=1000000) (disch:=first | omega | (simp only [LL];omega)) only [W,V,TY,CC,reduceIte,Nat.reduceEqDiff,Nat.reduceAdd,Nat.reduceLeDiff,Nat.reduceLT,Int.reduceLE,Int.reduceLT,Int.reduceAdd,Int.reduceSub,Int.reduceToNat,Nat.reduceMul]) ?_
  simp (maxSteps:=1000000) (disch:=first | omega | (simp only [LL];omega)) only [W,V,TY,CC,reduceIte,Nat.reduceEqDiff,Nat.reduceAdd,Nat.reduceLeDiff,Nat.reduceLT,Int.reduceLE,Int.reduceLT,Int.reduceAdd,Int.reduceSub,Int.reduceToNat,Nat.reduceMul,intC_nat]
  refine a_call _ _ p2 (by simp (maxSteps:=1000000) (disch:=first | omega | (simp only [LL];omega)) only [W,V,TY,CC,reduceIte,Nat.reduceEqDiff,Nat.reduceAdd,Nat.reduceLeDiff,Nat.reduceLT,Int.reduceLE,Int.reduceLT,Int.reduceAdd,Int.reduceSub,Int.reduceToNat,Nat.reduceMul]) ?_
  simp (maxSteps:=1000000) (disch:=first | omega | (simp only [LL];omega)) only [W,V,TY,CC,reduceIte,Nat.reduceEqDiff,Nat.reduceAdd,Nat.reduceLeDiff,Nat.reduceLT,Int.reduceLE,Int.reduceLT,Int.reduceAdd,Int.reduceSub,Int.reduceToNat,Nat.reduceMul,intC_nat]
  refine a_call _ _ m1 (by simp (maxSteps:=1000000) (disch:=first | omega | (simp only [LL];omega)) only [W,V,TY,CC,reduceIte,Nat.reduceEqDiff,Nat.reduceAdd,Nat.reduceLeDiff,Nat.reduceLT,Int.reduceLE,Int.reduceLT,Int.reduceAdd,Int.reduceSub,Int.reduceToNat,Nat.reduceMul]) ?_
  simp (maxSteps:=1000000) (disch:=first | omega | (simp only [LL];omega)) only [W,V,TY,CC,reduceIte,Nat.reduceEqDiff,Nat.reduceAdd,Nat.reduceLeDiff,Nat.reduceLT,Int.reduceLE,Int.reduceLT,Int.reduceAdd,Int.reduceSub,Int.reduceToNat,Nat.reduceMul,intC]
  refine a_call _ _ m2 (by simp (maxSteps:=1000000) (disch:=first | omega | (simp only [LL];omega)) only [W,V,TY,CC,reduceIte,Nat.reduceEqDiff,Nat.reduceAdd,Nat.reduceLeDiff,Nat.reduceLT,Int.reduceLE,Int.reduceLT,Int.reduceAdd,Int.reduceSub,Int.reduceToNat,Nat.reduceMul,intC_nat]) ?_
  simp (maxSteps:=1000000) (disch:=first | omega | (simp only [LL];omega)) only [W,V,TY,CC,reduceIte,Nat.reduceEqDiff,Nat.reduceAdd,Nat.reduceLeDiff,Nat.reduceLT,Int.reduceLE,Int.reduceLT,Int.reduceAdd,Int.reduceSub,Int.reduceToNat,Nat.reduceMul,intC]
  refine a_call _ _ mk (by simp (maxSteps:=1000000) (disch:=first | omega | (simp only [LL];omega)) only [W,V,TY,CC,reduceIte,Nat.reduceEqDiff,Nat.reduceAdd,Nat.reduceLeDiff,Nat.reduceLT,Int.reduceLE,Int.reduceLT,Int.reduceAdd,Int.reduceSub,Int.reduceToNat,Nat.reduceMul]) ?_
  simp (maxSteps:=1000000) (disch:=first | omega | (simp only [LL];omega)) only [W,V,TY,CC,reduceIte,Nat.reduceEqDiff,Nat.reduceAdd,Nat.reduceLeDiff,Nat.reduceLT,Int.reduceLE,Int.reduceLT,Int.reduceAdd,Int.reduceSub,Int.reduceToNat,Nat.reduceMul,ratC]
  refine f_ret _ _ _ ?_
  simp (maxSteps:=1000000) (disch:=first | omega | (simp only [LL];omega)) only [W,V,TY,CC,reduceIte,Nat.reduceEqDiff,Nat.reduceAdd,Nat.reduceLeDiff,Nat.reduceLT,Int.reduceLE,Int.reduceLT,Int.reduceAdd,Int.reduceSub,Int.reduceToNat,Nat.reduceMul,ratC]
section
variable {x y : RR} (hx : rok 68719476600 x) (hy : rok 68719476600 y)
include hx hy
theorem R_Div : AFun Tryd.prog 59 [.agg (rC x), .agg (rC y)] [.agg (ratC (x.q / y.q)), .one (.lit (.bool (decide (y.q ≠ 0))))] := by
  obtain ⟨h1, h2, h3, h4⟩ := hx
  obtain ⟨k1, k2, k3, k4⟩ := hy
  exact rat_Div x.n x.m x.d y.n y.m y.d h1 h2 k1 k2 (by omega) (by omega) (by omega) (by omega)
omit hy
theorem R_Neg : AFun Tryd.prog 61 [.agg (rC x)] [.agg (ratC (-x.q))] := by
  obtain ⟨h1, h2, h3, h4⟩ := hx
  exact rat_Neg x.n x.m x.d h1 h2 (by omega) (by omega)
end
/-- examboard/examboardref01.Same -/
def b86 : AF := ⟨26, 2, [.tmp 4],
  (.seq (.reg [
    ⟨some 4, .assign (.const (.bool false)), none⟩])
  (.seq (.seq (.reg [
    ⟨some 6, .move (.tmp 0), none⟩,
    ⟨some 7, .call ⟨(.builtin .len), #[(.tmp 6)], #[23]⟩, none⟩,
    ⟨some 8, .move (.tmp 1), none⟩,
    ⟨some 9, .call ⟨(.builtin .len), #[(.tmp 8)], #[23]⟩, none⟩,
    ⟨some 10, .binOp .neq 3 (.tmp 7) (.tmp 9) 3, none⟩])
  (.cond (.tmp 10)
    (.seq (.reg [
      ⟨some 4, .assign (.const (.bool false)), none⟩])
    .ret)
    .skip))
  (.seq (.seq (.reg [
    ⟨some 5, .assign (.const (.int .i64 0)), none⟩])
  (.block 0 (.loop (.seq (.seq (.reg [
    ⟨some 11, .move (.tmp 5), none⟩,
    ⟨some 12, .move (.tmp 0), none⟩,
    ⟨some 13, .call ⟨(.builtin .len), #[(.tmp 12)], #[23]⟩, none⟩,
    ⟨some 14, .binOp .lss 3 (.tmp 11) (.tmp 13) 3, none⟩])
  (.cond (.tmp 14)
    .skip
    (.exit 0)))
  (.seq (.block 1 (.seq (.dreg [
    ⟨some 17, .move (.tmp 0), none⟩,
    ⟨some 18, .move (.tmp 5), none⟩,
    ⟨some 19, .indexAddr 23 (.tmp 17) (.tmp 18), none⟩,
    ⟨some 20, .load 113 (.tmp 19), none⟩,
    ⟨some 21, .move (.tmp 1), none⟩,
    ⟨some 22, .move (.tmp 5), none⟩,
    ⟨some 23, .indexAddr 23 (.tmp 21) (.tmp 22), none⟩,
    ⟨some 24, .load 113 (.tmp 23), none⟩,
    ⟨some 25, .binOp .neq 113 (.tmp 20) (.tmp 24) 113, none⟩])
  (.cond (.tmp 25)
    (.seq (.reg [
      ⟨some 4, .assign (.const (.bool false)), none⟩])
    .ret)
    .skip)))
  (.reg [
    ⟨some 15, .move (.tmp 5), none⟩,
    ⟨some 16, .binOp .add 3 (.tmp 15) (.const (.int .i64 1)) 3, none⟩,
    ⟨some 5, .assign (.tmp 16), none⟩]))))))
  (.seq (.reg [
    ⟨some 4, .assign (.const (.bool true)), none⟩])
  .ret))))⟩
theorem c86 : fcomp Tryd.prog 86 = ⟨b86.n, b86.np, b86.res, b86.body.bare⟩ := by kernel_rfl
theorem k86 : fok Tryd.prog 86 = true := by kernel_rfl
theorem f1_Same (a : List Int) (ha : a.length < 4611686018427387904) : AFun Tryd.prog 86 [.one (natD a), .one (natD a)] [.one (.lit (.bool true))] := by
  refine afun_intro mo_ _ _ c86 k86 _ _ rfl (by decide) ?_
  unfold b86
  simp (maxSteps:=1000000) (disch:=first | omega | (simp only [LL];omega)) only [W,V,TY,CC,reduceIte,Nat.reduceEqDiff,Nat.reduceAdd,Nat.reduceLeDiff,Nat.reduceLT,Int.reduceLE,Int.reduceLT,Int.reduceAdd,Int.reduceSub,Int.reduceToNat,Nat.reduceMul]
  refine w_loop (fun n s => ∃ i : Nat, n + i = a.length ∧ s.t 0 = .one (.dt (natD a)) ∧ s.t 1 = .one (.dt (natD a)) ∧ s.t 5 = .one (.dt (.lit (.int .i64 i)))) a.length ⟨0, by omega, ?_, ?_, ?_⟩ ?_
  · simp (maxSteps:=1000000) (disch:=first | omega | (simp only [LL];omega)) only [W,V,TY,CC,reduceIte,Nat.reduceEqDiff,Nat.reduceAdd,Nat.reduceLeDiff,Nat.reduceLT,Int.reduceLE,Int.reduceLT,Int.reduceAdd,Int.reduceSub,Int.reduceToNat,Nat.reduceMul]
  · simp (maxSteps:=1000000) (disch:=first | omega | (simp only [LL];omega)) only [W,V,TY,CC,reduceIte,Nat.reduceEqDiff,Nat.reduceAdd,Nat.reduceLeDiff,Nat.reduceLT,Int.reduceLE,Int.reduceLT,Int.reduceAdd,Int.reduceSub,Int.reduceToNat,Nat.reduceMul]
  · simp (maxSteps:=1000000) (disch:=first | omega | (simp only [LL];omega)) only [W,V,TY,CC,reduceIte,Nat.reduceEqDiff,Nat.reduceAdd,Nat.reduceLeDiff,Nat.reduceLT,Int.reduceLE,Int.reduceLT,Int.reduceAdd,Int.reduceSub,Int.reduceToNat,Nat.reduceMul]
  intro n s _ ⟨i, e, t0, t1, t5⟩
  simp (maxSteps:=1000000) (disch:=first | omega | (simp only [LL];omega)) only [W,V,TY,CC,reduceIte,Nat.reduceEqDiff,Nat.reduceAdd,Nat.reduceLeDiff,Nat.reduceLT,Int.reduceLE,Int.reduceLT,Int.reduceAdd,Int.reduceSub,Int.reduceToNat,Nat.reduceMul,t0,t1,t5]
  refine c_split (fun hi => ?_) (fun hi => ?_)
  · simp (maxSteps:=1000000) (disch:=first | omega | (simp only [LL];omega)) only [W,V,TY,CC,reduceIte,Nat.reduceEqDiff,Nat.reduceAdd,Nat.reduceLeDiff,Nat.reduceLT,Int.reduceLE,Int.reduceLT,Int.reduceAdd,Int.reduceSub,Int.reduceToNat,Nat.reduceMul,t0,t1,t5]
    exact ⟨n - 1, by omega, i + 1, by omega, rfl⟩
  · simp (maxSteps:=1000000) (disch:=first | omega | (simp only [LL];omega)) only [W,V,TY,CC,reduceIte,Nat.reduceEqDiff,Nat.reduceAdd,Nat.reduceLeDiff,Nat.reduceLT,Int.reduceLE,Int.reduceLT,Int.reduceAdd,Int.reduceSub,Int.reduceToNat,Nat.reduceMul,t0,t1,t5]
    refine f_ret _ _ _ ?_
    simp (maxSteps:=1000000) (disch:=first | omega | (simp only [LL];omega)) only [W,V,TY,CC,reduceIte,Nat.reduceEqDiff,Nat.reduceAdd,Nat.reduceLeDiff,Nat.reduceLT,Int.reduceLE,Int.reduceLT,Int.reduceAdd,Int.reduceSub,Int.reduceToNat,Nat.reduceMul]
/-- examboard/examboardref04.SameInt -/
def b85 : AF := ⟨17, 2, [.tmp 4],
  (.seq (.reg [
    ⟨some 2, .box 25 (.tmp 0), none⟩,
    ⟨some 3, .box 25 (.tmp 1), none⟩,
    ⟨some 4, .assign (.const (.bool false)), none⟩])
  (.seq (.reg [
    ⟨some 5, .fieldAddr 25 (.tmp 2) 0, none⟩,
    ⟨some 6, .load 4 (.tmp 5), none⟩,
    ⟨some 7, .fieldAddr 25 (.tmp 3) 0, none⟩,
    ⟨some 8, .load 4 (.tmp 7), none⟩,
    ⟨some 9, .binOp .eql 4 (.tmp 6) (.tmp 8) 4, none⟩,
    ⟨some 10, .move (.tmp 9), none⟩,
    ⟨some 11, .fieldAddr 25 (.tmp 2) 1, some (10, true)⟩,
    ⟨some 12, .load 23 (.tmp 11), some (10, true)⟩,
    ⟨some 13, .fieldAddr 25 (.tmp 3) 1, some (10, true)⟩,
    ⟨some 14, .load 23 (.tmp 13), some (10, true)⟩,
    ⟨some 15, .call ⟨(.value (.func 86)), #[(.tmp 12), (.tmp 14)], #[23, 23]⟩, some (10, true)⟩,
    ⟨some 16, .pick (.tmp 10) (.tmp 15) (.const (.bool false)), none⟩,
    ⟨some 4, .assign (.tmp 16), none⟩])
  .ret))⟩
theorem c85 : fcomp Tryd.prog 85 = ⟨b85.n, b85.np, b85.res, b85.body.bare⟩ := by kernel_rfl
theorem k85 : fok Tryd.prog 85 = true := by kernel_rfl
/-- examboard/examboardref04.SameRatio -/
def b58 : AF := ⟨17, 2, [.tmp 4],
  (.seq (.reg [
    ⟨some 2, .box 27 (.tmp 0), none⟩,
    ⟨some 3, .box 27 (.tmp 1), none⟩,
    ⟨some 4, .assign (.const (.bool false)), none⟩])
  (.seq (.reg [
    ⟨some 5, .fieldAddr 27 (.tmp 2) 0, none⟩,
    ⟨some 6, .load 25 (.tmp 5), none⟩,
    ⟨some 7, .fieldAddr 27 (.tmp 3) 0, none⟩,
    ⟨some 8, .load 25 (.tmp 7), none⟩,
    ⟨some 9, .call ⟨(.value (.func 85)), #[(.tmp 6), (.tmp 8)], #[25, 25]⟩, none⟩,
    ⟨some 10, .move (.tmp 9), none⟩,
    ⟨some 11, .fieldAddr 27 (.tmp 2) 1, some (10, true)⟩,
    ⟨some 12, .load 23 (.tmp 11), some (10, true)⟩,
    ⟨some 13, .fieldAddr 27 (.tmp 3) 1, some (10, true)⟩,
    ⟨some 14, .load 23 (.tmp 13), some (10, true)⟩,
    ⟨some 15, .call ⟨(.value (.func 86)), #[(.tmp 12), (.tmp 14)], #[23, 23]⟩, some (10, true)⟩,
    ⟨some 16, .pick (.tmp 10) (.tmp 15) (.const (.bool false)), none⟩,
    ⟨some 4, .assign (.tmp 16), none⟩])
  .ret))⟩
theorem c58 : fcomp Tryd.prog 58 = ⟨b58.n, b58.np, b58.res, b58.body.bare⟩ := by kernel_rfl
theorem k58 : fok Tryd.prog 58 = true := by kernel_rfl
theorem f4_SameInt (n : Bool) (m : List Int) (hm : m.length < 4611686018427387904) : AFun Tryd.prog 85 [.agg [.lit (.bool n), natD m], .agg [.lit (.bool n), natD m]] [.one (.lit (.bool true))] := by
  refine afun_intro mo_ _ _ c85 k85 _ _ rfl (by decide) ?_
  unfold b85
  simp (maxSteps:=1000000) (disch:=first | omega | (simp only [LL];omega)) only [W,V,TY,CC,reduceIte,Nat.reduceEqDiff,Nat.reduceAdd,Nat.reduceLeDiff,Nat.reduceLT,Int.reduceLE,Int.reduceLT,Int.reduceAdd,Int.reduceSub,Int.reduceToNat,Nat.reduceMul,beq_self_eq_true]
  refine a_call _ _ (f1_Same m hm) (by simp (maxSteps:=1000000) (disch:=first | omega | (simp only [LL];omega)) only [W,V,TY,CC,reduceIte,Nat.reduceEqDiff,Nat.reduceAdd,Nat.reduceLeDiff,Nat.reduceLT,Int.reduceLE,Int.reduceLT,Int.reduceAdd,Int.reduceSub,Int.reduceToNat,Nat.reduceMul]) ?_
  simp (maxSteps:=1000000) (disch:=first | omega | (simp only [LL];omega)) only [W,V,TY,CC,reduceIte,Nat.reduceEqDiff,Nat.reduceAdd,Nat.reduceLeDiff,Nat.reduceLT,Int.reduceLE,Int.reduceLT,Int.reduceAdd,Int.reduceSub,Int.reduceToNat,Nat.reduceMul,beq_self_eq_true]
  refine f_ret _ _ _ ?_
  simp (maxSteps:=1000000) (disch:=first | omega | (simp only [LL];omega)) only [W,V,TY,CC,reduceIte,Nat.reduceEqDiff,Nat.reduceAdd,Nat.reduceLeDiff,Nat.reduceLT,Int.reduceLE,Int.reduceLT,Int.reduceAdd,Int.reduceSub,Int.reduceToNat,Nat.reduceMul]
theorem f4_SameRatio {q : Rat} (hq : qs q ≤ 68719476600) : AFun Tryd.prog 58 [.agg (ratC q), .agg (ratC q)] [.one (.lit (.bool true))] := by
  have h1 := qs_num q
  have h2 := qs_den q
  refine afun_intro mo_ _ _ c58 k58 _ _ rfl (by decide) ?_
  unfold b58
  simp (maxSteps:=1000000) (disch:=first | omega | (simp only [LL];omega)) only [W,V,TY,CC,reduceIte,Nat.reduceEqDiff,Nat.reduceAdd,Nat.reduceLeDiff,Nat.reduceLT,Int.reduceLE,Int.reduceLT,Int.reduceAdd,Int.reduceSub,Int.reduceToNat,Nat.reduceMul,ratC]
  refine a_call _ _ (f4_SameInt (decide (q.num < 0)) (nl q.num.natAbs) (by omega)) (by simp (maxSteps:=1000000) (disch:=first | omega | (simp only [LL];omega)) only [W,V,TY,CC,reduceIte,Nat.reduceEqDiff,Nat.reduceAdd,Nat.reduceLeDiff,Nat.reduceLT,Int.reduceLE,Int.reduceLT,Int.reduceAdd,Int.reduceSub,Int.reduceToNat,Nat.reduceMul,ratC]) ?_
  simp (maxSteps:=1000000) (disch:=first | omega | (simp only [LL];omega)) only [W,V,TY,CC,reduceIte,Nat.reduceEqDiff,Nat.reduceAdd,Nat.reduceLeDiff,Nat.reduceLT,Int.reduceLE,Int.reduceLT,Int.reduceAdd,Int.reduceSub,Int.reduceToNat,Nat.reduceMul,ratC]
  refine a_call _ _ (f1_Same (nl q.den) (by omega)) (by simp (maxSteps:=1000000) (disch:=first | omega | (simp only [LL];omega)) only [W,V,TY,CC,reduceIte,Nat.reduceEqDiff,Nat.reduceAdd,Nat.reduceLeDiff,Nat.reduceLT,Int.reduceLE,Int.reduceLT,Int.reduceAdd,Int.reduceSub,Int.reduceToNat,Nat.reduceMul,ratC]) ?_
  simp (maxSteps:=1000000) (disch:=first | omega | (simp only [LL];omega)) only [W,V,TY,CC,reduceIte,Nat.reduceEqDiff,Nat.reduceAdd,Nat.reduceLeDiff,Nat.reduceLT,Int.reduceLE,Int.reduceLT,Int.reduceAdd,Int.reduceSub,Int.reduceToNat,Nat.reduceMul]
  refine f_ret _ _ _ ?_
  simp (maxSteps:=1000000) (disch:=first | omega | (simp only [LL];omega)) only [W,V,TY,CC,reduceIte,Nat.reduceEqDiff,Nat.reduceAdd,Nat.reduceLeDiff,Nat.reduceLT,Int.reduceLE,Int.reduceLT,Int.reduceAdd,Int.reduceSub,Int.reduceToNat,Nat.reduceMul]
end Go.Proofs.YtljmgdepldpmdaaDoor.E

set_option linter.unusedSimpArgs false
set_option linter.unusedVariables false
set_option maxHeartbeats 2000000
namespace Go.Proofs.YtljmgdepldpmdaaDoor.E
open Go.RowKit Limbs
/-! ### what is computed -/
def numB (l : List Int) : Bool := l.all fun x => decide (-1000000 ≤ x ∧ x ≤ 1000000)
theorem numB_at {l : List Int} (h : numB l = true) {i : Nat} (hi : i < l.length) : -1000000 ≤ l.getD i 0 ∧ l.getD i 0 ≤ 1000000 := by
  have := List.all_eq_true.1 h (l.getD i 0) (by rw [List.getD_eq_getElem?_getD, List.getElem?_eq_getElem hi]; exact List.getElem_mem hi)
  exact of_decide_eq_true this
theorem numB_of {l : List Int} (h : ∀ i, i < l.length → -1000000 ≤ l.getD i 0 ∧ l.getD i 0 ≤ 1000000) : numB l = true := by
  refine List.all_eq_true.2 fun x hx => ?_
  obtain ⟨i, hi, rfl⟩ := List.getElem_of_mem hx
  have := h i hi
  rw [List.getD_eq_getElem?_getD, List.getElem?_eq_getElem hi] at this
  exact decide_eq_true this
theorem numB_not {l : List Int} {i : Nat} (hi : i < l.length) (h : ¬ (-1000000 ≤ l.getD i 0 ∧ l.getD i 0 ≤ 1000000)) : numB l = false := by
  cases hn : numB l with
  | false => rfl
  | true => exact absurd (numB_at hn hi) h
def anchV (x y : List Int) : Int := if 60 < x.length ∨ 60 < y.length then 5 else if ¬ x.length = y.length then 1 else if x.length = 0 then 20 else if numB x = true ∧ numB y = true then 0 else 3
structure anchOK (x y : List Int) : Prop where
  lx : x.length ≤ 60
  ly : y.length = x.length
  pos : 0 < x.length
  nx : numB x = true
  ny : numB y = true
theorem anch_ok {x y : List Int} (h : anchV x y = 0) : anchOK x y := by
  unfold anchV at h
  split at h
  · cases h
  · split at h
    · cases h
    · split at h
      · cases h
      · split at h
        · rename_i h1 h2 h3 h4
          exact ⟨by omega, by omega, by omega, h4.1, h4.2⟩
        · cases h
theorem anchOK.swap {x y : List Int} (h : anchOK x y) : anchOK y x := ⟨by have := h.lx; have := h.ly; omega, h.ly.symm, by have := h.pos; have := h.ly; omega, h.ny, h.nx⟩
def sumL (l : List Int) : Nat → Int
  | 0 => 0
  | i + 1 => sumL l i + l.getD i 0
theorem sumL_le {l : List Int} (h : numB l = true) : ∀ i, i ≤ l.length → -1000000 * (i : Int) ≤ sumL l i ∧ sumL l i ≤ 1000000 * (i : Int)
  | 0, _ => by simp [sumL]
  | i + 1, hi => by
    have h1 := sumL_le h i (by omega)
    have h2 := numB_at h (i := i) (by omega)
    unfold sumL
    omega
def absI (d : Int) : Int := if 0 - d > d then 0 - d else d
theorem absI_le (d : Int) : 0 ≤ absI d ∧ (absI d = d ∨ absI d = -d) := by unfold absI; split <;> omega
def devZ (l : List Int) : Nat → Int
  | 0 => 0
  | i + 1 => devZ l i + absI (l.getD i 0 * l.length - sumL l l.length)
theorem pt_le {l : List Int} (h : numB l = true) (h60 : l.length ≤ 60) {i : Nat} (hi : i < l.length) : -60000000 ≤ l.getD i 0 * l.length ∧ l.getD i 0 * l.length ≤ 60000000 := by
  have h2 := numB_at h hi
  constructor
  · have : (-1000000 : Int) * l.length ≤ l.getD i 0 * l.length := Int.mul_le_mul_of_nonneg_right h2.1 (by omega)
    omega
  · have : l.getD i 0 * l.length ≤ (1000000 : Int) * l.length := Int.mul_le_mul_of_nonneg_right h2.2 (by omega)
    omega
theorem devZ_le {l : List Int} (h : numB l = true) (h60 : l.length ≤ 60) : ∀ i, i ≤ l.length → 0 ≤ devZ l i ∧ devZ l i ≤ 120000000 * (i : Int)
  | 0, _ => by simp [devZ]
  | i + 1, hi => by
    have h1 := devZ_le h h60 i (by omega)
    have h2 := pt_le h h60 (i := i) (by omega)
    have h3 := sumL_le h l.length (Nat.le_refl _)
    have h4 := absI_le (l.getD i 0 * l.length - sumL l l.length)
    unfold devZ
    omega
def meanQ (l : List Int) : Rat := Rat.divInt (sumL l l.length) l.length
theorem qs_mean {l : List Int} (h : numB l = true) (h60 : l.length ≤ 60) : qs (meanQ l) ≤ 10 := by
  have h3 := sumL_le h l.length (Nat.le_refl _)
  have d := qs_div (sumL l l.length) l.length
  have e := zl_i64 (x := sumL l l.length) (by omega) (by omega)
  have f := zl_i64 (x := (l.length : Int)) (by omega) (by omega)
  unfold meanQ
  omega
def lossQ (A B : Rat) (x y : List Int) : Nat → Rat
  | 0 => 0
  | i + 1 => lossQ A B x y i + (A * (x.getD i 0 : Int) + B - (y.getD i 0 : Int)) * (A * (x.getD i 0 : Int) + B - (y.getD i 0 : Int))
theorem qs_res {A B : Rat} {k : Nat} (hA : qs A ≤ k) (hB : qs B ≤ k) {x y : Int} (x0 : -1000000 ≤ x) (x1 : x ≤ 1000000) (y0 : -1000000 ≤ y) (y1 : y ≤ 1000000) :
    qs (A * (x : Int)) ≤ k + 11 ∧ qs (A * (x : Int) + B) ≤ 2 * k + 12 ∧ qs (A * (x : Int) + B - (y : Int)) ≤ 2 * k + 23 ∧ qs ((A * (x : Int) + B - (y : Int)) * (A * (x : Int) + B - (y : Int))) ≤ 4 * k + 47 := by
  have a := qs_int (x := x) (by omega) (by omega)
  have b := qs_int (x := y) (by omega) (by omega)
  have c := qs_mul A (x : Int)
  have d := qs_add (A * (x : Int)) B
  have e := qs_sub (A * (x : Int) + B) (y : Int)
  have f := qs_mul (A * (x : Int) + B - (y : Int)) (A * (x : Int) + B - (y : Int))
  omega
theorem qs_loss {A B : Rat} {k : Nat} (hA : qs A ≤ k) (hB : qs B ≤ k) {x y : List Int} (hx : numB x = true) (hy : numB y = true) (hl : y.length = x.length) : ∀ i, i ≤ x.length → qs (lossQ A B x y i) ≤ 10 + i * (4 * k + 48)
  | 0, _ => by
    have := qs_int (x := 0) (by decide) (by decide)
    show qs 0 ≤ _
    rw [show (0 : Rat) = ((0 : Int) : Rat) from rfl]
    omega
  | i + 1, hi => by
    have h1 := qs_loss hA hB hx hy hl i (by omega)
    have h2 := numB_at hx (i := i) (by omega)
    have h3 := numB_at hy (i := i) (by omega)
    have h4 := (qs_res hA hB h2.1 h2.2 h3.1 h3.2).2.2.2
    have h5 := qs_add (lossQ A B x y i) ((A * (x.getD i 0 : Int) + B - (y.getD i 0 : Int)) * (A * (x.getD i 0 : Int) + B - (y.getD i 0 : Int)))
    show qs (lossQ A B x y i + _) ≤ _
    rw [Nat.add_mul]
    omega
def spreadA (x y : List Int) : Rat := Rat.divInt (devZ y y.length) (devZ x x.length)
theorem sgnQ_pos (q : Rat) : 0 < sgnQ q ↔ 0 < q := by
  unfold sgnQ
  split
  · exact ⟨fun h => absurd h (by decide), fun h => by grind⟩
  · split
    · exact ⟨fun h => absurd h (by decide), fun h => by grind⟩
    · exact ⟨fun _ => by grind, fun _ => by decide⟩
theorem rokI {x : Int} (h0 : -9223372036854775808 ≤ x) (h1 : x < 9223372036854775808) : rok 68719476600 (nr (x : Rat)) := rok_nr (by have := qs_int h0 h1; omega)
/-! ### the functions -/
/-- examboard/linking.fraction -/
def b60 : AF := ⟨14, 2, [.cell 4 27],
  (.seq (.reg [
    ⟨some 4, .alloc 27, none⟩])
  (.seq (.reg [
    ⟨some 8, .move (.tmp 0), none⟩,
    ⟨some 9, .move (.tmp 1), none⟩,
    ⟨some 10, .call ⟨(.value (.func 44)), #[(.tmp 8), (.tmp 9)], #[2, 2]⟩, none⟩,
    ⟨some 7, .move (.tmp 10), none⟩,
    ⟨some 11, .extract (.tmp 7) 0, none⟩,
    ⟨some 12, .extract (.tmp 7) 1, none⟩,
    ⟨some 5, .alloc 27, none⟩,
    ⟨none, .store 27 (.tmp 5) (.tmp 11), none⟩,
    ⟨some 6, .assign (.tmp 12), none⟩])
  (.seq (.reg [
    ⟨some 13, .load 27 (.tmp 5), none⟩,
    ⟨none, .store 27 (.tmp 4) (.tmp 13), none⟩])
  .ret)))⟩
theorem c60 : fcomp Tryd.prog 60 = ⟨b60.n, b60.np, b60.res, b60.body.bare⟩ := by kernel_rfl
theorem k60 : fok Tryd.prog 60 = true := by kernel_rfl
theorem k_fraction (a d : Int) (a0 : -9223372036854775808 ≤ a) (a1 : a < 9223372036854775808) (d0 : -9223372036854775808 ≤ d) (d1 : d < 9223372036854775808) : AFun Tryd.prog 60 [.one (.lit (.int .i64 a)), .one (.lit (.int .i64 d))] [.agg (ratC (Rat.divInt a d))] := by
  have co := rat_Of a d a0 a1 d0 d1
  refine afun_intro mo_ _ _ c60 k60 _ _ rfl (by decide) ?_
  unfold b60
  simp (maxSteps:=1000000) (disch:=first | omega | (simp only [LL];omega)) only [W,V,TY,CC,reduceIte,Nat.reduceEqDiff,Nat.reduceAdd,Nat.reduceLeDiff,Nat.reduceLT,Int.reduceLE,Int.reduceLT,Int.reduceAdd,Int.reduceSub,Int.reduceToNat,Nat.reduceMul]
  refine a_call _ _ co (by simp (maxSteps:=1000000) (disch:=first | omega | (simp only [LL];omega)) only [W,V,TY,CC,reduceIte,Nat.reduceEqDiff,Nat.reduceAdd,Nat.reduceLeDiff,Nat.reduceLT,Int.reduceLE,Int.reduceLT,Int.reduceAdd,Int.reduceSub,Int.reduceToNat,Nat.reduceMul,ratC]) ?_
  simp (maxSteps:=1000000) (disch:=first | omega | (simp only [LL];omega)) only [W,V,TY,CC,reduceIte,Nat.reduceEqDiff,Nat.reduceAdd,Nat.reduceLeDiff,Nat.reduceLT,Int.reduceLE,Int.reduceLT,Int.reduceAdd,Int.reduceSub,Int.reduceToNat,Nat.reduceMul,ratC]
  refine f_ret _ _ _ ?_
  simp (maxSteps:=1000000) (disch:=first | omega | (simp only [LL];omega)) only [W,V,TY,CC,reduceIte,Nat.reduceEqDiff,Nat.reduceAdd,Nat.reduceLeDiff,Nat.reduceLT,Int.reduceLE,Int.reduceLT,Int.reduceAdd,Int.reduceSub,Int.reduceToNat,Nat.reduceMul,ratC]
theorem k_whole (a : Int) (a0 : -9223372036854775808 ≤ a) (a1 : a < 9223372036854775808) : AFun Tryd.prog 60 [.one (.lit (.int .i64 a)), .one (.lit (.int .i64 1))] [.agg (ratC (a : Rat))] := by
  have := k_fraction a 1 a0 a1 (by decide) (by decide)
  rwa [divInt_one] at this
/-- examboard/linking.Valid -/
def b36 : AF := ⟨7, 1, [.tmp 2],
  (.seq (.reg [
    ⟨some 1, .box 53 (.tmp 0), none⟩,
    ⟨some 2, .assign (.const (.bool false)), none⟩])
  (.seq (.reg [
    ⟨some 3, .fieldAddr 53 (.tmp 1) 0, none⟩,
    ⟨some 4, .load 27 (.tmp 3), none⟩,
    ⟨some 5, .call ⟨(.value (.func 22)), #[(.tmp 4)], #[27]⟩, none⟩,
    ⟨some 6, .binOp .gtr 3 (.tmp 5) (.const (.int .i64 0)) 3, none⟩,
    ⟨some 2, .assign (.tmp 6), none⟩])
  .ret))⟩
theorem c36 : fcomp Tryd.prog 36 = ⟨b36.n, b36.np, b36.res, b36.body.bare⟩ := by kernel_rfl
theorem k36 : fok Tryd.prog 36 = true := by kernel_rfl
/-- examboard/linking.Apply -/
def b33 : AF := ⟨12, 2, [.cell 4 27],
  (.seq (.reg [
    ⟨some 2, .box 53 (.tmp 0), none⟩,
    ⟨some 3, .box 27 (.tmp 1), none⟩,
    ⟨some 4, .alloc 27, none⟩])
  (.seq (.dreg [
    ⟨some 5, .fieldAddr 53 (.tmp 2) 0, none⟩,
    ⟨some 6, .load 27 (.tmp 5), none⟩,
    ⟨some 7, .load 27 (.tmp 3), none⟩,
    ⟨some 8, .call ⟨(.value (.func 18)), #[(.tmp 6), (.tmp 7)], #[27, 27]⟩, none⟩,
    ⟨some 9, .fieldAddr 53 (.tmp 2) 1, none⟩,
    ⟨some 10, .load 27 (.tmp 9), none⟩,
    ⟨some 11, .call ⟨(.value (.func 14)), #[(.tmp 8), (.tmp 10)], #[27, 27]⟩, none⟩,
    ⟨none, .store 27 (.tmp 4) (.tmp 11), none⟩])
  .ret))⟩
theorem c33 : fcomp Tryd.prog 33 = ⟨b33.n, b33.np, b33.res, b33.body.bare⟩ := by kernel_rfl
theorem k33 : fok Tryd.prog 33 = true := by kernel_rfl
/-- examboard/linking.Compose -/
def b32 : AF := ⟨15, 2, [.cell 4 53],
  (.seq (.reg [
    ⟨some 2, .box 53 (.tmp 0), none⟩,
    ⟨some 3, .box 53 (.tmp 1), none⟩,
    ⟨some 4, .alloc 53, none⟩])
  (.seq (.dreg [
    ⟨some 5, .fieldAddr 53 (.tmp 2) 0, none⟩,
    ⟨some 6, .load 27 (.tmp 5), none⟩,
    ⟨some 7, .fieldAddr 53 (.tmp 3) 0, none⟩,
    ⟨some 8, .load 27 (.tmp 7), none⟩,
    ⟨some 9, .call ⟨(.value (.func 18)), #[(.tmp 6), (.tmp 8)], #[27, 27]⟩, none⟩,
    ⟨some 10, .load 53 (.tmp 3), none⟩,
    ⟨some 11, .fieldAddr 53 (.tmp 2) 1, none⟩,
    ⟨some 12, .load 27 (.tmp 11), none⟩,
    ⟨some 13, .call ⟨(.value (.func 33)), #[(.tmp 10), (.tmp 12)], #[53, 27]⟩, none⟩,
    ⟨some 14, .build 53 #[(0, (.tmp 9)), (1, (.tmp 13))], none⟩,
    ⟨none, .store 53 (.tmp 4) (.tmp 14), none⟩])
  .ret))⟩
theorem c32 : fcomp Tryd.prog 32 = ⟨b32.n, b32.np, b32.res, b32.body.bare⟩ := by kernel_rfl
theorem k32 : fok Tryd.prog 32 = true := by kernel_rfl
section
variable {A B : RR} (hA : rok 68719476600 A) (hB : rok 68719476600 B)
include hA
theorem k_Valid : AFun Tryd.prog 36 [.agg (rC A ++ rC B)] [.one (.lit (.bool (decide (0 < A.q))))] := by
  have cs := R_Sign hA
  have g : (0 < sgnQ A.q) = (0 < A.q) := propext (sgnQ_pos A.q)
  generalize sgnQ A.q = sg at *
  refine afun_intro mo_ _ _ c36 k36 _ _ rfl (by decide) ?_
  unfold b36
  simp (maxSteps:=1000000) (disch:=first | omega | (simp only [LL];omega)) only [W,V,TY,CC,reduceIte,Nat.reduceEqDiff,Nat.reduceAdd,Nat.reduceLeDiff,Nat.reduceLT,Int.reduceLE,Int.reduceLT,Int.reduceAdd,Int.reduceSub,Int.reduceToNat,Nat.reduceMul,rC]
  refine a_call _ _ cs (by simp (maxSteps:=1000000) (disch:=first | omega | (simp only [LL];omega)) only [W,V,TY,CC,reduceIte,Nat.reduceEqDiff,Nat.reduceAdd,Nat.reduceLeDiff,Nat.reduceLT,Int.reduceLE,Int.reduceLT,Int.reduceAdd,Int.reduceSub,Int.reduceToNat,Nat.reduceMul,rC,sQ,ratC]) ?_
  simp (maxSteps:=1000000) (disch:=first | omega | (simp only [LL];omega)) only [W,V,TY,CC,reduceIte,Nat.reduceEqDiff,Nat.reduceAdd,Nat.reduceLeDiff,Nat.reduceLT,Int.reduceLE,Int.reduceLT,Int.reduceAdd,Int.reduceSub,Int.reduceToNat,Nat.reduceMul,rC,sQ,ratC]
  refine f_ret _ _ _ ?_
  simp (maxSteps:=1000000) (disch:=first | omega | (simp only [LL];omega)) only [W,V,TY,CC,reduceIte,Nat.reduceEqDiff,Nat.reduceAdd,Nat.reduceLeDiff,Nat.reduceLT,Int.reduceLE,Int.reduceLT,Int.reduceAdd,Int.reduceSub,Int.reduceToNat,Nat.reduceMul,g]
include hB
theorem k_Apply {x : RR} (hx : rok 68719476600 x) (hm : qs (A.q * x.q) ≤ 68719476600) : AFun Tryd.prog 33 [.agg (rC A ++ rC B), .agg (rC x)] [.agg (ratC (A.q * x.q + B.q))] := by
  have m1 := R_Mul hA hx
  have a1 := R_Add (rok_nr hm) hB
  rw [nr_q, rC_nr] at a1
  refine afun_intro mo_ _ _ c33 k33 _ _ rfl (by decide) ?_
  unfold b33
  simp (maxSteps:=1000000) (disch:=first | omega | (simp only [LL];omega)) only [W,V,TY,CC,reduceIte,Nat.reduceEqDiff,Nat.reduceAdd,Nat.reduceLeDiff,Nat.reduceLT,Int.reduceLE,Int.reduceLT,Int.reduceAdd,Int.reduceSub,Int.reduceToNat,Nat.reduceMul,rC]
  refine a_call _ _ m1 (by simp (maxSteps:=1000000) (disch:=first | omega | (simp only [LL];omega)) only [W,V,TY,CC,reduceIte,Nat.reduceEqDiff,Nat.reduceAdd,Nat.reduceLeDiff,Nat.reduceLT,Int.reduceLE,Int.reduceLT,Int.reduceAdd,Int.reduceSub,Int.reduceToNat,Nat.reduceMul,rC,sQ,ratC]) ?_
  simp (maxSteps:=1000000) (disch:=first | omega | (simp only [LL];omega)) only [W,V,TY,CC,reduceIte,Nat.reduceEqDiff,Nat.reduceAdd,Nat.reduceLeDiff,Nat.reduceLT,Int.reduceLE,Int.reduceLT,Int.reduceAdd,Int.reduceSub,Int.reduceToNat,Nat.reduceMul,rC,sQ,ratC]
  refine a_call _ _ a1 (by simp (maxSteps:=1000000) (disch:=first | omega | (simp only [LL];omega)) only [W,V,TY,CC,reduceIte,Nat.reduceEqDiff,Nat.reduceAdd,Nat.reduceLeDiff,Nat.reduceLT,Int.reduceLE,Int.reduceLT,Int.reduceAdd,Int.reduceSub,Int.reduceToNat,Nat.reduceMul,rC,sQ,ratC]) ?_
  simp (maxSteps:=1000000) (disch:=first | omega | (simp only [LL];omega)) only [W,V,TY,CC,reduceIte,Nat.reduceEqDiff,Nat.reduceAdd,Nat.reduceLeDiff,Nat.reduceLT,Int.reduceLE,Int.reduceLT,Int.reduceAdd,Int.reduceSub,Int.reduceToNat,Nat.reduceMul,rC,sQ,ratC]
  refine f_ret _ _ _ ?_
  simp (maxSteps:=1000000) (disch:=first | omega | (simp only [LL];omega)) only [W,V,TY,CC,reduceIte,Nat.reduceEqDiff,Nat.reduceAdd,Nat.reduceLeDiff,Nat.reduceLT,Int.reduceLE,Int.reduceLT,Int.reduceAdd,Int.reduceSub,Int.reduceToNat,Nat.reduceMul,rC,sQ,ratC]
end
theorem k_Compose {A B C D : RR} (hA : rok 68719476600 A) (hB : rok 68719476600 B) (hC : rok 68719476600 C) (hD : rok 68719476600 D) (hm : qs (C.q * B.q) ≤ 68719476600) : AFun Tryd.prog 32 [.agg (rC A ++ rC B), .agg (rC C ++ rC D)] [.agg (sQ (A.q * C.q) (C.q * B.q + D.q))] := by
  have m1 := R_Mul hA hC
  have a1 := k_Apply hC hD hB hm
  refine afun_intro mo_ _ _ c32 k32 _ _ rfl (by decide) ?_
  unfold b32
  simp (maxSteps:=1000000) (disch:=first | omega | (simp only [LL];omega)) only [W,V,TY,CC,reduceIte,Nat.reduceEqDiff,Nat.reduceAdd,Nat.reduceLeDiff,Nat.reduceLT,Int.reduceLE,Int.reduceLT,Int.reduceAdd,Int.reduceSub,Int.reduceToNat,Nat.reduceMul,rC,sQ]
  refine a_call _ _ m1 (by simp (maxSteps:=1000000) (disch:=first | omega | (simp only [LL];omega)) only [W,V,TY,CC,reduceIte,Nat.reduceEqDiff,Nat.reduceAdd,Nat.reduceLeDiff,Nat.reduceLT,Int.reduceLE,Int.reduceLT,Int.reduceAdd,Int.reduceSub,Int.reduceToNat,Nat.reduceMul,rC,sQ,ratC]) ?_
  simp (maxSteps:=1000000) (disch:=first | omega | (simp only [LL];omega)) only [W,V,TY,CC,reduceIte,Nat.reduceEqDiff,Nat.reduceAdd,Nat.reduceLeDiff,Nat.reduceLT,Int.reduceLE,Int.reduceLT,Int.reduceAdd,Int.reduceSub,Int.reduceToNat,Nat.reduceMul,rC,sQ,ratC]
  refine a_call _ _ a1 (by simp (maxSteps:=1000000) (disch:=first | omega | (simp only [LL];omega)) only [W,V,TY,CC,reduceIte,Nat.reduceEqDiff,Nat.reduceAdd,Nat.reduceLeDiff,Nat.reduceLT,Int.reduceLE,Int.reduceLT,Int.reduceAdd,Int.reduceSub,Int.reduceToNat,Nat.reduceMul,rC,sQ,ratC]) ?_
  simp (maxSteps:=1000000) (disch:=first | omega | (simp only [LL];omega)) only [W,V,TY,CC,reduceIte,Nat.reduceEqDiff,Nat.reduceAdd,Nat.reduceLeDiff,Nat.reduceLT,Int.reduceLE,Int.reduceLT,Int.reduceAdd,Int.reduceSub,Int.reduceToNat,Nat.reduceMul,rC,sQ,ratC]
  refine f_ret _ _ _ ?_
  simp (maxSteps:=1000000) (disch:=first | omega | (simp only [LL];omega)) only [W,V,TY,CC,reduceIte,Nat.reduceEqDiff,Nat.reduceAdd,Nat.reduceLeDiff,Nat.reduceLT,Int.reduceLE,Int.reduceLT,Int.reduceAdd,Int.reduceSub,Int.reduceToNat,Nat.reduceMul,rC,sQ,ratC]
/-- examboard/linking.Invert -/
def b35 : AF := ⟨24, 1, [.cell 2 53, .tmp 3],
  (.seq (.reg [
    ⟨some 1, .box 53 (.tmp 0), none⟩,
    ⟨some 2, .alloc 53, none⟩,
    ⟨some 3, .assign (.const (.int .i64 0)), none⟩])
  (.seq (.seq (.reg [
    ⟨some 6, .load 53 (.tmp 1), none⟩,
    ⟨some 7, .call ⟨(.value (.func 36)), #[(.tmp 6)], #[53]⟩, none⟩,
    ⟨some 8, .unOp .not 4 (.tmp 7), none⟩])
  (.cond (.tmp 8)
    (.seq (.reg [
      ⟨some 9, .build 53 #[], none⟩,
      ⟨none, .store 53 (.tmp 2) (.tmp 9), none⟩,
      ⟨some 3, .assign (.const (.int .i64 1)), none⟩])
    .ret)
    .skip))
  (.seq (.dreg [
    ⟨some 11, .call ⟨(.value (.func 60)), #[(.const (.int .i64 1)), (.const (.int .i64 1))], #[3, 3]⟩, none⟩,
    ⟨some 12, .fieldAddr 53 (.tmp 1) 0, none⟩,
    ⟨some 13, .load 27 (.tmp 12), none⟩,
    ⟨some 14, .call ⟨(.value (.func 59)), #[(.tmp 11), (.tmp 13)], #[27, 27]⟩, none⟩,
    ⟨some 10, .move (.tmp 14), none⟩,
    ⟨some 15, .extract (.tmp 10) 0, none⟩,
    ⟨some 16, .extract (.tmp 10) 1, none⟩,
    ⟨some 4, .alloc 27, none⟩,
    ⟨none, .store 27 (.tmp 4) (.tmp 15), none⟩,
    ⟨some 5, .assign (.tmp 16), none⟩])
  (.seq (.dreg [
    ⟨some 17, .load 27 (.tmp 4), none⟩,
    ⟨some 18, .load 27 (.tmp 4), none⟩,
    ⟨some 19, .fieldAddr 53 (.tmp 1) 1, none⟩,
    ⟨some 20, .load 27 (.tmp 19), none⟩,
    ⟨some 21, .call ⟨(.value (.func 18)), #[(.tmp 18), (.tmp 20)], #[27, 27]⟩, none⟩,
    ⟨some 22, .call ⟨(.value (.func 61)), #[(.tmp 21)], #[27]⟩, none⟩,
    ⟨some 23, .build 53 #[(0, (.tmp 17)), (1, (.tmp 22))], none⟩,
    ⟨none, .store 53 (.tmp 2) (.tmp 23), none⟩,
    ⟨some 3, .assign (.const (.int .i64 0)), none⟩])
  .ret))))⟩
theorem c35 : fcomp Tryd.prog 35 = ⟨b35.n, b35.np, b35.res, b35.body.bare⟩ := by kernel_rfl
theorem k35 : fok Tryd.prog 35 = true := by kernel_rfl
theorem k_Invert {A B : RR} (hA : rok 68719476600 A) (hB : rok 68719476600 B) (hp : 0 < A.q) (h1 : qs (1 / A.q) ≤ 68719476600) (h2 : qs (1 / A.q * B.q) ≤ 68719476600) : AFun Tryd.prog 35 [.agg (rC A ++ rC B)] [.agg (sQ (1 / A.q) (-(1 / A.q * B.q))), .one (.lit (.int .i64 0))] := by
  have v1 := k_Valid (B := B) hA
  rw [decide_eq_true hp] at v1
  have f1 := k_whole 1 (by decide) (by decide)
  have d1 := R_Div (rokI (x := 1) (by decide) (by decide)) hA
  have m1 := R_Mul (rok_nr h1) hB
  have n1 := R_Neg (rok_nr h2)
  simp only [nr_q, rC_nr] at d1 m1 n1
  rw [show ((1 : Int) : Rat) = 1 from rfl] at d1 f1
  refine afun_intro mo_ _ _ c35 k35 _ _ rfl (by decide) ?_
  unfold b35
  simp (maxSteps:=1000000) (disch:=first | omega | (simp only [LL];omega)) only [W,V,TY,CC,reduceIte,Nat.reduceEqDiff,Nat.reduceAdd,Nat.reduceLeDiff,Nat.reduceLT,Int.reduceLE,Int.reduceLT,Int.reduceAdd,Int.reduceSub,Int.reduceToNat,Nat.reduceMul,rC,sQ]
  refine a_call _ _ v1 (by simp (maxSteps:=1000000) (disch:=first | omega | (simp only [LL];omega)) only [W,V,TY,CC,reduceIte,Nat.reduceEqDiff,Nat.reduceAdd,Nat.reduceLeDiff,Nat.reduceLT,Int.reduceLE,Int.reduceLT,Int.reduceAdd,Int.reduceSub,Int.reduceToNat,Nat.reduceMul,rC,sQ,ratC]) ?_
  simp (maxSteps:=1000000) (disch:=first | omega | (simp only [LL];omega)) only [W,V,TY,CC,reduceIte,Nat.reduceEqDiff,Nat.reduceAdd,Nat.reduceLeDiff,Nat.reduceLT,Int.reduceLE,Int.reduceLT,Int.reduceAdd,Int.reduceSub,Int.reduceToNat,Nat.reduceMul,rC,sQ,ratC]
  refine a_call _ _ f1 (by simp (maxSteps:=1000000) (disch:=first | omega | (simp only [LL];omega)) only [W,V,TY,CC,reduceIte,Nat.reduceEqDiff,Nat.reduceAdd,Nat.reduceLeDiff,Nat.reduceLT,Int.reduceLE,Int.reduceLT,Int.reduceAdd,Int.reduceSub,Int.reduceToNat,Nat.reduceMul,rC,sQ,ratC]) ?_
  simp (maxSteps:=1000000) (disch:=first | omega | (simp only [LL];omega)) only [W,V,TY,CC,reduceIte,Nat.reduceEqDiff,Nat.reduceAdd,Nat.reduceLeDiff,Nat.reduceLT,Int.reduceLE,Int.reduceLT,Int.reduceAdd,Int.reduceSub,Int.reduceToNat,Nat.reduceMul,rC,sQ,ratC]
  refine a_call _ _ d1 (by simp (maxSteps:=1000000) (disch:=first | omega | (simp only [LL];omega)) only [W,V,TY,CC,reduceIte,Nat.reduceEqDiff,Nat.reduceAdd,Nat.reduceLeDiff,Nat.reduceLT,Int.reduceLE,Int.reduceLT,Int.reduceAdd,Int.reduceSub,Int.reduceToNat,Nat.reduceMul,rC,sQ,ratC]) ?_
  simp (maxSteps:=1000000) (disch:=first | omega | (simp only [LL];omega)) only [W,V,TY,CC,reduceIte,Nat.reduceEqDiff,Nat.reduceAdd,Nat.reduceLeDiff,Nat.reduceLT,Int.reduceLE,Int.reduceLT,Int.reduceAdd,Int.reduceSub,Int.reduceToNat,Nat.reduceMul,rC,sQ,ratC]
  refine a_call _ _ m1 (by simp (maxSteps:=1000000) (disch:=first | omega | (simp only [LL];omega)) only [W,V,TY,CC,reduceIte,Nat.reduceEqDiff,Nat.reduceAdd,Nat.reduceLeDiff,Nat.reduceLT,Int.reduceLE,Int.reduceLT,Int.reduceAdd,Int.reduceSub,Int.reduceToNat,Nat.reduceMul,rC,sQ,ratC]) ?_
  simp (maxSteps:=1000000) (disch:=first | omega | (simp only [LL];omega)) only [W,V,TY,CC,reduceIte,Nat.reduceEqDiff,Nat.reduceAdd,Nat.reduceLeDiff,Nat.reduceLT,Int.reduceLE,Int.reduceLT,Int.reduceAdd,Int.reduceSub,Int.reduceToNat,Nat.reduceMul,rC,sQ,ratC]
  refine a_call _ _ n1 (by simp (maxSteps:=1000000) (disch:=first | omega | (simp only [LL];omega)) only [W,V,TY,CC,reduceIte,Nat.reduceEqDiff,Nat.reduceAdd,Nat.reduceLeDiff,Nat.reduceLT,Int.reduceLE,Int.reduceLT,Int.reduceAdd,Int.reduceSub,Int.reduceToNat,Nat.reduceMul,rC,sQ,ratC]) ?_
  simp (maxSteps:=1000000) (disch:=first | omega | (simp only [LL];omega)) only [W,V,TY,CC,reduceIte,Nat.reduceEqDiff,Nat.reduceAdd,Nat.reduceLeDiff,Nat.reduceLT,Int.reduceLE,Int.reduceLT,Int.reduceAdd,Int.reduceSub,Int.reduceToNat,Nat.reduceMul,rC,sQ,ratC]
  refine f_ret _ _ _ ?_
  simp (maxSteps:=1000000) (disch:=first | omega | (simp only [LL];omega)) only [W,V,TY,CC,reduceIte,Nat.reduceEqDiff,Nat.reduceAdd,Nat.reduceLeDiff,Nat.reduceLT,Int.reduceLE,Int.reduceLT,Int.reduceAdd,Int.reduceSub,Int.reduceToNat,Nat.reduceMul,rC,sQ,ratC]
theorem k_InvertBad {A B : RR} (hA : rok 68719476600 A) (hp : ¬ 0 < A.q) : AFun Tryd.prog 35 [.agg (rC A ++ rC B)] [.agg zS, .one (.lit (.int .i64 1))] := by
  have v1 := k_Valid (B := B) hA
  rw [decide_eq_false hp] at v1
  refine afun_intro mo_ _ _ c35 k35 _ _ rfl (by decide) ?_
  unfold b35
  simp (maxSteps:=1000000) (disch:=first | omega | (simp only [LL];omega)) only [W,V,TY,CC,reduceIte,Nat.reduceEqDiff,Nat.reduceAdd,Nat.reduceLeDiff,Nat.reduceLT,Int.reduceLE,Int.reduceLT,Int.reduceAdd,Int.reduceSub,Int.reduceToNat,Nat.reduceMul,rC]
  refine a_call _ _ v1 (by simp (maxSteps:=1000000) (disch:=first | omega | (simp only [LL];omega)) only [W,V,TY,CC,reduceIte,Nat.reduceEqDiff,Nat.reduceAdd,Nat.reduceLeDiff,Nat.reduceLT,Int.reduceLE,Int.reduceLT,Int.reduceAdd,Int.reduceSub,Int.reduceToNat,Nat.reduceMul,rC,sQ,ratC]) ?_
  simp (maxSteps:=1000000) (disch:=first | omega | (simp only [LL];omega)) only [W,V,TY,CC,reduceIte,Nat.reduceEqDiff,Nat.reduceAdd,Nat.reduceLeDiff,Nat.reduceLT,Int.reduceLE,Int.reduceLT,Int.reduceAdd,Int.reduceSub,Int.reduceToNat,Nat.reduceMul,rC,sQ,ratC]
  refine f_ret _ _ _ ?_
  simp (maxSteps:=1000000) (disch:=first | omega | (simp only [LL];omega)) only [W,V,TY,CC,reduceIte,Nat.reduceEqDiff,Nat.reduceAdd,Nat.reduceLeDiff,Nat.reduceLT,Int.reduceLE,Int.reduceLT,Int.reduceAdd,Int.reduceSub,Int.reduceToNat,Nat.reduceMul,zS]
  rfl
/-- examboard/linking.numbers -/
def b87 : AF := ⟨18, 1, [.tmp 2],
  (.seq (.reg [
    ⟨some 2, .assign (.const (.bool false)), none⟩])
  (.seq (.seq (.reg [
    ⟨some 5, .move (.tmp 0), none⟩,
    ⟨some 6, .call ⟨(.builtin .len), #[(.tmp 5)], #[62]⟩, none⟩,
    ⟨some 7, .move (.const (.int .i64 0)), none⟩])
  (.block 0 (.loop (.seq (.reg [
    ⟨some 8, .binOp .lss 3 (.tmp 7) (.tmp 6) 3, none⟩])
  (.seq (.cond (.tmp 8)
    .skip
    (.exit 0))
  (.seq (.block 1 (.seq (.reg [
    ⟨some 9, .indexAddr 62 (.tmp 5) (.tmp 7), none⟩,
    ⟨some 10, .load 3 (.tmp 9), none⟩,
    ⟨some 4, .assign (.tmp 10), none⟩])
  (.seq (.reg [
    ⟨some 11, .move (.tmp 4), none⟩,
    ⟨some 12, .binOp .lss 3 (.tmp 11) (.const (.int .i64 (-1000000))) 3, none⟩,
    ⟨some 13, .move (.tmp 12), none⟩,
    ⟨some 14, .move (.tmp 4), some (13, false)⟩,
    ⟨some 15, .binOp .gtr 3 (.tmp 14) (.const (.int .i64 1000000)) 3, some (13, false)⟩,
    ⟨some 16, .pick (.tmp 13) (.const (.bool true)) (.tmp 15), none⟩])
  (.cond (.tmp 16)
    (.seq (.reg [
      ⟨some 2, .assign (.const (.bool false)), none⟩])
    .ret)
    .skip))))
  (.reg [
    ⟨some 17, .binOp .add 3 (.tmp 7) (.const (.int .i64 1)) 3, none⟩,
    ⟨some 7, .move (.tmp 17), none⟩])))))))
  (.seq (.reg [
    ⟨some 2, .assign (.const (.bool true)), none⟩])
  .ret)))⟩
theorem c87 : fcomp Tryd.prog 87 = ⟨b87.n, b87.np, b87.res, b87.body.bare⟩ := by kernel_rfl
theorem k87 : fok Tryd.prog 87 = true := by kernel_rfl
theorem k_numbers (l : List Int) (hl : l.length ≤ 9223372036854775807) : AFun Tryd.prog 87 [.one (intsD l)] [.one (.lit (.bool (numB l)))] := by
  refine afun_intro mo_ _ _ c87 k87 _ _ rfl (by decide) ?_
  unfold b87
  simp (maxSteps:=1000000) (disch:=first | omega | (simp only [LL];omega)) only [W,V,TY,CC,reduceIte,Nat.reduceEqDiff,Nat.reduceAdd,Nat.reduceLeDiff,Nat.reduceLT,Int.reduceLE,Int.reduceLT,Int.reduceAdd,Int.reduceSub,Int.reduceToNat,Nat.reduceMul]
  refine w_loop (fun n s => ∃ i : Nat, n + i = l.length ∧ s.t 5 = .one (.dt (intsD l)) ∧ s.t 6 = .one (.dt (.lit (.int .i64 l.length))) ∧ s.t 7 = .one (.dt (.lit (.int .i64 i))) ∧ ∀ j : Nat, j < i → -1000000 ≤ l.getD j 0 ∧ l.getD j 0 ≤ 1000000) l.length ⟨0, rfl, ?_, ?_, ?_, fun j hj => by omega⟩ ?_
  · simp (maxSteps:=1000000) (disch:=first | omega | (simp only [LL];omega)) only [W,V,TY,CC,reduceIte,Nat.reduceEqDiff,Nat.reduceAdd,Nat.reduceLeDiff,Nat.reduceLT,Int.reduceLE,Int.reduceLT,Int.reduceAdd,Int.reduceSub,Int.reduceToNat,Nat.reduceMul]
  · simp (maxSteps:=1000000) (disch:=first | omega | (simp only [LL];omega)) only [W,V,TY,CC,reduceIte,Nat.reduceEqDiff,Nat.reduceAdd,Nat.reduceLeDiff,Nat.reduceLT,Int.reduceLE,Int.reduceLT,Int.reduceAdd,Int.reduceSub,Int.reduceToNat,Nat.reduceMul]
  · simp (maxSteps:=1000000) (disch:=first | omega | (simp only [LL];omega)) only [W,V,TY,CC,reduceIte,Nat.reduceEqDiff,Nat.reduceAdd,Nat.reduceLeDiff,Nat.reduceLT,Int.reduceLE,Int.reduceLT,Int.reduceAdd,Int.reduceSub,Int.reduceToNat,Nat.reduceMul]
  intro n s _ ⟨i, e, t5, t6, t7, ho⟩
  simp (maxSteps:=1000000) (disch:=first | omega | (simp only [LL];omega)) only [W,V,TY,CC,reduceIte,Nat.reduceEqDiff,Nat.reduceAdd,Nat.reduceLeDiff,Nat.reduceLT,Int.reduceLE,Int.reduceLT,Int.reduceAdd,Int.reduceSub,Int.reduceToNat,Nat.reduceMul,t5,t6,t7]
  refine c_split (fun hi => ?_) (fun hi => ?_)
  · have hil : i < l.length := by omega
    simp (maxSteps:=1000000) (disch:=first | omega | (simp only [LL];omega)) only [W,V,TY,CC,reduceIte,Nat.reduceEqDiff,Nat.reduceAdd,Nat.reduceLeDiff,Nat.reduceLT,Int.reduceLE,Int.reduceLT,Int.reduceAdd,Int.reduceSub,Int.reduceToNat,Nat.reduceMul,t5,t6,t7]
    refine g_split (fun h => ?_) (fun h => ?_)
    · have hn := numB_not hil (fun e => by omega)
      simp (maxSteps:=1000000) (disch:=first | omega | (simp only [LL];omega)) only [W,V,TY,CC,reduceIte,Nat.reduceEqDiff,Nat.reduceAdd,Nat.reduceLeDiff,Nat.reduceLT,Int.reduceLE,Int.reduceLT,Int.reduceAdd,Int.reduceSub,Int.reduceToNat,Nat.reduceMul,t5,t6,t7,h]
      refine f_ret _ _ _ ?_
      simp (maxSteps:=1000000) (disch:=first | omega | (simp only [LL];omega)) only [W,V,TY,CC,reduceIte,Nat.reduceEqDiff,Nat.reduceAdd,Nat.reduceLeDiff,Nat.reduceLT,Int.reduceLE,Int.reduceLT,Int.reduceAdd,Int.reduceSub,Int.reduceToNat,Nat.reduceMul,hn]
    · simp (maxSteps:=1000000) (disch:=first | omega | (simp only [LL];omega)) only [W,V,TY,CC,reduceIte,Nat.reduceEqDiff,Nat.reduceAdd,Nat.reduceLeDiff,Nat.reduceLT,Int.reduceLE,Int.reduceLT,Int.reduceAdd,Int.reduceSub,Int.reduceToNat,Nat.reduceMul,t5,t6,t7,h]
      refine c_split (fun h' => ?_) (fun h' => ?_)
      · have hn := numB_not hil (fun e => by omega)
        simp (maxSteps:=1000000) (disch:=first | omega | (simp only [LL];omega)) only [W,V,TY,CC,reduceIte,Nat.reduceEqDiff,Nat.reduceAdd,Nat.reduceLeDiff,Nat.reduceLT,Int.reduceLE,Int.reduceLT,Int.reduceAdd,Int.reduceSub,Int.reduceToNat,Nat.reduceMul,t5,t6,t7,h,h']
        refine f_ret _ _ _ ?_
        simp (maxSteps:=1000000) (disch:=first | omega | (simp only [LL];omega)) only [W,V,TY,CC,reduceIte,Nat.reduceEqDiff,Nat.reduceAdd,Nat.reduceLeDiff,Nat.reduceLT,Int.reduceLE,Int.reduceLT,Int.reduceAdd,Int.reduceSub,Int.reduceToNat,Nat.reduceMul,hn]
      · simp (maxSteps:=1000000) (disch:=first | omega | (simp only [LL];omega)) only [W,V,TY,CC,reduceIte,Nat.reduceEqDiff,Nat.reduceAdd,Nat.reduceLeDiff,Nat.reduceLT,Int.reduceLE,Int.reduceLT,Int.reduceAdd,Int.reduceSub,Int.reduceToNat,Nat.reduceMul,t5,t6,t7,h,h']
        refine ⟨n - 1, by omega, i + 1, by omega, rfl, fun j hj => ?_⟩
        by_cases hji : j = i
        · subst hji; omega
        · exact ho j (by omega)
  · have hn : numB l = true := numB_of fun j hj => ho j (by omega)
    simp (maxSteps:=1000000) (disch:=first | omega | (simp only [LL];omega)) only [W,V,TY,CC,reduceIte,Nat.reduceEqDiff,Nat.reduceAdd,Nat.reduceLeDiff,Nat.reduceLT,Int.reduceLE,Int.reduceLT,Int.reduceAdd,Int.reduceSub,Int.reduceToNat,Nat.reduceMul,t5,t6,t7]
    refine f_ret _ _ _ ?_
    simp (maxSteps:=1000000) (disch:=first | omega | (simp only [LL];omega)) only [W,V,TY,CC,reduceIte,Nat.reduceEqDiff,Nat.reduceAdd,Nat.reduceLeDiff,Nat.reduceLT,Int.reduceLE,Int.reduceLT,Int.reduceAdd,Int.reduceSub,Int.reduceToNat,Nat.reduceMul,hn]
/-- examboard/linking.anchors -/
def b64 : AF := ⟨33, 2, [.tmp 4],
  (.seq (.reg [
    ⟨some 4, .assign (.const (.int .i64 0)), none⟩])
  (.seq (.block 0 (.seq (.reg [
    ⟨some 6, .move (.tmp 0), none⟩,
    ⟨some 7, .call ⟨(.builtin .len), #[(.tmp 6)], #[62]⟩, none⟩,
    ⟨some 8, .binOp .gtr 3 (.tmp 7) (.const (.int .i64 60)) 3, none⟩,
    ⟨some 9, .move (.tmp 8), none⟩,
    ⟨some 10, .move (.tmp 1), some (9, false)⟩,
    ⟨some 11, .call ⟨(.builtin .len), #[(.tmp 10)], #[62]⟩, some (9, false)⟩,
    ⟨some 12, .binOp .gtr 3 (.tmp 11) (.const (.int .i64 60)) 3, some (9, false)⟩,
    ⟨some 13, .pick (.tmp 9) (.const (.bool true)) (.tmp 12), none⟩,
    ⟨some 5, .assign (.tmp 13), none⟩])
  (.cond (.tmp 5)
    (.seq (.reg [
      ⟨some 4, .assign (.const (.int .i64 5)), none⟩])
    .ret)
    (.seq (.reg [
      ⟨some 15, .move (.tmp 0), none⟩,
      ⟨some 16, .call ⟨(.builtin .len), #[(.tmp 15)], #[62]⟩, none⟩,
      ⟨some 17, .move (.tmp 1), none⟩,
      ⟨some 18, .call ⟨(.builtin .len), #[(.tmp 17)], #[62]⟩, none⟩,
      ⟨some 19, .binOp .neq 3 (.tmp 16) (.tmp 18) 3, none⟩,
      ⟨some 14, .assign (.tmp 19), none⟩])
    (.cond (.tmp 14)
      (.seq (.reg [
        ⟨some 4, .assign (.const (.int .i64 1)), none⟩])
      .ret)
      (.seq (.reg [
        ⟨some 21, .move (.tmp 0), none⟩,
        ⟨some 22, .call ⟨(.builtin .len), #[(.tmp 21)], #[62]⟩, none⟩,
        ⟨some 23, .binOp .eql 3 (.tmp 22) (.const (.int .i64 0)) 3, none⟩,
        ⟨some 20, .assign (.tmp 23), none⟩])
      (.cond (.tmp 20)
        (.seq (.reg [
          ⟨some 4, .assign (.const (.int .i64 20)), none⟩])
        .ret)
        (.seq (.reg [
          ⟨some 25, .move (.tmp 0), none⟩,
          ⟨some 26, .call ⟨(.value (.func 87)), #[(.tmp 25)], #[62]⟩, none⟩,
          ⟨some 27, .unOp .not 4 (.tmp 26), none⟩,
          ⟨some 28, .move (.tmp 27), none⟩,
          ⟨some 29, .move (.tmp 1), some (28, false)⟩,
          ⟨some 30, .call ⟨(.value (.func 87)), #[(.tmp 29)], #[62]⟩, some (28, false)⟩,
          ⟨some 31, .unOp .not 4 (.tmp 30), some (28, false)⟩,
          ⟨some 32, .pick (.tmp 28) (.const (.bool true)) (.tmp 31), none⟩,
          ⟨some 24, .assign (.tmp 32), none⟩])
        (.cond (.tmp 24)
          (.seq (.reg [
            ⟨some 4, .assign (.const (.int .i64 3)), none⟩])
          .ret)
          .skip)))))))))
  (.seq (.reg [
    ⟨some 4, .assign (.const (.int .i64 0)), none⟩])
  .ret)))⟩
theorem c64 : fcomp Tryd.prog 64 = ⟨b64.n, b64.np, b64.res, b64.body.bare⟩ := by kernel_rfl
theorem k64 : fok Tryd.prog 64 = true := by kernel_rfl
theorem k_anchors (x y : List Int) (hx : x.length ≤ 9223372036854775807) (hy : y.length ≤ 9223372036854775807) : AFun Tryd.prog 64 [.one (intsD x), .one (intsD y)] [.one (.lit (.int .i64 (anchV x y)))] := by
  have n1 := k_numbers x hx
  have n2 := k_numbers y hy
  unfold anchV
  refine afun_intro mo_ _ _ c64 k64 _ _ rfl (by decide) ?_
  unfold b64
  simp (maxSteps:=1000000) (disch:=first | omega | (simp only [LL];omega)) only [W,V,TY,CC,reduceIte,Nat.reduceEqDiff,Nat.reduceAdd,Nat.reduceLeDiff,Nat.reduceLT,Int.reduceLE,Int.reduceLT,Int.reduceAdd,Int.reduceSub,Int.reduceToNat,Nat.reduceMul]
  by_cases h1 : 60 < x.length
  · have h1' : (60 : Int) < x.length := by omega
    rw [if_pos (.inl h1)]
    simp (maxSteps:=1000000) (disch:=first | omega | (simp only [LL];omega)) only [W,V,TY,CC,reduceIte,Nat.reduceEqDiff,Nat.reduceAdd,Nat.reduceLeDiff,Nat.reduceLT,Int.reduceLE,Int.reduceLT,Int.reduceAdd,Int.reduceSub,Int.reduceToNat,Nat.reduceMul,h1', decide_true]
    refine f_ret _ _ _ ?_
    simp (maxSteps:=1000000) (disch:=first | omega | (simp only [LL];omega)) only [W,V,TY,CC,reduceIte,Nat.reduceEqDiff,Nat.reduceAdd,Nat.reduceLeDiff,Nat.reduceLT,Int.reduceLE,Int.reduceLT,Int.reduceAdd,Int.reduceSub,Int.reduceToNat,Nat.reduceMul]
  · have h1' : ¬ (60 : Int) < x.length := by omega
    simp (maxSteps:=1000000) (disch:=first | omega | (simp only [LL];omega)) only [W,V,TY,CC,reduceIte,Nat.reduceEqDiff,Nat.reduceAdd,Nat.reduceLeDiff,Nat.reduceLT,Int.reduceLE,Int.reduceLT,Int.reduceAdd,Int.reduceSub,Int.reduceToNat,Nat.reduceMul,h1', decide_false]
    by_cases h2 : 60 < y.length
    · have h2' : (60 : Int) < y.length := by omega
      rw [if_pos (.inr h2)]
      simp (maxSteps:=1000000) (disch:=first | omega | (simp only [LL];omega)) only [W,V,TY,CC,reduceIte,Nat.reduceEqDiff,Nat.reduceAdd,Nat.reduceLeDiff,Nat.reduceLT,Int.reduceLE,Int.reduceLT,Int.reduceAdd,Int.reduceSub,Int.reduceToNat,Nat.reduceMul,h1', h2', decide_true, decide_false]
      refine f_ret _ _ _ ?_
      simp (maxSteps:=1000000) (disch:=first | omega | (simp only [LL];omega)) only [W,V,TY,CC,reduceIte,Nat.reduceEqDiff,Nat.reduceAdd,Nat.reduceLeDiff,Nat.reduceLT,Int.reduceLE,Int.reduceLT,Int.reduceAdd,Int.reduceSub,Int.reduceToNat,Nat.reduceMul]
    · have h2' : ¬ (60 : Int) < y.length := by omega
      rw [if_neg (by omega : ¬ (60 < x.length ∨ 60 < y.length))]
      simp (maxSteps:=1000000) (disch:=first | omega | (simp only [LL];omega)) only [W,V,TY,CC,reduceIte,Nat.reduceEqDiff,Nat.reduceAdd,Nat.reduceLeDiff,Nat.reduceLT,Int.reduceLE,Int.reduceLT,Int.reduceAdd,Int.reduceSub,Int.reduceToNat,Nat.reduceMul,h1', h2', decide_false]
      by_cases h3 : x.length = y.length
      · have h3' : (x.length : Int) = y.length := by omega
        rw [if_neg (not_not_intro h3)]
        simp (maxSteps:=1000000) (disch:=first | omega | (simp only [LL];omega)) only [W,V,TY,CC,reduceIte,Nat.reduceEqDiff,Nat.reduceAdd,Nat.reduceLeDiff,Nat.reduceLT,Int.reduceLE,Int.reduceLT,Int.reduceAdd,Int.reduceSub,Int.reduceToNat,Nat.reduceMul,h1', h2', h3', not_true_eq_false, decide_false]
        by_cases h4 : x.length = 0
        · have h4' : (y.length : Int) = 0 := by omega
          rw [if_pos h4]
          simp (maxSteps:=1000000) (disch:=first | omega | (simp only [LL];omega)) only [W,V,TY,CC,reduceIte,Nat.reduceEqDiff,Nat.reduceAdd,Nat.reduceLeDiff,Nat.reduceLT,Int.reduceLE,Int.reduceLT,Int.reduceAdd,Int.reduceSub,Int.reduceToNat,Nat.reduceMul,h1', h2', h3', h4', decide_true]
          refine f_ret _ _ _ ?_
          simp (maxSteps:=1000000) (disch:=first | omega | (simp only [LL];omega)) only [W,V,TY,CC,reduceIte,Nat.reduceEqDiff,Nat.reduceAdd,Nat.reduceLeDiff,Nat.reduceLT,Int.reduceLE,Int.reduceLT,Int.reduceAdd,Int.reduceSub,Int.reduceToNat,Nat.reduceMul]
        · have h4' : ¬ (y.length : Int) = 0 := by omega
          rw [if_neg h4]
          simp (maxSteps:=1000000) (disch:=first | omega | (simp only [LL];omega)) only [W,V,TY,CC,reduceIte,Nat.reduceEqDiff,Nat.reduceAdd,Nat.reduceLeDiff,Nat.reduceLT,Int.reduceLE,Int.reduceLT,Int.reduceAdd,Int.reduceSub,Int.reduceToNat,Nat.reduceMul,h1', h2', h3', h4', decide_false]
          refine a_call _ _ n1 (by simp (maxSteps:=1000000) (disch:=first | omega | (simp only [LL];omega)) only [W,V,TY,CC,reduceIte,Nat.reduceEqDiff,Nat.reduceAdd,Nat.reduceLeDiff,Nat.reduceLT,Int.reduceLE,Int.reduceLT,Int.reduceAdd,Int.reduceSub,Int.reduceToNat,Nat.reduceMul]) ?_
          cases hnx : numB x with
          | false =>
            rw [if_neg (by simp)]
            simp (maxSteps:=1000000) (disch:=first | omega | (simp only [LL];omega)) only [W,V,TY,CC,reduceIte,Nat.reduceEqDiff,Nat.reduceAdd,Nat.reduceLeDiff,Nat.reduceLT,Int.reduceLE,Int.reduceLT,Int.reduceAdd,Int.reduceSub,Int.reduceToNat,Nat.reduceMul,h1', h2', h3', h4', hnx, Bool.not_false]
            refine f_ret _ _ _ ?_
            simp (maxSteps:=1000000) (disch:=first | omega | (simp only [LL];omega)) only [W,V,TY,CC,reduceIte,Nat.reduceEqDiff,Nat.reduceAdd,Nat.reduceLeDiff,Nat.reduceLT,Int.reduceLE,Int.reduceLT,Int.reduceAdd,Int.reduceSub,Int.reduceToNat,Nat.reduceMul]
          | true =>
            simp (maxSteps:=1000000) (disch:=first | omega | (simp only [LL];omega)) only [W,V,TY,CC,reduceIte,Nat.reduceEqDiff,Nat.reduceAdd,Nat.reduceLeDiff,Nat.reduceLT,Int.reduceLE,Int.reduceLT,Int.reduceAdd,Int.reduceSub,Int.reduceToNat,Nat.reduceMul,h1', h2', h3', h4', hnx, Bool.not_true]
            refine a_call _ _ n2 (by simp (maxSteps:=1000000) (disch:=first | omega | (simp only [LL];omega)) only [W,V,TY,CC,reduceIte,Nat.reduceEqDiff,Nat.reduceAdd,Nat.reduceLeDiff,Nat.reduceLT,Int.reduceLE,Int.reduceLT,Int.reduceAdd,Int.reduceSub,Int.reduceToNat,Nat.reduceMul]) ?_
            cases hny : numB y with
            | false =>
              rw [if_neg (by simp)]
              simp (maxSteps:=1000000) (disch:=first | omega | (simp only [LL];omega)) only [W,V,TY,CC,reduceIte,Nat.reduceEqDiff,Nat.reduceAdd,Nat.reduceLeDiff,Nat.reduceLT,Int.reduceLE,Int.reduceLT,Int.reduceAdd,Int.reduceSub,Int.reduceToNat,Nat.reduceMul,h1', h2', h3', h4', hnx, hny, Bool.not_false, Bool.not_true]
              refine f_ret _ _ _ ?_
              simp (maxSteps:=1000000) (disch:=first | omega | (simp only [LL];omega)) only [W,V,TY,CC,reduceIte,Nat.reduceEqDiff,Nat.reduceAdd,Nat.reduceLeDiff,Nat.reduceLT,Int.reduceLE,Int.reduceLT,Int.reduceAdd,Int.reduceSub,Int.reduceToNat,Nat.reduceMul]
            | true =>
              rw [if_pos rfl]
              simp (maxSteps:=1000000) (disch:=first | omega | (simp only [LL];omega)) only [W,V,TY,CC,reduceIte,Nat.reduceEqDiff,Nat.reduceAdd,Nat.reduceLeDiff,Nat.reduceLT,Int.reduceLE,Int.reduceLT,Int.reduceAdd,Int.reduceSub,Int.reduceToNat,Nat.reduceMul,h1', h2', h3', h4', hnx, hny, Bool.not_true]
              refine f_ret _ _ _ ?_
              simp (maxSteps:=1000000) (disch:=first | omega | (simp only [LL];omega)) only [W,V,TY,CC,reduceIte,Nat.reduceEqDiff,Nat.reduceAdd,Nat.reduceLeDiff,Nat.reduceLT,Int.reduceLE,Int.reduceLT,Int.reduceAdd,Int.reduceSub,Int.reduceToNat,Nat.reduceMul]
      · have h3' : ¬ (x.length : Int) = y.length := by omega
        rw [if_pos h3]
        simp (maxSteps:=1000000) (disch:=first | omega | (simp only [LL];omega)) only [W,V,TY,CC,reduceIte,Nat.reduceEqDiff,Nat.reduceAdd,Nat.reduceLeDiff,Nat.reduceLT,Int.reduceLE,Int.reduceLT,Int.reduceAdd,Int.reduceSub,Int.reduceToNat,Nat.reduceMul,h1', h2', h3', not_false_eq_true, decide_true]
        refine f_ret _ _ _ ?_
        simp (maxSteps:=1000000) (disch:=first | omega | (simp only [LL];omega)) only [W,V,TY,CC,reduceIte,Nat.reduceEqDiff,Nat.reduceAdd,Nat.reduceLeDiff,Nat.reduceLT,Int.reduceLE,Int.reduceLT,Int.reduceAdd,Int.reduceSub,Int.reduceToNat,Nat.reduceMul]
/-- examboard/linking.mean -/
def b65 : AF := ⟨20, 1, [.cell 2 27],
  (.seq (.reg [
    ⟨some 2, .alloc 27, none⟩])
  (.seq (.reg [
    ⟨some 3, .assign (.const (.int .i64 0)), none⟩])
  (.seq (.seq (.reg [
    ⟨some 6, .move (.tmp 0), none⟩,
    ⟨some 7, .call ⟨(.builtin .len), #[(.tmp 6)], #[62]⟩, none⟩,
    ⟨some 8, .move (.const (.int .i64 0)), none⟩])
  (.block 0 (.loop (.seq (.reg [
    ⟨some 9, .binOp .lss 3 (.tmp 8) (.tmp 7) 3, none⟩])
  (.seq (.cond (.tmp 9)
    .skip
    (.exit 0))
  (.seq (.block 1 (.seq (.reg [
    ⟨some 10, .indexAddr 62 (.tmp 6) (.tmp 8), none⟩,
    ⟨some 11, .load 3 (.tmp 10), none⟩,
    ⟨some 5, .assign (.tmp 11), none⟩])
  (.reg [
    ⟨some 12, .move (.tmp 3), none⟩,
    ⟨some 13, .move (.tmp 5), none⟩,
    ⟨some 14, .binOp .add 3 (.tmp 12) (.tmp 13) 3, none⟩,
    ⟨some 3, .assign (.tmp 14), none⟩])))
  (.reg [
    ⟨some 15, .binOp .add 3 (.tmp 8) (.const (.int .i64 1)) 3, none⟩,
    ⟨some 8, .move (.tmp 15), none⟩])))))))
  (.seq (.reg [
    ⟨some 16, .move (.tmp 3), none⟩,
    ⟨some 17, .move (.tmp 0), none⟩,
    ⟨some 18, .call ⟨(.builtin .len), #[(.tmp 17)], #[62]⟩, none⟩,
    ⟨some 19, .call ⟨(.value (.func 60)), #[(.tmp 16), (.tmp 18)], #[3, 3]⟩, none⟩,
    ⟨none, .store 27 (.tmp 2) (.tmp 19), none⟩])
  .ret))))⟩
theorem c65 : fcomp Tryd.prog 65 = ⟨b65.n, b65.np, b65.res, b65.body.bare⟩ := by kernel_rfl
theorem k65 : fok Tryd.prog 65 = true := by kernel_rfl
theorem k_mean (l : List Int) (h : numB l = true) (h60 : l.length ≤ 60) : AFun Tryd.prog 65 [.one (intsD l)] [.agg (ratC (meanQ l))] := by
  have hb := sumL_le h l.length (Nat.le_refl _)
  have cf := k_fraction (sumL l l.length) l.length (by omega) (by omega) (by omega) (by omega)
  unfold meanQ
  refine afun_intro mo_ _ _ c65 k65 _ _ rfl (by decide) ?_
  unfold b65
  simp (maxSteps:=1000000) (disch:=first | omega | (simp only [LL];omega)) only [W,V,TY,CC,reduceIte,Nat.reduceEqDiff,Nat.reduceAdd,Nat.reduceLeDiff,Nat.reduceLT,Int.reduceLE,Int.reduceLT,Int.reduceAdd,Int.reduceSub,Int.reduceToNat,Nat.reduceMul]
  refine w_loop (fun n s => ∃ i : Nat, n + i = l.length ∧ s.t 0 = .one (.dt (intsD l)) ∧ s.t 2 = .ptr (2, 0) 0 ∧ s.v (2, 0) = some [.dt (.lit (.bool false)), .z, .z] ∧ s.f (2, 0) = false ∧ s.t 3 = .one (.dt (.lit (.int .i64 (sumL l i)))) ∧ s.t 6 = .one (.dt (intsD l)) ∧ s.t 7 = .one (.dt (.lit (.int .i64 l.length))) ∧ s.t 8 = .one (.dt (.lit (.int .i64 i)))) l.length ⟨0, rfl, ?_, ?_, ?_, ?_, ?_, ?_, ?_, ?_⟩ ?_
  · simp (maxSteps:=1000000) (disch:=first | omega | (simp only [LL];omega)) only [W,V,TY,CC,reduceIte,Nat.reduceEqDiff,Nat.reduceAdd,Nat.reduceLeDiff,Nat.reduceLT,Int.reduceLE,Int.reduceLT,Int.reduceAdd,Int.reduceSub,Int.reduceToNat,Nat.reduceMul]
  · simp (maxSteps:=1000000) (disch:=first | omega | (simp only [LL];omega)) only [W,V,TY,CC,reduceIte,Nat.reduceEqDiff,Nat.reduceAdd,Nat.reduceLeDiff,Nat.reduceLT,Int.reduceLE,Int.reduceLT,Int.reduceAdd,Int.reduceSub,Int.reduceToNat,Nat.reduceMul]
  · simp (maxSteps:=1000000) (disch:=first | omega | (simp only [LL];omega)) only [W,V,TY,CC,reduceIte,Nat.reduceEqDiff,Nat.reduceAdd,Nat.reduceLeDiff,Nat.reduceLT,Int.reduceLE,Int.reduceLT,Int.reduceAdd,Int.reduceSub,Int.reduceToNat,Nat.reduceMul]
  · simp (maxSteps:=1000000) (disch:=first | omega | (simp only [LL];omega)) only [W,V,TY,CC,reduceIte,Nat.reduceEqDiff,Nat.reduceAdd,Nat.reduceLeDiff,Nat.reduceLT,Int.reduceLE,Int.reduceLT,Int.reduceAdd,Int.reduceSub,Int.reduceToNat,Nat.reduceMul]
  · simp (maxSteps:=1000000) (disch:=first | omega | (simp only [LL];omega)) only [W,V,TY,CC,reduceIte,Nat.reduceEqDiff,Nat.reduceAdd,Nat.reduceLeDiff,Nat.reduceLT,Int.reduceLE,Int.reduceLT,Int.reduceAdd,Int.reduceSub,Int.reduceToNat,Nat.reduceMul,sumL]
  · simp (maxSteps:=1000000) (disch:=first | omega | (simp only [LL];omega)) only [W,V,TY,CC,reduceIte,Nat.reduceEqDiff,Nat.reduceAdd,Nat.reduceLeDiff,Nat.reduceLT,Int.reduceLE,Int.reduceLT,Int.reduceAdd,Int.reduceSub,Int.reduceToNat,Nat.reduceMul]
  · simp (maxSteps:=1000000) (disch:=first | omega | (simp only [LL];omega)) only [W,V,TY,CC,reduceIte,Nat.reduceEqDiff,Nat.reduceAdd,Nat.reduceLeDiff,Nat.reduceLT,Int.reduceLE,Int.reduceLT,Int.reduceAdd,Int.reduceSub,Int.reduceToNat,Nat.reduceMul]
  · simp (maxSteps:=1000000) (disch:=first | omega | (simp only [LL];omega)) only [W,V,TY,CC,reduceIte,Nat.reduceEqDiff,Nat.reduceAdd,Nat.reduceLeDiff,Nat.reduceLT,Int.reduceLE,Int.reduceLT,Int.reduceAdd,Int.reduceSub,Int.reduceToNat,Nat.reduceMul]
  intro n s _ ⟨i, e, t0, t2, v2, f2, t3, t6, t7, t8⟩
  simp (maxSteps:=1000000) (disch:=first | omega | (simp only [LL];omega)) only [W,V,TY,CC,reduceIte,Nat.reduceEqDiff,Nat.reduceAdd,Nat.reduceLeDiff,Nat.reduceLT,Int.reduceLE,Int.reduceLT,Int.reduceAdd,Int.reduceSub,Int.reduceToNat,Nat.reduceMul,t0,t2,v2,f2,t3,t6,t7,t8]
  refine c_split (fun hi => ?_) (fun hi => ?_)
  · have hil : i < l.length := by omega
    have h1 := numB_at h hil
    have h2 := sumL_le h i (by omega)
    simp (maxSteps:=1000000) (disch:=first | omega | (simp only [LL];omega)) only [W,V,TY,CC,reduceIte,Nat.reduceEqDiff,Nat.reduceAdd,Nat.reduceLeDiff,Nat.reduceLT,Int.reduceLE,Int.reduceLT,Int.reduceAdd,Int.reduceSub,Int.reduceToNat,Nat.reduceMul,t0,t2,v2,f2,t3,t6,t7,t8]
    first | exact ⟨n - 1, by omega, i + 1, by omega, rfl, rfl⟩ | exact ⟨n - 1, by omega, i + 1, by omega, rfl⟩
  · obtain rfl : i = l.length := by omega
    simp (maxSteps:=1000000) (disch:=first | omega | (simp only [LL];omega)) only [W,V,TY,CC,reduceIte,Nat.reduceEqDiff,Nat.reduceAdd,Nat.reduceLeDiff,Nat.reduceLT,Int.reduceLE,Int.reduceLT,Int.reduceAdd,Int.reduceSub,Int.reduceToNat,Nat.reduceMul,t0,t2,v2,f2,t3,t6,t7,t8]
    refine a_call _ _ cf (by simp (maxSteps:=1000000) (disch:=first | omega | (simp only [LL];omega)) only [W,V,TY,CC,reduceIte,Nat.reduceEqDiff,Nat.reduceAdd,Nat.reduceLeDiff,Nat.reduceLT,Int.reduceLE,Int.reduceLT,Int.reduceAdd,Int.reduceSub,Int.reduceToNat,Nat.reduceMul,t0,t2,v2,f2,t3,t6,t7,t8]) ?_
    simp (maxSteps:=1000000) (disch:=first | omega | (simp only [LL];omega)) only [W,V,TY,CC,reduceIte,Nat.reduceEqDiff,Nat.reduceAdd,Nat.reduceLeDiff,Nat.reduceLT,Int.reduceLE,Int.reduceLT,Int.reduceAdd,Int.reduceSub,Int.reduceToNat,Nat.reduceMul,ratC,t0,t2,v2,f2,t3,t6,t7,t8]
    refine f_ret _ _ _ ?_
    simp (maxSteps:=1000000) (disch:=first | omega | (simp only [LL];omega)) only [W,V,TY,CC,reduceIte,Nat.reduceEqDiff,Nat.reduceAdd,Nat.reduceLeDiff,Nat.reduceLT,Int.reduceLE,Int.reduceLT,Int.reduceAdd,Int.reduceSub,Int.reduceToNat,Nat.reduceMul,ratC,t0,t2,v2,f2,t3,t6,t7,t8]
/-- examboard/linking.deviation -/
def b71 : AF := ⟨40, 1, [.tmp 2],
  (.seq (.reg [
    ⟨some 2, .assign (.const (.int .i64 0)), none⟩])
  (.seq (.reg [
    ⟨some 3, .assign (.const (.int .i64 0)), none⟩,
    ⟨some 4, .assign (.const (.int .i64 0)), none⟩])
  (.seq (.seq (.reg [
    ⟨some 10, .move (.tmp 0), none⟩,
    ⟨some 11, .call ⟨(.builtin .len), #[(.tmp 10)], #[62]⟩, none⟩,
    ⟨some 12, .move (.const (.int .i64 0)), none⟩])
  (.block 0 (.loop (.seq (.reg [
    ⟨some 13, .binOp .lss 3 (.tmp 12) (.tmp 11) 3, none⟩])
  (.seq (.cond (.tmp 13)
    .skip
    (.exit 0))
  (.seq (.block 1 (.seq (.reg [
    ⟨some 14, .indexAddr 62 (.tmp 10) (.tmp 12), none⟩,
    ⟨some 15, .load 3 (.tmp 14), none⟩,
    ⟨some 6, .assign (.tmp 15), none⟩])
  (.reg [
    ⟨some 16, .move (.tmp 3), none⟩,
    ⟨some 17, .move (.tmp 6), none⟩,
    ⟨some 18, .binOp .add 3 (.tmp 16) (.tmp 17) 3, none⟩,
    ⟨some 3, .assign (.tmp 18), none⟩])))
  (.reg [
    ⟨some 19, .binOp .add 3 (.tmp 12) (.const (.int .i64 1)) 3, none⟩,
    ⟨some 12, .move (.tmp 19), none⟩])))))))
  (.seq (.seq (.reg [
    ⟨some 20, .move (.tmp 0), none⟩,
    ⟨some 21, .call ⟨(.builtin .len), #[(.tmp 20)], #[62]⟩, none⟩,
    ⟨some 22, .move (.const (.int .i64 0)), none⟩])
  (.block 2 (.loop (.seq (.reg [
    ⟨some 23, .binOp .lss 3 (.tmp 22) (.tmp 21) 3, none⟩])
  (.seq (.cond (.tmp 23)
    .skip
    (.exit 2))
  (.seq (.block 3 (.seq (.reg [
    ⟨some 24, .indexAddr 62 (.tmp 20) (.tmp 22), none⟩,
    ⟨some 25, .load 3 (.tmp 24), none⟩,
    ⟨some 8, .assign (.tmp 25), none⟩])
  (.seq (.reg [
    ⟨some 26, .move (.tmp 8), none⟩,
    ⟨some 27, .move (.tmp 0), none⟩,
    ⟨some 28, .call ⟨(.builtin .len), #[(.tmp 27)], #[62]⟩, none⟩,
    ⟨some 29, .binOp .mul 3 (.tmp 26) (.tmp 28) 3, none⟩,
    ⟨some 30, .move (.tmp 3), none⟩,
    ⟨some 31, .binOp .sub 3 (.tmp 29) (.tmp 30) 3, none⟩,
    ⟨some 9, .assign (.tmp 31), none⟩])
  (.reg [
    ⟨some 32, .move (.tmp 4), none⟩,
    ⟨some 33, .move (.tmp 9), none⟩,
    ⟨some 34, .move (.tmp 9), none⟩,
    ⟨some 35, .unOp .neg 3 (.tmp 34), none⟩,
    ⟨some 36, .call ⟨(.builtin .max), #[(.tmp 33), (.tmp 35)], #[3, 3]⟩, none⟩,
    ⟨some 37, .binOp .add 3 (.tmp 32) (.tmp 36) 3, none⟩,
    ⟨some 4, .assign (.tmp 37), none⟩]))))
  (.reg [
    ⟨some 38, .binOp .add 3 (.tmp 22) (.const (.int .i64 1)) 3, none⟩,
    ⟨some 22, .move (.tmp 38), none⟩])))))))
  (.seq (.reg [
    ⟨some 39, .move (.tmp 4), none⟩,
    ⟨some 2, .assign (.tmp 39), none⟩])
  .ret)))))⟩
theorem c71 : fcomp Tryd.prog 71 = ⟨b71.n, b71.np, b71.res, b71.body.bare⟩ := by kernel_rfl
theorem k71 : fok Tryd.prog 71 = true := by kernel_rfl
theorem k_deviation (l : List Int) (h : numB l = true) (h60 : l.length ≤ 60) : AFun Tryd.prog 71 [.one (intsD l)] [.one (.lit (.int .i64 (devZ l l.length)))] := by
  have hb := sumL_le h l.length (Nat.le_refl _)
  refine afun_intro mo_ _ _ c71 k71 _ _ rfl (by decide) ?_
  unfold b71
  simp (maxSteps:=1000000) (disch:=first | omega | (simp only [LL];omega)) only [W,V,TY,CC,reduceIte,Nat.reduceEqDiff,Nat.reduceAdd,Nat.reduceLeDiff,Nat.reduceLT,Int.reduceLE,Int.reduceLT,Int.reduceAdd,Int.reduceSub,Int.reduceToNat,Nat.reduceMul]
  refine w_loop (fun n s => ∃ i : Nat, n + i = l.length ∧ s.t 0 = .one (.dt (intsD l)) ∧ s.t 3 = .one (.dt (.lit (.int .i64 (sumL l i)))) ∧ s.t 4 = .one (.dt (.lit (.int .i64 0))) ∧ s.t 10 = .one (.dt (intsD l)) ∧ s.t 11 = .one (.dt (.lit (.int .i64 l.length))) ∧ s.t 12 = .one (.dt (.lit (.int .i64 i)))) l.length ⟨0, rfl, ?_, ?_, ?_, ?_, ?_, ?_⟩ ?_
  · simp (maxSteps:=1000000) (disch:=first | omega | (simp only [LL];omega)) only [W,V,TY,CC,reduceIte,Nat.reduceEqDiff,Nat.reduceAdd,Nat.reduceLeDiff,Nat.reduceLT,Int.reduceLE,Int.reduceLT,Int.reduceAdd,Int.reduceSub,Int.reduceToNat,Nat.reduceMul]
  · simp (maxSteps:=1000000) (disch:=first | omega | (simp only [LL];omega)) only [W,V,TY,CC,reduceIte,Nat.reduceEqDiff,Nat.reduceAdd,Nat.reduceLeDiff,Nat.reduceLT,Int.reduceLE,Int.reduceLT,Int.reduceAdd,Int.reduceSub,Int.reduceToNat,Nat.reduceMul,sumL]
  · simp (maxSteps:=1000000) (disch:=first | omega | (simp only [LL];omega)) only [W,V,TY,CC,reduceIte,Nat.reduceEqDiff,Nat.reduceAdd,Nat.reduceLeDiff,Nat.reduceLT,Int.reduceLE,Int.reduceLT,Int.reduceAdd,Int.reduceSub,Int.reduceToNat,Nat.reduceMul]
  · simp (maxSteps:=1000000) (disch:=first | omega | (simp only [LL];omega)) only [W,V,TY,CC,reduceIte,Nat.reduceEqDiff,Nat.reduceAdd,Nat.reduceLeDiff,Nat.reduceLT,Int.reduceLE,Int.reduceLT,Int.reduceAdd,Int.reduceSub,Int.reduceToNat,Nat.reduceMul]
  · simp (maxSteps:=1000000) (disch:=first | omega | (simp only [LL];omega)) only [W,V,TY,CC,reduceIte,Nat.reduceEqDiff,Nat.reduceAdd,Nat.reduceLeDiff,Nat.reduceLT,Int.reduceLE,Int.reduceLT,Int.reduceAdd,Int.reduceSub,Int.reduceToNat,Nat.reduceMul]
  · simp (maxSteps:=1000000) (disch:=first | omega | (simp only [LL];omega)) only [W,V,TY,CC,reduceIte,Nat.reduceEqDiff,Nat.reduceAdd,Nat.reduceLeDiff,Nat.reduceLT,Int.reduceLE,Int.reduceLT,Int.reduceAdd,Int.reduceSub,Int.reduceToNat,Nat.reduceMul]
  intro n s _ ⟨i, e, t0, t3, t4, t10, t11, t12⟩
  simp (maxSteps:=1000000) (disch:=first | omega | (simp only [LL];omega)) only [W,V,TY,CC,reduceIte,Nat.reduceEqDiff,Nat.reduceAdd,Nat.reduceLeDiff,Nat.reduceLT,Int.reduceLE,Int.reduceLT,Int.reduceAdd,Int.reduceSub,Int.reduceToNat,Nat.reduceMul,t0,t3,t4,t10,t11,t12]
  refine c_split (fun hi => ?_) (fun hi => ?_)
  · have hil : i < l.length := by omega
    have h1 := numB_at h hil
    have h2 := sumL_le h i (by omega)
    simp (maxSteps:=1000000) (disch:=first | omega | (simp only [LL];omega)) only [W,V,TY,CC,reduceIte,Nat.reduceEqDiff,Nat.reduceAdd,Nat.reduceLeDiff,Nat.reduceLT,Int.reduceLE,Int.reduceLT,Int.reduceAdd,Int.reduceSub,Int.reduceToNat,Nat.reduceMul,t0,t3,t4,t10,t11,t12]
    first | exact ⟨n - 1, by omega, i + 1, by omega, rfl, rfl⟩ | exact ⟨n - 1, by omega, i + 1, by omega, rfl⟩
  · obtain rfl : i = l.length := by omega
    simp (maxSteps:=1000000) (disch:=first | omega | (simp only [LL];omega)) only [W,V,TY,CC,reduceIte,Nat.reduceEqDiff,Nat.reduceAdd,Nat.reduceLeDiff,Nat.reduceLT,Int.reduceLE,Int.reduceLT,Int.reduceAdd,Int.reduceSub,Int.reduceToNat,Nat.reduceMul,t0,t3,t4,t10,t11,t12]
    refine w_loop (fun n s => ∃ i : Nat, n + i = l.length ∧ s.t 0 = .one (.dt (intsD l)) ∧ s.t 3 = .one (.dt (.lit (.int .i64 (sumL l l.length)))) ∧ s.t 4 = .one (.dt (.lit (.int .i64 (devZ l i)))) ∧ s.t 20 = .one (.dt (intsD l)) ∧ s.t 21 = .one (.dt (.lit (.int .i64 l.length))) ∧ s.t 22 = .one (.dt (.lit (.int .i64 i)))) l.length ⟨0, rfl, ?_, ?_, ?_, ?_, ?_, ?_⟩ ?_
    · simp (maxSteps:=1000000) (disch:=first | omega | (simp only [LL];omega)) only [W,V,TY,CC,reduceIte,Nat.reduceEqDiff,Nat.reduceAdd,Nat.reduceLeDiff,Nat.reduceLT,Int.reduceLE,Int.reduceLT,Int.reduceAdd,Int.reduceSub,Int.reduceToNat,Nat.reduceMul,t0,t3,t4,t10,t11,t12]
    · simp (maxSteps:=1000000) (disch:=first | omega | (simp only [LL];omega)) only [W,V,TY,CC,reduceIte,Nat.reduceEqDiff,Nat.reduceAdd,Nat.reduceLeDiff,Nat.reduceLT,Int.reduceLE,Int.reduceLT,Int.reduceAdd,Int.reduceSub,Int.reduceToNat,Nat.reduceMul,t0,t3,t4,t10,t11,t12]
    · simp (maxSteps:=1000000) (disch:=first | omega | (simp only [LL];omega)) only [W,V,TY,CC,reduceIte,Nat.reduceEqDiff,Nat.reduceAdd,Nat.reduceLeDiff,Nat.reduceLT,Int.reduceLE,Int.reduceLT,Int.reduceAdd,Int.reduceSub,Int.reduceToNat,Nat.reduceMul,t0,t3,t4,t10,t11,t12,devZ]
    · simp (maxSteps:=1000000) (disch:=first | omega | (simp only [LL];omega)) only [W,V,TY,CC,reduceIte,Nat.reduceEqDiff,Nat.reduceAdd,Nat.reduceLeDiff,Nat.reduceLT,Int.reduceLE,Int.reduceLT,Int.reduceAdd,Int.reduceSub,Int.reduceToNat,Nat.reduceMul,t0,t3,t4,t10,t11,t12]
    · simp (maxSteps:=1000000) (disch:=first | omega | (simp only [LL];omega)) only [W,V,TY,CC,reduceIte,Nat.reduceEqDiff,Nat.reduceAdd,Nat.reduceLeDiff,Nat.reduceLT,Int.reduceLE,Int.reduceLT,Int.reduceAdd,Int.reduceSub,Int.reduceToNat,Nat.reduceMul,t0,t3,t4,t10,t11,t12]
    · simp (maxSteps:=1000000) (disch:=first | omega | (simp only [LL];omega)) only [W,V,TY,CC,reduceIte,Nat.reduceEqDiff,Nat.reduceAdd,Nat.reduceLeDiff,Nat.reduceLT,Int.reduceLE,Int.reduceLT,Int.reduceAdd,Int.reduceSub,Int.reduceToNat,Nat.reduceMul,t0,t3,t4,t10,t11,t12]
    clear t0 t3 t4 t10 t11 t12
    intro n s _ ⟨i, e, t0, t3, t4, t20, t21, t22⟩
    simp (maxSteps:=1000000) (disch:=first | omega | (simp only [LL];omega)) only [W,V,TY,CC,reduceIte,Nat.reduceEqDiff,Nat.reduceAdd,Nat.reduceLeDiff,Nat.reduceLT,Int.reduceLE,Int.reduceLT,Int.reduceAdd,Int.reduceSub,Int.reduceToNat,Nat.reduceMul,t0,t3,t4,t20,t21,t22]
    refine c_split (fun hi => ?_) (fun hi => ?_)
    · have hil : i < l.length := by omega
      have h1 := pt_le h h60 hil
      have h2 := devZ_le h h60 i (by omega)
      have hd : devZ l (i + 1) = devZ l i + absI (l.getD i 0 * l.length - sumL l l.length) := rfl
      unfold absI at hd
      simp (maxSteps:=1000000) (disch:=first | omega | (simp only [LL];omega)) only [W,V,TY,CC,reduceIte,Nat.reduceEqDiff,Nat.reduceAdd,Nat.reduceLeDiff,Nat.reduceLT,Int.reduceLE,Int.reduceLT,Int.reduceAdd,Int.reduceSub,Int.reduceToNat,Nat.reduceMul,t0,t3,t4,t20,t21,t22]
      refine ⟨n - 1, by omega, i + 1, by omega, ?_⟩
      rw [hd]
      first | exact ⟨rfl, rfl⟩ | rfl
    · obtain rfl : i = l.length := by omega
      simp (maxSteps:=1000000) (disch:=first | omega | (simp only [LL];omega)) only [W,V,TY,CC,reduceIte,Nat.reduceEqDiff,Nat.reduceAdd,Nat.reduceLeDiff,Nat.reduceLT,Int.reduceLE,Int.reduceLT,Int.reduceAdd,Int.reduceSub,Int.reduceToNat,Nat.reduceMul,t0,t3,t4,t20,t21,t22]
      refine f_ret _ _ _ ?_
      simp (maxSteps:=1000000) (disch:=first | omega | (simp only [LL];omega)) only [W,V,TY,CC,reduceIte,Nat.reduceEqDiff,Nat.reduceAdd,Nat.reduceLeDiff,Nat.reduceLT,Int.reduceLE,Int.reduceLT,Int.reduceAdd,Int.reduceSub,Int.reduceToNat,Nat.reduceMul,t0,t3,t4,t20,t21,t22]
end Go.Proofs.YtljmgdepldpmdaaDoor.E

set_option linter.unusedSimpArgs false
set_option linter.unusedVariables false
set_option maxHeartbeats 2000000
namespace Go.Proofs.YtljmgdepldpmdaaDoor.E
open Go.RowKit Limbs
/-- examboard/linking.Mean -/
def b38 : AF := ⟨21, 2, [.cell 4 53, .tmp 5],
  (.seq (.reg [
    ⟨some 4, .alloc 53, none⟩,
    ⟨some 5, .assign (.const (.int .i64 0)), none⟩])
  (.seq (.seq (.reg [
    ⟨some 7, .move (.tmp 0), none⟩,
    ⟨some 8, .move (.tmp 1), none⟩,
    ⟨some 9, .call ⟨(.value (.func 64)), #[(.tmp 7), (.tmp 8)], #[62, 62]⟩, none⟩,
    ⟨some 6, .assign (.tmp 9), none⟩])
  (.seq (.reg [
    ⟨some 10, .move (.tmp 6), none⟩,
    ⟨some 11, .binOp .neq 57 (.tmp 10) (.const (.int .i64 0)) 57, none⟩])
  (.cond (.tmp 11)
    (.seq (.reg [
      ⟨some 12, .build 53 #[], none⟩,
      ⟨some 13, .move (.tmp 6), none⟩,
      ⟨none, .store 53 (.tmp 4) (.tmp 12), none⟩,
      ⟨some 5, .assign (.tmp 13), none⟩])
    .ret)
    .skip)))
  (.seq (.reg [
    ⟨some 14, .call ⟨(.value (.func 60)), #[(.const (.int .i64 1)), (.const (.int .i64 1))], #[3, 3]⟩, none⟩,
    ⟨some 15, .move (.tmp 1), none⟩,
    ⟨some 16, .call ⟨(.value (.func 65)), #[(.tmp 15)], #[62]⟩, none⟩,
    ⟨some 17, .move (.tmp 0), none⟩,
    ⟨some 18, .call ⟨(.value (.func 65)), #[(.tmp 17)], #[62]⟩, none⟩,
    ⟨some 19, .call ⟨(.value (.func 16)), #[(.tmp 16), (.tmp 18)], #[27, 27]⟩, none⟩,
    ⟨some 20, .build 53 #[(0, (.tmp 14)), (1, (.tmp 19))], none⟩,
    ⟨none, .store 53 (.tmp 4) (.tmp 20), none⟩,
    ⟨some 5, .assign (.const (.int .i64 0)), none⟩])
  .ret)))⟩
theorem c38 : fcomp Tryd.prog 38 = ⟨b38.n, b38.np, b38.res, b38.body.bare⟩ := by kernel_rfl
theorem k38 : fok Tryd.prog 38 = true := by kernel_rfl
/-- examboard/linking.Spread -/
def b42 : AF := ⟨40, 2, [.cell 4 53, .tmp 5],
  (.seq (.reg [
    ⟨some 4, .alloc 53, none⟩,
    ⟨some 5, .assign (.const (.int .i64 0)), none⟩])
  (.seq (.seq (.reg [
    ⟨some 10, .move (.tmp 0), none⟩,
    ⟨some 11, .move (.tmp 1), none⟩,
    ⟨some 12, .call ⟨(.value (.func 64)), #[(.tmp 10), (.tmp 11)], #[62, 62]⟩, none⟩,
    ⟨some 6, .assign (.tmp 12), none⟩])
  (.seq (.reg [
    ⟨some 13, .move (.tmp 6), none⟩,
    ⟨some 14, .binOp .neq 57 (.tmp 13) (.const (.int .i64 0)) 57, none⟩])
  (.cond (.tmp 14)
    (.seq (.reg [
      ⟨some 15, .build 53 #[], none⟩,
      ⟨some 16, .move (.tmp 6), none⟩,
      ⟨none, .store 53 (.tmp 4) (.tmp 15), none⟩,
      ⟨some 5, .assign (.tmp 16), none⟩])
    .ret)
    .skip)))
  (.seq (.reg [
    ⟨some 17, .move (.tmp 0), none⟩,
    ⟨some 18, .call ⟨(.value (.func 71)), #[(.tmp 17)], #[62]⟩, none⟩,
    ⟨some 19, .move (.tmp 1), none⟩,
    ⟨some 20, .call ⟨(.value (.func 71)), #[(.tmp 19)], #[62]⟩, none⟩,
    ⟨some 7, .assign (.tmp 18), none⟩,
    ⟨some 8, .assign (.tmp 20), none⟩])
  (.seq (.seq (.reg [
    ⟨some 21, .move (.tmp 7), none⟩,
    ⟨some 22, .binOp .eql 3 (.tmp 21) (.const (.int .i64 0)) 3, none⟩,
    ⟨some 23, .move (.tmp 22), none⟩,
    ⟨some 24, .move (.tmp 8), some (23, false)⟩,
    ⟨some 25, .binOp .eql 3 (.tmp 24) (.const (.int .i64 0)) 3, some (23, false)⟩,
    ⟨some 26, .pick (.tmp 23) (.const (.bool true)) (.tmp 25), none⟩])
  (.cond (.tmp 26)
    (.seq (.reg [
      ⟨some 27, .build 53 #[], none⟩,
      ⟨none, .store 53 (.tmp 4) (.tmp 27), none⟩,
      ⟨some 5, .assign (.const (.int .i64 8)), none⟩])
    .ret)
    .skip))
  (.seq (.reg [
    ⟨some 28, .move (.tmp 8), none⟩,
    ⟨some 29, .move (.tmp 7), none⟩,
    ⟨some 30, .call ⟨(.value (.func 60)), #[(.tmp 28), (.tmp 29)], #[3, 3]⟩, none⟩,
    ⟨some 9, .alloc 27, none⟩,
    ⟨none, .store 27 (.tmp 9) (.tmp 30), none⟩])
  (.seq (.dreg [
    ⟨some 31, .load 27 (.tmp 9), none⟩,
    ⟨some 32, .move (.tmp 1), none⟩,
    ⟨some 33, .call ⟨(.value (.func 65)), #[(.tmp 32)], #[62]⟩, none⟩,
    ⟨some 34, .load 27 (.tmp 9), none⟩,
    ⟨some 35, .move (.tmp 0), none⟩,
    ⟨some 36, .call ⟨(.value (.func 65)), #[(.tmp 35)], #[62]⟩, none⟩,
    ⟨some 37, .call ⟨(.value (.func 18)), #[(.tmp 34), (.tmp 36)], #[27, 27]⟩, none⟩,
    ⟨some 38, .call ⟨(.value (.func 16)), #[(.tmp 33), (.tmp 37)], #[27, 27]⟩, none⟩,
    ⟨some 39, .build 53 #[(0, (.tmp 31)), (1, (.tmp 38))], none⟩,
    ⟨none, .store 53 (.tmp 4) (.tmp 39), none⟩,
    ⟨some 5, .assign (.const (.int .i64 0)), none⟩])
  .ret))))))⟩
theorem c42 : fcomp Tryd.prog 42 = ⟨b42.n, b42.np, b42.res, b42.body.bare⟩ := by kernel_rfl
theorem k42 : fok Tryd.prog 42 = true := by kernel_rfl
section
variable {x y : List Int} (lx : x.length ≤ 9223372036854775807) (ly : y.length ≤ 9223372036854775807)
include lx ly
theorem k_MeanE (h : ¬ anchV x y = 0) : AFun Tryd.prog 38 [.one (intsD x), .one (intsD y)] [.agg zS, .one (.lit (.int .i64 (anchV x y)))] := by
  have ca := k_anchors x y lx ly
  generalize anchV x y = e at *
  refine afun_intro mo_ _ _ c38 k38 _ _ rfl (by decide) ?_
  unfold b38
  simp (maxSteps:=1000000) (disch:=first | omega | (simp only [LL];omega)) only [W,V,TY,CC,reduceIte,Nat.reduceEqDiff,Nat.reduceAdd,Nat.reduceLeDiff,Nat.reduceLT,Int.reduceLE,Int.reduceLT,Int.reduceAdd,Int.reduceSub,Int.reduceToNat,Nat.reduceMul]
  refine a_call _ _ ca (by simp (maxSteps:=1000000) (disch:=first | omega | (simp only [LL];omega)) only [W,V,TY,CC,reduceIte,Nat.reduceEqDiff,Nat.reduceAdd,Nat.reduceLeDiff,Nat.reduceLT,Int.reduceLE,Int.reduceLT,Int.reduceAdd,Int.reduceSub,Int.reduceToNat,Nat.reduceMul,h,not_false_eq_true,decide_true]) ?_
  simp (maxSteps:=1000000) (disch:=first | omega | (simp only [LL];omega)) only [W,V,TY,CC,reduceIte,Nat.reduceEqDiff,Nat.reduceAdd,Nat.reduceLeDiff,Nat.reduceLT,Int.reduceLE,Int.reduceLT,Int.reduceAdd,Int.reduceSub,Int.reduceToNat,Nat.reduceMul,h,not_false_eq_true,decide_true]
  refine f_ret _ _ _ ?_
  simp (maxSteps:=1000000) (disch:=first | omega | (simp only [LL];omega)) only [W,V,TY,CC,reduceIte,Nat.reduceEqDiff,Nat.reduceAdd,Nat.reduceLeDiff,Nat.reduceLT,Int.reduceLE,Int.reduceLT,Int.reduceAdd,Int.reduceSub,Int.reduceToNat,Nat.reduceMul,zS]
  rfl
theorem k_Mean0 (h : anchV x y = 0) : AFun Tryd.prog 38 [.one (intsD x), .one (intsD y)] [.agg (sQ 1 (meanQ y - meanQ x)), .one (.lit (.int .i64 0))] := by
  have ca := k_anchors x y lx ly
  rw [h] at ca
  have ho := anch_ok h
  have f1 := k_whole 1 (by decide) (by decide)
  rw [show ((1 : Int) : Rat) = 1 from rfl] at f1
  have my := k_mean y ho.ny ho.swap.lx
  have mx := k_mean x ho.nx ho.lx
  have qy := qs_mean ho.ny ho.swap.lx
  have qx := qs_mean ho.nx ho.lx
  have cs := rat_Sub2 (a := meanQ y) (b := meanQ x) (by omega) (by omega)
  refine afun_intro mo_ _ _ c38 k38 _ _ rfl (by decide) ?_
  unfold b38
  simp (maxSteps:=1000000) (disch:=first | omega | (simp only [LL];omega)) only [W,V,TY,CC,reduceIte,Nat.reduceEqDiff,Nat.reduceAdd,Nat.reduceLeDiff,Nat.reduceLT,Int.reduceLE,Int.reduceLT,Int.reduceAdd,Int.reduceSub,Int.reduceToNat,Nat.reduceMul,sQ,ratC]
  refine a_call _ _ ca (by simp (maxSteps:=1000000) (disch:=first | omega | (simp only [LL];omega)) only [W,V,TY,CC,reduceIte,Nat.reduceEqDiff,Nat.reduceAdd,Nat.reduceLeDiff,Nat.reduceLT,Int.reduceLE,Int.reduceLT,Int.reduceAdd,Int.reduceSub,Int.reduceToNat,Nat.reduceMul,rC,sQ,ratC]) ?_
  simp (maxSteps:=1000000) (disch:=first | omega | (simp only [LL];omega)) only [W,V,TY,CC,reduceIte,Nat.reduceEqDiff,Nat.reduceAdd,Nat.reduceLeDiff,Nat.reduceLT,Int.reduceLE,Int.reduceLT,Int.reduceAdd,Int.reduceSub,Int.reduceToNat,Nat.reduceMul,rC,sQ,ratC]
  refine a_call _ _ f1 (by simp (maxSteps:=1000000) (disch:=first | omega | (simp only [LL];omega)) only [W,V,TY,CC,reduceIte,Nat.reduceEqDiff,Nat.reduceAdd,Nat.reduceLeDiff,Nat.reduceLT,Int.reduceLE,Int.reduceLT,Int.reduceAdd,Int.reduceSub,Int.reduceToNat,Nat.reduceMul,rC,sQ,ratC]) ?_
  simp (maxSteps:=1000000) (disch:=first | omega | (simp only [LL];omega)) only [W,V,TY,CC,reduceIte,Nat.reduceEqDiff,Nat.reduceAdd,Nat.reduceLeDiff,Nat.reduceLT,Int.reduceLE,Int.reduceLT,Int.reduceAdd,Int.reduceSub,Int.reduceToNat,Nat.reduceMul,rC,sQ,ratC]
  refine a_call _ _ my (by simp (maxSteps:=1000000) (disch:=first | omega | (simp only [LL];omega)) only [W,V,TY,CC,reduceIte,Nat.reduceEqDiff,Nat.reduceAdd,Nat.reduceLeDiff,Nat.reduceLT,Int.reduceLE,Int.reduceLT,Int.reduceAdd,Int.reduceSub,Int.reduceToNat,Nat.reduceMul,rC,sQ,ratC]) ?_
  simp (maxSteps:=1000000) (disch:=first | omega | (simp only [LL];omega)) only [W,V,TY,CC,reduceIte,Nat.reduceEqDiff,Nat.reduceAdd,Nat.reduceLeDiff,Nat.reduceLT,Int.reduceLE,Int.reduceLT,Int.reduceAdd,Int.reduceSub,Int.reduceToNat,Nat.reduceMul,rC,sQ,ratC]
  refine a_call _ _ mx (by simp (maxSteps:=1000000) (disch:=first | omega | (simp only [LL];omega)) only [W,V,TY,CC,reduceIte,Nat.reduceEqDiff,Nat.reduceAdd,Nat.reduceLeDiff,Nat.reduceLT,Int.reduceLE,Int.reduceLT,Int.reduceAdd,Int.reduceSub,Int.reduceToNat,Nat.reduceMul,rC,sQ,ratC]) ?_
  simp (maxSteps:=1000000) (disch:=first | omega | (simp only [LL];omega)) only [W,V,TY,CC,reduceIte,Nat.reduceEqDiff,Nat.reduceAdd,Nat.reduceLeDiff,Nat.reduceLT,Int.reduceLE,Int.reduceLT,Int.reduceAdd,Int.reduceSub,Int.reduceToNat,Nat.reduceMul,rC,sQ,ratC]
  refine a_call _ _ cs (by simp (maxSteps:=1000000) (disch:=first | omega | (simp only [LL];omega)) only [W,V,TY,CC,reduceIte,Nat.reduceEqDiff,Nat.reduceAdd,Nat.reduceLeDiff,Nat.reduceLT,Int.reduceLE,Int.reduceLT,Int.reduceAdd,Int.reduceSub,Int.reduceToNat,Nat.reduceMul,rC,sQ,ratC]) ?_
  simp (maxSteps:=1000000) (disch:=first | omega | (simp only [LL];omega)) only [W,V,TY,CC,reduceIte,Nat.reduceEqDiff,Nat.reduceAdd,Nat.reduceLeDiff,Nat.reduceLT,Int.reduceLE,Int.reduceLT,Int.reduceAdd,Int.reduceSub,Int.reduceToNat,Nat.reduceMul,rC,sQ,ratC]
  refine f_ret _ _ _ ?_
  simp (maxSteps:=1000000) (disch:=first | omega | (simp only [LL];omega)) only [W,V,TY,CC,reduceIte,Nat.reduceEqDiff,Nat.reduceAdd,Nat.reduceLeDiff,Nat.reduceLT,Int.reduceLE,Int.reduceLT,Int.reduceAdd,Int.reduceSub,Int.reduceToNat,Nat.reduceMul,rC,sQ,ratC]
theorem k_SpreadE (h : ¬ anchV x y = 0) : AFun Tryd.prog 42 [.one (intsD x), .one (intsD y)] [.agg zS, .one (.lit (.int .i64 (anchV x y)))] := by
  have ca := k_anchors x y lx ly
  generalize anchV x y = e at *
  refine afun_intro mo_ _ _ c42 k42 _ _ rfl (by decide) ?_
  unfold b42
  simp (maxSteps:=1000000) (disch:=first | omega | (simp only [LL];omega)) only [W,V,TY,CC,reduceIte,Nat.reduceEqDiff,Nat.reduceAdd,Nat.reduceLeDiff,Nat.reduceLT,Int.reduceLE,Int.reduceLT,Int.reduceAdd,Int.reduceSub,Int.reduceToNat,Nat.reduceMul]
  refine a_call _ _ ca (by simp (maxSteps:=1000000) (disch:=first | omega | (simp only [LL];omega)) only [W,V,TY,CC,reduceIte,Nat.reduceEqDiff,Nat.reduceAdd,Nat.reduceLeDiff,Nat.reduceLT,Int.reduceLE,Int.reduceLT,Int.reduceAdd,Int.reduceSub,Int.reduceToNat,Nat.reduceMul,h,not_false_eq_true,decide_true]) ?_
  simp (maxSteps:=1000000) (disch:=first | omega | (simp only [LL];omega)) only [W,V,TY,CC,reduceIte,Nat.reduceEqDiff,Nat.reduceAdd,Nat.reduceLeDiff,Nat.reduceLT,Int.reduceLE,Int.reduceLT,Int.reduceAdd,Int.reduceSub,Int.reduceToNat,Nat.reduceMul,h,not_false_eq_true,decide_true]
  refine f_ret _ _ _ ?_
  simp (maxSteps:=1000000) (disch:=first | omega | (simp only [LL];omega)) only [W,V,TY,CC,reduceIte,Nat.reduceEqDiff,Nat.reduceAdd,Nat.reduceLeDiff,Nat.reduceLT,Int.reduceLE,Int.reduceLT,Int.reduceAdd,Int.reduceSub,Int.reduceToNat,Nat.reduceMul,zS]
  rfl
theorem k_SpreadZ (h : anchV x y = 0) (hz : devZ x x.length = 0 ∨ devZ y y.length = 0) : AFun Tryd.prog 42 [.one (intsD x), .one (intsD y)] [.agg zS, .one (.lit (.int .i64 8))] := by
  have ca := k_anchors x y lx ly
  rw [h] at ca
  have ho := anch_ok h
  have dy := k_deviation y ho.ny ho.swap.lx
  have dx := k_deviation x ho.nx ho.lx
  by_cases h1 : devZ x x.length = 0
  · rw [h1] at dx
    refine afun_intro mo_ _ _ c42 k42 _ _ rfl (by decide) ?_
    unfold b42
    simp (maxSteps:=1000000) (disch:=first | omega | (simp only [LL];omega)) only [W,V,TY,CC,reduceIte,Nat.reduceEqDiff,Nat.reduceAdd,Nat.reduceLeDiff,Nat.reduceLT,Int.reduceLE,Int.reduceLT,Int.reduceAdd,Int.reduceSub,Int.reduceToNat,Nat.reduceMul]
    refine a_call _ _ ca (by simp (maxSteps:=1000000) (disch:=first | omega | (simp only [LL];omega)) only [W,V,TY,CC,reduceIte,Nat.reduceEqDiff,Nat.reduceAdd,Nat.reduceLeDiff,Nat.reduceLT,Int.reduceLE,Int.reduceLT,Int.reduceAdd,Int.reduceSub,Int.reduceToNat,Nat.reduceMul,decide_true]) ?_
    simp (maxSteps:=1000000) (disch:=first | omega | (simp only [LL];omega)) only [W,V,TY,CC,reduceIte,Nat.reduceEqDiff,Nat.reduceAdd,Nat.reduceLeDiff,Nat.reduceLT,Int.reduceLE,Int.reduceLT,Int.reduceAdd,Int.reduceSub,Int.reduceToNat,Nat.reduceMul,decide_true]
    refine a_call _ _ dx (by simp (maxSteps:=1000000) (disch:=first | omega | (simp only [LL];omega)) only [W,V,TY,CC,reduceIte,Nat.reduceEqDiff,Nat.reduceAdd,Nat.reduceLeDiff,Nat.reduceLT,Int.reduceLE,Int.reduceLT,Int.reduceAdd,Int.reduceSub,Int.reduceToNat,Nat.reduceMul,decide_true]) ?_
    simp (maxSteps:=1000000) (disch:=first | omega | (simp only [LL];omega)) only [W,V,TY,CC,reduceIte,Nat.reduceEqDiff,Nat.reduceAdd,Nat.reduceLeDiff,Nat.reduceLT,Int.reduceLE,Int.reduceLT,Int.reduceAdd,Int.reduceSub,Int.reduceToNat,Nat.reduceMul,decide_true]
    refine a_call _ _ dy (by simp (maxSteps:=1000000) (disch:=first | omega | (simp only [LL];omega)) only [W,V,TY,CC,reduceIte,Nat.reduceEqDiff,Nat.reduceAdd,Nat.reduceLeDiff,Nat.reduceLT,Int.reduceLE,Int.reduceLT,Int.reduceAdd,Int.reduceSub,Int.reduceToNat,Nat.reduceMul,decide_true]) ?_
    simp (maxSteps:=1000000) (disch:=first | omega | (simp only [LL];omega)) only [W,V,TY,CC,reduceIte,Nat.reduceEqDiff,Nat.reduceAdd,Nat.reduceLeDiff,Nat.reduceLT,Int.reduceLE,Int.reduceLT,Int.reduceAdd,Int.reduceSub,Int.reduceToNat,Nat.reduceMul,decide_true]
    refine f_ret _ _ _ ?_
    simp (maxSteps:=1000000) (disch:=first | omega | (simp only [LL];omega)) only [W,V,TY,CC,reduceIte,Nat.reduceEqDiff,Nat.reduceAdd,Nat.reduceLeDiff,Nat.reduceLT,Int.reduceLE,Int.reduceLT,Int.reduceAdd,Int.reduceSub,Int.reduceToNat,Nat.reduceMul,zS]
    rfl
  · have h2 : devZ y y.length = 0 := by rcases hz with e | e; exact absurd e h1; exact e
    rw [h2] at dy
    generalize devZ x x.length = w at *
    refine afun_intro mo_ _ _ c42 k42 _ _ rfl (by decide) ?_
    unfold b42
    simp (maxSteps:=1000000) (disch:=first | omega | (simp only [LL];omega)) only [W,V,TY,CC,reduceIte,Nat.reduceEqDiff,Nat.reduceAdd,Nat.reduceLeDiff,Nat.reduceLT,Int.reduceLE,Int.reduceLT,Int.reduceAdd,Int.reduceSub,Int.reduceToNat,Nat.reduceMul]
    refine a_call _ _ ca (by simp (maxSteps:=1000000) (disch:=first | omega | (simp only [LL];omega)) only [W,V,TY,CC,reduceIte,Nat.reduceEqDiff,Nat.reduceAdd,Nat.reduceLeDiff,Nat.reduceLT,Int.reduceLE,Int.reduceLT,Int.reduceAdd,Int.reduceSub,Int.reduceToNat,Nat.reduceMul,h1,decide_true,decide_false]) ?_
    simp (maxSteps:=1000000) (disch:=first | omega | (simp only [LL];omega)) only [W,V,TY,CC,reduceIte,Nat.reduceEqDiff,Nat.reduceAdd,Nat.reduceLeDiff,Nat.reduceLT,Int.reduceLE,Int.reduceLT,Int.reduceAdd,Int.reduceSub,Int.reduceToNat,Nat.reduceMul,h1,decide_true,decide_false]
    refine a_call _ _ dx (by simp (maxSteps:=1000000) (disch:=first | omega | (simp only [LL];omega)) only [W,V,TY,CC,reduceIte,Nat.reduceEqDiff,Nat.reduceAdd,Nat.reduceLeDiff,Nat.reduceLT,Int.reduceLE,Int.reduceLT,Int.reduceAdd,Int.reduceSub,Int.reduceToNat,Nat.reduceMul,h1,decide_true,decide_false]) ?_
    simp (maxSteps:=1000000) (disch:=first | omega | (simp only [LL];omega)) only [W,V,TY,CC,reduceIte,Nat.reduceEqDiff,Nat.reduceAdd,Nat.reduceLeDiff,Nat.reduceLT,Int.reduceLE,Int.reduceLT,Int.reduceAdd,Int.reduceSub,Int.reduceToNat,Nat.reduceMul,h1,decide_true,decide_false]
    refine a_call _ _ dy (by simp (maxSteps:=1000000) (disch:=first | omega | (simp only [LL];omega)) only [W,V,TY,CC,reduceIte,Nat.reduceEqDiff,Nat.reduceAdd,Nat.reduceLeDiff,Nat.reduceLT,Int.reduceLE,Int.reduceLT,Int.reduceAdd,Int.reduceSub,Int.reduceToNat,Nat.reduceMul,h1,decide_true,decide_false]) ?_
    simp (maxSteps:=1000000) (disch:=first | omega | (simp only [LL];omega)) only [W,V,TY,CC,reduceIte,Nat.reduceEqDiff,Nat.reduceAdd,Nat.reduceLeDiff,Nat.reduceLT,Int.reduceLE,Int.reduceLT,Int.reduceAdd,Int.reduceSub,Int.reduceToNat,Nat.reduceMul,h1,decide_true,decide_false]
    refine f_ret _ _ _ ?_
    simp (maxSteps:=1000000) (disch:=first | omega | (simp only [LL];omega)) only [W,V,TY,CC,reduceIte,Nat.reduceEqDiff,Nat.reduceAdd,Nat.reduceLeDiff,Nat.reduceLT,Int.reduceLE,Int.reduceLT,Int.reduceAdd,Int.reduceSub,Int.reduceToNat,Nat.reduceMul,zS]
    rfl
theorem k_Spread0 (h : anchV x y = 0) (h1 : ¬ devZ x x.length = 0) (h2 : ¬ devZ y y.length = 0) : AFun Tryd.prog 42 [.one (intsD x), .one (intsD y)] [.agg (sQ (spreadA x y) (meanQ y - spreadA x y * meanQ x)), .one (.lit (.int .i64 0))] := by
  have ca := k_anchors x y lx ly
  rw [h] at ca
  have ho := anch_ok h
  have l1 := ho.lx
  have l2 := ho.swap.lx
  have dy := k_deviation y ho.ny ho.swap.lx
  have dx := k_deviation x ho.nx ho.lx
  have my := k_mean y ho.ny ho.swap.lx
  have mx := k_mean x ho.nx ho.lx
  have qy := qs_mean ho.ny ho.swap.lx
  have qx := qs_mean ho.nx ho.lx
  have ey := devZ_le ho.ny ho.swap.lx y.length (Nat.le_refl _)
  have ex := devZ_le ho.nx ho.lx x.length (Nat.le_refl _)
  have fa := k_fraction (devZ y y.length) (devZ x x.length) (by omega) (by omega) (by omega) (by omega)
  have qa : qs (spreadA x y) ≤ 10 := by
    have d := qs_div (devZ y y.length) (devZ x x.length)
    have e := zl_i64 (x := devZ y y.length) (by omega) (by omega)
    have f := zl_i64 (x := devZ x x.length) (by omega) (by omega)
    unfold spreadA
    omega
  rw [show Rat.divInt (devZ y y.length) (devZ x x.length) = spreadA x y from rfl] at fa
  have qm := qs_mul (spreadA x y) (meanQ x)
  have m1 := rat_Mul2 (a := spreadA x y) (b := meanQ x) (by omega) (by omega)
  have s1 := rat_Sub2 (a := meanQ y) (b := spreadA x y * meanQ x) (by omega) (by omega)
  generalize devZ x x.length = w1 at *
  generalize devZ y y.length = w2 at *
  refine afun_intro mo_ _ _ c42 k42 _ _ rfl (by decide) ?_
  unfold b42
  simp (maxSteps:=1000000) (disch:=first | omega | (simp only [LL];omega)) only [W,V,TY,CC,reduceIte,Nat.reduceEqDiff,Nat.reduceAdd,Nat.reduceLeDiff,Nat.reduceLT,Int.reduceLE,Int.reduceLT,Int.reduceAdd,Int.reduceSub,Int.reduceToNat,Nat.reduceMul,sQ,ratC]
  refine a_call _ _ ca (by simp (maxSteps:=1000000) (disch:=first | omega | (simp only [LL];omega)) only [W,V,TY,CC,reduceIte,Nat.reduceEqDiff,Nat.reduceAdd,Nat.reduceLeDiff,Nat.reduceLT,Int.reduceLE,Int.reduceLT,Int.reduceAdd,Int.reduceSub,Int.reduceToNat,Nat.reduceMul,h1,h2,decide_false,sQ,ratC]) ?_
  simp (maxSteps:=1000000) (disch:=first | omega | (simp only [LL];omega)) only [W,V,TY,CC,reduceIte,Nat.reduceEqDiff,Nat.reduceAdd,Nat.reduceLeDiff,Nat.reduceLT,Int.reduceLE,Int.reduceLT,Int.reduceAdd,Int.reduceSub,Int.reduceToNat,Nat.reduceMul,h1,h2,decide_false,sQ,ratC]
  refine a_call _ _ dx (by simp (maxSteps:=1000000) (disch:=first | omega | (simp only [LL];omega)) only [W,V,TY,CC,reduceIte,Nat.reduceEqDiff,Nat.reduceAdd,Nat.reduceLeDiff,Nat.reduceLT,Int.reduceLE,Int.reduceLT,Int.reduceAdd,Int.reduceSub,Int.reduceToNat,Nat.reduceMul,h1,h2,decide_false,sQ,ratC]) ?_
  simp (maxSteps:=1000000) (disch:=first | omega | (simp only [LL];omega)) only [W,V,TY,CC,reduceIte,Nat.reduceEqDiff,Nat.reduceAdd,Nat.reduceLeDiff,Nat.reduceLT,Int.reduceLE,Int.reduceLT,Int.reduceAdd,Int.reduceSub,Int.reduceToNat,Nat.reduceMul,h1,h2,decide_false,sQ,ratC]
  refine a_call _ _ dy (by simp (maxSteps:=1000000) (disch:=first | omega | (simp only [LL];omega)) only [W,V,TY,CC,reduceIte,Nat.reduceEqDiff,Nat.reduceAdd,Nat.reduceLeDiff,Nat.reduceLT,Int.reduceLE,Int.reduceLT,Int.reduceAdd,Int.reduceSub,Int.reduceToNat,Nat.reduceMul,h1,h2,decide_false,sQ,ratC]) ?_
  simp (maxSteps:=1000000) (disch:=first | omega | (simp only [LL];omega)) only [W,V,TY,CC,reduceIte,Nat.reduceEqDiff,Nat.reduceAdd,Nat.reduceLeDiff,Nat.reduceLT,Int.reduceLE,Int.reduceLT,Int.reduceAdd,Int.reduceSub,Int.reduceToNat,Nat.reduceMul,h1,h2,decide_false,sQ,ratC]
  refine a_call _ _ fa (by simp (maxSteps:=1000000) (disch:=first | omega | (simp only [LL];omega)) only [W,V,TY,CC,reduceIte,Nat.reduceEqDiff,Nat.reduceAdd,Nat.reduceLeDiff,Nat.reduceLT,Int.reduceLE,Int.reduceLT,Int.reduceAdd,Int.reduceSub,Int.reduceToNat,Nat.reduceMul,h1,h2,decide_false,sQ,ratC]) ?_
  simp (maxSteps:=1000000) (disch:=first | omega | (simp only [LL];omega)) only [W,V,TY,CC,reduceIte,Nat.reduceEqDiff,Nat.reduceAdd,Nat.reduceLeDiff,Nat.reduceLT,Int.reduceLE,Int.reduceLT,Int.reduceAdd,Int.reduceSub,Int.reduceToNat,Nat.reduceMul,h1,h2,decide_false,sQ,ratC]
  refine a_call _ _ my (by simp (maxSteps:=1000000) (disch:=first | omega | (simp only [LL];omega)) only [W,V,TY,CC,reduceIte,Nat.reduceEqDiff,Nat.reduceAdd,Nat.reduceLeDiff,Nat.reduceLT,Int.reduceLE,Int.reduceLT,Int.reduceAdd,Int.reduceSub,Int.reduceToNat,Nat.reduceMul,h1,h2,decide_false,sQ,ratC]) ?_
  simp (maxSteps:=1000000) (disch:=first | omega | (simp only [LL];omega)) only [W,V,TY,CC,reduceIte,Nat.reduceEqDiff,Nat.reduceAdd,Nat.reduceLeDiff,Nat.reduceLT,Int.reduceLE,Int.reduceLT,Int.reduceAdd,Int.reduceSub,Int.reduceToNat,Nat.reduceMul,h1,h2,decide_false,sQ,ratC]
  refine a_call _ _ mx (by simp (maxSteps:=1000000) (disch:=first | omega | (simp only [LL];omega)) only [W,V,TY,CC,reduceIte,Nat.reduceEqDiff,Nat.reduceAdd,Nat.reduceLeDiff,Nat.reduceLT,Int.reduceLE,Int.reduceLT,Int.reduceAdd,Int.reduceSub,Int.reduceToNat,Nat.reduceMul,h1,h2,decide_false,sQ,ratC]) ?_
  simp (maxSteps:=1000000) (disch:=first | omega | (simp only [LL];omega)) only [W,V,TY,CC,reduceIte,Nat.reduceEqDiff,Nat.reduceAdd,Nat.reduceLeDiff,Nat.reduceLT,Int.reduceLE,Int.reduceLT,Int.reduceAdd,Int.reduceSub,Int.reduceToNat,Nat.reduceMul,h1,h2,decide_false,sQ,ratC]
  refine a_call _ _ m1 (by simp (maxSteps:=1000000) (disch:=first | omega | (simp only [LL];omega)) only [W,V,TY,CC,reduceIte,Nat.reduceEqDiff,Nat.reduceAdd,Nat.reduceLeDiff,Nat.reduceLT,Int.reduceLE,Int.reduceLT,Int.reduceAdd,Int.reduceSub,Int.reduceToNat,Nat.reduceMul,h1,h2,decide_false,sQ,ratC]) ?_
  simp (maxSteps:=1000000) (disch:=first | omega | (simp only [LL];omega)) only [W,V,TY,CC,reduceIte,Nat.reduceEqDiff,Nat.reduceAdd,Nat.reduceLeDiff,Nat.reduceLT,Int.reduceLE,Int.reduceLT,Int.reduceAdd,Int.reduceSub,Int.reduceToNat,Nat.reduceMul,h1,h2,decide_false,sQ,ratC]
  refine a_call _ _ s1 (by simp (maxSteps:=1000000) (disch:=first | omega | (simp only [LL];omega)) only [W,V,TY,CC,reduceIte,Nat.reduceEqDiff,Nat.reduceAdd,Nat.reduceLeDiff,Nat.reduceLT,Int.reduceLE,Int.reduceLT,Int.reduceAdd,Int.reduceSub,Int.reduceToNat,Nat.reduceMul,h1,h2,decide_false,sQ,ratC]) ?_
  simp (maxSteps:=1000000) (disch:=first | omega | (simp only [LL];omega)) only [W,V,TY,CC,reduceIte,Nat.reduceEqDiff,Nat.reduceAdd,Nat.reduceLeDiff,Nat.reduceLT,Int.reduceLE,Int.reduceLT,Int.reduceAdd,Int.reduceSub,Int.reduceToNat,Nat.reduceMul,h1,h2,decide_false,sQ,ratC]
  refine f_ret _ _ _ ?_
  simp (maxSteps:=1000000) (disch:=first | omega | (simp only [LL];omega)) only [W,V,TY,CC,reduceIte,Nat.reduceEqDiff,Nat.reduceAdd,Nat.reduceLeDiff,Nat.reduceLT,Int.reduceLE,Int.reduceLT,Int.reduceAdd,Int.reduceSub,Int.reduceToNat,Nat.reduceMul,rC,sQ,ratC]
end
/-! ### the loss -/
/-- examboard/linking.loss -/
def b66 : AF := ⟨36, 3, [.cell 6 27],
  (.seq (.reg [
    ⟨some 3, .box 53 (.tmp 0), none⟩,
    ⟨some 6, .alloc 27, none⟩])
  (.seq (.reg [
    ⟨some 10, .call ⟨(.value (.func 60)), #[(.const (.int .i64 0)), (.const (.int .i64 1))], #[3, 3]⟩, none⟩,
    ⟨some 7, .alloc 27, none⟩,
    ⟨none, .store 27 (.tmp 7) (.tmp 10), none⟩])
  (.seq (.seq (.reg [
    ⟨some 11, .move (.tmp 1), none⟩,
    ⟨some 12, .call ⟨(.builtin .len), #[(.tmp 11)], #[62]⟩, none⟩,
    ⟨some 13, .move (.const (.int .i64 0)), none⟩])
  (.block 0 (.loop (.seq (.reg [
    ⟨some 14, .binOp .lss 3 (.tmp 13) (.tmp 12) 3, none⟩])
  (.seq (.cond (.tmp 14)
    .skip
    (.exit 0))
  (.seq (.block 1 (.seq (.reg [
    ⟨some 15, .move (.tmp 13), none⟩,
    ⟨some 8, .assign (.tmp 15), none⟩])
  (.seq (.dreg [
    ⟨some 16, .load 53 (.tmp 3), none⟩,
    ⟨some 17, .move (.tmp 1), none⟩,
    ⟨some 18, .move (.tmp 8), none⟩,
    ⟨some 19, .indexAddr 62 (.tmp 17) (.tmp 18), none⟩,
    ⟨some 20, .load 3 (.tmp 19), none⟩,
    ⟨some 21, .call ⟨(.value (.func 60)), #[(.tmp 20), (.const (.int .i64 1))], #[3, 3]⟩, none⟩,
    ⟨some 22, .call ⟨(.value (.func 33)), #[(.tmp 16), (.tmp 21)], #[53, 27]⟩, none⟩,
    ⟨some 23, .move (.tmp 2), none⟩,
    ⟨some 24, .move (.tmp 8), none⟩,
    ⟨some 25, .indexAddr 62 (.tmp 23) (.tmp 24), none⟩,
    ⟨some 26, .load 3 (.tmp 25), none⟩,
    ⟨some 27, .call ⟨(.value (.func 60)), #[(.tmp 26), (.const (.int .i64 1))], #[3, 3]⟩, none⟩,
    ⟨some 28, .call ⟨(.value (.func 16)), #[(.tmp 22), (.tmp 27)], #[27, 27]⟩, none⟩,
    ⟨some 9, .alloc 27, none⟩,
    ⟨none, .store 27 (.tmp 9) (.tmp 28), none⟩])
  (.dreg [
    ⟨some 29, .load 27 (.tmp 7), none⟩,
    ⟨some 30, .load 27 (.tmp 9), none⟩,
    ⟨some 31, .load 27 (.tmp 9), none⟩,
    ⟨some 32, .call ⟨(.value (.func 18)), #[(.tmp 30), (.tmp 31)], #[27, 27]⟩, none⟩,
    ⟨some 33, .call ⟨(.value (.func 14)), #[(.tmp 29), (.tmp 32)], #[27, 27]⟩, none⟩,
    ⟨none, .store 27 (.tmp 7) (.tmp 33), none⟩]))))
  (.reg [
    ⟨some 34, .binOp .add 3 (.tmp 13) (.const (.int .i64 1)) 3, none⟩,
    ⟨some 13, .move (.tmp 34), none⟩])))))))
  (.seq (.reg [
    ⟨some 35, .load 27 (.tmp 7), none⟩,
    ⟨none, .store 27 (.tmp 6) (.tmp 35), none⟩])
  .ret))))⟩
theorem c66 : fcomp Tryd.prog 66 = ⟨b66.n, b66.np, b66.res, b66.body.bare⟩ := by kernel_rfl
theorem k66 : fok Tryd.prog 66 = true := by kernel_rfl
theorem k_loss {A B : RR} (hA : rok 68719476600 A) (hB : rok 68719476600 B) {k : Nat} (qA : qs A.q ≤ k) (qB : qs B.q ≤ k) (hk : k ≤ 100000000) {x y : List Int} (ho : anchOK x y) :
    AFun Tryd.prog 66 [.agg (rC A ++ rC B), .one (intsD x), .one (intsD y)] [.agg (ratC (lossQ A.q B.q x y x.length))] := by
  have f0 := k_whole 0 (by decide) (by decide)
  rw [show ((0 : Int) : Rat) = 0 from rfl] at f0
  have l60 := ho.lx
  have lyx := ho.ly
  refine afun_intro mo_ _ _ c66 k66 _ _ rfl (by decide) ?_
  unfold b66
  simp (maxSteps:=1000000) (disch:=first | omega | (simp only [LL];omega)) only [W,V,TY,CC,reduceIte,Nat.reduceEqDiff,Nat.reduceAdd,Nat.reduceLeDiff,Nat.reduceLT,Int.reduceLE,Int.reduceLT,Int.reduceAdd,Int.reduceSub,Int.reduceToNat,Nat.reduceMul,rC]
  refine a_call _ _ f0 (by simp (maxSteps:=1000000) (disch:=first | omega | (simp only [LL];omega)) only [W,V,TY,CC,reduceIte,Nat.reduceEqDiff,Nat.reduceAdd,Nat.reduceLeDiff,Nat.reduceLT,Int.reduceLE,Int.reduceLT,Int.reduceAdd,Int.reduceSub,Int.reduceToNat,Nat.reduceMul,rC,sQ,ratC]) ?_
  simp (maxSteps:=1000000) (disch:=first | omega | (simp only [LL];omega)) only [W,V,TY,CC,reduceIte,Nat.reduceEqDiff,Nat.reduceAdd,Nat.reduceLeDiff,Nat.reduceLT,Int.reduceLE,Int.reduceLT,Int.reduceAdd,Int.reduceSub,Int.reduceToNat,Nat.reduceMul,rC,sQ,ratC]
  refine w_loop (fun n s => ∃ i : Nat, n + i = x.length ∧ s.t 1 = .one (.dt (intsD x)) ∧ s.t 2 = .one (.dt (intsD y)) ∧ s.t 3 = .ptr (3, 0) 0 ∧ s.v (3, 0) = some ((rC A ++ rC B).map .dt) ∧ s.t 6 = .ptr (6, 0) 0 ∧ s.v (6, 0) = some [.dt (.lit (.bool false)), .z, .z] ∧ s.f (6, 0) = false ∧ s.t 7 = .ptr (7, 0) 0 ∧ s.v (7, 0) = some ((ratC (lossQ A.q B.q x y i)).map .dt) ∧ s.f (7, 0) = false ∧ s.t 11 = .one (.dt (intsD x)) ∧ s.t 12 = .one (.dt (.lit (.int .i64 x.length))) ∧ s.t 13 = .one (.dt (.lit (.int .i64 i)))) x.length ⟨0, rfl, ?_, ?_, ?_, ?_, ?_, ?_, ?_, ?_, ?_, ?_, ?_, ?_, ?_⟩ ?_
  · simp (maxSteps:=1000000) (disch:=first | omega | (simp only [LL];omega)) only [W,V,TY,CC,reduceIte,Nat.reduceEqDiff,Nat.reduceAdd,Nat.reduceLeDiff,Nat.reduceLT,Int.reduceLE,Int.reduceLT,Int.reduceAdd,Int.reduceSub,Int.reduceToNat,Nat.reduceMul]
  · simp (maxSteps:=1000000) (disch:=first | omega | (simp only [LL];omega)) only [W,V,TY,CC,reduceIte,Nat.reduceEqDiff,Nat.reduceAdd,Nat.reduceLeDiff,Nat.reduceLT,Int.reduceLE,Int.reduceLT,Int.reduceAdd,Int.reduceSub,Int.reduceToNat,Nat.reduceMul]
  · simp (maxSteps:=1000000) (disch:=first | omega | (simp only [LL];omega)) only [W,V,TY,CC,reduceIte,Nat.reduceEqDiff,Nat.reduceAdd,Nat.reduceLeDiff,Nat.reduceLT,Int.reduceLE,Int.reduceLT,Int.reduceAdd,Int.reduceSub,Int.reduceToNat,Nat.reduceMul]
  · simp (maxSteps:=1000000) (disch:=first | omega | (simp only [LL];omega)) only [W,V,TY,CC,reduceIte,Nat.reduceEqDiff,Nat.reduceAdd,Nat.reduceLeDiff,Nat.reduceLT,Int.reduceLE,Int.reduceLT,Int.reduceAdd,Int.reduceSub,Int.reduceToNat,Nat.reduceMul,rC]
  · simp (maxSteps:=1000000) (disch:=first | omega | (simp only [LL];omega)) only [W,V,TY,CC,reduceIte,Nat.reduceEqDiff,Nat.reduceAdd,Nat.reduceLeDiff,Nat.reduceLT,Int.reduceLE,Int.reduceLT,Int.reduceAdd,Int.reduceSub,Int.reduceToNat,Nat.reduceMul]
  · simp (maxSteps:=1000000) (disch:=first | omega | (simp only [LL];omega)) only [W,V,TY,CC,reduceIte,Nat.reduceEqDiff,Nat.reduceAdd,Nat.reduceLeDiff,Nat.reduceLT,Int.reduceLE,Int.reduceLT,Int.reduceAdd,Int.reduceSub,Int.reduceToNat,Nat.reduceMul]
  · simp (maxSteps:=1000000) (disch:=first | omega | (simp only [LL];omega)) only [W,V,TY,CC,reduceIte,Nat.reduceEqDiff,Nat.reduceAdd,Nat.reduceLeDiff,Nat.reduceLT,Int.reduceLE,Int.reduceLT,Int.reduceAdd,Int.reduceSub,Int.reduceToNat,Nat.reduceMul]
  · simp (maxSteps:=1000000) (disch:=first | omega | (simp only [LL];omega)) only [W,V,TY,CC,reduceIte,Nat.reduceEqDiff,Nat.reduceAdd,Nat.reduceLeDiff,Nat.reduceLT,Int.reduceLE,Int.reduceLT,Int.reduceAdd,Int.reduceSub,Int.reduceToNat,Nat.reduceMul]
  · simp (maxSteps:=1000000) (disch:=first | omega | (simp only [LL];omega)) only [W,V,TY,CC,reduceIte,Nat.reduceEqDiff,Nat.reduceAdd,Nat.reduceLeDiff,Nat.reduceLT,Int.reduceLE,Int.reduceLT,Int.reduceAdd,Int.reduceSub,Int.reduceToNat,Nat.reduceMul,ratC]
    rfl
  · simp (maxSteps:=1000000) (disch:=first | omega | (simp only [LL];omega)) only [W,V,TY,CC,reduceIte,Nat.reduceEqDiff,Nat.reduceAdd,Nat.reduceLeDiff,Nat.reduceLT,Int.reduceLE,Int.reduceLT,Int.reduceAdd,Int.reduceSub,Int.reduceToNat,Nat.reduceMul]
  · simp (maxSteps:=1000000) (disch:=first | omega | (simp only [LL];omega)) only [W,V,TY,CC,reduceIte,Nat.reduceEqDiff,Nat.reduceAdd,Nat.reduceLeDiff,Nat.reduceLT,Int.reduceLE,Int.reduceLT,Int.reduceAdd,Int.reduceSub,Int.reduceToNat,Nat.reduceMul]
  · simp (maxSteps:=1000000) (disch:=first | omega | (simp only [LL];omega)) only [W,V,TY,CC,reduceIte,Nat.reduceEqDiff,Nat.reduceAdd,Nat.reduceLeDiff,Nat.reduceLT,Int.reduceLE,Int.reduceLT,Int.reduceAdd,Int.reduceSub,Int.reduceToNat,Nat.reduceMul]
  · simp (maxSteps:=1000000) (disch:=first | omega | (simp only [LL];omega)) only [W,V,TY,CC,reduceIte,Nat.reduceEqDiff,Nat.reduceAdd,Nat.reduceLeDiff,Nat.reduceLT,Int.reduceLE,Int.reduceLT,Int.reduceAdd,Int.reduceSub,Int.reduceToNat,Nat.reduceMul]
  intro n s hwf ⟨i, e, t1, t2, t3, v3, t6, v6, f6, t7, v7, f7, t11, t12, t13⟩
  simp only [rC, ratC, List.map_cons, List.map_nil, List.cons_append, List.nil_append] at v3 v7
  have f9 := (hwf 9 (s.g 9) (Nat.le_refl _)).2.2
  simp (maxSteps:=1000000) (disch:=first | omega | (simp only [LL];omega)) only [W,V,TY,CC,reduceIte,Nat.reduceEqDiff,Nat.reduceAdd,Nat.reduceLeDiff,Nat.reduceLT,Int.reduceLE,Int.reduceLT,Int.reduceAdd,Int.reduceSub,Int.reduceToNat,Nat.reduceMul,t1,t2,t3,v3,t6,v6,f6,t7,v7,f7,t11,t12,t13]
  refine c_split (fun hi => ?_) (fun hi => ?_)
  · have hil : i < x.length := by omega
    have hiy : i < y.length := by omega
    have b1 := numB_at ho.nx hil
    have b2 := numB_at ho.ny hiy
    have q1 := qs_res qA qB b1.1 b1.2 b2.1 b2.2
    have q2 := qs_loss qA qB ho.nx ho.ny lyx i (by omega)
    have q3 : i * (4 * k + 48) ≤ 60 * (4 * k + 48) := Nat.mul_le_mul_right _ (by omega)
    have hL : lossQ A.q B.q x y (i + 1) = lossQ A.q B.q x y i + (A.q * (x.getD i 0 : Int) + B.q - (y.getD i 0 : Int)) * (A.q * (x.getD i 0 : Int) + B.q - (y.getD i 0 : Int)) := rfl
    have w1 := k_whole (x.getD i 0) (by omega) (by omega)
    have w2 := k_whole (y.getD i 0) (by omega) (by omega)
    have ap := k_Apply hA hB (rokI (x := x.getD i 0) (by omega) (by omega)) (by rw [nr_q]; omega)
    rw [nr_q, rC_nr] at ap
    have sb := rat_Sub2 (a := A.q * (x.getD i 0 : Int) + B.q) (b := ((y.getD i 0 : Int) : Rat)) (by omega) (by have := qs_int (x := y.getD i 0) (by omega) (by omega); omega)
    generalize A.q * ((x.getD i 0 : Int) : Rat) + B.q - ((y.getD i 0 : Int) : Rat) = d at *
    have ml := rat_Mul2 (a := d) (b := d) (by omega) (by omega)
    have ad := rat_Add2 (a := lossQ A.q B.q x y i) (b := d * d) (by omega) (by omega)
    simp (maxSteps:=1000000) (disch:=first | omega | (simp only [LL];omega)) only [W,V,TY,CC,reduceIte,Nat.reduceEqDiff,Nat.reduceAdd,Nat.reduceLeDiff,Nat.reduceLT,Int.reduceLE,Int.reduceLT,Int.reduceAdd,Int.reduceSub,Int.reduceToNat,Nat.reduceMul,t1,t2,t3,v3,t6,v6,f6,t7,v7,f7,t11,t12,t13,f9,rC]
    refine a_call _ _ w1 (by simp (maxSteps:=1000000) (disch:=first | omega | (simp only [LL];omega)) only [W,V,TY,CC,reduceIte,Nat.reduceEqDiff,Nat.reduceAdd,Nat.reduceLeDiff,Nat.reduceLT,Int.reduceLE,Int.reduceLT,Int.reduceAdd,Int.reduceSub,Int.reduceToNat,Nat.reduceMul,t1,t2,t3,v3,t6,v6,f6,t7,v7,f7,t11,t12,t13,f9,rC,ratC]) ?_
    simp (maxSteps:=1000000) (disch:=first | omega | (simp only [LL];omega)) only [W,V,TY,CC,reduceIte,Nat.reduceEqDiff,Nat.reduceAdd,Nat.reduceLeDiff,Nat.reduceLT,Int.reduceLE,Int.reduceLT,Int.reduceAdd,Int.reduceSub,Int.reduceToNat,Nat.reduceMul,t1,t2,t3,v3,t6,v6,f6,t7,v7,f7,t11,t12,t13,f9,rC,ratC]
    refine a_call _ _ ap (by simp (maxSteps:=1000000) (disch:=first | omega | (simp only [LL];omega)) only [W,V,TY,CC,reduceIte,Nat.reduceEqDiff,Nat.reduceAdd,Nat.reduceLeDiff,Nat.reduceLT,Int.reduceLE,Int.reduceLT,Int.reduceAdd,Int.reduceSub,Int.reduceToNat,Nat.reduceMul,t1,t2,t3,v3,t6,v6,f6,t7,v7,f7,t11,t12,t13,f9,rC,ratC]) ?_
    simp (maxSteps:=1000000) (disch:=first | omega | (simp only [LL];omega)) only [W,V,TY,CC,reduceIte,Nat.reduceEqDiff,Nat.reduceAdd,Nat.reduceLeDiff,Nat.reduceLT,Int.reduceLE,Int.reduceLT,Int.reduceAdd,Int.reduceSub,Int.reduceToNat,Nat.reduceMul,t1,t2,t3,v3,t6,v6,f6,t7,v7,f7,t11,t12,t13,f9,rC,ratC]
    refine a_call _ _ w2 (by simp (maxSteps:=1000000) (disch:=first | omega | (simp only [LL];omega)) only [W,V,TY,CC,reduceIte,Nat.reduceEqDiff,Nat.reduceAdd,Nat.reduceLeDiff,Nat.reduceLT,Int.reduceLE,Int.reduceLT,Int.reduceAdd,Int.reduceSub,Int.reduceToNat,Nat.reduceMul,t1,t2,t3,v3,t6,v6,f6,t7,v7,f7,t11,t12,t13,f9,rC,ratC]) ?_
    simp (maxSteps:=1000000) (disch:=first | omega | (simp only [LL];omega)) only [W,V,TY,CC,reduceIte,Nat.reduceEqDiff,Nat.reduceAdd,Nat.reduceLeDiff,Nat.reduceLT,Int.reduceLE,Int.reduceLT,Int.reduceAdd,Int.reduceSub,Int.reduceToNat,Nat.reduceMul,t1,t2,t3,v3,t6,v6,f6,t7,v7,f7,t11,t12,t13,f9,rC,ratC]
    refine a_call _ _ sb (by simp (maxSteps:=1000000) (disch:=first | omega | (simp only [LL];omega)) only [W,V,TY,CC,reduceIte,Nat.reduceEqDiff,Nat.reduceAdd,Nat.reduceLeDiff,Nat.reduceLT,Int.reduceLE,Int.reduceLT,Int.reduceAdd,Int.reduceSub,Int.reduceToNat,Nat.reduceMul,t1,t2,t3,v3,t6,v6,f6,t7,v7,f7,t11,t12,t13,f9,rC,ratC]) ?_
    simp (maxSteps:=1000000) (disch:=first | omega | (simp only [LL];omega)) only [W,V,TY,CC,reduceIte,Nat.reduceEqDiff,Nat.reduceAdd,Nat.reduceLeDiff,Nat.reduceLT,Int.reduceLE,Int.reduceLT,Int.reduceAdd,Int.reduceSub,Int.reduceToNat,Nat.reduceMul,t1,t2,t3,v3,t6,v6,f6,t7,v7,f7,t11,t12,t13,f9,rC,ratC]
    refine a_call _ _ ml (by simp (maxSteps:=1000000) (disch:=first | omega | (simp only [LL];omega)) only [W,V,TY,CC,reduceIte,Nat.reduceEqDiff,Nat.reduceAdd,Nat.reduceLeDiff,Nat.reduceLT,Int.reduceLE,Int.reduceLT,Int.reduceAdd,Int.reduceSub,Int.reduceToNat,Nat.reduceMul,t1,t2,t3,v3,t6,v6,f6,t7,v7,f7,t11,t12,t13,f9,rC,ratC]) ?_
    simp (maxSteps:=1000000) (disch:=first | omega | (simp only [LL];omega)) only [W,V,TY,CC,reduceIte,Nat.reduceEqDiff,Nat.reduceAdd,Nat.reduceLeDiff,Nat.reduceLT,Int.reduceLE,Int.reduceLT,Int.reduceAdd,Int.reduceSub,Int.reduceToNat,Nat.reduceMul,t1,t2,t3,v3,t6,v6,f6,t7,v7,f7,t11,t12,t13,f9,rC,ratC]
    refine a_call _ _ ad (by simp (maxSteps:=1000000) (disch:=first | omega | (simp only [LL];omega)) only [W,V,TY,CC,reduceIte,Nat.reduceEqDiff,Nat.reduceAdd,Nat.reduceLeDiff,Nat.reduceLT,Int.reduceLE,Int.reduceLT,Int.reduceAdd,Int.reduceSub,Int.reduceToNat,Nat.reduceMul,t1,t2,t3,v3,t6,v6,f6,t7,v7,f7,t11,t12,t13,f9,rC,ratC]) ?_
    simp (maxSteps:=1000000) (disch:=first | omega | (simp only [LL];omega)) only [W,V,TY,CC,reduceIte,Nat.reduceEqDiff,Nat.reduceAdd,Nat.reduceLeDiff,Nat.reduceLT,Int.reduceLE,Int.reduceLT,Int.reduceAdd,Int.reduceSub,Int.reduceToNat,Nat.reduceMul,t1,t2,t3,v3,t6,v6,f6,t7,v7,f7,t11,t12,t13,f9,rC,ratC]
    exact ⟨n - 1, by omega, i + 1, by omega, by rw [hL], rfl⟩
  · obtain rfl : i = x.length := by omega
    simp (maxSteps:=1000000) (disch:=first | omega | (simp only [LL];omega)) only [W,V,TY,CC,reduceIte,Nat.reduceEqDiff,Nat.reduceAdd,Nat.reduceLeDiff,Nat.reduceLT,Int.reduceLE,Int.reduceLT,Int.reduceAdd,Int.reduceSub,Int.reduceToNat,Nat.reduceMul,t1,t2,t3,v3,t6,v6,f6,t7,v7,f7,t11,t12,t13]
    refine f_ret _ _ _ ?_
    simp (maxSteps:=1000000) (disch:=first | omega | (simp only [LL];omega)) only [W,V,TY,CC,reduceIte,Nat.reduceEqDiff,Nat.reduceAdd,Nat.reduceLeDiff,Nat.reduceLT,Int.reduceLE,Int.reduceLT,Int.reduceAdd,Int.reduceSub,Int.reduceToNat,Nat.reduceMul,t1,t2,t3,v3,t6,v6,f6,t7,v7,f7,t11,t12,t13,ratC]
/-- examboard/linking.Loss -/
def b40 : AF := ⟨20, 3, [.cell 6 27, .tmp 7],
  (.seq (.reg [
    ⟨some 3, .box 53 (.tmp 0), none⟩,
    ⟨some 6, .alloc 27, none⟩,
    ⟨some 7, .assign (.const (.int .i64 0)), none⟩])
  (.seq (.seq (.reg [
    ⟨some 9, .move (.tmp 1), none⟩,
    ⟨some 10, .move (.tmp 2), none⟩,
    ⟨some 11, .call ⟨(.value (.func 64)), #[(.tmp 9), (.tmp 10)], #[62, 62]⟩, none⟩,
    ⟨some 8, .assign (.tmp 11), none⟩])
  (.seq (.reg [
    ⟨some 12, .move (.tmp 8), none⟩,
    ⟨some 13, .binOp .neq 57 (.tmp 12) (.const (.int .i64 0)) 57, none⟩])
  (.cond (.tmp 13)
    (.seq (.reg [
      ⟨some 14, .build 27 #[], none⟩,
      ⟨some 15, .move (.tmp 8), none⟩,
      ⟨none, .store 27 (.tmp 6) (.tmp 14), none⟩,
      ⟨some 7, .assign (.tmp 15), none⟩])
    .ret)
    .skip)))
  (.seq (.reg [
    ⟨some 16, .load 53 (.tmp 3), none⟩,
    ⟨some 17, .move (.tmp 1), none⟩,
    ⟨some 18, .move (.tmp 2), none⟩,
    ⟨some 19, .call ⟨(.value (.func 66)), #[(.tmp 16), (.tmp 17), (.tmp 18)], #[53, 62, 62]⟩, none⟩,
    ⟨none, .store 27 (.tmp 6) (.tmp 19), none⟩,
    ⟨some 7, .assign (.const (.int .i64 0)), none⟩])
  .ret)))⟩
theorem c40 : fcomp Tryd.prog 40 = ⟨b40.n, b40.np, b40.res, b40.body.bare⟩ := by kernel_rfl
theorem k40 : fok Tryd.prog 40 = true := by kernel_rfl
theorem k_Loss0 {A B : RR} (hA : rok 68719476600 A) (hB : rok 68719476600 B) {k : Nat} (qA : qs A.q ≤ k) (qB : qs B.q ≤ k) (hk : k ≤ 100000000) {x y : List Int} (h : anchV x y = 0) :
    AFun Tryd.prog 40 [.agg (rC A ++ rC B), .one (intsD x), .one (intsD y)] [.agg (ratC (lossQ A.q B.q x y x.length)), .one (.lit (.int .i64 0))] := by
  have ho := anch_ok h
  have ca := k_anchors x y (by have := ho.lx; omega) (by have := ho.swap.lx; omega)
  rw [h] at ca
  have cl := k_loss hA hB qA qB hk ho
  refine afun_intro mo_ _ _ c40 k40 _ _ rfl (by decide) ?_
  unfold b40
  simp (maxSteps:=1000000) (disch:=first | omega | (simp only [LL];omega)) only [W,V,TY,CC,reduceIte,Nat.reduceEqDiff,Nat.reduceAdd,Nat.reduceLeDiff,Nat.reduceLT,Int.reduceLE,Int.reduceLT,Int.reduceAdd,Int.reduceSub,Int.reduceToNat,Nat.reduceMul,rC]
  refine a_call _ _ ca (by simp (maxSteps:=1000000) (disch:=first | omega | (simp only [LL];omega)) only [W,V,TY,CC,reduceIte,Nat.reduceEqDiff,Nat.reduceAdd,Nat.reduceLeDiff,Nat.reduceLT,Int.reduceLE,Int.reduceLT,Int.reduceAdd,Int.reduceSub,Int.reduceToNat,Nat.reduceMul,rC,sQ,ratC]) ?_
  simp (maxSteps:=1000000) (disch:=first | omega | (simp only [LL];omega)) only [W,V,TY,CC,reduceIte,Nat.reduceEqDiff,Nat.reduceAdd,Nat.reduceLeDiff,Nat.reduceLT,Int.reduceLE,Int.reduceLT,Int.reduceAdd,Int.reduceSub,Int.reduceToNat,Nat.reduceMul,rC,sQ,ratC]
  refine a_call _ _ cl (by simp (maxSteps:=1000000) (disch:=first | omega | (simp only [LL];omega)) only [W,V,TY,CC,reduceIte,Nat.reduceEqDiff,Nat.reduceAdd,Nat.reduceLeDiff,Nat.reduceLT,Int.reduceLE,Int.reduceLT,Int.reduceAdd,Int.reduceSub,Int.reduceToNat,Nat.reduceMul,rC,sQ,ratC]) ?_
  simp (maxSteps:=1000000) (disch:=first | omega | (simp only [LL];omega)) only [W,V,TY,CC,reduceIte,Nat.reduceEqDiff,Nat.reduceAdd,Nat.reduceLeDiff,Nat.reduceLT,Int.reduceLE,Int.reduceLT,Int.reduceAdd,Int.reduceSub,Int.reduceToNat,Nat.reduceMul,rC,sQ,ratC]
  refine f_ret _ _ _ ?_
  simp (maxSteps:=1000000) (disch:=first | omega | (simp only [LL];omega)) only [W,V,TY,CC,reduceIte,Nat.reduceEqDiff,Nat.reduceAdd,Nat.reduceLeDiff,Nat.reduceLT,Int.reduceLE,Int.reduceLT,Int.reduceAdd,Int.reduceSub,Int.reduceToNat,Nat.reduceMul,rC,sQ,ratC]
/-! ### lists of links -/
def lkC (p : RR × RR) : List Dt := rC p.1 ++ rC p.2
def lkD (ls : List (RR × RR)) : Dt := rowD lkC ls
def lk0 : RR × RR := (⟨false, [], []⟩, ⟨false, [], []⟩)
instance : Inhabited (RR × RR) := ⟨lk0⟩
theorem lk_len : ∀ p : RR × RR, (lkC p).length = 6 := fun _ => rfl
theorem LKR : (∀ {s : AS} {k : IntKind} {x : Int} (l : List (RR × RR)), 0 ≤ x → x < l.length → idxO s 6 (.one (.dt (lkD l))) (.one (.dt (.lit (.int k x)))) = True) ∧
  (∀ {k : IntKind} {x : Int} (l : List (RR × RR)), 0 ≤ x → x < l.length → idxV 6 (.one (.dt (lkD l))) (.one (.dt (.lit (.int k x)))) = .el (lkC (l.getD x.toNat lk0))) ∧
  (∀ {s : AS} (l : List (RR × RR)), lenO s (.one (.dt (lkD l))) = True) ∧
  (∀ {s : AS} (l : List (RR × RR)), lenV s (.one (.dt (lkD l))) = .one (.dt (.lit (.int .i64 l.length)))) ∧
  (∀ (s : AS) (a b c d e f : Dt), acells s (.el [a, b, c, d, e, f]) = some [.dt a, .dt b, .dt c, .dt d, .dt e, .dt f]) := by
  refine ⟨fun l h h' => ?_, fun l h h' => ?_, fun l => rfl, fun l => rfl, fun s a b c d e f => rfl⟩
  · rw [show lkD l = rowD lkC l from rfl, io_rowD lk_len (by decide) l]; simp [h, h']
  · exact iv_rowD lk_len l lk0 h h'
def validB (ls : List (RR × RR)) : Bool := ls.all fun p => decide (0 < p.1.q)
theorem getD_mem {α : Type} (l : List α) (d : α) {i : Nat} (h : i < l.length) : l.getD i d ∈ l := by
  rw [List.getD_eq_getElem?_getD, List.getElem?_eq_getElem h]; exact List.getElem_mem h
theorem validB_at {ls : List (RR × RR)} (h : validB ls = true) {i : Nat} (hi : i < ls.length) : 0 < (ls.getD i lk0).1.q := of_decide_eq_true (List.all_eq_true.1 h _ (getD_mem ls lk0 hi))
theorem validB_of {ls : List (RR × RR)} (h : ∀ i, i < ls.length → 0 < (ls.getD i lk0).1.q) : validB ls = true := by
  refine List.all_eq_true.2 fun p hp => ?_
  obtain ⟨i, hi, rfl⟩ := List.getElem_of_mem hp
  have := h i hi
  rw [List.getD_eq_getElem?_getD, List.getElem?_eq_getElem hi] at this
  exact decide_eq_true this
theorem validB_not {ls : List (RR × RR)} {i : Nat} (hi : i < ls.length) (h : ¬ 0 < (ls.getD i lk0).1.q) : validB ls = false := by
  cases hn : validB ls with
  | false => rfl
  | true => exact absurd (validB_at hn hi) h
def chainE (ls : List (RR × RR)) : Int := if 60 < ls.length then 5 else if validB ls = true then 0 else 1
/-- each link within bounds -/
def roks (k : Nat) (ls : List (RR × RR)) : Prop := ∀ p ∈ ls, rok k p.1 ∧ rok k p.2
theorem roks.at_ {k : Nat} {ls : List (RR × RR)} (h : roks k ls) {i : Nat} (hi : i < ls.length) : rok k (ls.getD i lk0).1 ∧ rok k (ls.getD i lk0).2 := h _ (getD_mem ls lk0 hi)
/-- examboard/linking.chain -/
def b72 : AF := ⟨18, 1, [.tmp 2],
  (.seq (.reg [
    ⟨some 2, .assign (.const (.int .i64 0)), none⟩])
  (.seq (.seq (.reg [
    ⟨some 5, .move (.tmp 0), none⟩,
    ⟨some 6, .call ⟨(.builtin .len), #[(.tmp 5)], #[70]⟩, none⟩,
    ⟨some 7, .binOp .gtr 3 (.tmp 6) (.const (.int .i64 60)) 3, none⟩])
  (.cond (.tmp 7)
    (.seq (.reg [
      ⟨some 2, .assign (.const (.int .i64 5)), none⟩])
    .ret)
    .skip))
  (.seq (.seq (.reg [
    ⟨some 8, .move (.tmp 0), none⟩,
    ⟨some 9, .call ⟨(.builtin .len), #[(.tmp 8)], #[70]⟩, none⟩,
    ⟨some 10, .move (.const (.int .i64 0)), none⟩])
  (.block 0 (.loop (.seq (.reg [
    ⟨some 11, .binOp .lss 3 (.tmp 10) (.tmp 9) 3, none⟩])
  (.seq (.cond (.tmp 11)
    .skip
    (.exit 0))
  (.seq (.block 1 (.seq (.reg [
    ⟨some 12, .indexAddr 70 (.tmp 8) (.tmp 10), none⟩,
    ⟨some 13, .load 53 (.tmp 12), none⟩,
    ⟨some 4, .alloc 53, none⟩,
    ⟨none, .store 53 (.tmp 4) (.tmp 13), none⟩])
  (.seq (.reg [
    ⟨some 14, .load 53 (.tmp 4), none⟩,
    ⟨some 15, .call ⟨(.value (.func 36)), #[(.tmp 14)], #[53]⟩, none⟩,
    ⟨some 16, .unOp .not 4 (.tmp 15), none⟩])
  (.cond (.tmp 16)
    (.seq (.reg [
      ⟨some 2, .assign (.const (.int .i64 1)), none⟩])
    .ret)
    .skip))))
  (.reg [
    ⟨some 17, .binOp .add 3 (.tmp 10) (.const (.int .i64 1)) 3, none⟩,
    ⟨some 10, .move (.tmp 17), none⟩])))))))
  (.seq (.reg [
    ⟨some 2, .assign (.const (.int .i64 0)), none⟩])
  .ret))))⟩
theorem c72 : fcomp Tryd.prog 72 = ⟨b72.n, b72.np, b72.res, b72.body.bare⟩ := by kernel_rfl
theorem k72 : fok Tryd.prog 72 = true := by kernel_rfl
theorem k_chain {ls : List (RR × RR)} (hls : roks 68719476600 ls) (hn : ls.length ≤ 9223372036854775807) : AFun Tryd.prog 72 [.one (lkD ls)] [.one (.lit (.int .i64 (chainE ls)))] := by
  unfold chainE
  refine afun_intro mo_ _ _ c72 k72 _ _ rfl (by decide) ?_
  unfold b72
  simp (maxSteps:=1000000) (disch:=first | omega | (simp only [LL];omega)) only [W,V,TY,CC,reduceIte,Nat.reduceEqDiff,Nat.reduceAdd,Nat.reduceLeDiff,Nat.reduceLT,Int.reduceLE,Int.reduceLT,Int.reduceAdd,Int.reduceSub,Int.reduceToNat,Nat.reduceMul,LKR]
  refine c_split (fun h60 => ?_) (fun h60 => ?_)
  · rw [if_pos (by omega)]
    simp (maxSteps:=1000000) (disch:=first | omega | (simp only [LL];omega)) only [W,V,TY,CC,reduceIte,Nat.reduceEqDiff,Nat.reduceAdd,Nat.reduceLeDiff,Nat.reduceLT,Int.reduceLE,Int.reduceLT,Int.reduceAdd,Int.reduceSub,Int.reduceToNat,Nat.reduceMul]
    refine f_ret _ _ _ ?_
    simp (maxSteps:=1000000) (disch:=first | omega | (simp only [LL];omega)) only [W,V,TY,CC,reduceIte,Nat.reduceEqDiff,Nat.reduceAdd,Nat.reduceLeDiff,Nat.reduceLT,Int.reduceLE,Int.reduceLT,Int.reduceAdd,Int.reduceSub,Int.reduceToNat,Nat.reduceMul,LKR]
  rw [if_neg (by omega)]
  simp (maxSteps:=1000000) (disch:=first | omega | (simp only [LL];omega)) only [W,V,TY,CC,reduceIte,Nat.reduceEqDiff,Nat.reduceAdd,Nat.reduceLeDiff,Nat.reduceLT,Int.reduceLE,Int.reduceLT,Int.reduceAdd,Int.reduceSub,Int.reduceToNat,Nat.reduceMul,LKR]
  refine w_loop (fun n s => ∃ i : Nat, n + i = ls.length ∧ s.t 8 = .one (.dt (lkD ls)) ∧ s.t 9 = .one (.dt (.lit (.int .i64 ls.length))) ∧ s.t 10 = .one (.dt (.lit (.int .i64 i))) ∧ ∀ j : Nat, j < i → 0 < (ls.getD j lk0).1.q) ls.length ⟨0, rfl, ?_, ?_, ?_, fun j hj => by omega⟩ ?_
  · simp (maxSteps:=1000000) (disch:=first | omega | (simp only [LL];omega)) only [W,V,TY,CC,reduceIte,Nat.reduceEqDiff,Nat.reduceAdd,Nat.reduceLeDiff,Nat.reduceLT,Int.reduceLE,Int.reduceLT,Int.reduceAdd,Int.reduceSub,Int.reduceToNat,Nat.reduceMul]
  · simp (maxSteps:=1000000) (disch:=first | omega | (simp only [LL];omega)) only [W,V,TY,CC,reduceIte,Nat.reduceEqDiff,Nat.reduceAdd,Nat.reduceLeDiff,Nat.reduceLT,Int.reduceLE,Int.reduceLT,Int.reduceAdd,Int.reduceSub,Int.reduceToNat,Nat.reduceMul]
  · simp (maxSteps:=1000000) (disch:=first | omega | (simp only [LL];omega)) only [W,V,TY,CC,reduceIte,Nat.reduceEqDiff,Nat.reduceAdd,Nat.reduceLeDiff,Nat.reduceLT,Int.reduceLE,Int.reduceLT,Int.reduceAdd,Int.reduceSub,Int.reduceToNat,Nat.reduceMul]
  intro n s hwf ⟨i, e, t8, t9, t10, ho⟩
  have f4 := (hwf 4 (s.g 4) (Nat.le_refl _)).2.2
  simp (maxSteps:=1000000) (disch:=first | omega | (simp only [LL];omega)) only [W,V,TY,CC,reduceIte,Nat.reduceEqDiff,Nat.reduceAdd,Nat.reduceLeDiff,Nat.reduceLT,Int.reduceLE,Int.reduceLT,Int.reduceAdd,Int.reduceSub,Int.reduceToNat,Nat.reduceMul,t8,t9,t10]
  refine c_split (fun hi => ?_) (fun hi => ?_)
  · have hil : i < ls.length := by omega
    obtain ⟨ra, rb⟩ := hls.at_ hil
    have cv := k_Valid (B := (ls.getD i lk0).2) ra
    by_cases hv : 0 < (ls.getD i lk0).1.q
    · rw [decide_eq_true hv] at cv
      simp (maxSteps:=1000000) (disch:=first | omega | (simp only [LL];omega)) only [W,V,TY,CC,reduceIte,Nat.reduceEqDiff,Nat.reduceAdd,Nat.reduceLeDiff,Nat.reduceLT,Int.reduceLE,Int.reduceLT,Int.reduceAdd,Int.reduceSub,Int.reduceToNat,Nat.reduceMul,t8,t9,t10,f4,LKR,lkC,rC]
      refine a_call _ _ cv (by simp (maxSteps:=1000000) (disch:=first | omega | (simp only [LL];omega)) only [W,V,TY,CC,reduceIte,Nat.reduceEqDiff,Nat.reduceAdd,Nat.reduceLeDiff,Nat.reduceLT,Int.reduceLE,Int.reduceLT,Int.reduceAdd,Int.reduceSub,Int.reduceToNat,Nat.reduceMul,t8,t9,t10,f4,LKR,lkC,rC]) ?_
      simp (maxSteps:=1000000) (disch:=first | omega | (simp only [LL];omega)) only [W,V,TY,CC,reduceIte,Nat.reduceEqDiff,Nat.reduceAdd,Nat.reduceLeDiff,Nat.reduceLT,Int.reduceLE,Int.reduceLT,Int.reduceAdd,Int.reduceSub,Int.reduceToNat,Nat.reduceMul,t8,t9,t10,f4,LKR,lkC,rC]
      refine ⟨n - 1, by omega, i + 1, by omega, rfl, fun j hj => ?_⟩
      by_cases hji : j = i
      · subst hji; exact hv
      · exact ho j (by omega)
    · rw [decide_eq_false hv] at cv
      rw [if_neg (by rw [validB_not hil hv]; decide)]
      simp (maxSteps:=1000000) (disch:=first | omega | (simp only [LL];omega)) only [W,V,TY,CC,reduceIte,Nat.reduceEqDiff,Nat.reduceAdd,Nat.reduceLeDiff,Nat.reduceLT,Int.reduceLE,Int.reduceLT,Int.reduceAdd,Int.reduceSub,Int.reduceToNat,Nat.reduceMul,t8,t9,t10,f4,LKR,lkC,rC]
      refine a_call _ _ cv (by simp (maxSteps:=1000000) (disch:=first | omega | (simp only [LL];omega)) only [W,V,TY,CC,reduceIte,Nat.reduceEqDiff,Nat.reduceAdd,Nat.reduceLeDiff,Nat.reduceLT,Int.reduceLE,Int.reduceLT,Int.reduceAdd,Int.reduceSub,Int.reduceToNat,Nat.reduceMul,t8,t9,t10,f4,LKR,lkC,rC]) ?_
      simp (maxSteps:=1000000) (disch:=first | omega | (simp only [LL];omega)) only [W,V,TY,CC,reduceIte,Nat.reduceEqDiff,Nat.reduceAdd,Nat.reduceLeDiff,Nat.reduceLT,Int.reduceLE,Int.reduceLT,Int.reduceAdd,Int.reduceSub,Int.reduceToNat,Nat.reduceMul,t8,t9,t10,f4,LKR,lkC,rC]
      refine f_ret _ _ _ ?_
      simp (maxSteps:=1000000) (disch:=first | omega | (simp only [LL];omega)) only [W,V,TY,CC,reduceIte,Nat.reduceEqDiff,Nat.reduceAdd,Nat.reduceLeDiff,Nat.reduceLT,Int.reduceLE,Int.reduceLT,Int.reduceAdd,Int.reduceSub,Int.reduceToNat,Nat.reduceMul,rC,sQ,ratC]
  · rw [if_pos (validB_of fun j hj => ho j (by omega))]
    simp (maxSteps:=1000000) (disch:=first | omega | (simp only [LL];omega)) only [W,V,TY,CC,reduceIte,Nat.reduceEqDiff,Nat.reduceAdd,Nat.reduceLeDiff,Nat.reduceLT,Int.reduceLE,Int.reduceLT,Int.reduceAdd,Int.reduceSub,Int.reduceToNat,Nat.reduceMul,t8,t9,t10]
    refine f_ret _ _ _ ?_
    simp (maxSteps:=1000000) (disch:=first | omega | (simp only [LL];omega)) only [W,V,TY,CC,reduceIte,Nat.reduceEqDiff,Nat.reduceAdd,Nat.reduceLeDiff,Nat.reduceLT,Int.reduceLE,Int.reduceLT,Int.reduceAdd,Int.reduceSub,Int.reduceToNat,Nat.reduceMul,rC,sQ,ratC]
/-! ### the chain -/
def cA (ls : List (RR × RR)) : Nat → Rat
  | 0 => 1
  | i + 1 => cA ls i * (ls.getD i lk0).1.q
def cB (ls : List (RR × RR)) : Nat → Rat
  | 0 => 0
  | i + 1 => (ls.getD i lk0).1.q * cB ls i + (ls.getD i lk0).2.q
theorem qs_chain {k : Nat} {ls : List (RR × RR)} (h : roks k ls) : ∀ i, i ≤ ls.length → qs (cA ls i) ≤ 10 + i * (2 * k + 4) ∧ qs (cB ls i) ≤ 10 + i * (2 * k + 4)
  | 0, _ => by
    have h0 := qs_int (x := 0) (by decide) (by decide)
    have h1 := qs_int (x := 1) (by decide) (by decide)
    exact ⟨by show qs ((1 : Int) : Rat) ≤ _; omega, by show qs ((0 : Int) : Rat) ≤ _; omega⟩
  | i + 1, hi => by
    obtain ⟨h1, h2⟩ := qs_chain h i (by omega)
    obtain ⟨ra, rb⟩ := h.at_ (i := i) (by omega)
    have e1 := qs_rr ra
    have e2 := qs_rr rb
    have e3 := qs_mul (cA ls i) (ls.getD i lk0).1.q
    have e4 := qs_mul (ls.getD i lk0).1.q (cB ls i)
    have e5 := qs_add ((ls.getD i lk0).1.q * cB ls i) (ls.getD i lk0).2.q
    rw [Nat.add_mul]
    unfold cA cB
    omega
/-- examboard/linking.Chain -/
def b43 : AF := ⟨28, 1, [.cell 2 53, .tmp 3],
  (.seq (.reg [
    ⟨some 2, .alloc 53, none⟩,
    ⟨some 3, .assign (.const (.int .i64 0)), none⟩])
  (.seq (.seq (.reg [
    ⟨some 8, .move (.tmp 0), none⟩,
    ⟨some 9, .call ⟨(.value (.func 72)), #[(.tmp 8)], #[70]⟩, none⟩,
    ⟨some 4, .assign (.tmp 9), none⟩])
  (.seq (.reg [
    ⟨some 10, .move (.tmp 4), none⟩,
    ⟨some 11, .binOp .neq 57 (.tmp 10) (.const (.int .i64 0)) 57, none⟩])
  (.cond (.tmp 11)
    (.seq (.reg [
      ⟨some 12, .build 53 #[], none⟩,
      ⟨some 13, .move (.tmp 4), none⟩,
      ⟨none, .store 53 (.tmp 2) (.tmp 12), none⟩,
      ⟨some 3, .assign (.tmp 13), none⟩])
    .ret)
    .skip)))
  (.seq (.reg [
    ⟨some 14, .call ⟨(.value (.func 60)), #[(.const (.int .i64 1)), (.const (.int .i64 1))], #[3, 3]⟩, none⟩,
    ⟨some 15, .call ⟨(.value (.func 60)), #[(.const (.int .i64 0)), (.const (.int .i64 1))], #[3, 3]⟩, none⟩,
    ⟨some 16, .build 53 #[(0, (.tmp 14)), (1, (.tmp 15))], none⟩,
    ⟨some 5, .alloc 53, none⟩,
    ⟨none, .store 53 (.tmp 5) (.tmp 16), none⟩])
  (.seq (.seq (.reg [
    ⟨some 17, .move (.tmp 0), none⟩,
    ⟨some 18, .call ⟨(.builtin .len), #[(.tmp 17)], #[70]⟩, none⟩,
    ⟨some 19, .move (.const (.int .i64 0)), none⟩])
  (.block 0 (.loop (.seq (.reg [
    ⟨some 20, .binOp .lss 3 (.tmp 19) (.tmp 18) 3, none⟩])
  (.seq (.cond (.tmp 20)
    .skip
    (.exit 0))
  (.seq (.block 1 (.seq (.reg [
    ⟨some 21, .indexAddr 70 (.tmp 17) (.tmp 19), none⟩,
    ⟨some 22, .load 53 (.tmp 21), none⟩,
    ⟨some 7, .alloc 53, none⟩,
    ⟨none, .store 53 (.tmp 7) (.tmp 22), none⟩])
  (.reg [
    ⟨some 23, .load 53 (.tmp 5), none⟩,
    ⟨some 24, .load 53 (.tmp 7), none⟩,
    ⟨some 25, .call ⟨(.value (.func 32)), #[(.tmp 23), (.tmp 24)], #[53, 53]⟩, none⟩,
    ⟨none, .store 53 (.tmp 5) (.tmp 25), none⟩])))
  (.reg [
    ⟨some 26, .binOp .add 3 (.tmp 19) (.const (.int .i64 1)) 3, none⟩,
    ⟨some 19, .move (.tmp 26), none⟩])))))))
  (.seq (.reg [
    ⟨some 27, .load 53 (.tmp 5), none⟩,
    ⟨none, .store 53 (.tmp 2) (.tmp 27), none⟩,
    ⟨some 3, .assign (.const (.int .i64 0)), none⟩])
  .ret)))))⟩
theorem c43 : fcomp Tryd.prog 43 = ⟨b43.n, b43.np, b43.res, b43.body.bare⟩ := by kernel_rfl
theorem k43 : fok Tryd.prog 43 = true := by kernel_rfl
theorem k_ChainE {ls : List (RR × RR)} (hls : roks 68719476600 ls) (hn : ls.length ≤ 9223372036854775807) (h : ¬ chainE ls = 0) : AFun Tryd.prog 43 [.one (lkD ls)] [.agg zS, .one (.lit (.int .i64 (chainE ls)))] := by
  have ca := k_chain hls hn
  generalize chainE ls = e at *
  refine afun_intro mo_ _ _ c43 k43 _ _ rfl (by decide) ?_
  unfold b43
  simp (maxSteps:=1000000) (disch:=first | omega | (simp only [LL];omega)) only [W,V,TY,CC,reduceIte,Nat.reduceEqDiff,Nat.reduceAdd,Nat.reduceLeDiff,Nat.reduceLT,Int.reduceLE,Int.reduceLT,Int.reduceAdd,Int.reduceSub,Int.reduceToNat,Nat.reduceMul]
  refine a_call _ _ ca (by simp (maxSteps:=1000000) (disch:=first | omega | (simp only [LL];omega)) only [W,V,TY,CC,reduceIte,Nat.reduceEqDiff,Nat.reduceAdd,Nat.reduceLeDiff,Nat.reduceLT,Int.reduceLE,Int.reduceLT,Int.reduceAdd,Int.reduceSub,Int.reduceToNat,Nat.reduceMul,h,not_false_eq_true,decide_true]) ?_
  simp (maxSteps:=1000000) (disch:=first | omega | (simp only [LL];omega)) only [W,V,TY,CC,reduceIte,Nat.reduceEqDiff,Nat.reduceAdd,Nat.reduceLeDiff,Nat.reduceLT,Int.reduceLE,Int.reduceLT,Int.reduceAdd,Int.reduceSub,Int.reduceToNat,Nat.reduceMul,h,not_false_eq_true,decide_true]
  refine f_ret _ _ _ ?_
  simp (maxSteps:=1000000) (disch:=first | omega | (simp only [LL];omega)) only [W,V,TY,CC,reduceIte,Nat.reduceEqDiff,Nat.reduceAdd,Nat.reduceLeDiff,Nat.reduceLT,Int.reduceLE,Int.reduceLT,Int.reduceAdd,Int.reduceSub,Int.reduceToNat,Nat.reduceMul,zS]
  rfl
theorem chain_ok {ls : List (RR × RR)} (h : chainE ls = 0) : ls.length ≤ 60 ∧ validB ls = true := by
  unfold chainE at h
  split at h
  · cases h
  · split at h
    · exact ⟨by omega, by assumption⟩
    · cases h
theorem k_Chain0 {ls : List (RR × RR)} (hls : roks 1048576 ls) (h : chainE ls = 0) : AFun Tryd.prog 43 [.one (lkD ls)] [.agg (sQ (cA ls ls.length) (cB ls ls.length)), .one (.lit (.int .i64 0))] := by
  obtain ⟨h60, hv⟩ := chain_ok h
  have hls' : roks 68719476600 ls := fun p hp => ⟨(hls p hp).1.mono (by decide), (hls p hp).2.mono (by decide)⟩
  have ca := k_chain hls' (by omega)
  rw [h] at ca
  have f1 := k_whole 1 (by decide) (by decide)
  have f0 := k_whole 0 (by decide) (by decide)
  rw [show ((1 : Int) : Rat) = 1 from rfl] at f1
  rw [show ((0 : Int) : Rat) = 0 from rfl] at f0
  refine afun_intro mo_ _ _ c43 k43 _ _ rfl (by decide) ?_
  unfold b43
  simp (maxSteps:=1000000) (disch:=first | omega | (simp only [LL];omega)) only [W,V,TY,CC,reduceIte,Nat.reduceEqDiff,Nat.reduceAdd,Nat.reduceLeDiff,Nat.reduceLT,Int.reduceLE,Int.reduceLT,Int.reduceAdd,Int.reduceSub,Int.reduceToNat,Nat.reduceMul,sQ,ratC]
  refine a_call _ _ ca (by simp (maxSteps:=1000000) (disch:=first | omega | (simp only [LL];omega)) only [W,V,TY,CC,reduceIte,Nat.reduceEqDiff,Nat.reduceAdd,Nat.reduceLeDiff,Nat.reduceLT,Int.reduceLE,Int.reduceLT,Int.reduceAdd,Int.reduceSub,Int.reduceToNat,Nat.reduceMul,LKR,ratC]) ?_
  simp (maxSteps:=1000000) (disch:=first | omega | (simp only [LL];omega)) only [W,V,TY,CC,reduceIte,Nat.reduceEqDiff,Nat.reduceAdd,Nat.reduceLeDiff,Nat.reduceLT,Int.reduceLE,Int.reduceLT,Int.reduceAdd,Int.reduceSub,Int.reduceToNat,Nat.reduceMul,LKR,ratC]
  refine a_call _ _ f1 (by simp (maxSteps:=1000000) (disch:=first | omega | (simp only [LL];omega)) only [W,V,TY,CC,reduceIte,Nat.reduceEqDiff,Nat.reduceAdd,Nat.reduceLeDiff,Nat.reduceLT,Int.reduceLE,Int.reduceLT,Int.reduceAdd,Int.reduceSub,Int.reduceToNat,Nat.reduceMul,LKR,ratC]) ?_
  simp (maxSteps:=1000000) (disch:=first | omega | (simp only [LL];omega)) only [W,V,TY,CC,reduceIte,Nat.reduceEqDiff,Nat.reduceAdd,Nat.reduceLeDiff,Nat.reduceLT,Int.reduceLE,Int.reduceLT,Int.reduceAdd,Int.reduceSub,Int.reduceToNat,Nat.reduceMul,LKR,ratC]
  refine a_call _ _ f0 (by simp (maxSteps:=1000000) (disch:=first | omega | (simp only [LL];omega)) only [W,V,TY,CC,reduceIte,Nat.reduceEqDiff,Nat.reduceAdd,Nat.reduceLeDiff,Nat.reduceLT,Int.reduceLE,Int.reduceLT,Int.reduceAdd,Int.reduceSub,Int.reduceToNat,Nat.reduceMul,LKR,ratC]) ?_
  simp (maxSteps:=1000000) (disch:=first | omega | (simp only [LL];omega)) only [W,V,TY,CC,reduceIte,Nat.reduceEqDiff,Nat.reduceAdd,Nat.reduceLeDiff,Nat.reduceLT,Int.reduceLE,Int.reduceLT,Int.reduceAdd,Int.reduceSub,Int.reduceToNat,Nat.reduceMul,LKR,ratC]
  refine w_loop (fun n s => ∃ i : Nat, n + i = ls.length ∧ s.t 2 = .ptr (2, 0) 0 ∧ s.v (2, 0) = some [.dt (.lit (.bool false)), .z, .z, .dt (.lit (.bool false)), .z, .z] ∧ s.f (2, 0) = false ∧ s.t 5 = .ptr (5, 0) 0 ∧ s.v (5, 0) = some ((sQ (cA ls i) (cB ls i)).map .dt) ∧ s.f (5, 0) = false ∧ s.t 17 = .one (.dt (lkD ls)) ∧ s.t 18 = .one (.dt (.lit (.int .i64 ls.length))) ∧ s.t 19 = .one (.dt (.lit (.int .i64 i)))) ls.length ⟨0, rfl, ?_, ?_, ?_, ?_, ?_, ?_, ?_, ?_, ?_⟩ ?_
  · simp (maxSteps:=1000000) (disch:=first | omega | (simp only [LL];omega)) only [W,V,TY,CC,reduceIte,Nat.reduceEqDiff,Nat.reduceAdd,Nat.reduceLeDiff,Nat.reduceLT,Int.reduceLE,Int.reduceLT,Int.reduceAdd,Int.reduceSub,Int.reduceToNat,Nat.reduceMul]
  · simp (maxSteps:=1000000) (disch:=first | omega | (simp only [LL];omega)) only [W,V,TY,CC,reduceIte,Nat.reduceEqDiff,Nat.reduceAdd,Nat.reduceLeDiff,Nat.reduceLT,Int.reduceLE,Int.reduceLT,Int.reduceAdd,Int.reduceSub,Int.reduceToNat,Nat.reduceMul]
  · simp (maxSteps:=1000000) (disch:=first | omega | (simp only [LL];omega)) only [W,V,TY,CC,reduceIte,Nat.reduceEqDiff,Nat.reduceAdd,Nat.reduceLeDiff,Nat.reduceLT,Int.reduceLE,Int.reduceLT,Int.reduceAdd,Int.reduceSub,Int.reduceToNat,Nat.reduceMul]
  · simp (maxSteps:=1000000) (disch:=first | omega | (simp only [LL];omega)) only [W,V,TY,CC,reduceIte,Nat.reduceEqDiff,Nat.reduceAdd,Nat.reduceLeDiff,Nat.reduceLT,Int.reduceLE,Int.reduceLT,Int.reduceAdd,Int.reduceSub,Int.reduceToNat,Nat.reduceMul]
  · simp (maxSteps:=1000000) (disch:=first | omega | (simp only [LL];omega)) only [W,V,TY,CC,reduceIte,Nat.reduceEqDiff,Nat.reduceAdd,Nat.reduceLeDiff,Nat.reduceLT,Int.reduceLE,Int.reduceLT,Int.reduceAdd,Int.reduceSub,Int.reduceToNat,Nat.reduceMul,sQ,ratC]
    rfl
  · simp (maxSteps:=1000000) (disch:=first | omega | (simp only [LL];omega)) only [W,V,TY,CC,reduceIte,Nat.reduceEqDiff,Nat.reduceAdd,Nat.reduceLeDiff,Nat.reduceLT,Int.reduceLE,Int.reduceLT,Int.reduceAdd,Int.reduceSub,Int.reduceToNat,Nat.reduceMul]
  · simp (maxSteps:=1000000) (disch:=first | omega | (simp only [LL];omega)) only [W,V,TY,CC,reduceIte,Nat.reduceEqDiff,Nat.reduceAdd,Nat.reduceLeDiff,Nat.reduceLT,Int.reduceLE,Int.reduceLT,Int.reduceAdd,Int.reduceSub,Int.reduceToNat,Nat.reduceMul]
  · simp (maxSteps:=1000000) (disch:=first | omega | (simp only [LL];omega)) only [W,V,TY,CC,reduceIte,Nat.reduceEqDiff,Nat.reduceAdd,Nat.reduceLeDiff,Nat.reduceLT,Int.reduceLE,Int.reduceLT,Int.reduceAdd,Int.reduceSub,Int.reduceToNat,Nat.reduceMul]
  · simp (maxSteps:=1000000) (disch:=first | omega | (simp only [LL];omega)) only [W,V,TY,CC,reduceIte,Nat.reduceEqDiff,Nat.reduceAdd,Nat.reduceLeDiff,Nat.reduceLT,Int.reduceLE,Int.reduceLT,Int.reduceAdd,Int.reduceSub,Int.reduceToNat,Nat.reduceMul]
  intro n s hwf ⟨i, e, t2, v2, f2, t5, v5, f5, t17, t18, t19⟩
  simp only [sQ, ratC, List.map_cons, List.map_nil, List.cons_append, List.nil_append] at v5
  have f7 := (hwf 7 (s.g 7) (Nat.le_refl _)).2.2
  simp (maxSteps:=1000000) (disch:=first | omega | (simp only [LL];omega)) only [W,V,TY,CC,reduceIte,Nat.reduceEqDiff,Nat.reduceAdd,Nat.reduceLeDiff,Nat.reduceLT,Int.reduceLE,Int.reduceLT,Int.reduceAdd,Int.reduceSub,Int.reduceToNat,Nat.reduceMul,t2,v2,f2,t5,v5,f5,t17,t18,t19]
  refine c_split (fun hi => ?_) (fun hi => ?_)
  · have hil : i < ls.length := by omega
    obtain ⟨ra, rb⟩ := hls'.at_ hil
    obtain ⟨ra', rb'⟩ := hls.at_ hil
    have e1 := qs_rr ra'
    obtain ⟨h1, h2⟩ := qs_chain hls i (by omega)
    have q3 : i * (2 * 1048576 + 4) ≤ 60 * (2 * 1048576 + 4) := Nat.mul_le_mul_right _ (by omega)
    have e4 := qs_mul (ls.getD i lk0).1.q (cB ls i)
    have cc := k_Compose (rok_nr (k := 68719476600) (q := cA ls i) (by omega)) (rok_nr (k := 68719476600) (q := cB ls i) (by omega)) ra rb (by rw [nr_q]; omega)
    simp only [nr_q, rC_nr] at cc
    have hA : cA ls (i + 1) = cA ls i * (ls.getD i lk0).1.q := rfl
    have hB : cB ls (i + 1) = (ls.getD i lk0).1.q * cB ls i + (ls.getD i lk0).2.q := rfl
    simp (maxSteps:=1000000) (disch:=first | omega | (simp only [LL];omega)) only [W,V,TY,CC,reduceIte,Nat.reduceEqDiff,Nat.reduceAdd,Nat.reduceLeDiff,Nat.reduceLT,Int.reduceLE,Int.reduceLT,Int.reduceAdd,Int.reduceSub,Int.reduceToNat,Nat.reduceMul,t2,v2,f2,t5,v5,f5,t17,t18,t19,f7,LKR,lkC,rC]
    refine a_call _ _ cc (by simp (maxSteps:=1000000) (disch:=first | omega | (simp only [LL];omega)) only [W,V,TY,CC,reduceIte,Nat.reduceEqDiff,Nat.reduceAdd,Nat.reduceLeDiff,Nat.reduceLT,Int.reduceLE,Int.reduceLT,Int.reduceAdd,Int.reduceSub,Int.reduceToNat,Nat.reduceMul,t2,v2,f2,t5,v5,f5,t17,t18,t19,f7,LKR,lkC,rC,sQ,ratC]) ?_
    simp (maxSteps:=1000000) (disch:=first | omega | (simp only [LL];omega)) only [W,V,TY,CC,reduceIte,Nat.reduceEqDiff,Nat.reduceAdd,Nat.reduceLeDiff,Nat.reduceLT,Int.reduceLE,Int.reduceLT,Int.reduceAdd,Int.reduceSub,Int.reduceToNat,Nat.reduceMul,t2,v2,f2,t5,v5,f5,t17,t18,t19,f7,LKR,lkC,rC,sQ,ratC]
    exact ⟨n - 1, by omega, i + 1, by omega, by rw [hA, hB], rfl⟩
  · obtain rfl : i = ls.length := by omega
    simp (maxSteps:=1000000) (disch:=first | omega | (simp only [LL];omega)) only [W,V,TY,CC,reduceIte,Nat.reduceEqDiff,Nat.reduceAdd,Nat.reduceLeDiff,Nat.reduceLT,Int.reduceLE,Int.reduceLT,Int.reduceAdd,Int.reduceSub,Int.reduceToNat,Nat.reduceMul,t2,v2,f2,t5,v5,f5,t17,t18,t19]
    refine f_ret _ _ _ ?_
    simp (maxSteps:=1000000) (disch:=first | omega | (simp only [LL];omega)) only [W,V,TY,CC,reduceIte,Nat.reduceEqDiff,Nat.reduceAdd,Nat.reduceLeDiff,Nat.reduceLT,Int.reduceLE,Int.reduceLT,Int.reduceAdd,Int.reduceSub,Int.reduceToNat,Nat.reduceMul,t2,v2,f2,t5,v5,f5,t17,t18,t19,sQ,ratC]
/-! ### the choice -/
def bst (f : Nat → Rat) : Nat → Nat
  | 0 => 0
  | i + 1 => if f i < f (bst f i) then i else bst f i
theorem bst_lt (f : Nat → Rat) : ∀ i, bst f i ≤ i - 1
  | 0 => Nat.le_refl _
  | i + 1 => by
    have := bst_lt f i
    unfold bst
    split <;> omega
def lsQ (ls : List (RR × RR)) (x y : List Int) (i : Nat) : Rat := lossQ (ls.getD i lk0).1.q (ls.getD i lk0).2.q x y x.length
def chooseE (ls : List (RR × RR)) (x y : List Int) : Int := if ls.length = 0 then 20 else if ¬ chainE ls = 0 then chainE ls else anchV x y
/-- examboard/linking.Choose -/
def b63 : AF := ⟨54, 3, [.tmp 6, .tmp 7],
  (.seq (.reg [
    ⟨some 6, .assign (.const (.int .i64 0)), none⟩,
    ⟨some 7, .assign (.const (.int .i64 0)), none⟩])
  (.seq (.seq (.reg [
    ⟨some 15, .move (.tmp 0), none⟩,
    ⟨some 16, .call ⟨(.builtin .len), #[(.tmp 15)], #[70]⟩, none⟩,
    ⟨some 17, .binOp .eql 3 (.tmp 16) (.const (.int .i64 0)) 3, none⟩])
  (.cond (.tmp 17)
    (.seq (.reg [
      ⟨some 6, .assign (.const (.int .i64 0)), none⟩,
      ⟨some 7, .assign (.const (.int .i64 20)), none⟩])
    .ret)
    .skip))
  (.seq (.seq (.reg [
    ⟨some 18, .move (.tmp 0), none⟩,
    ⟨some 19, .call ⟨(.value (.func 72)), #[(.tmp 18)], #[70]⟩, none⟩,
    ⟨some 8, .assign (.tmp 19), none⟩])
  (.seq (.reg [
    ⟨some 20, .move (.tmp 8), none⟩,
    ⟨some 21, .binOp .neq 57 (.tmp 20) (.const (.int .i64 0)) 57, none⟩])
  (.cond (.tmp 21)
    (.seq (.reg [
      ⟨some 22, .move (.tmp 8), none⟩,
      ⟨some 6, .assign (.const (.int .i64 0)), none⟩,
      ⟨some 7, .assign (.tmp 22), none⟩])
    .ret)
    .skip)))
  (.seq (.seq (.reg [
    ⟨some 23, .move (.tmp 1), none⟩,
    ⟨some 24, .move (.tmp 2), none⟩,
    ⟨some 25, .call ⟨(.value (.func 64)), #[(.tmp 23), (.tmp 24)], #[62, 62]⟩, none⟩,
    ⟨some 9, .assign (.tmp 25), none⟩])
  (.seq (.reg [
    ⟨some 26, .move (.tmp 9), none⟩,
    ⟨some 27, .binOp .neq 57 (.tmp 26) (.const (.int .i64 0)) 57, none⟩])
  (.cond (.tmp 27)
    (.seq (.reg [
      ⟨some 28, .move (.tmp 9), none⟩,
      ⟨some 6, .assign (.const (.int .i64 0)), none⟩,
      ⟨some 7, .assign (.tmp 28), none⟩])
    .ret)
    .skip)))
  (.seq (.reg [
    ⟨some 10, .assign (.const (.int .i64 0)), none⟩])
  (.seq (.reg [
    ⟨some 29, .move (.tmp 0), none⟩,
    ⟨some 30, .indexAddr 70 (.tmp 29) (.const (.int .i64 0)), none⟩,
    ⟨some 31, .load 53 (.tmp 30), none⟩,
    ⟨some 32, .move (.tmp 1), none⟩,
    ⟨some 33, .move (.tmp 2), none⟩,
    ⟨some 34, .call ⟨(.value (.func 66)), #[(.tmp 31), (.tmp 32), (.tmp 33)], #[53, 62, 62]⟩, none⟩,
    ⟨some 11, .alloc 27, none⟩,
    ⟨none, .store 27 (.tmp 11) (.tmp 34), none⟩])
  (.seq (.seq (.reg [
    ⟨some 35, .move (.tmp 0), none⟩,
    ⟨some 36, .call ⟨(.builtin .len), #[(.tmp 35)], #[70]⟩, none⟩,
    ⟨some 37, .move (.const (.int .i64 0)), none⟩])
  (.block 0 (.loop (.seq (.reg [
    ⟨some 38, .binOp .lss 3 (.tmp 37) (.tmp 36) 3, none⟩])
  (.seq (.cond (.tmp 38)
    .skip
    (.exit 0))
  (.seq (.block 1 (.seq (.reg [
    ⟨some 39, .move (.tmp 37), none⟩,
    ⟨some 40, .indexAddr 70 (.tmp 35) (.tmp 37), none⟩,
    ⟨some 41, .load 53 (.tmp 40), none⟩,
    ⟨some 13, .alloc 53, none⟩,
    ⟨some 12, .assign (.tmp 39), none⟩,
    ⟨none, .store 53 (.tmp 13) (.tmp 41), none⟩])
  (.seq (.reg [
    ⟨some 42, .load 53 (.tmp 13), none⟩,
    ⟨some 43, .move (.tmp 1), none⟩,
    ⟨some 44, .move (.tmp 2), none⟩,
    ⟨some 45, .call ⟨(.value (.func 66)), #[(.tmp 42), (.tmp 43), (.tmp 44)], #[53, 62, 62]⟩, none⟩,
    ⟨some 14, .alloc 27, none⟩,
    ⟨none, .store 27 (.tmp 14) (.tmp 45), none⟩])
  (.seq (.reg [
    ⟨some 46, .load 27 (.tmp 14), none⟩,
    ⟨some 47, .load 27 (.tmp 11), none⟩,
    ⟨some 48, .call ⟨(.value (.func 23)), #[(.tmp 46), (.tmp 47)], #[27, 27]⟩, none⟩,
    ⟨some 49, .binOp .lss 3 (.tmp 48) (.const (.int .i64 0)) 3, none⟩])
  (.cond (.tmp 49)
    (.dreg [
      ⟨some 50, .move (.tmp 12), none⟩,
      ⟨some 51, .load 27 (.tmp 14), none⟩,
      ⟨some 10, .assign (.tmp 50), none⟩,
      ⟨none, .store 27 (.tmp 11) (.tmp 51), none⟩])
    .skip)))))
  (.reg [
    ⟨some 52, .binOp .add 3 (.tmp 37) (.const (.int .i64 1)) 3, none⟩,
    ⟨some 37, .move (.tmp 52), none⟩])))))))
  (.seq (.reg [
    ⟨some 53, .move (.tmp 10), none⟩,
    ⟨some 6, .assign (.tmp 53), none⟩,
    ⟨some 7, .assign (.const (.int .i64 0)), none⟩])
  .ret))))))))⟩
theorem c63 : fcomp Tryd.prog 63 = ⟨b63.n, b63.np, b63.res, b63.body.bare⟩ := by kernel_rfl
theorem k63 : fok Tryd.prog 63 = true := by kernel_rfl
theorem k_ChooseE {ls : List (RR × RR)} (hls : roks 68719476600 ls) (hn : ls.length ≤ 9223372036854775807) {x y : List Int} (lx : x.length ≤ 9223372036854775807) (ly : y.length ≤ 9223372036854775807) (h : ¬ chooseE ls x y = 0) :
    AFun Tryd.prog 63 [.one (lkD ls), .one (intsD x), .one (intsD y)] [.one (.lit (.int .i64 0)), .one (.lit (.int .i64 (chooseE ls x y)))] := by
  have ca := k_chain hls hn
  have cb := k_anchors x y lx ly
  unfold chooseE at *
  by_cases h0 : ls.length = 0
  · rw [if_pos h0]
    have h0' : (ls.length : Int) = 0 := by omega
    refine afun_intro mo_ _ _ c63 k63 _ _ rfl (by decide) ?_
    unfold b63
    simp (maxSteps:=1000000) (disch:=first | omega | (simp only [LL];omega)) only [W,V,TY,CC,reduceIte,Nat.reduceEqDiff,Nat.reduceAdd,Nat.reduceLeDiff,Nat.reduceLT,Int.reduceLE,Int.reduceLT,Int.reduceAdd,Int.reduceSub,Int.reduceToNat,Nat.reduceMul,LKR,h0', decide_true]
    refine f_ret _ _ _ ?_
    simp (maxSteps:=1000000) (disch:=first | omega | (simp only [LL];omega)) only [W,V,TY,CC,reduceIte,Nat.reduceEqDiff,Nat.reduceAdd,Nat.reduceLeDiff,Nat.reduceLT,Int.reduceLE,Int.reduceLT,Int.reduceAdd,Int.reduceSub,Int.reduceToNat,Nat.reduceMul,rC,sQ,ratC]
  · have h0' : ¬ (ls.length : Int) = 0 := by omega
    rw [if_neg h0] at h ⊢
    by_cases h1 : chainE ls = 0
    · rw [if_neg (not_not_intro h1)] at h ⊢
      rw [h1] at ca
      generalize anchV x y = e at *
      refine afun_intro mo_ _ _ c63 k63 _ _ rfl (by decide) ?_
      unfold b63
      simp (maxSteps:=1000000) (disch:=first | omega | (simp only [LL];omega)) only [W,V,TY,CC,reduceIte,Nat.reduceEqDiff,Nat.reduceAdd,Nat.reduceLeDiff,Nat.reduceLT,Int.reduceLE,Int.reduceLT,Int.reduceAdd,Int.reduceSub,Int.reduceToNat,Nat.reduceMul,LKR,h0', decide_false]
      refine a_call _ _ ca (by simp (maxSteps:=1000000) (disch:=first | omega | (simp only [LL];omega)) only [W,V,TY,CC,reduceIte,Nat.reduceEqDiff,Nat.reduceAdd,Nat.reduceLeDiff,Nat.reduceLT,Int.reduceLE,Int.reduceLT,Int.reduceAdd,Int.reduceSub,Int.reduceToNat,Nat.reduceMul,h,not_false_eq_true,decide_true]) ?_
      simp (maxSteps:=1000000) (disch:=first | omega | (simp only [LL];omega)) only [W,V,TY,CC,reduceIte,Nat.reduceEqDiff,Nat.reduceAdd,Nat.reduceLeDiff,Nat.reduceLT,Int.reduceLE,Int.reduceLT,Int.reduceAdd,Int.reduceSub,Int.reduceToNat,Nat.reduceMul,h,not_false_eq_true,decide_true]
      refine a_call _ _ cb (by simp (maxSteps:=1000000) (disch:=first | omega | (simp only [LL];omega)) only [W,V,TY,CC,reduceIte,Nat.reduceEqDiff,Nat.reduceAdd,Nat.reduceLeDiff,Nat.reduceLT,Int.reduceLE,Int.reduceLT,Int.reduceAdd,Int.reduceSub,Int.reduceToNat,Nat.reduceMul,h,not_false_eq_true,decide_true]) ?_
      simp (maxSteps:=1000000) (disch:=first | omega | (simp only [LL];omega)) only [W,V,TY,CC,reduceIte,Nat.reduceEqDiff,Nat.reduceAdd,Nat.reduceLeDiff,Nat.reduceLT,Int.reduceLE,Int.reduceLT,Int.reduceAdd,Int.reduceSub,Int.reduceToNat,Nat.reduceMul,h,not_false_eq_true,decide_true]
      refine f_ret _ _ _ ?_
      simp (maxSteps:=1000000) (disch:=first | omega | (simp only [LL];omega)) only [W,V,TY,CC,reduceIte,Nat.reduceEqDiff,Nat.reduceAdd,Nat.reduceLeDiff,Nat.reduceLT,Int.reduceLE,Int.reduceLT,Int.reduceAdd,Int.reduceSub,Int.reduceToNat,Nat.reduceMul,rC,sQ,ratC]
    · rw [if_pos h1] at h ⊢
      generalize chainE ls = e at *
      refine afun_intro mo_ _ _ c63 k63 _ _ rfl (by decide) ?_
      unfold b63
      simp (maxSteps:=1000000) (disch:=first | omega | (simp only [LL];omega)) only [W,V,TY,CC,reduceIte,Nat.reduceEqDiff,Nat.reduceAdd,Nat.reduceLeDiff,Nat.reduceLT,Int.reduceLE,Int.reduceLT,Int.reduceAdd,Int.reduceSub,Int.reduceToNat,Nat.reduceMul,LKR,h0', decide_false]
      refine a_call _ _ ca (by simp (maxSteps:=1000000) (disch:=first | omega | (simp only [LL];omega)) only [W,V,TY,CC,reduceIte,Nat.reduceEqDiff,Nat.reduceAdd,Nat.reduceLeDiff,Nat.reduceLT,Int.reduceLE,Int.reduceLT,Int.reduceAdd,Int.reduceSub,Int.reduceToNat,Nat.reduceMul,h,not_false_eq_true,decide_true]) ?_
      simp (maxSteps:=1000000) (disch:=first | omega | (simp only [LL];omega)) only [W,V,TY,CC,reduceIte,Nat.reduceEqDiff,Nat.reduceAdd,Nat.reduceLeDiff,Nat.reduceLT,Int.reduceLE,Int.reduceLT,Int.reduceAdd,Int.reduceSub,Int.reduceToNat,Nat.reduceMul,h,not_false_eq_true,decide_true]
      refine f_ret _ _ _ ?_
      simp (maxSteps:=1000000) (disch:=first | omega | (simp only [LL];omega)) only [W,V,TY,CC,reduceIte,Nat.reduceEqDiff,Nat.reduceAdd,Nat.reduceLeDiff,Nat.reduceLT,Int.reduceLE,Int.reduceLT,Int.reduceAdd,Int.reduceSub,Int.reduceToNat,Nat.reduceMul,rC,sQ,ratC]
theorem choose_ok {ls : List (RR × RR)} {x y : List Int} (h : chooseE ls x y = 0) : 0 < ls.length ∧ chainE ls = 0 ∧ anchV x y = 0 := by
  unfold chooseE at h
  split at h
  · cases h
  · split at h
    · contradiction
    · rename_i h1 h2
      exact ⟨by omega, Classical.not_not.1 h2, h⟩
theorem k_Choose0 {ls : List (RR × RR)} (hls : roks 1048576 ls) {x y : List Int} (h : chooseE ls x y = 0) :
    AFun Tryd.prog 63 [.one (lkD ls), .one (intsD x), .one (intsD y)] [.one (.lit (.int .i64 (bst (lsQ ls x y) ls.length : Nat))), .one (.lit (.int .i64 0))] := by
  obtain ⟨p0, hc, ha⟩ := choose_ok h
  obtain ⟨h60, hv⟩ := chain_ok hc
  have ho := anch_ok ha
  have hls' : roks 68719476600 ls := fun p hp => ⟨(hls p hp).1.mono (by decide), (hls p hp).2.mono (by decide)⟩
  have ca := k_chain hls' (by omega)
  have cb := k_anchors x y (by have := ho.lx; omega) (by have := ho.swap.lx; omega)
  rw [hc] at ca
  rw [ha] at cb
  have h0' : ¬ (ls.length : Int) = 0 := by omega
  have lss : ∀ i, i < ls.length → AFun Tryd.prog 66 [.agg (lkC (ls.getD i lk0)), .one (intsD x), .one (intsD y)] [.agg (ratC (lsQ ls x y i))] := fun i hi => by
    obtain ⟨ra, rb⟩ := hls'.at_ hi
    obtain ⟨ra', rb'⟩ := hls.at_ hi
    exact k_loss ra rb (k := 1048577) (qs_rr ra') (qs_rr rb') (by decide) ho
  have qls : ∀ i, i < ls.length → qs (lsQ ls x y i) ≤ 68719476600 := fun i hi => by
    obtain ⟨ra', rb'⟩ := hls.at_ hi
    have l60 := ho.lx
    have := qs_loss (k := 1048577) (qs_rr ra') (qs_rr rb') ho.nx ho.ny ho.ly x.length (Nat.le_refl _)
    have q3 : x.length * (4 * 1048577 + 48) ≤ 60 * (4 * 1048577 + 48) := Nat.mul_le_mul_right _ l60
    unfold lsQ
    omega
  have ls0 := lss 0 p0
  refine afun_intro mo_ _ _ c63 k63 _ _ rfl (by decide) ?_
  unfold b63
  simp (maxSteps:=1000000) (disch:=first | omega | (simp only [LL];omega)) only [W,V,TY,CC,reduceIte,Nat.reduceEqDiff,Nat.reduceAdd,Nat.reduceLeDiff,Nat.reduceLT,Int.reduceLE,Int.reduceLT,Int.reduceAdd,Int.reduceSub,Int.reduceToNat,Nat.reduceMul,LKR,h0', decide_false]
  refine a_call _ _ ca (by simp (maxSteps:=1000000) (disch:=first | omega | (simp only [LL];omega)) only [W,V,TY,CC,reduceIte,Nat.reduceEqDiff,Nat.reduceAdd,Nat.reduceLeDiff,Nat.reduceLT,Int.reduceLE,Int.reduceLT,Int.reduceAdd,Int.reduceSub,Int.reduceToNat,Nat.reduceMul,LKR,lkC,rC]) ?_
  simp (maxSteps:=1000000) (disch:=first | omega | (simp only [LL];omega)) only [W,V,TY,CC,reduceIte,Nat.reduceEqDiff,Nat.reduceAdd,Nat.reduceLeDiff,Nat.reduceLT,Int.reduceLE,Int.reduceLT,Int.reduceAdd,Int.reduceSub,Int.reduceToNat,Nat.reduceMul,LKR,lkC,rC]
  refine a_call _ _ cb (by simp (maxSteps:=1000000) (disch:=first | omega | (simp only [LL];omega)) only [W,V,TY,CC,reduceIte,Nat.reduceEqDiff,Nat.reduceAdd,Nat.reduceLeDiff,Nat.reduceLT,Int.reduceLE,Int.reduceLT,Int.reduceAdd,Int.reduceSub,Int.reduceToNat,Nat.reduceMul,LKR,lkC,rC]) ?_
  simp (maxSteps:=1000000) (disch:=first | omega | (simp only [LL];omega)) only [W,V,TY,CC,reduceIte,Nat.reduceEqDiff,Nat.reduceAdd,Nat.reduceLeDiff,Nat.reduceLT,Int.reduceLE,Int.reduceLT,Int.reduceAdd,Int.reduceSub,Int.reduceToNat,Nat.reduceMul,LKR,lkC,rC]
  refine a_call _ _ ls0 (by simp (maxSteps:=1000000) (disch:=first | omega | (simp only [LL];omega)) only [W,V,TY,CC,reduceIte,Nat.reduceEqDiff,Nat.reduceAdd,Nat.reduceLeDiff,Nat.reduceLT,Int.reduceLE,Int.reduceLT,Int.reduceAdd,Int.reduceSub,Int.reduceToNat,Nat.reduceMul,LKR,lkC,rC,ratC]) ?_
  simp (maxSteps:=1000000) (disch:=first | omega | (simp only [LL];omega)) only [W,V,TY,CC,reduceIte,Nat.reduceEqDiff,Nat.reduceAdd,Nat.reduceLeDiff,Nat.reduceLT,Int.reduceLE,Int.reduceLT,Int.reduceAdd,Int.reduceSub,Int.reduceToNat,Nat.reduceMul,LKR,lkC,rC,ratC]
  refine w_loop (fun n s => ∃ i : Nat, n + i = ls.length ∧ s.t 1 = .one (.dt (intsD x)) ∧ s.t 2 = .one (.dt (intsD y)) ∧ s.t 10 = .one (.dt (.lit (.int .i64 (bst (lsQ ls x y) i : Nat)))) ∧ s.t 11 = .ptr (11, 0) 0 ∧ s.v (11, 0) = some ((ratC (lsQ ls x y (bst (lsQ ls x y) i))).map .dt) ∧ s.f (11, 0) = false ∧ s.t 35 = .one (.dt (lkD ls)) ∧ s.t 36 = .one (.dt (.lit (.int .i64 ls.length))) ∧ s.t 37 = .one (.dt (.lit (.int .i64 i)))) ls.length ⟨0, rfl, ?_, ?_, ?_, ?_, ?_, ?_, ?_, ?_, ?_⟩ ?_
  · simp (maxSteps:=1000000) (disch:=first | omega | (simp only [LL];omega)) only [W,V,TY,CC,reduceIte,Nat.reduceEqDiff,Nat.reduceAdd,Nat.reduceLeDiff,Nat.reduceLT,Int.reduceLE,Int.reduceLT,Int.reduceAdd,Int.reduceSub,Int.reduceToNat,Nat.reduceMul]
  · simp (maxSteps:=1000000) (disch:=first | omega | (simp only [LL];omega)) only [W,V,TY,CC,reduceIte,Nat.reduceEqDiff,Nat.reduceAdd,Nat.reduceLeDiff,Nat.reduceLT,Int.reduceLE,Int.reduceLT,Int.reduceAdd,Int.reduceSub,Int.reduceToNat,Nat.reduceMul]
  · simp (maxSteps:=1000000) (disch:=first | omega | (simp only [LL];omega)) only [W,V,TY,CC,reduceIte,Nat.reduceEqDiff,Nat.reduceAdd,Nat.reduceLeDiff,Nat.reduceLT,Int.reduceLE,Int.reduceLT,Int.reduceAdd,Int.reduceSub,Int.reduceToNat,Nat.reduceMul,bst]
  · simp (maxSteps:=1000000) (disch:=first | omega | (simp only [LL];omega)) only [W,V,TY,CC,reduceIte,Nat.reduceEqDiff,Nat.reduceAdd,Nat.reduceLeDiff,Nat.reduceLT,Int.reduceLE,Int.reduceLT,Int.reduceAdd,Int.reduceSub,Int.reduceToNat,Nat.reduceMul]
  · simp (maxSteps:=1000000) (disch:=first | omega | (simp only [LL];omega)) only [W,V,TY,CC,reduceIte,Nat.reduceEqDiff,Nat.reduceAdd,Nat.reduceLeDiff,Nat.reduceLT,Int.reduceLE,Int.reduceLT,Int.reduceAdd,Int.reduceSub,Int.reduceToNat,Nat.reduceMul,ratC]
    rfl
  · simp (maxSteps:=1000000) (disch:=first | omega | (simp only [LL];omega)) only [W,V,TY,CC,reduceIte,Nat.reduceEqDiff,Nat.reduceAdd,Nat.reduceLeDiff,Nat.reduceLT,Int.reduceLE,Int.reduceLT,Int.reduceAdd,Int.reduceSub,Int.reduceToNat,Nat.reduceMul]
  · simp (maxSteps:=1000000) (disch:=first | omega | (simp only [LL];omega)) only [W,V,TY,CC,reduceIte,Nat.reduceEqDiff,Nat.reduceAdd,Nat.reduceLeDiff,Nat.reduceLT,Int.reduceLE,Int.reduceLT,Int.reduceAdd,Int.reduceSub,Int.reduceToNat,Nat.reduceMul]
  · simp (maxSteps:=1000000) (disch:=first | omega | (simp only [LL];omega)) only [W,V,TY,CC,reduceIte,Nat.reduceEqDiff,Nat.reduceAdd,Nat.reduceLeDiff,Nat.reduceLT,Int.reduceLE,Int.reduceLT,Int.reduceAdd,Int.reduceSub,Int.reduceToNat,Nat.reduceMul]
  · simp (maxSteps:=1000000) (disch:=first | omega | (simp only [LL];omega)) only [W,V,TY,CC,reduceIte,Nat.reduceEqDiff,Nat.reduceAdd,Nat.reduceLeDiff,Nat.reduceLT,Int.reduceLE,Int.reduceLT,Int.reduceAdd,Int.reduceSub,Int.reduceToNat,Nat.reduceMul]
  intro n s hwf ⟨i, e, t1, t2, t10, t11, v11, f11, t35, t36, t37⟩
  simp only [ratC, List.map_cons, List.map_nil] at v11
  have f13 := (hwf 13 (s.g 13) (Nat.le_refl _)).2.2
  have f14 := (hwf 14 (s.g 14) (Nat.le_refl _)).2.2
  simp (maxSteps:=1000000) (disch:=first | omega | (simp only [LL];omega)) only [W,V,TY,CC,reduceIte,Nat.reduceEqDiff,Nat.reduceAdd,Nat.reduceLeDiff,Nat.reduceLT,Int.reduceLE,Int.reduceLT,Int.reduceAdd,Int.reduceSub,Int.reduceToNat,Nat.reduceMul,t1,t2,t10,t11,v11,f11,t35,t36,t37]
  refine c_split (fun hi => ?_) (fun hi => ?_)
  · have hil : i < ls.length := by omega
    have li := lss i hil
    have hb := bst_lt (lsQ ls x y) i
    have cp := rat_Cmp2 (a := lsQ ls x y i) (b := lsQ ls x y (bst (lsQ ls x y) i)) (by have := qls i hil; omega) (by have := qls _ (show bst (lsQ ls x y) i < ls.length by omega); omega)
    have g := cmpQ_lt (lsQ ls x y i) (lsQ ls x y (bst (lsQ ls x y) i))
    have hB : bst (lsQ ls x y) (i + 1) = if lsQ ls x y i < lsQ ls x y (bst (lsQ ls x y) i) then i else bst (lsQ ls x y) i := rfl
    simp (maxSteps:=1000000) (disch:=first | omega | (simp only [LL];omega)) only [W,V,TY,CC,reduceIte,Nat.reduceEqDiff,Nat.reduceAdd,Nat.reduceLeDiff,Nat.reduceLT,Int.reduceLE,Int.reduceLT,Int.reduceAdd,Int.reduceSub,Int.reduceToNat,Nat.reduceMul,t1,t2,t10,t11,v11,f11,t35,t36,t37,f13,f14,LKR,lkC,rC]
    refine a_call _ _ li (by simp (maxSteps:=1000000) (disch:=first | omega | (simp only [LL];omega)) only [W,V,TY,CC,reduceIte,Nat.reduceEqDiff,Nat.reduceAdd,Nat.reduceLeDiff,Nat.reduceLT,Int.reduceLE,Int.reduceLT,Int.reduceAdd,Int.reduceSub,Int.reduceToNat,Nat.reduceMul,t1,t2,t10,t11,v11,f11,t35,t36,t37,f13,f14,LKR,lkC,rC,ratC]) ?_
    simp (maxSteps:=1000000) (disch:=first | omega | (simp only [LL];omega)) only [W,V,TY,CC,reduceIte,Nat.reduceEqDiff,Nat.reduceAdd,Nat.reduceLeDiff,Nat.reduceLT,Int.reduceLE,Int.reduceLT,Int.reduceAdd,Int.reduceSub,Int.reduceToNat,Nat.reduceMul,t1,t2,t10,t11,v11,f11,t35,t36,t37,f13,f14,LKR,lkC,rC,ratC]
    refine a_call _ _ cp (by simp (maxSteps:=1000000) (disch:=first | omega | (simp only [LL];omega)) only [W,V,TY,CC,reduceIte,Nat.reduceEqDiff,Nat.reduceAdd,Nat.reduceLeDiff,Nat.reduceLT,Int.reduceLE,Int.reduceLT,Int.reduceAdd,Int.reduceSub,Int.reduceToNat,Nat.reduceMul,t1,t2,t10,t11,v11,f11,t35,t36,t37,f13,f14,LKR,lkC,rC,ratC]) ?_
    simp (maxSteps:=1000000) (disch:=first | omega | (simp only [LL];omega)) only [W,V,TY,CC,reduceIte,Nat.reduceEqDiff,Nat.reduceAdd,Nat.reduceLeDiff,Nat.reduceLT,Int.reduceLE,Int.reduceLT,Int.reduceAdd,Int.reduceSub,Int.reduceToNat,Nat.reduceMul,t1,t2,t10,t11,v11,f11,t35,t36,t37,f13,f14,LKR,lkC,rC,ratC]
    refine c_split (fun h => ?_) (fun h => ?_)
    · rw [if_pos (g.1 h)] at hB
      simp (maxSteps:=1000000) (disch:=first | omega | (simp only [LL];omega)) only [W,V,TY,CC,reduceIte,Nat.reduceEqDiff,Nat.reduceAdd,Nat.reduceLeDiff,Nat.reduceLT,Int.reduceLE,Int.reduceLT,Int.reduceAdd,Int.reduceSub,Int.reduceToNat,Nat.reduceMul,t1,t2,t10,t11,v11,f11,t35,t36,t37,f13,f14,LKR,lkC,rC,ratC]
      exact ⟨n - 1, by omega, i + 1, by omega, by rw [hB], by rw [hB], rfl⟩
    · rw [if_neg (fun e => h (g.2 e))] at hB
      simp (maxSteps:=1000000) (disch:=first | omega | (simp only [LL];omega)) only [W,V,TY,CC,reduceIte,Nat.reduceEqDiff,Nat.reduceAdd,Nat.reduceLeDiff,Nat.reduceLT,Int.reduceLE,Int.reduceLT,Int.reduceAdd,Int.reduceSub,Int.reduceToNat,Nat.reduceMul,t1,t2,t10,t11,v11,f11,t35,t36,t37,f13,f14,LKR,lkC,rC,ratC]
      exact ⟨n - 1, by omega, i + 1, by omega, by rw [hB], by rw [hB], rfl⟩
  · obtain rfl : i = ls.length := by omega
    simp (maxSteps:=1000000) (disch:=first | omega | (simp only [LL];omega)) only [W,V,TY,CC,reduceIte,Nat.reduceEqDiff,Nat.reduceAdd,Nat.reduceLeDiff,Nat.reduceLT,Int.reduceLE,Int.reduceLT,Int.reduceAdd,Int.reduceSub,Int.reduceToNat,Nat.reduceMul,t1,t2,t10,t11,v11,f11,t35,t36,t37]
    refine f_ret _ _ _ ?_
    simp (maxSteps:=1000000) (disch:=first | omega | (simp only [LL];omega)) only [W,V,TY,CC,reduceIte,Nat.reduceEqDiff,Nat.reduceAdd,Nat.reduceLeDiff,Nat.reduceLT,Int.reduceLE,Int.reduceLT,Int.reduceAdd,Int.reduceSub,Int.reduceToNat,Nat.reduceMul,t1,t2,t10,t11,v11,f11,t35,t36,t37]
end Go.Proofs.YtljmgdepldpmdaaDoor.E

set_option linter.unusedSimpArgs false
set_option linter.unusedVariables false
set_option maxHeartbeats 2000000
namespace Go.Proofs.YtljmgdepldpmdaaDoor.E
open Go.RowKit Limbs
/-- examboard/examboardlaw45.number -/
def b39 : AF := ⟨11, 1, [.cell 2 27],
  (.seq (.reg [
    ⟨some 2, .alloc 27, none⟩])
  (.seq (.reg [
    ⟨some 6, .move (.tmp 0), none⟩,
    ⟨some 7, .call ⟨(.value (.func 44)), #[(.tmp 6), (.const (.int .i64 1))], #[2, 2]⟩, none⟩,
    ⟨some 5, .move (.tmp 7), none⟩,
    ⟨some 8, .extract (.tmp 5) 0, none⟩,
    ⟨some 9, .extract (.tmp 5) 1, none⟩,
    ⟨some 3, .alloc 27, none⟩,
    ⟨none, .store 27 (.tmp 3) (.tmp 8), none⟩,
    ⟨some 4, .assign (.tmp 9), none⟩])
  (.seq (.reg [
    ⟨some 10, .load 27 (.tmp 3), none⟩,
    ⟨none, .store 27 (.tmp 2) (.tmp 10), none⟩])
  .ret)))⟩
theorem c39 : fcomp Tryd.prog 39 = ⟨b39.n, b39.np, b39.res, b39.body.bare⟩ := by kernel_rfl
theorem k39 : fok Tryd.prog 39 = true := by kernel_rfl
/-- examboard/examboardlaw45.is -/
def b62 : AF := ⟨19, 3, [.tmp 6],
  (.seq (.reg [
    ⟨some 3, .box 53 (.tmp 0), none⟩,
    ⟨some 6, .assign (.const (.bool false)), none⟩])
  (.seq (.reg [
    ⟨some 7, .fieldAddr 53 (.tmp 3) 0, none⟩,
    ⟨some 8, .load 27 (.tmp 7), none⟩,
    ⟨some 9, .call ⟨(.value (.func 41)), #[(.tmp 8)], #[27]⟩, none⟩,
    ⟨some 10, .move (.tmp 1), none⟩,
    ⟨some 11, .binOp .eql 9 (.tmp 9) (.tmp 10) 9, none⟩,
    ⟨some 12, .move (.tmp 11), none⟩,
    ⟨some 13, .fieldAddr 53 (.tmp 3) 1, some (12, true)⟩,
    ⟨some 14, .load 27 (.tmp 13), some (12, true)⟩,
    ⟨some 15, .call ⟨(.value (.func 41)), #[(.tmp 14)], #[27]⟩, some (12, true)⟩,
    ⟨some 16, .move (.tmp 2), some (12, true)⟩,
    ⟨some 17, .binOp .eql 9 (.tmp 15) (.tmp 16) 9, some (12, true)⟩,
    ⟨some 18, .pick (.tmp 12) (.tmp 17) (.const (.bool false)), none⟩,
    ⟨some 6, .assign (.tmp 18), none⟩])
  .ret))⟩
theorem c62 : fcomp Tryd.prog 62 = ⟨b62.n, b62.np, b62.res, b62.body.bare⟩ := by kernel_rfl
theorem k62 : fok Tryd.prog 62 = true := by kernel_rfl
theorem l45_number (n : Int) (a0 : -9223372036854775808 ≤ n) (a1 : n < 9223372036854775808) : AFun Tryd.prog 39 [.one (.lit (.int .i64 n))] [.agg (ratC (Rat.divInt n 1))] := by
  have co := rat_Of n 1 a0 a1 (by decide) (by decide)
  refine afun_intro mo_ _ _ c39 k39 _ _ rfl (by decide) ?_
  unfold b39
  simp (maxSteps:=1000000) (disch:=first | omega | (simp only [LL];omega)) only [W,V,TY,CC,reduceIte,Nat.reduceEqDiff,Nat.reduceAdd,Nat.reduceLeDiff,Nat.reduceLT,Int.reduceLE,Int.reduceLT,Int.reduceAdd,Int.reduceSub,Int.reduceToNat,Nat.reduceMul]
  refine a_call _ _ co (by simp (maxSteps:=1000000) (disch:=first | omega | (simp only [LL];omega)) only [W,V,TY,CC,reduceIte,Nat.reduceEqDiff,Nat.reduceAdd,Nat.reduceLeDiff,Nat.reduceLT,Int.reduceLE,Int.reduceLT,Int.reduceAdd,Int.reduceSub,Int.reduceToNat,Nat.reduceMul,ratC]) ?_
  simp (maxSteps:=1000000) (disch:=first | omega | (simp only [LL];omega)) only [W,V,TY,CC,reduceIte,Nat.reduceEqDiff,Nat.reduceAdd,Nat.reduceLeDiff,Nat.reduceLT,Int.reduceLE,Int.reduceLT,Int.reduceAdd,Int.reduceSub,Int.reduceToNat,Nat.reduceMul,ratC]
  refine f_ret _ _ _ ?_
  simp (maxSteps:=1000000) (disch:=first | omega | (simp only [LL];omega)) only [W,V,TY,CC,reduceIte,Nat.reduceEqDiff,Nat.reduceAdd,Nat.reduceLeDiff,Nat.reduceLT,Int.reduceLE,Int.reduceLT,Int.reduceAdd,Int.reduceSub,Int.reduceToNat,Nat.reduceMul,ratC]
def small (p : Rat) : Prop := -100 < p.num ∧ p.num < 100 ∧ p.den < 100
instance (p : Rat) : Decidable (small p) := by unfold small; infer_instance
theorem l45_is {p q : Rat} (hp : small p) (hq : small q) : AFun Tryd.prog 62 [.agg (sQ p q), .one (.lit (.string (digQ p))), .one (.lit (.string (digQ q)))] [.one (.lit (.bool true))] := by
  have c1 := rat_Print p hp.1 hp.2.1 hp.2.2
  have c2 := rat_Print q hq.1 hq.2.1 hq.2.2
  refine afun_intro mo_ _ _ c62 k62 _ _ rfl (by decide) ?_
  unfold b62
  simp (maxSteps:=1000000) (disch:=first | omega | (simp only [LL];omega)) only [W,V,TY,CC,reduceIte,Nat.reduceEqDiff,Nat.reduceAdd,Nat.reduceLeDiff,Nat.reduceLT,Int.reduceLE,Int.reduceLT,Int.reduceAdd,Int.reduceSub,Int.reduceToNat,Nat.reduceMul,sQ,ratC]
  refine a_call _ _ c1 (by simp (maxSteps:=1000000) (disch:=first | omega | (simp only [LL];omega)) only [W,V,TY,CC,reduceIte,Nat.reduceEqDiff,Nat.reduceAdd,Nat.reduceLeDiff,Nat.reduceLT,Int.reduceLE,Int.reduceLT,Int.reduceAdd,Int.reduceSub,Int.reduceToNat,Nat.reduceMul,ratC,beq_self_eq_true]) ?_
  simp (maxSteps:=1000000) (disch:=first | omega | (simp only [LL];omega)) only [W,V,TY,CC,reduceIte,Nat.reduceEqDiff,Nat.reduceAdd,Nat.reduceLeDiff,Nat.reduceLT,Int.reduceLE,Int.reduceLT,Int.reduceAdd,Int.reduceSub,Int.reduceToNat,Nat.reduceMul,ratC,beq_self_eq_true]
  refine a_call _ _ c2 (by simp (maxSteps:=1000000) (disch:=first | omega | (simp only [LL];omega)) only [W,V,TY,CC,reduceIte,Nat.reduceEqDiff,Nat.reduceAdd,Nat.reduceLeDiff,Nat.reduceLT,Int.reduceLE,Int.reduceLT,Int.reduceAdd,Int.reduceSub,Int.reduceToNat,Nat.reduceMul,ratC,beq_self_eq_true]) ?_
  simp (maxSteps:=1000000) (disch:=first | omega | (simp only [LL];omega)) only [W,V,TY,CC,reduceIte,Nat.reduceEqDiff,Nat.reduceAdd,Nat.reduceLeDiff,Nat.reduceLT,Int.reduceLE,Int.reduceLT,Int.reduceAdd,Int.reduceSub,Int.reduceToNat,Nat.reduceMul,ratC,beq_self_eq_true]
  refine f_ret _ _ _ ?_
  simp (maxSteps:=1000000) (disch:=first | omega | (simp only [LL];omega)) only [W,V,TY,CC,reduceIte,Nat.reduceEqDiff,Nat.reduceAdd,Nat.reduceLeDiff,Nat.reduceLT,Int.reduceLE,Int.reduceLT,Int.reduceAdd,Int.reduceSub,Int.reduceToNat,Nat.reduceMul,beq_self_eq_true]
theorem qD (a b : Int) (a0 : -9223372036854775808 ≤ a) (a1 : a < 9223372036854775808) (b0 : -9223372036854775808 ≤ b) (b1 : b < 9223372036854775808) : qs (Rat.divInt a b) ≤ 10 := by
  have := qs_div a b
  have := zl_i64 a0 a1
  have := zl_i64 b0 b1
  omega
theorem rokD (a b : Int) (a0 : -9223372036854775808 ≤ a) (a1 : a < 9223372036854775808) (b0 : -9223372036854775808 ≤ b) (b1 : b < 9223372036854775808) : rok 68719476600 (nr (Rat.divInt a b)) := rok_nr (by have := qD a b a0 a1 b0 b1; omega)
def b37_10 : AC :=
  (.seq (.reg [
    ⟨some 85, .load 53 (.tmp 6), none⟩,
    ⟨some 86, .buildSlice 62 2 #[(0, (.const (.int .i64 0))), (1, (.const (.int .i64 2)))], none⟩,
    ⟨some 87, .buildSlice 62 2 #[(0, (.const (.int .i64 1))), (1, (.const (.int .i64 4)))], none⟩,
    ⟨some 88, .call ⟨(.value (.func 40)), #[(.tmp 85), (.tmp 86), (.tmp 87)], #[53, 62, 62]⟩, none⟩,
    ⟨some 84, .move (.tmp 88), none⟩,
    ⟨some 89, .extract (.tmp 84) 0, none⟩,
    ⟨some 90, .extract (.tmp 84) 1, none⟩,
    ⟨some 9, .alloc 27, none⟩,
    ⟨none, .store 27 (.tmp 9) (.tmp 89), none⟩,
    ⟨some 3, .assign (.tmp 90), none⟩])
  (.seq (.reg [
    ⟨some 92, .load 53 (.tmp 1), none⟩,
    ⟨some 93, .load 53 (.tmp 6), none⟩,
    ⟨some 94, .buildSlice 70 2 #[(0, (.tmp 92)), (1, (.tmp 93))], none⟩,
    ⟨some 95, .buildSlice 62 2 #[(0, (.const (.int .i64 0))), (1, (.const (.int .i64 2)))], none⟩,
    ⟨some 96, .buildSlice 62 2 #[(0, (.const (.int .i64 1))), (1, (.const (.int .i64 4)))], none⟩,
    ⟨some 97, .call ⟨(.value (.func 63)), #[(.tmp 94), (.tmp 95), (.tmp 96)], #[70, 62, 62]⟩, none⟩,
    ⟨some 91, .move (.tmp 97), none⟩,
    ⟨some 98, .extract (.tmp 91) 0, none⟩,
    ⟨some 99, .extract (.tmp 91) 1, none⟩,
    ⟨some 10, .assign (.tmp 98), none⟩,
    ⟨some 8, .assign (.tmp 99), none⟩])
  (.seq (.reg [
    ⟨some 101, .load 53 (.tmp 1), none⟩,
    ⟨some 102, .load 53 (.tmp 6), none⟩,
    ⟨some 103, .buildSlice 70 2 #[(0, (.tmp 101)), (1, (.tmp 102))], none⟩,
    ⟨some 104, .call ⟨(.value (.func 43)), #[(.tmp 103)], #[70]⟩, none⟩,
    ⟨some 100, .move (.tmp 104), none⟩,
    ⟨some 105, .extract (.tmp 100) 0, none⟩,
    ⟨some 106, .extract (.tmp 100) 1, none⟩,
    ⟨some 11, .alloc 53, none⟩,
    ⟨none, .store 53 (.tmp 11) (.tmp 105), none⟩,
    ⟨some 12, .assign (.tmp 106), none⟩])
  (.seq (.seq (.reg [
    ⟨some 107, .move (.tmp 3), none⟩,
    ⟨some 108, .binOp .neq 57 (.tmp 107) (.const (.int .i64 0)) 57, none⟩,
    ⟨some 109, .move (.tmp 108), none⟩,
    ⟨some 110, .move (.tmp 8), some (109, false)⟩,
    ⟨some 111, .binOp .neq 57 (.tmp 110) (.const (.int .i64 0)) 57, some (109, false)⟩,
    ⟨some 112, .pick (.tmp 109) (.const (.bool true)) (.tmp 111), none⟩,
    ⟨some 113, .move (.tmp 112), none⟩,
    ⟨some 114, .move (.tmp 12), some (113, false)⟩,
    ⟨some 115, .binOp .neq 57 (.tmp 114) (.const (.int .i64 0)) 57, some (113, false)⟩,
    ⟨some 116, .pick (.tmp 113) (.const (.bool true)) (.tmp 115), none⟩,
    ⟨some 117, .move (.tmp 116), none⟩,
    ⟨some 118, .load 27 (.tmp 9), some (117, false)⟩,
    ⟨some 119, .call ⟨(.value (.func 41)), #[(.tmp 118)], #[27]⟩, some (117, false)⟩,
    ⟨some 120, .binOp .neq 9 (.tmp 119) (.const (.string ⟨#[49, 47, 50]⟩)) 9, some (117, false)⟩,
    ⟨some 121, .pick (.tmp 117) (.const (.bool true)) (.tmp 120), none⟩,
    ⟨some 122, .move (.tmp 121), none⟩,
    ⟨some 123, .move (.tmp 10), some (122, false)⟩,
    ⟨some 124, .binOp .neq 3 (.tmp 123) (.const (.int .i64 1)) 3, some (122, false)⟩,
    ⟨some 125, .pick (.tmp 122) (.const (.bool true)) (.tmp 124), none⟩,
    ⟨some 126, .move (.tmp 125), none⟩,
    ⟨some 127, .load 53 (.tmp 11), some (126, false)⟩,
    ⟨some 128, .call ⟨(.value (.func 62)), #[(.tmp 127), (.const (.string ⟨#[50]⟩)), (.const (.string ⟨#[57, 47, 50]⟩))], #[53, 9, 9]⟩, some (126, false)⟩,
    ⟨some 129, .unOp .not 4 (.tmp 128), some (126, false)⟩,
    ⟨some 130, .pick (.tmp 126) (.const (.bool true)) (.tmp 129), none⟩])
  (.cond (.tmp 130)
    (.seq (.reg [
      ⟨some 0, .assign (.const (.bool false)), none⟩])
    .ret)
    .skip))
  (.seq (.reg [
    ⟨some 132, .buildSlice 62 2 #[(0, (.const (.int .i64 1))), (1, (.const (.int .i64 1)))], none⟩,
    ⟨some 133, .buildSlice 62 2 #[(0, (.const (.int .i64 2))), (1, (.const (.int .i64 3)))], none⟩,
    ⟨some 134, .call ⟨(.value (.func 42)), #[(.tmp 132), (.tmp 133)], #[62, 62]⟩, none⟩,
    ⟨some 131, .move (.tmp 134), none⟩,
    ⟨some 135, .extract (.tmp 131) 0, none⟩,
    ⟨some 136, .extract (.tmp 131) 1, none⟩,
    ⟨some 3, .assign (.tmp 136), none⟩])
  (.seq (.reg [
    ⟨some 138, .buildSlice 62 1 #[(0, (.const (.int .i64 1)))], none⟩,
    ⟨some 139, .buildSlice 62 2 #[(0, (.const (.int .i64 1))), (1, (.const (.int .i64 2)))], none⟩,
    ⟨some 140, .call ⟨(.value (.func 38)), #[(.tmp 138), (.tmp 139)], #[62, 62]⟩, none⟩,
    ⟨some 137, .move (.tmp 140), none⟩,
    ⟨some 141, .extract (.tmp 137) 0, none⟩,
    ⟨some 142, .extract (.tmp 137) 1, none⟩,
    ⟨some 8, .assign (.tmp 142), none⟩])
  (.seq (.reg [
    ⟨some 144, .buildSlice 62 1 #[(0, (.const (.int .i64 1)))], none⟩,
    ⟨some 145, .buildSlice 62 1 #[(0, (.const (.int .i64 1)))], none⟩,
    ⟨some 146, .call ⟨(.value (.func 63)), #[(.const (.slice none 0 0)), (.tmp 144), (.tmp 145)], #[70, 62, 62]⟩, none⟩,
    ⟨some 143, .move (.tmp 146), none⟩,
    ⟨some 147, .extract (.tmp 143) 0, none⟩,
    ⟨some 148, .extract (.tmp 143) 1, none⟩,
    ⟨some 12, .assign (.tmp 148), none⟩])
  (.seq (.reg [
    ⟨some 149, .move (.tmp 3), none⟩,
    ⟨some 150, .binOp .eql 57 (.tmp 149) (.const (.int .i64 8)) 57, none⟩,
    ⟨some 151, .move (.tmp 150), none⟩,
    ⟨some 152, .move (.tmp 8), some (151, true)⟩,
    ⟨some 153, .binOp .eql 57 (.tmp 152) (.const (.int .i64 1)) 57, some (151, true)⟩,
    ⟨some 154, .pick (.tmp 151) (.tmp 153) (.const (.bool false)), none⟩,
    ⟨some 155, .move (.tmp 154), none⟩,
    ⟨some 156, .move (.tmp 12), some (155, true)⟩,
    ⟨some 157, .binOp .eql 57 (.tmp 156) (.const (.int .i64 20)) 57, some (155, true)⟩,
    ⟨some 158, .pick (.tmp 155) (.tmp 157) (.const (.bool false)), none⟩,
    ⟨some 0, .assign (.tmp 158), none⟩])
  .ret))))))))
/-- examboard/examboardlaw45.awake -/
def b37 : AF := ⟨159, 0, [.tmp 0],
  (.seq (.reg [
    ⟨some 0, .assign (.const (.bool false)), none⟩])
  (.seq (.reg [
    ⟨some 13, .call ⟨(.value (.func 39)), #[(.const (.int .i64 2))], #[3]⟩, none⟩,
    ⟨some 14, .call ⟨(.value (.func 39)), #[(.const (.int .i64 3))], #[3]⟩, none⟩,
    ⟨some 15, .build 53 #[(0, (.tmp 13)), (1, (.tmp 14))], none⟩,
    ⟨some 1, .alloc 53, none⟩,
    ⟨none, .store 53 (.tmp 1) (.tmp 15), none⟩])
  (.seq (.reg [
    ⟨some 17, .load 53 (.tmp 1), none⟩,
    ⟨some 18, .call ⟨(.value (.func 35)), #[(.tmp 17)], #[53]⟩, none⟩,
    ⟨some 16, .move (.tmp 18), none⟩,
    ⟨some 19, .extract (.tmp 16) 0, none⟩,
    ⟨some 20, .extract (.tmp 16) 1, none⟩,
    ⟨some 2, .alloc 53, none⟩,
    ⟨none, .store 53 (.tmp 2) (.tmp 19), none⟩,
    ⟨some 3, .assign (.tmp 20), none⟩])
  (.seq (.reg [
    ⟨some 22, .call ⟨(.value (.func 44)), #[(.const (.int .i64 5)), (.const (.int .i64 2))], #[2, 2]⟩, none⟩,
    ⟨some 21, .move (.tmp 22), none⟩,
    ⟨some 23, .extract (.tmp 21) 0, none⟩,
    ⟨some 24, .extract (.tmp 21) 1, none⟩,
    ⟨some 4, .alloc 27, none⟩,
    ⟨none, .store 27 (.tmp 4) (.tmp 23), none⟩,
    ⟨some 5, .assign (.tmp 24), none⟩])
  (.seq (.seq (.reg [
    ⟨some 25, .move (.tmp 3), none⟩,
    ⟨some 26, .binOp .neq 57 (.tmp 25) (.const (.int .i64 0)) 57, none⟩,
    ⟨some 27, .move (.tmp 26), none⟩,
    ⟨some 28, .load 53 (.tmp 2), some (27, false)⟩,
    ⟨some 29, .call ⟨(.value (.func 62)), #[(.tmp 28), (.const (.string ⟨#[49, 47, 50]⟩)), (.const (.string ⟨#[45, 51, 47, 50]⟩))], #[53, 9, 9]⟩, some (27, false)⟩,
    ⟨some 30, .unOp .not 4 (.tmp 29), some (27, false)⟩,
    ⟨some 31, .pick (.tmp 27) (.const (.bool true)) (.tmp 30), none⟩,
    ⟨some 32, .move (.tmp 31), none⟩,
    ⟨some 33, .load 53 (.tmp 1), some (32, false)⟩,
    ⟨some 34, .load 27 (.tmp 4), some (32, false)⟩,
    ⟨some 35, .call ⟨(.value (.func 33)), #[(.tmp 33), (.tmp 34)], #[53, 27]⟩, some (32, false)⟩,
    ⟨some 36, .call ⟨(.value (.func 41)), #[(.tmp 35)], #[27]⟩, some (32, false)⟩,
    ⟨some 37, .binOp .neq 9 (.tmp 36) (.const (.string ⟨#[56]⟩)) 9, some (32, false)⟩,
    ⟨some 38, .pick (.tmp 32) (.const (.bool true)) (.tmp 37), none⟩,
    ⟨some 39, .move (.tmp 38), none⟩,
    ⟨some 40, .load 53 (.tmp 1), some (39, false)⟩,
    ⟨some 41, .call ⟨(.value (.func 36)), #[(.tmp 40)], #[53]⟩, some (39, false)⟩,
    ⟨some 42, .unOp .not 4 (.tmp 41), some (39, false)⟩,
    ⟨some 43, .pick (.tmp 39) (.const (.bool true)) (.tmp 42), none⟩,
    ⟨some 44, .move (.tmp 43), none⟩,
    ⟨some 45, .call ⟨(.value (.func 39)), #[(.const (.int .i64 1))], #[3]⟩, some (44, false)⟩,
    ⟨some 46, .build 53 #[(1, (.tmp 45))], some (44, false)⟩,
    ⟨some 47, .call ⟨(.value (.func 36)), #[(.tmp 46)], #[53]⟩, some (44, false)⟩,
    ⟨some 48, .pick (.tmp 44) (.const (.bool true)) (.tmp 47), none⟩,
    ⟨some 49, .move (.tmp 48), none⟩,
    ⟨some 50, .load 53 (.tmp 1), some (49, false)⟩,
    ⟨some 51, .load 53 (.tmp 2), some (49, false)⟩,
    ⟨some 52, .call ⟨(.value (.func 32)), #[(.tmp 50), (.tmp 51)], #[53, 53]⟩, some (49, false)⟩,
    ⟨some 53, .call ⟨(.value (.func 62)), #[(.tmp 52), (.const (.string ⟨#[49]⟩)), (.const (.string ⟨#[48]⟩))], #[53, 9, 9]⟩, some (49, false)⟩,
    ⟨some 54, .unOp .not 4 (.tmp 53), some (49, false)⟩,
    ⟨some 55, .pick (.tmp 49) (.const (.bool true)) (.tmp 54), none⟩])
  (.cond (.tmp 55)
    (.seq (.reg [
      ⟨some 0, .assign (.const (.bool false)), none⟩])
    .ret)
    .skip))
  (.seq (.reg [
    ⟨some 57, .buildSlice 62 2 #[(0, (.const (.int .i64 0))), (1, (.const (.int .i64 2)))], none⟩,
    ⟨some 58, .buildSlice 62 2 #[(0, (.const (.int .i64 1))), (1, (.const (.int .i64 4)))], none⟩,
    ⟨some 59, .call ⟨(.value (.func 38)), #[(.tmp 57), (.tmp 58)], #[62, 62]⟩, none⟩,
    ⟨some 56, .move (.tmp 59), none⟩,
    ⟨some 60, .extract (.tmp 56) 0, none⟩,
    ⟨some 61, .extract (.tmp 56) 1, none⟩,
    ⟨some 6, .alloc 53, none⟩,
    ⟨none, .store 53 (.tmp 6) (.tmp 60), none⟩,
    ⟨some 3, .assign (.tmp 61), none⟩])
  (.seq (.reg [
    ⟨some 63, .buildSlice 62 2 #[(0, (.const (.int .i64 0))), (1, (.const (.int .i64 2)))], none⟩,
    ⟨some 64, .buildSlice 62 2 #[(0, (.const (.int .i64 1))), (1, (.const (.int .i64 7)))], none⟩,
    ⟨some 65, .call ⟨(.value (.func 42)), #[(.tmp 63), (.tmp 64)], #[62, 62]⟩, none⟩,
    ⟨some 62, .move (.tmp 65), none⟩,
    ⟨some 66, .extract (.tmp 62) 0, none⟩,
    ⟨some 67, .extract (.tmp 62) 1, none⟩,
    ⟨some 7, .alloc 53, none⟩,
    ⟨none, .store 53 (.tmp 7) (.tmp 66), none⟩,
    ⟨some 8, .assign (.tmp 67), none⟩])
  (.seq (.seq (.reg [
    ⟨some 68, .move (.tmp 3), none⟩,
    ⟨some 69, .binOp .neq 57 (.tmp 68) (.const (.int .i64 0)) 57, none⟩,
    ⟨some 70, .move (.tmp 69), none⟩,
    ⟨some 71, .move (.tmp 8), some (70, false)⟩,
    ⟨some 72, .binOp .neq 57 (.tmp 71) (.const (.int .i64 0)) 57, some (70, false)⟩,
    ⟨some 73, .pick (.tmp 70) (.const (.bool true)) (.tmp 72), none⟩,
    ⟨some 74, .move (.tmp 73), none⟩,
    ⟨some 75, .load 53 (.tmp 6), some (74, false)⟩,
    ⟨some 76, .call ⟨(.value (.func 62)), #[(.tmp 75), (.const (.string ⟨#[49]⟩)), (.const (.string ⟨#[51, 47, 50]⟩))], #[53, 9, 9]⟩, some (74, false)⟩,
    ⟨some 77, .unOp .not 4 (.tmp 76), some (74, false)⟩,
    ⟨some 78, .pick (.tmp 74) (.const (.bool true)) (.tmp 77), none⟩,
    ⟨some 79, .move (.tmp 78), none⟩,
    ⟨some 80, .load 53 (.tmp 7), some (79, false)⟩,
    ⟨some 81, .call ⟨(.value (.func 62)), #[(.tmp 80), (.const (.string ⟨#[51]⟩)), (.const (.string ⟨#[49]⟩))], #[53, 9, 9]⟩, some (79, false)⟩,
    ⟨some 82, .unOp .not 4 (.tmp 81), some (79, false)⟩,
    ⟨some 83, .pick (.tmp 79) (.const (.bool true)) (.tmp 82), none⟩])
  (.cond (.tmp 83)
    (.seq (.reg [
      ⟨some 0, .assign (.const (.bool false)), none⟩])
    .ret)
    .skip))
  b37_10))))))))⟩
theorem c37 : fcomp Tryd.prog 37 = ⟨b37.n, b37.np, b37.res, b37.body.bare⟩ := by kernel_rfl
theorem k37 : fok Tryd.prog 37 = true := by kernel_rfl
set_option maxHeartbeats 8000000 in
theorem l45_awake_rest (s : AS) (t1 : s.t 1 = .ptr (1, 0) 0) (v1 : s.v (1, 0) = some ((sQ (Rat.divInt 2 1) (Rat.divInt 3 1)).map .dt)) (t6 : s.t 6 = .ptr (6, 0) 0) (v6 : s.v (6, 0) = some ((sQ (Rat.divInt 1 1) (Rat.divInt 3 2)).map .dt)) (g9 : s.g 9 = 0) (g11 : s.g 11 = 0) (f9 : s.f (9, 0) = false) (f11 : s.f (11, 0) = false) :
    awp Tryd.prog b37_10 (fend Tryd.prog [.tmp 0] [.one (.lit (.bool true))]) s := by
  have q21 := rokD 2 1 (by decide) (by decide) (by decide) (by decide)
  have q31 := rokD 3 1 (by decide) (by decide) (by decide) (by decide)
  have q11 := rokD 1 1 (by decide) (by decide) (by decide) (by decide)
  have q12 := rokD 1 2 (by decide) (by decide) (by decide) (by decide)
  have q32 := rokD 3 2 (by decide) (by decide) (by decide) (by decide)
  have q52 := rokD 5 2 (by decide) (by decide) (by decide) (by decide)
  have qm32 := rokD (-3) 2 (by decide) (by decide) (by decide) (by decide)
  have big : ∀ q : Rat, qs q ≤ 10 → qs q ≤ 68719476600 := fun q h => Nat.le_trans h (by decide)
  have lo1 := k_Loss0 q11 q32 (k := 10) (by rw [nr_q]; exact qD 1 1 (by decide) (by decide) (by decide) (by decide)) (by rw [nr_q]; exact qD 3 2 (by decide) (by decide) (by decide) (by decide)) (by decide) (x := [0, 2]) (y := [1, 4]) (by decide)
  simp only [nr_q, rC_nr] at lo1
  rw [show lossQ (Rat.divInt 1 1) (Rat.divInt 3 2) [0, 2] [1, 4] [(0 : Int), 2].length = Rat.divInt 1 2 by decide +kernel] at lo1
  have hroks : roks 1048576 [(nr (Rat.divInt 2 1), nr (Rat.divInt 3 1)), (nr (Rat.divInt 1 1), nr (Rat.divInt 3 2))] := by
    intro p hp
    have d : ∀ a b : Int, -100 ≤ a → a ≤ 100 → -100 ≤ b → b ≤ 100 → rok 1048576 (nr (Rat.divInt a b)) := fun a b h1 h2 h3 h4 => rok_nr (Nat.le_trans (qD a b (by omega) (by omega) (by omega) (by omega)) (by decide))
    simp only [List.mem_cons, List.not_mem_nil, or_false] at hp
    rcases hp with rfl | rfl
    · exact ⟨d 2 1 (by decide) (by decide) (by decide) (by decide), d 3 1 (by decide) (by decide) (by decide) (by decide)⟩
    · exact ⟨d 1 1 (by decide) (by decide) (by decide) (by decide), d 3 2 (by decide) (by decide) (by decide) (by decide)⟩
  have hval : validB [(nr (Rat.divInt 2 1), nr (Rat.divInt 3 1)), (nr (Rat.divInt 1 1), nr (Rat.divInt 3 2))] = true := by
    unfold validB
    simp only [List.all_cons, List.all_nil, nr_q]
    decide +kernel
  have hche : chainE [(nr (Rat.divInt 2 1), nr (Rat.divInt 3 1)), (nr (Rat.divInt 1 1), nr (Rat.divInt 3 2))] = 0 := by
    unfold chainE
    rw [hval]
    rfl
  have hcho : chooseE [(nr (Rat.divInt 2 1), nr (Rat.divInt 3 1)), (nr (Rat.divInt 1 1), nr (Rat.divInt 3 2))] [0, 2] [1, 4] = 0 := by
    unfold chooseE
    rw [hche]
    rfl
  have ch1 := k_Choose0 hroks hcho
  have eb : bst (lsQ [(nr (Rat.divInt 2 1), nr (Rat.divInt 3 1)), (nr (Rat.divInt 1 1), nr (Rat.divInt 3 2))] [0, 2] [1, 4]) 2 = 1 := by
    have e0 : lsQ [(nr (Rat.divInt 2 1), nr (Rat.divInt 3 1)), (nr (Rat.divInt 1 1), nr (Rat.divInt 3 2))] [0, 2] [1, 4] 0 = Rat.divInt 13 1 := by
      show lossQ (nr (Rat.divInt 2 1)).q (nr (Rat.divInt 3 1)).q [0, 2] [1, 4] 2 = _
      rw [nr_q, nr_q]
      decide +kernel
    have e1 : lsQ [(nr (Rat.divInt 2 1), nr (Rat.divInt 3 1)), (nr (Rat.divInt 1 1), nr (Rat.divInt 3 2))] [0, 2] [1, 4] 1 = Rat.divInt 1 2 := by
      show lossQ (nr (Rat.divInt 1 1)).q (nr (Rat.divInt 3 2)).q [0, 2] [1, 4] 2 = _
      rw [nr_q, nr_q]
      decide +kernel
    have b1 : bst (lsQ [(nr (Rat.divInt 2 1), nr (Rat.divInt 3 1)), (nr (Rat.divInt 1 1), nr (Rat.divInt 3 2))] [0, 2] [1, 4]) 1 = 0 := by
      show (if _ then 0 else 0) = 0
      split <;> rfl
    show (if lsQ [(nr (Rat.divInt 2 1), nr (Rat.divInt 3 1)), (nr (Rat.divInt 1 1), nr (Rat.divInt 3 2))] [0, 2] [1, 4] 1 < lsQ [(nr (Rat.divInt 2 1), nr (Rat.divInt 3 1)), (nr (Rat.divInt 1 1), nr (Rat.divInt 3 2))] [0, 2] [1, 4] (bst (lsQ [(nr (Rat.divInt 2 1), nr (Rat.divInt 3 1)), (nr (Rat.divInt 1 1), nr (Rat.divInt 3 2))] [0, 2] [1, 4]) 1) then 1 else bst (lsQ [(nr (Rat.divInt 2 1), nr (Rat.divInt 3 1)), (nr (Rat.divInt 1 1), nr (Rat.divInt 3 2))] [0, 2] [1, 4]) 1) = 1
    rw [b1, e0, e1, if_pos (by decide +kernel)]
  rw [show ([(nr (Rat.divInt 2 1), nr (Rat.divInt 3 1)), (nr (Rat.divInt 1 1), nr (Rat.divInt 3 2))] : List (RR × RR)).length = 2 from rfl, eb] at ch1
  have cc1 := k_Chain0 hroks hche
  have ea : cA [(nr (Rat.divInt 2 1), nr (Rat.divInt 3 1)), (nr (Rat.divInt 1 1), nr (Rat.divInt 3 2))] 2 = Rat.divInt 2 1 := by
    show 1 * (nr (Rat.divInt 2 1)).q * (nr (Rat.divInt 1 1)).q = _
    rw [nr_q, nr_q]
    decide +kernel
  have eb2 : cB [(nr (Rat.divInt 2 1), nr (Rat.divInt 3 1)), (nr (Rat.divInt 1 1), nr (Rat.divInt 3 2))] 2 = Rat.divInt 9 2 := by
    show (nr (Rat.divInt 1 1)).q * ((nr (Rat.divInt 2 1)).q * 0 + (nr (Rat.divInt 3 1)).q) + (nr (Rat.divInt 3 2)).q = _
    rw [nr_q, nr_q, nr_q, nr_q]
    decide +kernel
  rw [show ([(nr (Rat.divInt 2 1), nr (Rat.divInt 3 1)), (nr (Rat.divInt 1 1), nr (Rat.divInt 3 2))] : List (RR × RR)).length = 2 from rfl, ea, eb2] at cc1
  have is5 := l45_is (p := Rat.divInt 2 1) (q := Rat.divInt 9 2) (by decide +kernel) (by decide +kernel)
  rw [show digQ (Rat.divInt 2 1) = ⟨#[50]⟩ by decide +kernel, show digQ (Rat.divInt 9 2) = ⟨#[57, 47, 50]⟩ by decide +kernel] at is5
  have pr12 := rat_Print (Rat.divInt 1 2) (by decide +kernel) (by decide +kernel) (by decide +kernel)
  rw [show digQ (Rat.divInt 1 2) = ⟨#[49, 47, 50]⟩ by decide +kernel] at pr12
  have sp2 := k_SpreadZ (x := [1, 1]) (y := [2, 3]) (by decide) (by decide) (by decide) (.inl (by decide))
  have me2 := k_MeanE (x := [1]) (y := [1, 2]) (by decide) (by decide) (by decide)
  rw [show anchV [1] [1, 2] = 1 by decide] at me2
  have ch2 := k_ChooseE (ls := []) (fun p hp => by simp at hp) (by decide) (x := [1]) (y := [1]) (by decide) (by decide) (by decide)
  rw [show chooseE [] [1] [1] = 20 by decide] at ch2
  have BB : (true == true) = true ∧ (false == false) = true ∧ (true == false) = false ∧ (false == true) = false ∧ (!true) = false ∧ (!false) = true := ⟨rfl, rfl, rfl, rfl, rfl, rfl⟩
  clear hroks hval hche hcho eb ea eb2
  simp only [sQ, ratC, List.map_cons, List.map_nil, List.cons_append, List.nil_append] at v1 v6
  unfold b37_10
  simp (maxSteps:=1000000) (disch:=first | omega | (simp only [LL];omega)) only [W,V,TY,CC,reduceIte,Nat.reduceEqDiff,Nat.reduceAdd,Nat.reduceLeDiff,Nat.reduceLT,Int.reduceLE,Int.reduceLT,Int.reduceAdd,Int.reduceSub,Int.reduceToNat,Nat.reduceMul,t1,v1,t6,v6,g9,g11,f9,f11,sQ,ratC,rC,BB,beq_self_eq_true,zS]
  refine a_call _ _ lo1 (by simp (maxSteps:=1000000) (disch:=first | omega | (simp only [LL];omega)) only [W,V,TY,CC,reduceIte,Nat.reduceEqDiff,Nat.reduceAdd,Nat.reduceLeDiff,Nat.reduceLT,Int.reduceLE,Int.reduceLT,Int.reduceAdd,Int.reduceSub,Int.reduceToNat,Nat.reduceMul,t1,v1,t6,v6,g9,g11,f9,f11,sQ,ratC,rC,BB,beq_self_eq_true,zS] <;> rfl) ?_
  simp (maxSteps:=1000000) (disch:=first | omega | (simp only [LL];omega)) only [W,V,TY,CC,reduceIte,Nat.reduceEqDiff,Nat.reduceAdd,Nat.reduceLeDiff,Nat.reduceLT,Int.reduceLE,Int.reduceLT,Int.reduceAdd,Int.reduceSub,Int.reduceToNat,Nat.reduceMul,t1,v1,t6,v6,g9,g11,f9,f11,sQ,ratC,rC,BB,beq_self_eq_true,zS]
  refine a_call _ _ ch1 (by simp (maxSteps:=1000000) (disch:=first | omega | (simp only [LL];omega)) only [W,V,TY,CC,reduceIte,Nat.reduceEqDiff,Nat.reduceAdd,Nat.reduceLeDiff,Nat.reduceLT,Int.reduceLE,Int.reduceLT,Int.reduceAdd,Int.reduceSub,Int.reduceToNat,Nat.reduceMul,t1,v1,t6,v6,g9,g11,f9,f11,sQ,ratC,rC,BB,beq_self_eq_true,zS] <;> rfl) ?_
  simp (maxSteps:=1000000) (disch:=first | omega | (simp only [LL];omega)) only [W,V,TY,CC,reduceIte,Nat.reduceEqDiff,Nat.reduceAdd,Nat.reduceLeDiff,Nat.reduceLT,Int.reduceLE,Int.reduceLT,Int.reduceAdd,Int.reduceSub,Int.reduceToNat,Nat.reduceMul,t1,v1,t6,v6,g9,g11,f9,f11,sQ,ratC,rC,BB,beq_self_eq_true,zS]
  refine a_call _ _ cc1 (by simp (maxSteps:=1000000) (disch:=first | omega | (simp only [LL];omega)) only [W,V,TY,CC,reduceIte,Nat.reduceEqDiff,Nat.reduceAdd,Nat.reduceLeDiff,Nat.reduceLT,Int.reduceLE,Int.reduceLT,Int.reduceAdd,Int.reduceSub,Int.reduceToNat,Nat.reduceMul,t1,v1,t6,v6,g9,g11,f9,f11,sQ,ratC,rC,BB,beq_self_eq_true,zS] <;> rfl) ?_
  simp (maxSteps:=1000000) (disch:=first | omega | (simp only [LL];omega)) only [W,V,TY,CC,reduceIte,Nat.reduceEqDiff,Nat.reduceAdd,Nat.reduceLeDiff,Nat.reduceLT,Int.reduceLE,Int.reduceLT,Int.reduceAdd,Int.reduceSub,Int.reduceToNat,Nat.reduceMul,t1,v1,t6,v6,g9,g11,f9,f11,sQ,ratC,rC,BB,beq_self_eq_true,zS]
  refine a_call _ _ pr12 (by simp (maxSteps:=1000000) (disch:=first | omega | (simp only [LL];omega)) only [W,V,TY,CC,reduceIte,Nat.reduceEqDiff,Nat.reduceAdd,Nat.reduceLeDiff,Nat.reduceLT,Int.reduceLE,Int.reduceLT,Int.reduceAdd,Int.reduceSub,Int.reduceToNat,Nat.reduceMul,t1,v1,t6,v6,g9,g11,f9,f11,sQ,ratC,rC,BB,beq_self_eq_true,zS] <;> rfl) ?_
  simp (maxSteps:=1000000) (disch:=first | omega | (simp only [LL];omega)) only [W,V,TY,CC,reduceIte,Nat.reduceEqDiff,Nat.reduceAdd,Nat.reduceLeDiff,Nat.reduceLT,Int.reduceLE,Int.reduceLT,Int.reduceAdd,Int.reduceSub,Int.reduceToNat,Nat.reduceMul,t1,v1,t6,v6,g9,g11,f9,f11,sQ,ratC,rC,BB,beq_self_eq_true,zS]
  refine a_call _ _ is5 (by simp (maxSteps:=1000000) (disch:=first | omega | (simp only [LL];omega)) only [W,V,TY,CC,reduceIte,Nat.reduceEqDiff,Nat.reduceAdd,Nat.reduceLeDiff,Nat.reduceLT,Int.reduceLE,Int.reduceLT,Int.reduceAdd,Int.reduceSub,Int.reduceToNat,Nat.reduceMul,t1,v1,t6,v6,g9,g11,f9,f11,sQ,ratC,rC,BB,beq_self_eq_true,zS] <;> rfl) ?_
  simp (maxSteps:=1000000) (disch:=first | omega | (simp only [LL];omega)) only [W,V,TY,CC,reduceIte,Nat.reduceEqDiff,Nat.reduceAdd,Nat.reduceLeDiff,Nat.reduceLT,Int.reduceLE,Int.reduceLT,Int.reduceAdd,Int.reduceSub,Int.reduceToNat,Nat.reduceMul,t1,v1,t6,v6,g9,g11,f9,f11,sQ,ratC,rC,BB,beq_self_eq_true,zS]
  refine a_call _ _ sp2 (by simp (maxSteps:=1000000) (disch:=first | omega | (simp only [LL];omega)) only [W,V,TY,CC,reduceIte,Nat.reduceEqDiff,Nat.reduceAdd,Nat.reduceLeDiff,Nat.reduceLT,Int.reduceLE,Int.reduceLT,Int.reduceAdd,Int.reduceSub,Int.reduceToNat,Nat.reduceMul,t1,v1,t6,v6,g9,g11,f9,f11,sQ,ratC,rC,BB,beq_self_eq_true,zS] <;> rfl) ?_
  simp (maxSteps:=1000000) (disch:=first | omega | (simp only [LL];omega)) only [W,V,TY,CC,reduceIte,Nat.reduceEqDiff,Nat.reduceAdd,Nat.reduceLeDiff,Nat.reduceLT,Int.reduceLE,Int.reduceLT,Int.reduceAdd,Int.reduceSub,Int.reduceToNat,Nat.reduceMul,t1,v1,t6,v6,g9,g11,f9,f11,sQ,ratC,rC,BB,beq_self_eq_true,zS]
  refine a_call _ _ me2 (by simp (maxSteps:=1000000) (disch:=first | omega | (simp only [LL];omega)) only [W,V,TY,CC,reduceIte,Nat.reduceEqDiff,Nat.reduceAdd,Nat.reduceLeDiff,Nat.reduceLT,Int.reduceLE,Int.reduceLT,Int.reduceAdd,Int.reduceSub,Int.reduceToNat,Nat.reduceMul,t1,v1,t6,v6,g9,g11,f9,f11,sQ,ratC,rC,BB,beq_self_eq_true,zS] <;> rfl) ?_
  simp (maxSteps:=1000000) (disch:=first | omega | (simp only [LL];omega)) only [W,V,TY,CC,reduceIte,Nat.reduceEqDiff,Nat.reduceAdd,Nat.reduceLeDiff,Nat.reduceLT,Int.reduceLE,Int.reduceLT,Int.reduceAdd,Int.reduceSub,Int.reduceToNat,Nat.reduceMul,t1,v1,t6,v6,g9,g11,f9,f11,sQ,ratC,rC,BB,beq_self_eq_true,zS]
  refine a_call _ _ ch2 (by simp (maxSteps:=1000000) (disch:=first | omega | (simp only [LL];omega)) only [W,V,TY,CC,reduceIte,Nat.reduceEqDiff,Nat.reduceAdd,Nat.reduceLeDiff,Nat.reduceLT,Int.reduceLE,Int.reduceLT,Int.reduceAdd,Int.reduceSub,Int.reduceToNat,Nat.reduceMul,t1,v1,t6,v6,g9,g11,f9,f11,sQ,ratC,rC,BB,beq_self_eq_true,zS] <;> rfl) ?_
  simp (maxSteps:=1000000) (disch:=first | omega | (simp only [LL];omega)) only [W,V,TY,CC,reduceIte,Nat.reduceEqDiff,Nat.reduceAdd,Nat.reduceLeDiff,Nat.reduceLT,Int.reduceLE,Int.reduceLT,Int.reduceAdd,Int.reduceSub,Int.reduceToNat,Nat.reduceMul,t1,v1,t6,v6,g9,g11,f9,f11,sQ,ratC,rC,BB,beq_self_eq_true,zS]
  refine f_ret _ _ _ ?_
  simp (maxSteps:=1000000) (disch:=first | omega | (simp only [LL];omega)) only [W,V,TY,CC,reduceIte,Nat.reduceEqDiff,Nat.reduceAdd,Nat.reduceLeDiff,Nat.reduceLT,Int.reduceLE,Int.reduceLT,Int.reduceAdd,Int.reduceSub,Int.reduceToNat,Nat.reduceMul,BB]
set_option maxHeartbeats 8000000 in
theorem l45_awake : AFun Tryd.prog 37 [] [.one (.lit (.bool true))] := by
  have q21 := rokD 2 1 (by decide) (by decide) (by decide) (by decide)
  have q31 := rokD 3 1 (by decide) (by decide) (by decide) (by decide)
  have q11 := rokD 1 1 (by decide) (by decide) (by decide) (by decide)
  have q12 := rokD 1 2 (by decide) (by decide) (by decide) (by decide)
  have q32 := rokD 3 2 (by decide) (by decide) (by decide) (by decide)
  have q52 := rokD 5 2 (by decide) (by decide) (by decide) (by decide)
  have qm32 := rokD (-3) 2 (by decide) (by decide) (by decide) (by decide)
  have big : ∀ q : Rat, qs q ≤ 10 → qs q ≤ 68719476600 := fun q h => Nat.le_trans h (by decide)
  have n2 := l45_number 2 (by decide) (by decide)
  have n3 := l45_number 3 (by decide) (by decide)
  have n1 := l45_number 1 (by decide) (by decide)
  have x5 := rat_Of 5 2 (by decide) (by decide) (by decide) (by decide)
  have iv1 := k_Invert q21 q31 (by rw [nr_q]; decide +kernel) (by rw [nr_q, show 1 / Rat.divInt 2 1 = Rat.divInt 1 2 by decide +kernel]; exact big _ (qD 1 2 (by decide) (by decide) (by decide) (by decide))) (by rw [nr_q, nr_q, show 1 / Rat.divInt 2 1 * Rat.divInt 3 1 = Rat.divInt 3 2 by decide +kernel]; exact big _ (qD 3 2 (by decide) (by decide) (by decide) (by decide)))
  simp only [nr_q, rC_nr] at iv1
  rw [show -(1 / Rat.divInt 2 1 * Rat.divInt 3 1) = Rat.divInt (-3) 2 by decide +kernel, show 1 / Rat.divInt 2 1 = Rat.divInt 1 2 by decide +kernel] at iv1
  have is1 := l45_is (p := Rat.divInt 1 2) (q := Rat.divInt (-3) 2) (by decide +kernel) (by decide +kernel)
  rw [show digQ (Rat.divInt 1 2) = ⟨#[49, 47, 50]⟩ by decide +kernel, show digQ (Rat.divInt (-3) 2) = ⟨#[45, 51, 47, 50]⟩ by decide +kernel] at is1
  have ap1 := k_Apply q21 q31 q52 (by rw [nr_q, nr_q, show Rat.divInt 2 1 * Rat.divInt 5 2 = Rat.divInt 5 1 by decide +kernel]; exact big _ (qD 5 1 (by decide) (by decide) (by decide) (by decide)))
  simp only [nr_q, rC_nr] at ap1
  rw [show Rat.divInt 2 1 * Rat.divInt 5 2 + Rat.divInt 3 1 = Rat.divInt 8 1 by decide +kernel] at ap1
  have pr8 := rat_Print (Rat.divInt 8 1) (by decide +kernel) (by decide +kernel) (by decide +kernel)
  rw [show digQ (Rat.divInt 8 1) = ⟨#[56]⟩ by decide +kernel] at pr8
  have va1 := k_Valid (B := nr (Rat.divInt 3 1)) q21
  simp only [nr_q, rC_nr] at va1
  rw [decide_eq_true (show 0 < Rat.divInt 2 1 by decide +kernel)] at va1
  have va2 := k_Valid (A := ⟨false, [], []⟩) (B := nr (Rat.divInt 1 1)) ⟨Lim.nil, Lim.nil, by decide, by decide⟩
  rw [decide_eq_false (show ¬ 0 < RR.q ⟨false, [], []⟩ by decide +kernel)] at va2
  simp only [rC_nr] at va2
  have co1 := k_Compose q21 q31 q12 qm32 (by rw [nr_q, nr_q, show Rat.divInt 1 2 * Rat.divInt 3 1 = Rat.divInt 3 2 by decide +kernel]; exact big _ (qD 3 2 (by decide) (by decide) (by decide) (by decide)))
  simp only [nr_q, rC_nr] at co1
  rw [show Rat.divInt 2 1 * Rat.divInt 1 2 = Rat.divInt 1 1 by decide +kernel, show Rat.divInt 1 2 * Rat.divInt 3 1 + Rat.divInt (-3) 2 = Rat.divInt 0 1 by decide +kernel] at co1
  have is2 := l45_is (p := Rat.divInt 1 1) (q := Rat.divInt 0 1) (by decide +kernel) (by decide +kernel)
  rw [show digQ (Rat.divInt 1 1) = ⟨#[49]⟩ by decide +kernel, show digQ (Rat.divInt 0 1) = ⟨#[48]⟩ by decide +kernel] at is2
  have me1 := k_Mean0 (x := [0, 2]) (y := [1, 4]) (by decide) (by decide) (by decide)
  rw [show meanQ [1, 4] - meanQ [0, 2] = Rat.divInt 3 2 by decide +kernel, show (1 : Rat) = Rat.divInt 1 1 by decide +kernel] at me1
  have sp1 := k_Spread0 (x := [0, 2]) (y := [1, 7]) (by decide) (by decide) (by decide) (by decide) (by decide)
  rw [show meanQ [1, 7] - spreadA [0, 2] [1, 7] * meanQ [0, 2] = Rat.divInt 1 1 by decide +kernel, show spreadA [0, 2] [1, 7] = Rat.divInt 3 1 by decide +kernel] at sp1
  have is3 := l45_is (p := Rat.divInt 1 1) (q := Rat.divInt 3 2) (by decide +kernel) (by decide +kernel)
  rw [show digQ (Rat.divInt 1 1) = ⟨#[49]⟩ by decide +kernel, show digQ (Rat.divInt 3 2) = ⟨#[51, 47, 50]⟩ by decide +kernel] at is3
  have is4 := l45_is (p := Rat.divInt 3 1) (q := Rat.divInt 1 1) (by decide +kernel) (by decide +kernel)
  rw [show digQ (Rat.divInt 3 1) = ⟨#[51]⟩ by decide +kernel, show digQ (Rat.divInt 1 1) = ⟨#[49]⟩ by decide +kernel] at is4
  have BB : (true == true) = true ∧ (false == false) = true ∧ (true == false) = false ∧ (false == true) = false ∧ (!true) = false ∧ (!false) = true := ⟨rfl, rfl, rfl, rfl, rfl, rfl⟩
  refine afun_intro mo_ _ _ c37 k37 _ _ rfl (by decide) ?_
  unfold b37
  simp (maxSteps:=1000000) (disch:=first | omega | (simp only [LL];omega)) only [W,V,TY,CC,reduceIte,Nat.reduceEqDiff,Nat.reduceAdd,Nat.reduceLeDiff,Nat.reduceLT,Int.reduceLE,Int.reduceLT,Int.reduceAdd,Int.reduceSub,Int.reduceToNat,Nat.reduceMul]
  refine a_call _ _ n2 (by simp (maxSteps:=1000000) (disch:=first | omega | (simp only [LL];omega)) only [W,V,TY,CC,reduceIte,Nat.reduceEqDiff,Nat.reduceAdd,Nat.reduceLeDiff,Nat.reduceLT,Int.reduceLE,Int.reduceLT,Int.reduceAdd,Int.reduceSub,Int.reduceToNat,Nat.reduceMul,sQ,ratC,rC,BB,beq_self_eq_true,zS] <;> rfl) ?_
  simp (maxSteps:=1000000) (disch:=first | omega | (simp only [LL];omega)) only [W,V,TY,CC,reduceIte,Nat.reduceEqDiff,Nat.reduceAdd,Nat.reduceLeDiff,Nat.reduceLT,Int.reduceLE,Int.reduceLT,Int.reduceAdd,Int.reduceSub,Int.reduceToNat,Nat.reduceMul,sQ,ratC,rC,BB,beq_self_eq_true,zS]
  refine a_call _ _ n3 (by simp (maxSteps:=1000000) (disch:=first | omega | (simp only [LL];omega)) only [W,V,TY,CC,reduceIte,Nat.reduceEqDiff,Nat.reduceAdd,Nat.reduceLeDiff,Nat.reduceLT,Int.reduceLE,Int.reduceLT,Int.reduceAdd,Int.reduceSub,Int.reduceToNat,Nat.reduceMul,sQ,ratC,rC,BB,beq_self_eq_true,zS] <;> rfl) ?_
  simp (maxSteps:=1000000) (disch:=first | omega | (simp only [LL];omega)) only [W,V,TY,CC,reduceIte,Nat.reduceEqDiff,Nat.reduceAdd,Nat.reduceLeDiff,Nat.reduceLT,Int.reduceLE,Int.reduceLT,Int.reduceAdd,Int.reduceSub,Int.reduceToNat,Nat.reduceMul,sQ,ratC,rC,BB,beq_self_eq_true,zS]
  refine a_call _ _ iv1 (by simp (maxSteps:=1000000) (disch:=first | omega | (simp only [LL];omega)) only [W,V,TY,CC,reduceIte,Nat.reduceEqDiff,Nat.reduceAdd,Nat.reduceLeDiff,Nat.reduceLT,Int.reduceLE,Int.reduceLT,Int.reduceAdd,Int.reduceSub,Int.reduceToNat,Nat.reduceMul,sQ,ratC,rC,BB,beq_self_eq_true,zS] <;> rfl) ?_
  simp (maxSteps:=1000000) (disch:=first | omega | (simp only [LL];omega)) only [W,V,TY,CC,reduceIte,Nat.reduceEqDiff,Nat.reduceAdd,Nat.reduceLeDiff,Nat.reduceLT,Int.reduceLE,Int.reduceLT,Int.reduceAdd,Int.reduceSub,Int.reduceToNat,Nat.reduceMul,sQ,ratC,rC,BB,beq_self_eq_true,zS]
  refine a_call _ _ x5 (by simp (maxSteps:=1000000) (disch:=first | omega | (simp only [LL];omega)) only [W,V,TY,CC,reduceIte,Nat.reduceEqDiff,Nat.reduceAdd,Nat.reduceLeDiff,Nat.reduceLT,Int.reduceLE,Int.reduceLT,Int.reduceAdd,Int.reduceSub,Int.reduceToNat,Nat.reduceMul,sQ,ratC,rC,BB,beq_self_eq_true,zS] <;> rfl) ?_
  simp (maxSteps:=1000000) (disch:=first | omega | (simp only [LL];omega)) only [W,V,TY,CC,reduceIte,Nat.reduceEqDiff,Nat.reduceAdd,Nat.reduceLeDiff,Nat.reduceLT,Int.reduceLE,Int.reduceLT,Int.reduceAdd,Int.reduceSub,Int.reduceToNat,Nat.reduceMul,sQ,ratC,rC,BB,beq_self_eq_true,zS]
  refine a_call _ _ is1 (by simp (maxSteps:=1000000) (disch:=first | omega | (simp only [LL];omega)) only [W,V,TY,CC,reduceIte,Nat.reduceEqDiff,Nat.reduceAdd,Nat.reduceLeDiff,Nat.reduceLT,Int.reduceLE,Int.reduceLT,Int.reduceAdd,Int.reduceSub,Int.reduceToNat,Nat.reduceMul,sQ,ratC,rC,BB,beq_self_eq_true,zS] <;> rfl) ?_
  simp (maxSteps:=1000000) (disch:=first | omega | (simp only [LL];omega)) only [W,V,TY,CC,reduceIte,Nat.reduceEqDiff,Nat.reduceAdd,Nat.reduceLeDiff,Nat.reduceLT,Int.reduceLE,Int.reduceLT,Int.reduceAdd,Int.reduceSub,Int.reduceToNat,Nat.reduceMul,sQ,ratC,rC,BB,beq_self_eq_true,zS]
  refine a_call _ _ ap1 (by simp (maxSteps:=1000000) (disch:=first | omega | (simp only [LL];omega)) only [W,V,TY,CC,reduceIte,Nat.reduceEqDiff,Nat.reduceAdd,Nat.reduceLeDiff,Nat.reduceLT,Int.reduceLE,Int.reduceLT,Int.reduceAdd,Int.reduceSub,Int.reduceToNat,Nat.reduceMul,sQ,ratC,rC,BB,beq_self_eq_true,zS] <;> rfl) ?_
  simp (maxSteps:=1000000) (disch:=first | omega | (simp only [LL];omega)) only [W,V,TY,CC,reduceIte,Nat.reduceEqDiff,Nat.reduceAdd,Nat.reduceLeDiff,Nat.reduceLT,Int.reduceLE,Int.reduceLT,Int.reduceAdd,Int.reduceSub,Int.reduceToNat,Nat.reduceMul,sQ,ratC,rC,BB,beq_self_eq_true,zS]
  refine a_call _ _ pr8 (by simp (maxSteps:=1000000) (disch:=first | omega | (simp only [LL];omega)) only [W,V,TY,CC,reduceIte,Nat.reduceEqDiff,Nat.reduceAdd,Nat.reduceLeDiff,Nat.reduceLT,Int.reduceLE,Int.reduceLT,Int.reduceAdd,Int.reduceSub,Int.reduceToNat,Nat.reduceMul,sQ,ratC,rC,BB,beq_self_eq_true,zS] <;> rfl) ?_
  simp (maxSteps:=1000000) (disch:=first | omega | (simp only [LL];omega)) only [W,V,TY,CC,reduceIte,Nat.reduceEqDiff,Nat.reduceAdd,Nat.reduceLeDiff,Nat.reduceLT,Int.reduceLE,Int.reduceLT,Int.reduceAdd,Int.reduceSub,Int.reduceToNat,Nat.reduceMul,sQ,ratC,rC,BB,beq_self_eq_true,zS]
  refine a_call _ _ va1 (by simp (maxSteps:=1000000) (disch:=first | omega | (simp only [LL];omega)) only [W,V,TY,CC,reduceIte,Nat.reduceEqDiff,Nat.reduceAdd,Nat.reduceLeDiff,Nat.reduceLT,Int.reduceLE,Int.reduceLT,Int.reduceAdd,Int.reduceSub,Int.reduceToNat,Nat.reduceMul,sQ,ratC,rC,BB,beq_self_eq_true,zS] <;> rfl) ?_
  simp (maxSteps:=1000000) (disch:=first | omega | (simp only [LL];omega)) only [W,V,TY,CC,reduceIte,Nat.reduceEqDiff,Nat.reduceAdd,Nat.reduceLeDiff,Nat.reduceLT,Int.reduceLE,Int.reduceLT,Int.reduceAdd,Int.reduceSub,Int.reduceToNat,Nat.reduceMul,sQ,ratC,rC,BB,beq_self_eq_true,zS]
  refine a_call _ _ n1 (by simp (maxSteps:=1000000) (disch:=first | omega | (simp only [LL];omega)) only [W,V,TY,CC,reduceIte,Nat.reduceEqDiff,Nat.reduceAdd,Nat.reduceLeDiff,Nat.reduceLT,Int.reduceLE,Int.reduceLT,Int.reduceAdd,Int.reduceSub,Int.reduceToNat,Nat.reduceMul,sQ,ratC,rC,BB,beq_self_eq_true,zS] <;> rfl) ?_
  simp (maxSteps:=1000000) (disch:=first | omega | (simp only [LL];omega)) only [W,V,TY,CC,reduceIte,Nat.reduceEqDiff,Nat.reduceAdd,Nat.reduceLeDiff,Nat.reduceLT,Int.reduceLE,Int.reduceLT,Int.reduceAdd,Int.reduceSub,Int.reduceToNat,Nat.reduceMul,sQ,ratC,rC,BB,beq_self_eq_true,zS]
  refine a_call _ _ va2 (by simp (maxSteps:=1000000) (disch:=first | omega | (simp only [LL];omega)) only [W,V,TY,CC,reduceIte,Nat.reduceEqDiff,Nat.reduceAdd,Nat.reduceLeDiff,Nat.reduceLT,Int.reduceLE,Int.reduceLT,Int.reduceAdd,Int.reduceSub,Int.reduceToNat,Nat.reduceMul,sQ,ratC,rC,BB,beq_self_eq_true,zS] <;> rfl) ?_
  simp (maxSteps:=1000000) (disch:=first | omega | (simp only [LL];omega)) only [W,V,TY,CC,reduceIte,Nat.reduceEqDiff,Nat.reduceAdd,Nat.reduceLeDiff,Nat.reduceLT,Int.reduceLE,Int.reduceLT,Int.reduceAdd,Int.reduceSub,Int.reduceToNat,Nat.reduceMul,sQ,ratC,rC,BB,beq_self_eq_true,zS]
  refine a_call _ _ co1 (by simp (maxSteps:=1000000) (disch:=first | omega | (simp only [LL];omega)) only [W,V,TY,CC,reduceIte,Nat.reduceEqDiff,Nat.reduceAdd,Nat.reduceLeDiff,Nat.reduceLT,Int.reduceLE,Int.reduceLT,Int.reduceAdd,Int.reduceSub,Int.reduceToNat,Nat.reduceMul,sQ,ratC,rC,BB,beq_self_eq_true,zS] <;> rfl) ?_
  simp (maxSteps:=1000000) (disch:=first | omega | (simp only [LL];omega)) only [W,V,TY,CC,reduceIte,Nat.reduceEqDiff,Nat.reduceAdd,Nat.reduceLeDiff,Nat.reduceLT,Int.reduceLE,Int.reduceLT,Int.reduceAdd,Int.reduceSub,Int.reduceToNat,Nat.reduceMul,sQ,ratC,rC,BB,beq_self_eq_true,zS]
  refine a_call _ _ is2 (by simp (maxSteps:=1000000) (disch:=first | omega | (simp only [LL];omega)) only [W,V,TY,CC,reduceIte,Nat.reduceEqDiff,Nat.reduceAdd,Nat.reduceLeDiff,Nat.reduceLT,Int.reduceLE,Int.reduceLT,Int.reduceAdd,Int.reduceSub,Int.reduceToNat,Nat.reduceMul,sQ,ratC,rC,BB,beq_self_eq_true,zS] <;> rfl) ?_
  simp (maxSteps:=1000000) (disch:=first | omega | (simp only [LL];omega)) only [W,V,TY,CC,reduceIte,Nat.reduceEqDiff,Nat.reduceAdd,Nat.reduceLeDiff,Nat.reduceLT,Int.reduceLE,Int.reduceLT,Int.reduceAdd,Int.reduceSub,Int.reduceToNat,Nat.reduceMul,sQ,ratC,rC,BB,beq_self_eq_true,zS]
  refine a_call _ _ me1 (by simp (maxSteps:=1000000) (disch:=first | omega | (simp only [LL];omega)) only [W,V,TY,CC,reduceIte,Nat.reduceEqDiff,Nat.reduceAdd,Nat.reduceLeDiff,Nat.reduceLT,Int.reduceLE,Int.reduceLT,Int.reduceAdd,Int.reduceSub,Int.reduceToNat,Nat.reduceMul,sQ,ratC,rC,BB,beq_self_eq_true,zS] <;> rfl) ?_
  simp (maxSteps:=1000000) (disch:=first | omega | (simp only [LL];omega)) only [W,V,TY,CC,reduceIte,Nat.reduceEqDiff,Nat.reduceAdd,Nat.reduceLeDiff,Nat.reduceLT,Int.reduceLE,Int.reduceLT,Int.reduceAdd,Int.reduceSub,Int.reduceToNat,Nat.reduceMul,sQ,ratC,rC,BB,beq_self_eq_true,zS]
  refine a_call _ _ sp1 (by simp (maxSteps:=1000000) (disch:=first | omega | (simp only [LL];omega)) only [W,V,TY,CC,reduceIte,Nat.reduceEqDiff,Nat.reduceAdd,Nat.reduceLeDiff,Nat.reduceLT,Int.reduceLE,Int.reduceLT,Int.reduceAdd,Int.reduceSub,Int.reduceToNat,Nat.reduceMul,sQ,ratC,rC,BB,beq_self_eq_true,zS] <;> rfl) ?_
  simp (maxSteps:=1000000) (disch:=first | omega | (simp only [LL];omega)) only [W,V,TY,CC,reduceIte,Nat.reduceEqDiff,Nat.reduceAdd,Nat.reduceLeDiff,Nat.reduceLT,Int.reduceLE,Int.reduceLT,Int.reduceAdd,Int.reduceSub,Int.reduceToNat,Nat.reduceMul,sQ,ratC,rC,BB,beq_self_eq_true,zS]
  refine a_call _ _ is3 (by simp (maxSteps:=1000000) (disch:=first | omega | (simp only [LL];omega)) only [W,V,TY,CC,reduceIte,Nat.reduceEqDiff,Nat.reduceAdd,Nat.reduceLeDiff,Nat.reduceLT,Int.reduceLE,Int.reduceLT,Int.reduceAdd,Int.reduceSub,Int.reduceToNat,Nat.reduceMul,sQ,ratC,rC,BB,beq_self_eq_true,zS] <;> rfl) ?_
  simp (maxSteps:=1000000) (disch:=first | omega | (simp only [LL];omega)) only [W,V,TY,CC,reduceIte,Nat.reduceEqDiff,Nat.reduceAdd,Nat.reduceLeDiff,Nat.reduceLT,Int.reduceLE,Int.reduceLT,Int.reduceAdd,Int.reduceSub,Int.reduceToNat,Nat.reduceMul,sQ,ratC,rC,BB,beq_self_eq_true,zS]
  refine a_call _ _ is4 (by simp (maxSteps:=1000000) (disch:=first | omega | (simp only [LL];omega)) only [W,V,TY,CC,reduceIte,Nat.reduceEqDiff,Nat.reduceAdd,Nat.reduceLeDiff,Nat.reduceLT,Int.reduceLE,Int.reduceLT,Int.reduceAdd,Int.reduceSub,Int.reduceToNat,Nat.reduceMul,sQ,ratC,rC,BB,beq_self_eq_true,zS] <;> rfl) ?_
  simp (maxSteps:=1000000) (disch:=first | omega | (simp only [LL];omega)) only [W,V,TY,CC,reduceIte,Nat.reduceEqDiff,Nat.reduceAdd,Nat.reduceLeDiff,Nat.reduceLT,Int.reduceLE,Int.reduceLT,Int.reduceAdd,Int.reduceSub,Int.reduceToNat,Nat.reduceMul,sQ,ratC,rC,BB,beq_self_eq_true,zS]
  refine l45_awake_rest _ ?_ ?_ ?_ ?_ ?_ ?_ ?_ ?_
  · simp (maxSteps:=1000000) (disch:=first | omega | (simp only [LL];omega)) only [W,V,TY,CC,reduceIte,Nat.reduceEqDiff,Nat.reduceAdd,Nat.reduceLeDiff,Nat.reduceLT,Int.reduceLE,Int.reduceLT,Int.reduceAdd,Int.reduceSub,Int.reduceToNat,Nat.reduceMul,sQ,ratC,rC,BB,beq_self_eq_true,zS]
  · simp (maxSteps:=1000000) (disch:=first | omega | (simp only [LL];omega)) only [W,V,TY,CC,reduceIte,Nat.reduceEqDiff,Nat.reduceAdd,Nat.reduceLeDiff,Nat.reduceLT,Int.reduceLE,Int.reduceLT,Int.reduceAdd,Int.reduceSub,Int.reduceToNat,Nat.reduceMul,sQ,ratC,rC,BB,beq_self_eq_true,zS]
  · simp (maxSteps:=1000000) (disch:=first | omega | (simp only [LL];omega)) only [W,V,TY,CC,reduceIte,Nat.reduceEqDiff,Nat.reduceAdd,Nat.reduceLeDiff,Nat.reduceLT,Int.reduceLE,Int.reduceLT,Int.reduceAdd,Int.reduceSub,Int.reduceToNat,Nat.reduceMul,sQ,ratC,rC,BB,beq_self_eq_true,zS]
  · simp (maxSteps:=1000000) (disch:=first | omega | (simp only [LL];omega)) only [W,V,TY,CC,reduceIte,Nat.reduceEqDiff,Nat.reduceAdd,Nat.reduceLeDiff,Nat.reduceLT,Int.reduceLE,Int.reduceLT,Int.reduceAdd,Int.reduceSub,Int.reduceToNat,Nat.reduceMul,sQ,ratC,rC,BB,beq_self_eq_true,zS]
  · simp (maxSteps:=1000000) (disch:=first | omega | (simp only [LL];omega)) only [W,V,TY,CC,reduceIte,Nat.reduceEqDiff,Nat.reduceAdd,Nat.reduceLeDiff,Nat.reduceLT,Int.reduceLE,Int.reduceLT,Int.reduceAdd,Int.reduceSub,Int.reduceToNat,Nat.reduceMul,sQ,ratC,rC,BB,beq_self_eq_true,zS]
  · simp (maxSteps:=1000000) (disch:=first | omega | (simp only [LL];omega)) only [W,V,TY,CC,reduceIte,Nat.reduceEqDiff,Nat.reduceAdd,Nat.reduceLeDiff,Nat.reduceLT,Int.reduceLE,Int.reduceLT,Int.reduceAdd,Int.reduceSub,Int.reduceToNat,Nat.reduceMul,sQ,ratC,rC,BB,beq_self_eq_true,zS]
  · simp (maxSteps:=1000000) (disch:=first | omega | (simp only [LL];omega)) only [W,V,TY,CC,reduceIte,Nat.reduceEqDiff,Nat.reduceAdd,Nat.reduceLeDiff,Nat.reduceLT,Int.reduceLE,Int.reduceLT,Int.reduceAdd,Int.reduceSub,Int.reduceToNat,Nat.reduceMul,sQ,ratC,rC,BB,beq_self_eq_true,zS]
  · simp (maxSteps:=1000000) (disch:=first | omega | (simp only [LL];omega)) only [W,V,TY,CC,reduceIte,Nat.reduceEqDiff,Nat.reduceAdd,Nat.reduceLeDiff,Nat.reduceLT,Int.reduceLE,Int.reduceLT,Int.reduceAdd,Int.reduceSub,Int.reduceToNat,Nat.reduceMul,sQ,ratC,rC,BB,beq_self_eq_true,zS]
end Go.Proofs.YtljmgdepldpmdaaDoor.E
