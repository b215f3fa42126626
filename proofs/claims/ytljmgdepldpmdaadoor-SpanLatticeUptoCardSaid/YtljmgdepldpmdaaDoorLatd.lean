/- An abstract interpreter over data, and contracts of the program's functions, part 4; no condition. -/
import Derived.Test.YtljmgdepldpmdaaDoorRows
import Derived.Test.YtljmgdepldpmdaaDoorLatc
set_option linter.unusedSimpArgs false
set_option linter.unusedVariables false
set_option maxHeartbeats 2000000
namespace Go.Proofs.YtljmgdepldpmdaaDoor.E
open Go.RowKit Limbs
/-- the limbs of a number in lowest terms -/
def qs (q : Rat) : Nat := max (zl q.num) (nl q.den).length
theorem qs_num (q : Rat) : (nl q.num.natAbs).length ≤ qs q := Nat.le_max_left _ _
theorem qs_den (q : Rat) : (nl q.den).length ≤ qs q := Nat.le_max_right _ _
theorem qs_rv (n : Bool) {m d : List Int} (hm : Lim m) (hd : Lim d) : qs (rv n m d) ≤ max m.length (d.length + 1) := by
  obtain ⟨h1, h2⟩ := rv_size n hm hd
  unfold qs
  omega
theorem qs_mk (x : Int) (k : Nat) : qs (mkRat x k) ≤ max (zl x) ((nl k).length + 1) := by
  rw [← rv_mk]
  exact qs_rv _ (nl_lim _) (nl_lim _)
theorem qs_sub (a b : Rat) : qs (a - b) ≤ qs a + qs b + 1 := by
  have ha := a.den_pos
  have hb := b.den_pos
  have e : a - b = mkRat (a.num * b.den - b.num * a.den) (a.den * b.den) := Rat.sub_def' a b
  rw [e]
  refine Nat.le_trans (qs_mk _ _) ?_
  have h1 := zl_sub (a.num * (b.den : Int)) (b.num * (a.den : Int))
  have h2 := zl_mul a.num (b.den : Int)
  have h3 := zl_mul b.num (a.den : Int)
  have h4 := zl_mul (a.den : Int) (b.den : Int)
  rw [← Int.natCast_mul] at h4
  have e1 := zl_nat a.den
  have e2 := zl_nat b.den
  have e3 := zl_nat (a.den * b.den)
  unfold qs
  omega
theorem qs_add (a b : Rat) : qs (a + b) ≤ qs a + qs b + 1 := by
  have e : a + b = mkRat (a.num * b.den + b.num * a.den) (a.den * b.den) := Rat.add_def' a b
  rw [e]
  refine Nat.le_trans (qs_mk _ _) ?_
  have h1 := zl_add (a.num * (b.den : Int)) (b.num * (a.den : Int))
  have h2 := zl_mul a.num (b.den : Int)
  have h3 := zl_mul b.num (a.den : Int)
  have h4 := zl_mul (a.den : Int) (b.den : Int)
  rw [← Int.natCast_mul] at h4
  have e1 := zl_nat a.den
  have e2 := zl_nat b.den
  have e3 := zl_nat (a.den * b.den)
  unfold qs
  omega
theorem qs_mul (a b : Rat) : qs (a * b) ≤ qs a + qs b + 1 := by
  have e : a * b = mkRat (a.num * b.num) (a.den * b.den) := Rat.mul_def' a b
  rw [e]
  refine Nat.le_trans (qs_mk _ _) ?_
  have h2 := zl_mul a.num b.num
  have h4 := zl_mul (a.den : Int) (b.den : Int)
  rw [← Int.natCast_mul] at h4
  have e1 := zl_nat a.den
  have e2 := zl_nat b.den
  have e3 := zl_nat (a.den * b.den)
  unfold qs
  omega
theorem qs_neg (a : Rat) : qs (-a) = qs a := by unfold qs; rw [Rat.neg_num, Rat.neg_den, zl_neg]
theorem qs_abs (a : Rat) : qs (qabs a) = qs a := by unfold qabs; split; exact qs_neg a; rfl
theorem qs_div (x y : Int) : qs (Rat.divInt x y) ≤ max (zl x) (zl y + 1) := by
  by_cases h : y = 0
  · rw [h, Rat.divInt_zero]
    refine Nat.le_trans ?_ (Nat.le_max_right _ _)
    unfold qs zl
    rw [Rat.zero_num, Rat.zero_den, show (0 : Int).natAbs = 0 from rfl, nl_zero]
    have : (nl 1).length ≤ 1 := nl_len (by decide)
    simp
    omega
  · rw [divInt_abs x y h]
    refine Nat.le_trans (qs_mk _ _) ?_
    have : zl (if y < 0 then -x else x) = zl x := by split; exact zl_neg x; rfl
    rw [this]
    exact Nat.le_refl _
theorem zl_i64 {x : Int} (x0 : -9223372036854775808 ≤ x) (x1 : x < 9223372036854775808) : zl x ≤ 2 := nl_len (by omega)
section
variable {a b : Rat} (ha : qs a < 68719476730) (hb : qs b < 68719476730)
theorem rat_Cmp' (n : Bool) (m d : List Int) (hm : Lim m) (hd : Lim d) (lm : m.length < 68719476736) (ld : d.length < 68719476736) (hb : qs b < 68719476730) : AFun Tryd.prog 23 [.agg [.lit (.bool n), natD m, natD d], .agg (ratC b)] [.one (.lit (.int .i64 (cmpQ (rv n m d) b)))] := by
  have h3 := qs_num b
  have h4 := qs_den b
  have := rat_Cmp n m d (decide (b.num < 0)) (nl b.num.natAbs) (nl b.den) hm hd (nl_lim _) (nl_lim _) lm ld (by omega) (by omega)
  rwa [rv_ratC] at this
include ha hb
theorem rat_Cmp2 : AFun Tryd.prog 23 [.agg (ratC a), .agg (ratC b)] [.one (.lit (.int .i64 (cmpQ a b)))] := by
  have h1 := qs_num a
  have h2 := qs_den a
  have := rat_Cmp' (b := b) (decide (a.num < 0)) (nl a.num.natAbs) (nl a.den) (nl_lim _) (nl_lim _) (by omega) (by omega) hb
  rwa [rv_ratC] at this
theorem rat_Mul2 : AFun Tryd.prog 18 [.agg (ratC a), .agg (ratC b)] [.agg (ratC (a * b))] := by
  have h1 := qs_num a
  have h2 := qs_den a
  have h3 := qs_num b
  have h4 := qs_den b
  have := rat_Mul (decide (a.num < 0)) (nl a.num.natAbs) (nl a.den) (decide (b.num < 0)) (nl b.num.natAbs) (nl b.den) (nl_lim _) (nl_lim _) (nl_lim _) (nl_lim _) (by omega) (by omega) (by omega) (by omega)
  rwa [rv_ratC, rv_ratC] at this
end
end Go.Proofs.YtljmgdepldpmdaaDoor.E

set_option linter.unusedSimpArgs false
set_option linter.unusedVariables false
set_option maxHeartbeats 2000000
namespace Go.Proofs.YtljmgdepldpmdaaDoor.E
open Go.RowKit Limbs
theorem divInt_one (x : Int) : Rat.divInt x 1 = (x : Rat) := by rw [Rat.divInt_eq_div]; show (x : Rat) / ((1 : Int) : Rat) = x; rw [show ((1 : Int) : Rat) = 1 from rfl]; grind
theorem cmpQ_le (a b : Rat) : cmpQ a b ≤ 0 ↔ a ≤ b := by
  unfold cmpQ
  by_cases h1 : a < b
  · rw [if_pos h1]; exact ⟨fun _ => Rat.le_of_lt h1, fun _ => by decide⟩
  · rw [if_neg h1]
    by_cases h2 : b < a
    · rw [if_pos h2]; exact ⟨fun h => absurd h (by decide), fun h => absurd h (Rat.not_le.2 h2)⟩
    · rw [if_neg h2]; exact ⟨fun _ => Rat.not_lt.1 h2, fun _ => by decide⟩
theorem cmpQ_lt (a b : Rat) : cmpQ a b < 0 ↔ a < b := by
  unfold cmpQ
  by_cases h1 : a < b
  · rw [if_pos h1]; exact ⟨fun _ => h1, fun _ => by decide⟩
  · rw [if_neg h1]
    split
    · exact ⟨fun h => absurd h (by decide), fun h => absurd h h1⟩
    · exact ⟨fun h => absurd h (by decide), fun h => absurd h h1⟩
end Go.Proofs.YtljmgdepldpmdaaDoor.E

set_option linter.unusedSimpArgs false
set_option linter.unusedVariables false
set_option maxHeartbeats 2000000
namespace Go.Proofs.YtljmgdepldpmdaaDoor.E
open Go.RowKit Limbs
/-- examboard/ratio.Norm -/
def b57 : AF := ⟨8, 1, [.cell 2 27],
  (.seq (.reg [
    ⟨some 1, .box 27 (.tmp 0), none⟩,
    ⟨some 2, .alloc 27, none⟩])
  (.seq (.reg [
    ⟨some 3, .fieldAddr 27 (.tmp 1) 0, none⟩,
    ⟨some 4, .load 25 (.tmp 3), none⟩,
    ⟨some 5, .fieldAddr 27 (.tmp 1) 1, none⟩,
    ⟨some 6, .load 23 (.tmp 5), none⟩,
    ⟨some 7, .call ⟨(.value (.func 47)), #[(.tmp 4), (.tmp 6)], #[25, 23]⟩, none⟩,
    ⟨none, .store 27 (.tmp 2) (.tmp 7), none⟩])
  .ret))⟩
theorem c57 : fcomp Tryd.prog 57 = ⟨b57.n, b57.np, b57.res, b57.body.bare⟩ := by kernel_rfl
theorem k57 : fok Tryd.prog 57 = true := by kernel_rfl
theorem rat_Norm (n : Bool) (m d : List Int) (hm : Lim m) (hd : Lim d) (lm : m.length < 2199023255552) (ld : d.length < 2199023255552) : AFun Tryd.prog 57 [.agg [.lit (.bool n), natD m, natD d]] [.agg (ratC (rv n m d))] := by
  refine afun_intro mo_ _ _ c57 k57 _ _ rfl (by decide) ?_
  unfold b57
  simp (maxSteps:=1000000) (disch:=first | omega | (simp only [LL];omega)) only [W,V,TY,CC,reduceIte,Nat.reduceEqDiff,Nat.reduceAdd,Nat.reduceLeDiff,Nat.reduceLT,Int.reduceLE,Int.reduceLT,Int.reduceAdd,Int.reduceSub,Int.reduceToNat,Nat.reduceMul]
  refine a_call _ _ (rat_lowest n m d hm hd lm ld) (by simp (maxSteps:=1000000) (disch:=first | omega | (simp only [LL];omega)) only [W,V,TY,CC,reduceIte,Nat.reduceEqDiff,Nat.reduceAdd,Nat.reduceLeDiff,Nat.reduceLT,Int.reduceLE,Int.reduceLT,Int.reduceAdd,Int.reduceSub,Int.reduceToNat,Nat.reduceMul]) ?_
  simp (maxSteps:=1000000) (disch:=first | omega | (simp only [LL];omega)) only [W,V,TY,CC,reduceIte,Nat.reduceEqDiff,Nat.reduceAdd,Nat.reduceLeDiff,Nat.reduceLT,Int.reduceLE,Int.reduceLT,Int.reduceAdd,Int.reduceSub,Int.reduceToNat,Nat.reduceMul,ratC]
  refine f_ret _ _ _ ?_
  simp (maxSteps:=1000000) (disch:=first | omega | (simp only [LL];omega)) only [W,V,TY,CC,reduceIte,Nat.reduceEqDiff,Nat.reduceAdd,Nat.reduceLeDiff,Nat.reduceLT,Int.reduceLE,Int.reduceLT,Int.reduceAdd,Int.reduceSub,Int.reduceToNat,Nat.reduceMul,ratC]
theorem abs_mk (a : Int) (k : Nat) : qabs (mkRat a k) = mkRat (if a < 0 then -a else a) k := by
  unfold qabs
  rcases Nat.eq_zero_or_pos k with rfl | hk
  · rw [Rat.mkRat_zero, Rat.mkRat_zero]; simp
  · have h := mk_neg a hk
    by_cases h1 : a < 0
    · rw [if_pos (h.2 h1), if_pos h1, Rat.neg_mkRat]
    · rw [if_neg (fun e => h1 (h.1 e)), if_neg h1]
theorem abs_rv (n : Bool) (m d : List Int) : qabs (rv n m d) = mkRat (iv false m) (nv d) := by
  unfold rv
  rw [abs_mk]
  congr 1
  have e : iv false m = (nv m : Int) := rfl
  have e2 : iv true m = -(nv m : Int) := rfl
  cases n
  · rw [e]; split <;> omega
  · rw [e, e2]; split <;> omega
/-- examboard/ratio.Abs -/
def b25 : AF := ⟨10, 1, [.cell 2 27],
  (.seq (.reg [
    ⟨some 1, .box 27 (.tmp 0), none⟩,
    ⟨some 2, .alloc 27, none⟩])
  (.seq (.dreg [
    ⟨some 3, .fieldAddr 27 (.tmp 1) 0, none⟩,
    ⟨some 4, .fieldAddr 25 (.tmp 3) 1, none⟩,
    ⟨some 5, .load 23 (.tmp 4), none⟩,
    ⟨some 6, .call ⟨(.value (.func 56)), #[(.const (.bool false)), (.tmp 5)], #[4, 23]⟩, none⟩,
    ⟨some 7, .fieldAddr 27 (.tmp 1) 1, none⟩,
    ⟨some 8, .load 23 (.tmp 7), none⟩,
    ⟨some 9, .call ⟨(.value (.func 47)), #[(.tmp 6), (.tmp 8)], #[25, 23]⟩, none⟩,
    ⟨none, .store 27 (.tmp 2) (.tmp 9), none⟩])
  .ret))⟩
theorem c25 : fcomp Tryd.prog 25 = ⟨b25.n, b25.np, b25.res, b25.body.bare⟩ := by kernel_rfl
theorem k25 : fok Tryd.prog 25 = true := by kernel_rfl
theorem rat_Abs (n : Bool) (m d : List Int) (hm : Lim m) (hd : Lim d) (lm : m.length < 549755813888) (ld : d.length < 549755813888) : AFun Tryd.prog 25 [.agg [.lit (.bool n), natD m, natD d]] [.agg (ratC (qabs (rv n m d)))] := by
  refine afun_intro mo_ _ _ c25 k25 _ _ rfl (by decide) ?_
  unfold b25
  have k1 := zl_iv (n := false) hm
  have e := abs_rv n m d
  generalize hx : iv false m = x at *
  simp (maxSteps:=1000000) (disch:=first | omega | (simp only [LL];omega)) only [W,V,TY,CC,reduceIte,Nat.reduceEqDiff,Nat.reduceAdd,Nat.reduceLeDiff,Nat.reduceLT,Int.reduceLE,Int.reduceLT,Int.reduceAdd,Int.reduceSub,Int.reduceToNat,Nat.reduceMul]
  refine a_call _ _ (int_Make false m hm (by omega)) (by simp (maxSteps:=1000000) (disch:=first | omega | (simp only [LL];omega)) only [W,V,TY,CC,reduceIte,Nat.reduceEqDiff,Nat.reduceAdd,Nat.reduceLeDiff,Nat.reduceLT,Int.reduceLE,Int.reduceLT,Int.reduceAdd,Int.reduceSub,Int.reduceToNat,Nat.reduceMul]) ?_
  rw [hx]
  simp (maxSteps:=1000000) (disch:=first | omega | (simp only [LL];omega)) only [W,V,TY,CC,reduceIte,Nat.reduceEqDiff,Nat.reduceAdd,Nat.reduceLeDiff,Nat.reduceLT,Int.reduceLE,Int.reduceLT,Int.reduceAdd,Int.reduceSub,Int.reduceToNat,Nat.reduceMul,intC]
  refine a_call _ _ (rat_lowest (decide (x < 0)) (nl x.natAbs) d (nl_lim _) hd (show zl x < _ by omega) (by omega)) (by simp (maxSteps:=1000000) (disch:=first | omega | (simp only [LL];omega)) only [W,V,TY,CC,reduceIte,Nat.reduceEqDiff,Nat.reduceAdd,Nat.reduceLeDiff,Nat.reduceLT,Int.reduceLE,Int.reduceLT,Int.reduceAdd,Int.reduceSub,Int.reduceToNat,Nat.reduceMul]) ?_
  rw [show rv (decide (x < 0)) (nl x.natAbs) d = qabs (rv n m d) by rw [e]; unfold rv; rw [iv_nl]]
  simp (maxSteps:=1000000) (disch:=first | omega | (simp only [LL];omega)) only [W,V,TY,CC,reduceIte,Nat.reduceEqDiff,Nat.reduceAdd,Nat.reduceLeDiff,Nat.reduceLT,Int.reduceLE,Int.reduceLT,Int.reduceAdd,Int.reduceSub,Int.reduceToNat,Nat.reduceMul,ratC]
  refine f_ret _ _ _ ?_
  simp (maxSteps:=1000000) (disch:=first | omega | (simp only [LL];omega)) only [W,V,TY,CC,reduceIte,Nat.reduceEqDiff,Nat.reduceAdd,Nat.reduceLeDiff,Nat.reduceLT,Int.reduceLE,Int.reduceLT,Int.reduceAdd,Int.reduceSub,Int.reduceToNat,Nat.reduceMul,ratC]
/-- examboard/ratio.Add -/
def b14 : AF := ⟨32, 2, [.cell 4 27],
  (.seq (.reg [
    ⟨some 2, .box 27 (.tmp 0), none⟩,
    ⟨some 3, .box 27 (.tmp 1), none⟩,
    ⟨some 4, .alloc 27, none⟩])
  (.seq (.reg [
    ⟨some 10, .load 27 (.tmp 2), none⟩,
    ⟨some 11, .call ⟨(.value (.func 46)), #[(.tmp 10)], #[27]⟩, none⟩,
    ⟨some 9, .move (.tmp 11), none⟩,
    ⟨some 12, .extract (.tmp 9) 0, none⟩,
    ⟨some 13, .extract (.tmp 9) 1, none⟩,
    ⟨some 5, .alloc 25, none⟩,
    ⟨some 6, .alloc 25, none⟩,
    ⟨none, .store 25 (.tmp 5) (.tmp 12), none⟩,
    ⟨none, .store 25 (.tmp 6) (.tmp 13), none⟩])
  (.seq (.reg [
    ⟨some 15, .load 27 (.tmp 3), none⟩,
    ⟨some 16, .call ⟨(.value (.func 46)), #[(.tmp 15)], #[27]⟩, none⟩,
    ⟨some 14, .move (.tmp 16), none⟩,
    ⟨some 17, .extract (.tmp 14) 0, none⟩,
    ⟨some 18, .extract (.tmp 14) 1, none⟩,
    ⟨some 7, .alloc 25, none⟩,
    ⟨some 8, .alloc 25, none⟩,
    ⟨none, .store 25 (.tmp 7) (.tmp 17), none⟩,
    ⟨none, .store 25 (.tmp 8) (.tmp 18), none⟩])
  (.seq (.dreg [
    ⟨some 19, .load 25 (.tmp 5), none⟩,
    ⟨some 20, .load 25 (.tmp 8), none⟩,
    ⟨some 21, .call ⟨(.value (.func 49)), #[(.tmp 19), (.tmp 20)], #[25, 25]⟩, none⟩,
    ⟨some 22, .load 25 (.tmp 7), none⟩,
    ⟨some 23, .load 25 (.tmp 6), none⟩,
    ⟨some 24, .call ⟨(.value (.func 49)), #[(.tmp 22), (.tmp 23)], #[25, 25]⟩, none⟩,
    ⟨some 25, .call ⟨(.value (.func 48)), #[(.tmp 21), (.tmp 24)], #[25, 25]⟩, none⟩,
    ⟨some 26, .fieldAddr 25 (.tmp 6) 1, none⟩,
    ⟨some 27, .load 23 (.tmp 26), none⟩,
    ⟨some 28, .fieldAddr 25 (.tmp 8) 1, none⟩,
    ⟨some 29, .load 23 (.tmp 28), none⟩,
    ⟨some 30, .call ⟨(.value (.func 50)), #[(.tmp 27), (.tmp 29)], #[23, 23]⟩, none⟩,
    ⟨some 31, .call ⟨(.value (.func 47)), #[(.tmp 25), (.tmp 30)], #[25, 23]⟩, none⟩,
    ⟨none, .store 27 (.tmp 4) (.tmp 31), none⟩])
  .ret))))⟩
theorem c14 : fcomp Tryd.prog 14 = ⟨b14.n, b14.np, b14.res, b14.body.bare⟩ := by kernel_rfl
theorem k14 : fok Tryd.prog 14 = true := by kernel_rfl
theorem rat_Add (n : Bool) (m d : List Int) (n' : Bool) (m' d' : List Int) (hm : Lim m) (hd : Lim d) (hm' : Lim m') (hd' : Lim d') (lm : m.length < 68719476736) (ld : d.length < 68719476736) (lm' : m'.length < 68719476736) (ld' : d'.length < 68719476736) :
    AFun Tryd.prog 14 [.agg [.lit (.bool n), natD m, natD d], .agg [.lit (.bool n'), natD m', natD d']] [.agg (ratC (rv n m d + rv n' m' d'))] := by
  refine afun_intro mo_ _ _ c14 k14 _ _ rfl (by decide) ?_
  unfold b14
  rw [← rv_parts n m d, ← rv_parts n' m' d', mk_add _ _ (pD_pos d) (pD_pos d')]
  have k1 := pM_len m d
  have k2 := pM_len m' d'
  have k3 := pD_len hd
  have k4 := pD_len hd'
  have k5 := zl_iv (n := pN n d) (pM_lim hm d)
  have k6 := zl_iv (n := pN n' d') (pM_lim hm' d')
  have k7 := zl_mul (iv (pN n d) (pM m d)) (pD d' : Int)
  have k8 := zl_mul (iv (pN n' d') (pM m' d')) (pD d : Int)
  have k9 := zl_nat (pD d)
  have k10 := zl_nat (pD d')
  have k11 := zl_mul (pD d : Int) (pD d' : Int)
  rw [← Int.natCast_mul] at k11
  have k12 := zl_nat (pD d * pD d')
  generalize hX : iv (pN n d) (pM m d) * (pD d' : Int) = X at *
  generalize hY : iv (pN n' d') (pM m' d') * (pD d : Int) = Y at *
  have k13 := zl_add X Y
  simp (maxSteps:=1000000) (disch:=first | omega | (simp only [LL];omega)) only [W,V,TY,CC,reduceIte,Nat.reduceEqDiff,Nat.reduceAdd,Nat.reduceLeDiff,Nat.reduceLT,Int.reduceLE,Int.reduceLT,Int.reduceAdd,Int.reduceSub,Int.reduceToNat,Nat.reduceMul]
  refine a_call _ _ (rat_parts n m d hm hd (by omega) (by omega)) (by simp (maxSteps:=1000000) (disch:=first | omega | (simp only [LL];omega)) only [W,V,TY,CC,reduceIte,Nat.reduceEqDiff,Nat.reduceAdd,Nat.reduceLeDiff,Nat.reduceLT,Int.reduceLE,Int.reduceLT,Int.reduceAdd,Int.reduceSub,Int.reduceToNat,Nat.reduceMul]) ?_
  simp (maxSteps:=1000000) (disch:=first | omega | (simp only [LL];omega)) only [W,V,TY,CC,reduceIte,Nat.reduceEqDiff,Nat.reduceAdd,Nat.reduceLeDiff,Nat.reduceLT,Int.reduceLE,Int.reduceLT,Int.reduceAdd,Int.reduceSub,Int.reduceToNat,Nat.reduceMul,intC_nat]
  refine a_call _ _ (rat_parts n' m' d' hm' hd' (by omega) (by omega)) (by simp (maxSteps:=1000000) (disch:=first | omega | (simp only [LL];omega)) only [W,V,TY,CC,reduceIte,Nat.reduceEqDiff,Nat.reduceAdd,Nat.reduceLeDiff,Nat.reduceLT,Int.reduceLE,Int.reduceLT,Int.reduceAdd,Int.reduceSub,Int.reduceToNat,Nat.reduceMul]) ?_
  simp (maxSteps:=1000000) (disch:=first | omega | (simp only [LL];omega)) only [W,V,TY,CC,reduceIte,Nat.reduceEqDiff,Nat.reduceAdd,Nat.reduceLeDiff,Nat.reduceLT,Int.reduceLE,Int.reduceLT,Int.reduceAdd,Int.reduceSub,Int.reduceToNat,Nat.reduceMul,intC_nat]
  refine a_call _ _ (int_Mul (pN n d) false (pM m d) (nl (pD d')) (pM_lim hm d) (nl_lim _) (by omega) (by omega)) (by simp (maxSteps:=1000000) (disch:=first | omega | (simp only [LL];omega)) only [W,V,TY,CC,reduceIte,Nat.reduceEqDiff,Nat.reduceAdd,Nat.reduceLeDiff,Nat.reduceLT,Int.reduceLE,Int.reduceLT,Int.reduceAdd,Int.reduceSub,Int.reduceToNat,Nat.reduceMul]) ?_
  rw [iv_nat, hX]
  simp (maxSteps:=1000000) (disch:=first | omega | (simp only [LL];omega)) only [W,V,TY,CC,reduceIte,Nat.reduceEqDiff,Nat.reduceAdd,Nat.reduceLeDiff,Nat.reduceLT,Int.reduceLE,Int.reduceLT,Int.reduceAdd,Int.reduceSub,Int.reduceToNat,Nat.reduceMul,intC]
  refine a_call _ _ (int_Mul (pN n' d') false (pM m' d') (nl (pD d)) (pM_lim hm' d') (nl_lim _) (by omega) (by omega)) (by simp (maxSteps:=1000000) (disch:=first | omega | (simp only [LL];omega)) only [W,V,TY,CC,reduceIte,Nat.reduceEqDiff,Nat.reduceAdd,Nat.reduceLeDiff,Nat.reduceLT,Int.reduceLE,Int.reduceLT,Int.reduceAdd,Int.reduceSub,Int.reduceToNat,Nat.reduceMul]) ?_
  rw [iv_nat, hY]
  simp (maxSteps:=1000000) (disch:=first | omega | (simp only [LL];omega)) only [W,V,TY,CC,reduceIte,Nat.reduceEqDiff,Nat.reduceAdd,Nat.reduceLeDiff,Nat.reduceLT,Int.reduceLE,Int.reduceLT,Int.reduceAdd,Int.reduceSub,Int.reduceToNat,Nat.reduceMul,intC]
  refine a_call _ _ (int_Add (decide (X < 0)) (decide (Y < 0)) (nl X.natAbs) (nl Y.natAbs) (nl_lim _) (nl_lim _) (show zl X < _ by omega) (show zl Y < _ by omega)) (by simp (maxSteps:=1000000) (disch:=first | omega | (simp only [LL];omega)) only [W,V,TY,CC,reduceIte,Nat.reduceEqDiff,Nat.reduceAdd,Nat.reduceLeDiff,Nat.reduceLT,Int.reduceLE,Int.reduceLT,Int.reduceAdd,Int.reduceSub,Int.reduceToNat,Nat.reduceMul]) ?_
  rw [iv_nl, iv_nl]
  simp (maxSteps:=1000000) (disch:=first | omega | (simp only [LL];omega)) only [W,V,TY,CC,reduceIte,Nat.reduceEqDiff,Nat.reduceAdd,Nat.reduceLeDiff,Nat.reduceLT,Int.reduceLE,Int.reduceLT,Int.reduceAdd,Int.reduceSub,Int.reduceToNat,Nat.reduceMul,intC]
  refine a_call _ _ (nat_Mul (nl (pD d)) (nl (pD d')) (nl_lim _) (nl_lim _) (by omega) (by omega)) (by simp (maxSteps:=1000000) (disch:=first | omega | (simp only [LL];omega)) only [W,V,TY,CC,reduceIte,Nat.reduceEqDiff,Nat.reduceAdd,Nat.reduceLeDiff,Nat.reduceLT,Int.reduceLE,Int.reduceLT,Int.reduceAdd,Int.reduceSub,Int.reduceToNat,Nat.reduceMul]) ?_
  rw [nv_nl, nv_nl]
  simp (maxSteps:=1000000) (disch:=first | omega | (simp only [LL];omega)) only [W,V,TY,CC,reduceIte,Nat.reduceEqDiff,Nat.reduceAdd,Nat.reduceLeDiff,Nat.reduceLT,Int.reduceLE,Int.reduceLT,Int.reduceAdd,Int.reduceSub,Int.reduceToNat,Nat.reduceMul]
  refine a_call _ _ (rat_lowest (decide (X + Y < 0)) (nl (X + Y).natAbs) (nl (pD d * pD d')) (nl_lim _) (nl_lim _) (show zl (X + Y) < _ by omega) (by omega)) (by simp (maxSteps:=1000000) (disch:=first | omega | (simp only [LL];omega)) only [W,V,TY,CC,reduceIte,Nat.reduceEqDiff,Nat.reduceAdd,Nat.reduceLeDiff,Nat.reduceLT,Int.reduceLE,Int.reduceLT,Int.reduceAdd,Int.reduceSub,Int.reduceToNat,Nat.reduceMul]) ?_
  unfold rv
  rw [iv_nl, nv_nl]
  simp (maxSteps:=1000000) (disch:=first | omega | (simp only [LL];omega)) only [W,V,TY,CC,reduceIte,Nat.reduceEqDiff,Nat.reduceAdd,Nat.reduceLeDiff,Nat.reduceLT,Int.reduceLE,Int.reduceLT,Int.reduceAdd,Int.reduceSub,Int.reduceToNat,Nat.reduceMul,ratC]
  refine f_ret _ _ _ ?_
  simp (maxSteps:=1000000) (disch:=first | omega | (simp only [LL];omega)) only [W,V,TY,CC,reduceIte,Nat.reduceEqDiff,Nat.reduceAdd,Nat.reduceLeDiff,Nat.reduceLT,Int.reduceLE,Int.reduceLT,Int.reduceAdd,Int.reduceSub,Int.reduceToNat,Nat.reduceMul,ratC]
section
variable {a b : Rat} (ha : qs a < 68719476730) (hb : qs b < 68719476730)
include ha hb
theorem rat_Add2 : AFun Tryd.prog 14 [.agg (ratC a), .agg (ratC b)] [.agg (ratC (a + b))] := by
  have h1 := qs_num a
  have h2 := qs_den a
  have h3 := qs_num b
  have h4 := qs_den b
  have := rat_Add (decide (a.num < 0)) (nl a.num.natAbs) (nl a.den) (decide (b.num < 0)) (nl b.num.natAbs) (nl b.den) (nl_lim _) (nl_lim _) (nl_lim _) (nl_lim _) (by omega) (by omega) (by omega) (by omega)
  rwa [rv_ratC, rv_ratC] at this
omit hb in
theorem rat_Abs2 : AFun Tryd.prog 25 [.agg (ratC a)] [.agg (ratC (qabs a))] := by
  have h1 := qs_num a
  have h2 := qs_den a
  have := rat_Abs (decide (a.num < 0)) (nl a.num.natAbs) (nl a.den) (nl_lim _) (nl_lim _) (by omega) (by omega)
  rwa [rv_ratC] at this
end
end Go.Proofs.YtljmgdepldpmdaaDoor.E

set_option linter.unusedSimpArgs false
set_option linter.unusedVariables false
set_option maxHeartbeats 2000000
namespace Go.Proofs.YtljmgdepldpmdaaDoor.E
open Go.RowKit Limbs
theorem maxLen_eq : maxLen = 9223372036854775807 := rfl
theorem sd_row {s : AS} {r : Nat × Nat} {ver : Nat} (row : Row) (h : s.r r = some row) (hv : row.ver = ver) (hl : row.live = false) : srcD s (.one (.row r ver)) = some (row.n, row.cells) := by
  unfold srcD toD
  simp only [h]
  rw [if_pos ⟨hv, hl⟩]
def digS : ByteArray := ⟨#[48, 49, 50, 51, 52, 53, 54, 55, 56, 57, 97, 98, 99, 100, 101, 102, 103, 104, 105, 106, 107, 108, 109, 110, 111, 112, 113, 114, 115, 116, 117, 118, 119, 120, 121, 122]⟩
def twoS : ByteArray := ⟨#[48, 48, 48, 49, 48, 50, 48, 51, 48, 52, 48, 53, 48, 54, 48, 55, 48, 56, 48, 57, 49, 48, 49, 49, 49, 50, 49, 51, 49, 52, 49, 53, 49, 54, 49, 55, 49, 56, 49, 57, 50, 48, 50, 49, 50, 50, 50, 51, 50, 52, 50, 53, 50, 54, 50, 55, 50, 56, 50, 57, 51, 48, 51, 49, 51, 50, 51, 51, 51, 52, 51, 53, 51, 54, 51, 55, 51, 56, 51, 57, 52, 48, 52, 49, 52, 50, 52, 51, 52, 52, 52, 53, 52, 54, 52, 55, 52, 56, 52, 57, 53, 48, 53, 49, 53, 50, 53, 51, 53, 52, 53, 53, 53, 54, 53, 55, 53, 56, 53, 57, 54, 48, 54, 49, 54, 50, 54, 51, 54, 52, 54, 53, 54, 54, 54, 55, 54, 56, 54, 57, 55, 48, 55, 49, 55, 50, 55, 51, 55, 52, 55, 53, 55, 54, 55, 55, 55, 56, 55, 57, 56, 48, 56, 49, 56, 50, 56, 51, 56, 52, 56, 53, 56, 54, 56, 55, 56, 56, 56, 57, 57, 48, 57, 49, 57, 50, 57, 51, 57, 52, 57, 53, 57, 54, 57, 55, 57, 56, 57, 57]⟩
theorem digS_size : digS.size = 36 := by decide +kernel
theorem twoS_size : twoS.size = 200 := by decide +kernel
/-- the digits of a number below 100 -/
def smallS (i : Int) : ByteArray := if i < 10 then digS.extract i.toNat (i + 1).toNat else twoS.extract (i * 2).toNat (i * 2 + 2).toNat
/-- internal/strconv.small -/
def b98 : AF := ⟨15, 1, [.tmp 2],
  (.seq (.reg [
    ⟨some 2, .assign (.const (.string ⟨#[]⟩)), none⟩])
  (.seq (.seq (.reg [
    ⟨some 3, .move (.tmp 0), none⟩,
    ⟨some 4, .binOp .lss 3 (.tmp 3) (.const (.int .i64 10)) 3, none⟩])
  (.cond (.tmp 4)
    (.seq (.reg [
      ⟨some 5, .move (.tmp 0), none⟩,
      ⟨some 6, .move (.tmp 0), none⟩,
      ⟨some 7, .binOp .add 3 (.tmp 6) (.const (.int .i64 1)) 3, none⟩,
      ⟨some 8, .slice 9 (.const (.string ⟨#[48, 49, 50, 51, 52, 53, 54, 55, 56, 57, 97, 98, 99, 100, 101, 102, 103, 104, 105, 106, 107, 108, 109, 110, 111, 112, 113, 114, 115, 116, 117, 118, 119, 120, 121, 122]⟩)) (some (.tmp 5)) (some (.tmp 7)) none, none⟩,
      ⟨some 2, .assign (.tmp 8), none⟩])
    .ret)
    .skip))
  (.seq (.reg [
    ⟨some 9, .move (.tmp 0), none⟩,
    ⟨some 10, .binOp .mul 3 (.tmp 9) (.const (.int .i64 2)) 3, none⟩,
    ⟨some 11, .move (.tmp 0), none⟩,
    ⟨some 12, .binOp .mul 3 (.tmp 11) (.const (.int .i64 2)) 3, none⟩,
    ⟨some 13, .binOp .add 3 (.tmp 12) (.const (.int .i64 2)) 3, none⟩,
    ⟨some 14, .slice 9 (.const (.string ⟨#[48, 48, 48, 49, 48, 50, 48, 51, 48, 52, 48, 53, 48, 54, 48, 55, 48, 56, 48, 57, 49, 48, 49, 49, 49, 50, 49, 51, 49, 52, 49, 53, 49, 54, 49, 55, 49, 56, 49, 57, 50, 48, 50, 49, 50, 50, 50, 51, 50, 52, 50, 53, 50, 54, 50, 55, 50, 56, 50, 57, 51, 48, 51, 49, 51, 50, 51, 51, 51, 52, 51, 53, 51, 54, 51, 55, 51, 56, 51, 57, 52, 48, 52, 49, 52, 50, 52, 51, 52, 52, 52, 53, 52, 54, 52, 55, 52, 56, 52, 57, 53, 48, 53, 49, 53, 50, 53, 51, 53, 52, 53, 53, 53, 54, 53, 55, 53, 56, 53, 57, 54, 48, 54, 49, 54, 50, 54, 51, 54, 52, 54, 53, 54, 54, 54, 55, 54, 56, 54, 57, 55, 48, 55, 49, 55, 50, 55, 51, 55, 52, 55, 53, 55, 54, 55, 55, 55, 56, 55, 57, 56, 48, 56, 49, 56, 50, 56, 51, 56, 52, 56, 53, 56, 54, 56, 55, 56, 56, 56, 57, 57, 48, 57, 49, 57, 50, 57, 51, 57, 52, 57, 53, 57, 54, 57, 55, 57, 56, 57, 57]⟩)) (some (.tmp 10)) (some (.tmp 13)) none, none⟩,
    ⟨some 2, .assign (.tmp 14), none⟩])
  .ret)))⟩
theorem c98 : fcomp Tryd.prog 98 = ⟨b98.n, b98.np, b98.res, b98.body.bare⟩ := by kernel_rfl
theorem k98 : fok Tryd.prog 98 = true := by kernel_rfl
theorem str_small (i : Int) (h0 : 0 ≤ i) (h1 : i < 100) : AFun Tryd.prog 98 [.one (.lit (.int .i64 i))] [.one (.lit (.string (smallS i)))] := by
  refine afun_intro mo_ _ _ c98 k98 _ _ rfl (by decide) ?_
  unfold b98
  simp (maxSteps:=1000000) (disch:=first | omega | (simp only [LL];omega)) only [W,V,TY,CC,reduceIte,Nat.reduceEqDiff,Nat.reduceAdd,Nat.reduceLeDiff,Nat.reduceLT,Int.reduceLE,Int.reduceLT,Int.reduceAdd,Int.reduceSub,Int.reduceToNat,Nat.reduceMul]
  unfold smallS
  have z1 := digS_size
  have z2 := twoS_size
  refine c_split (fun h => ?_) (fun h => ?_)
  · rw [if_pos h]
    simp (maxSteps:=1000000) (disch:=first | omega | (simp only [LL];omega)) only [W,V,TY,CC,reduceIte,Nat.reduceEqDiff,Nat.reduceAdd,Nat.reduceLeDiff,Nat.reduceLT,Int.reduceLE,Int.reduceLT,Int.reduceAdd,Int.reduceSub,Int.reduceToNat,Nat.reduceMul]
    refine a_sslice digS i (i + 1) (by simp (maxSteps:=1000000) (disch:=first | omega | (simp only [LL];omega)) only [W,V,TY,CC,reduceIte,Nat.reduceEqDiff,Nat.reduceAdd,Nat.reduceLeDiff,Nat.reduceLT,Int.reduceLE,Int.reduceLT,Int.reduceAdd,Int.reduceSub,Int.reduceToNat,Nat.reduceMul]) (by simp (maxSteps:=1000000) (disch:=first | omega | (simp only [LL];omega)) only [W,V,TY,CC,reduceIte,Nat.reduceEqDiff,Nat.reduceAdd,Nat.reduceLeDiff,Nat.reduceLT,Int.reduceLE,Int.reduceLT,Int.reduceAdd,Int.reduceSub,Int.reduceToNat,Nat.reduceMul,digS]) (by simp (maxSteps:=1000000) (disch:=first | omega | (simp only [LL];omega)) only [W,V,TY,CC,reduceIte,Nat.reduceEqDiff,Nat.reduceAdd,Nat.reduceLeDiff,Nat.reduceLT,Int.reduceLE,Int.reduceLT,Int.reduceAdd,Int.reduceSub,Int.reduceToNat,Nat.reduceMul]) (by simp (maxSteps:=1000000) (disch:=first | omega | (simp only [LL];omega)) only [W,V,TY,CC,reduceIte,Nat.reduceEqDiff,Nat.reduceAdd,Nat.reduceLeDiff,Nat.reduceLT,Int.reduceLE,Int.reduceLT,Int.reduceAdd,Int.reduceSub,Int.reduceToNat,Nat.reduceMul]) ⟨by omega, by omega, by omega⟩ ?_
    simp (maxSteps:=1000000) (disch:=first | omega | (simp only [LL];omega)) only [W,V,TY,CC,reduceIte,Nat.reduceEqDiff,Nat.reduceAdd,Nat.reduceLeDiff,Nat.reduceLT,Int.reduceLE,Int.reduceLT,Int.reduceAdd,Int.reduceSub,Int.reduceToNat,Nat.reduceMul]
    refine f_ret _ _ _ ?_
    simp (maxSteps:=1000000) (disch:=first | omega | (simp only [LL];omega)) only [W,V,TY,CC,reduceIte,Nat.reduceEqDiff,Nat.reduceAdd,Nat.reduceLeDiff,Nat.reduceLT,Int.reduceLE,Int.reduceLT,Int.reduceAdd,Int.reduceSub,Int.reduceToNat,Nat.reduceMul]
  · rw [if_neg h]
    simp (maxSteps:=1000000) (disch:=first | omega | (simp only [LL];omega)) only [W,V,TY,CC,reduceIte,Nat.reduceEqDiff,Nat.reduceAdd,Nat.reduceLeDiff,Nat.reduceLT,Int.reduceLE,Int.reduceLT,Int.reduceAdd,Int.reduceSub,Int.reduceToNat,Nat.reduceMul]
    refine a_sslice twoS (i * 2) (i * 2 + 2) (by simp (maxSteps:=1000000) (disch:=first | omega | (simp only [LL];omega)) only [W,V,TY,CC,reduceIte,Nat.reduceEqDiff,Nat.reduceAdd,Nat.reduceLeDiff,Nat.reduceLT,Int.reduceLE,Int.reduceLT,Int.reduceAdd,Int.reduceSub,Int.reduceToNat,Nat.reduceMul]) (by simp (maxSteps:=1000000) (disch:=first | omega | (simp only [LL];omega)) only [W,V,TY,CC,reduceIte,Nat.reduceEqDiff,Nat.reduceAdd,Nat.reduceLeDiff,Nat.reduceLT,Int.reduceLE,Int.reduceLT,Int.reduceAdd,Int.reduceSub,Int.reduceToNat,Nat.reduceMul,twoS]) (by simp (maxSteps:=1000000) (disch:=first | omega | (simp only [LL];omega)) only [W,V,TY,CC,reduceIte,Nat.reduceEqDiff,Nat.reduceAdd,Nat.reduceLeDiff,Nat.reduceLT,Int.reduceLE,Int.reduceLT,Int.reduceAdd,Int.reduceSub,Int.reduceToNat,Nat.reduceMul]) (by simp (maxSteps:=1000000) (disch:=first | omega | (simp only [LL];omega)) only [W,V,TY,CC,reduceIte,Nat.reduceEqDiff,Nat.reduceAdd,Nat.reduceLeDiff,Nat.reduceLT,Int.reduceLE,Int.reduceLT,Int.reduceAdd,Int.reduceSub,Int.reduceToNat,Nat.reduceMul]) ⟨by omega, by omega, by omega⟩ ?_
    simp (maxSteps:=1000000) (disch:=first | omega | (simp only [LL];omega)) only [W,V,TY,CC,reduceIte,Nat.reduceEqDiff,Nat.reduceAdd,Nat.reduceLeDiff,Nat.reduceLT,Int.reduceLE,Int.reduceLT,Int.reduceAdd,Int.reduceSub,Int.reduceToNat,Nat.reduceMul]
    refine f_ret _ _ _ ?_
    simp (maxSteps:=1000000) (disch:=first | omega | (simp only [LL];omega)) only [W,V,TY,CC,reduceIte,Nat.reduceEqDiff,Nat.reduceAdd,Nat.reduceLeDiff,Nat.reduceLT,Int.reduceLE,Int.reduceLT,Int.reduceAdd,Int.reduceSub,Int.reduceToNat,Nat.reduceMul]
/-- internal/strconv.FormatUint -/
def b97 : AF := ⟨32, 2, [.tmp 4],
  (.seq (.reg [
    ⟨some 4, .assign (.const (.string ⟨#[]⟩)), none⟩])
  (.seq (.seq (.reg [
    ⟨some 9, .move (.tmp 1), none⟩,
    ⟨some 10, .binOp .eql 3 (.tmp 9) (.const (.int .i64 10)) 3, none⟩])
  (.cond (.tmp 10)
    (.seq (.seq (.reg [
      ⟨some 11, .move (.tmp 0), none⟩,
      ⟨some 12, .binOp .lss 99 (.tmp 11) (.const (.int .u64 100)) 99, none⟩])
    (.cond (.tmp 12)
      (.seq (.reg [
        ⟨some 13, .move (.tmp 0), none⟩,
        ⟨some 14, .convert 99 3 (.tmp 13), none⟩,
        ⟨some 15, .call ⟨(.value (.func 98)), #[(.tmp 14)], #[3]⟩, none⟩,
        ⟨some 4, .assign (.tmp 15), none⟩])
      .ret)
      .skip))
    (.seq (.reg [
      ⟨some 5, .alloc 128, none⟩])
    (.seq (.reg [
      ⟨some 16, .move (.tmp 0), none⟩,
      ⟨some 17, .call ⟨(.value (.func 99)), #[(.tmp 16)], #[99]⟩, none⟩,
      ⟨some 6, .assign (.tmp 17), none⟩])
    (.seq (.reg [
      ⟨some 18, .move (.tmp 6), none⟩,
      ⟨some 19, .slice 128 (.tmp 5) none (some (.tmp 18)) none, none⟩,
      ⟨some 20, .move (.tmp 0), none⟩,
      ⟨some 21, .call ⟨(.value (.func 100)), #[(.tmp 19), (.tmp 20)], #[120, 99]⟩, none⟩])
    (.seq (.reg [
      ⟨some 22, .move (.tmp 6), none⟩,
      ⟨some 23, .slice 128 (.tmp 5) none (some (.tmp 22)) none, none⟩,
      ⟨some 24, .convert 120 9 (.tmp 23), none⟩,
      ⟨some 4, .assign (.tmp 24), none⟩])
    .ret)))))
    .skip))
  (.seq (.reg [
    ⟨some 26, .move (.tmp 0), none⟩,
    ⟨some 27, .move (.tmp 1), none⟩,
    ⟨some 28, .call ⟨(.value (.func 101)), #[(.const (.slice none 0 0)), (.tmp 26), (.tmp 27), (.const (.bool false)), (.const (.bool false))], #[120, 99, 3, 4, 4]⟩, none⟩,
    ⟨some 25, .move (.tmp 28), none⟩,
    ⟨some 29, .extract (.tmp 25) 0, none⟩,
    ⟨some 30, .extract (.tmp 25) 1, none⟩,
    ⟨some 7, .assign (.tmp 29), none⟩,
    ⟨some 8, .assign (.tmp 30), none⟩])
  (.seq (.reg [
    ⟨some 31, .move (.tmp 8), none⟩,
    ⟨some 4, .assign (.tmp 31), none⟩])
  .ret))))⟩
theorem c97 : fcomp Tryd.prog 97 = ⟨b97.n, b97.np, b97.res, b97.body.bare⟩ := by kernel_rfl
theorem k97 : fok Tryd.prog 97 = true := by kernel_rfl
theorem istr_FormatUint (i : Int) (h0 : 0 ≤ i) (h1 : i < 100) : AFun Tryd.prog 97 [.one (.lit (.int .u64 i)), .one (.lit (.int .i64 10))] [.one (.lit (.string (smallS i)))] := by
  refine afun_intro mo_ _ _ c97 k97 _ _ rfl (by decide) ?_
  unfold b97
  simp (maxSteps:=1000000) (disch:=first | omega | (simp only [LL];omega)) only [W,V,TY,CC,reduceIte,Nat.reduceEqDiff,Nat.reduceAdd,Nat.reduceLeDiff,Nat.reduceLT,Int.reduceLE,Int.reduceLT,Int.reduceAdd,Int.reduceSub,Int.reduceToNat,Nat.reduceMul]
  refine c_split (fun h => ?_) (fun h => by omega)
  simp (maxSteps:=1000000) (disch:=first | omega | (simp only [LL];omega)) only [W,V,TY,CC,reduceIte,Nat.reduceEqDiff,Nat.reduceAdd,Nat.reduceLeDiff,Nat.reduceLT,Int.reduceLE,Int.reduceLT,Int.reduceAdd,Int.reduceSub,Int.reduceToNat,Nat.reduceMul]
  refine a_call _ _ (str_small i h0 h1) (by simp (maxSteps:=1000000) (disch:=first | omega | (simp only [LL];omega)) only [W,V,TY,CC,reduceIte,Nat.reduceEqDiff,Nat.reduceAdd,Nat.reduceLeDiff,Nat.reduceLT,Int.reduceLE,Int.reduceLT,Int.reduceAdd,Int.reduceSub,Int.reduceToNat,Nat.reduceMul]) ?_
  simp (maxSteps:=1000000) (disch:=first | omega | (simp only [LL];omega)) only [W,V,TY,CC,reduceIte,Nat.reduceEqDiff,Nat.reduceAdd,Nat.reduceLeDiff,Nat.reduceLT,Int.reduceLE,Int.reduceLT,Int.reduceAdd,Int.reduceSub,Int.reduceToNat,Nat.reduceMul]
  refine f_ret _ _ _ ?_
  simp (maxSteps:=1000000) (disch:=first | omega | (simp only [LL];omega)) only [W,V,TY,CC,reduceIte,Nat.reduceEqDiff,Nat.reduceAdd,Nat.reduceLeDiff,Nat.reduceLT,Int.reduceLE,Int.reduceLT,Int.reduceAdd,Int.reduceSub,Int.reduceToNat,Nat.reduceMul]
/-- strconv.FormatUint -/
def b89 : AF := ⟨8, 2, [.tmp 4],
  (.seq (.reg [
    ⟨some 4, .assign (.const (.string ⟨#[]⟩)), none⟩])
  (.seq (.reg [
    ⟨some 5, .move (.tmp 0), none⟩,
    ⟨some 6, .move (.tmp 1), none⟩,
    ⟨some 7, .call ⟨(.value (.func 97)), #[(.tmp 5), (.tmp 6)], #[99, 3]⟩, none⟩,
    ⟨some 4, .assign (.tmp 7), none⟩])
  .ret))⟩
theorem c89 : fcomp Tryd.prog 89 = ⟨b89.n, b89.np, b89.res, b89.body.bare⟩ := by kernel_rfl
theorem k89 : fok Tryd.prog 89 = true := by kernel_rfl
theorem str_FormatUint (i : Int) (h0 : 0 ≤ i) (h1 : i < 100) : AFun Tryd.prog 89 [.one (.lit (.int .u64 i)), .one (.lit (.int .i64 10))] [.one (.lit (.string (smallS i)))] := by
  refine afun_intro mo_ _ _ c89 k89 _ _ rfl (by decide) ?_
  unfold b89
  simp (maxSteps:=1000000) (disch:=first | omega | (simp only [LL];omega)) only [W,V,TY,CC,reduceIte,Nat.reduceEqDiff,Nat.reduceAdd,Nat.reduceLeDiff,Nat.reduceLT,Int.reduceLE,Int.reduceLT,Int.reduceAdd,Int.reduceSub,Int.reduceToNat,Nat.reduceMul]
  refine a_call _ _ (istr_FormatUint i h0 h1) (by simp (maxSteps:=1000000) (disch:=first | omega | (simp only [LL];omega)) only [W,V,TY,CC,reduceIte,Nat.reduceEqDiff,Nat.reduceAdd,Nat.reduceLeDiff,Nat.reduceLT,Int.reduceLE,Int.reduceLT,Int.reduceAdd,Int.reduceSub,Int.reduceToNat,Nat.reduceMul]) ?_
  simp (maxSteps:=1000000) (disch:=first | omega | (simp only [LL];omega)) only [W,V,TY,CC,reduceIte,Nat.reduceEqDiff,Nat.reduceAdd,Nat.reduceLeDiff,Nat.reduceLT,Int.reduceLE,Int.reduceLT,Int.reduceAdd,Int.reduceSub,Int.reduceToNat,Nat.reduceMul]
  refine f_ret _ _ _ ?_
  simp (maxSteps:=1000000) (disch:=first | omega | (simp only [LL];omega)) only [W,V,TY,CC,reduceIte,Nat.reduceEqDiff,Nat.reduceAdd,Nat.reduceLeDiff,Nat.reduceLT,Int.reduceLE,Int.reduceLT,Int.reduceAdd,Int.reduceSub,Int.reduceToNat,Nat.reduceMul]
end Go.Proofs.YtljmgdepldpmdaaDoor.E

set_option linter.unusedSimpArgs false
set_option linter.unusedVariables false
set_option maxHeartbeats 2000000
namespace Go.Proofs.YtljmgdepldpmdaaDoor.E
open Go.RowKit Limbs
theorem nl_small {v : Nat} (h0 : 0 < v) (h1 : v < 4294967296) : nl v = [(v : Int)] := by
  have hl : (nl v).length ≤ 1 := nl_len (by omega)
  have hn : nl v ≠ [] := fun e => by have := nl_eq_nil.1 e; omega
  have hv := nv_nl v
  match h : nl v, hn, hl with
  | [x], _, _ =>
    rw [h] at hv
    have hx := (nl_lim v)
    rw [h] at hx
    have := hx x (List.mem_singleton.2 rfl)
    unfold nv at hv
    simp only [val] at hv
    congr 1
    omega
  | _ :: _ :: _, _, hl => simp at hl
/-- examboard/nat.Print -/
def b70 : AF := ⟨60, 1, [.tmp 2],
  (.seq (.reg [
    ⟨some 2, .assign (.const (.string ⟨#[]⟩)), none⟩])
  (.seq (.reg [
    ⟨some 10, .move (.tmp 0), none⟩,
    ⟨some 11, .call ⟨(.value (.func 84)), #[(.tmp 10)], #[23]⟩, none⟩,
    ⟨some 3, .assign (.tmp 11), none⟩])
  (.seq (.reg [
    ⟨some 4, .assign (.const (.slice none 0 0)), none⟩])
  (.seq (.block 0 (.loop (.seq (.seq (.reg [
    ⟨some 12, .move (.tmp 3), none⟩,
    ⟨some 13, .call ⟨(.builtin .len), #[(.tmp 12)], #[23]⟩, none⟩,
    ⟨some 14, .binOp .gtr 3 (.tmp 13) (.const (.int .i64 0)) 3, none⟩])
  (.cond (.tmp 14)
    .skip
    (.exit 0)))
  (.block 1 (.seq (.reg [
    ⟨some 16, .move (.tmp 3), none⟩,
    ⟨some 17, .call ⟨(.value (.func 88)), #[(.tmp 16), (.const (.int .u32 1000000000))], #[23, 113]⟩, none⟩,
    ⟨some 15, .move (.tmp 17), none⟩,
    ⟨some 18, .extract (.tmp 15) 0, none⟩,
    ⟨some 19, .extract (.tmp 15) 1, none⟩,
    ⟨some 5, .assign (.tmp 18), none⟩,
    ⟨some 6, .assign (.tmp 19), none⟩])
  (.seq (.reg [
    ⟨some 20, .move (.tmp 4), none⟩,
    ⟨some 21, .move (.tmp 6), none⟩,
    ⟨some 22, .buildSlice 22 1 #[(0, (.tmp 21))], none⟩,
    ⟨some 23, .call ⟨(.builtin .append), #[(.tmp 20), (.tmp 22)], #[22, 22]⟩, none⟩,
    ⟨some 4, .assign (.tmp 23), none⟩])
  (.reg [
    ⟨some 24, .move (.tmp 5), none⟩,
    ⟨some 3, .assign (.tmp 24), none⟩])))))))
  (.seq (.seq (.reg [
    ⟨some 25, .move (.tmp 4), none⟩,
    ⟨some 26, .call ⟨(.builtin .len), #[(.tmp 25)], #[22]⟩, none⟩,
    ⟨some 27, .binOp .eql 3 (.tmp 26) (.const (.int .i64 0)) 3, none⟩])
  (.cond (.tmp 27)
    (.seq (.reg [
      ⟨some 2, .assign (.const (.string ⟨#[48]⟩)), none⟩])
    .ret)
    .skip))
  (.seq (.reg [
    ⟨some 7, .assign (.const (.slice none 0 0)), none⟩])
  (.seq (.seq (.reg [
    ⟨some 28, .move (.tmp 4), none⟩,
    ⟨some 29, .call ⟨(.builtin .len), #[(.tmp 28)], #[22]⟩, none⟩,
    ⟨some 30, .binOp .sub 3 (.tmp 29) (.const (.int .i64 1)) 3, none⟩,
    ⟨some 8, .assign (.tmp 30), none⟩])
  (.block 2 (.loop (.seq (.seq (.reg [
    ⟨some 31, .move (.tmp 8), none⟩,
    ⟨some 32, .binOp .geq 3 (.tmp 31) (.const (.int .i64 0)) 3, none⟩])
  (.cond (.tmp 32)
    .skip
    (.exit 2)))
  (.seq (.block 3 (.seq (.reg [
    ⟨some 35, .move (.tmp 4), none⟩,
    ⟨some 36, .move (.tmp 8), none⟩,
    ⟨some 37, .indexAddr 22 (.tmp 35) (.tmp 36), none⟩,
    ⟨some 38, .load 113 (.tmp 37), none⟩,
    ⟨some 39, .convert 113 99 (.tmp 38), none⟩,
    ⟨some 40, .call ⟨(.value (.func 89)), #[(.tmp 39), (.const (.int .i64 10))], #[99, 3]⟩, none⟩,
    ⟨some 9, .assign (.tmp 40), none⟩])
  (.seq (.seq (.reg [
    ⟨some 41, .move (.tmp 8), none⟩,
    ⟨some 42, .move (.tmp 4), none⟩,
    ⟨some 43, .call ⟨(.builtin .len), #[(.tmp 42)], #[22]⟩, none⟩,
    ⟨some 44, .binOp .sub 3 (.tmp 43) (.const (.int .i64 1)) 3, none⟩,
    ⟨some 45, .binOp .lss 3 (.tmp 41) (.tmp 44) 3, none⟩])
  (.cond (.tmp 45)
    (.seq (.reg [
      ⟨some 46, .move (.tmp 9), none⟩,
      ⟨some 47, .call ⟨(.builtin .len), #[(.tmp 46)], #[9]⟩, none⟩,
      ⟨some 48, .binOp .sub 3 (.const (.int .i64 9)) (.tmp 47) 3, none⟩,
      ⟨some 49, .move (.const (.int .i64 0)), none⟩])
    (.block 4 (.loop (.seq (.reg [
      ⟨some 50, .binOp .lss 3 (.tmp 49) (.tmp 48) 3, none⟩])
    (.seq (.cond (.tmp 50)
      .skip
      (.exit 4))
    (.seq (.block 5 (.reg [
      ⟨some 51, .move (.tmp 7), none⟩,
      ⟨some 52, .buildSlice 120 1 #[(0, (.const (.int .u8 48)))], none⟩,
      ⟨some 53, .call ⟨(.builtin .append), #[(.tmp 51), (.tmp 52)], #[120, 120]⟩, none⟩,
      ⟨some 7, .assign (.tmp 53), none⟩]))
    (.reg [
      ⟨some 54, .binOp .add 3 (.tmp 49) (.const (.int .i64 1)) 3, none⟩,
      ⟨some 49, .move (.tmp 54), none⟩])))))))
    .skip))
  (.reg [
    ⟨some 55, .move (.tmp 7), none⟩,
    ⟨some 56, .move (.tmp 9), none⟩,
    ⟨some 57, .call ⟨(.builtin .append), #[(.tmp 55), (.tmp 56)], #[120, 9]⟩, none⟩,
    ⟨some 7, .assign (.tmp 57), none⟩]))))
  (.reg [
    ⟨some 33, .move (.tmp 8), none⟩,
    ⟨some 34, .binOp .sub 3 (.tmp 33) (.const (.int .i64 1)) 3, none⟩,
    ⟨some 8, .assign (.tmp 34), none⟩]))))))
  (.seq (.seq (.gh [.frz 7])
  (.reg [
    ⟨some 58, .move (.tmp 7), none⟩,
    ⟨some 59, .convert 120 9 (.tmp 58), none⟩,
    ⟨some 2, .assign (.tmp 59), none⟩]))
  .ret))))))))⟩
theorem c70 : fcomp Tryd.prog 70 = ⟨b70.n, b70.np, b70.res, b70.body.bare⟩ := by kernel_rfl
theorem k70 : fok Tryd.prog 70 = true := by kernel_rfl
theorem nat_Print (v : Nat) (b : ByteArray) (h0 : 0 < v) (h1 : v < 1000000000) (hb : b.size ≤ 9) (hF : AFun Tryd.prog 89 [.one (.lit (.int .u64 v)), .one (.lit (.int .i64 10))] [.one (.lit (.string b))]) : AFun Tryd.prog 70 [.one (natD (nl v))] [.one (.lit (.string b))] := by
  refine afun_intro mo_ _ _ c70 k70 _ _ rfl (by decide) ?_
  unfold b70
  have e := nl_small h0 (by omega)
  have hlim := nl_lim v
  have hlen : (nl v).length = 1 := by rw [e]; rfl
  simp (maxSteps:=1000000) (disch:=first | omega | (simp only [LL];omega)) only [W,V,TY,CC,reduceIte,Nat.reduceEqDiff,Nat.reduceAdd,Nat.reduceLeDiff,Nat.reduceLT,Int.reduceLE,Int.reduceLT,Int.reduceAdd,Int.reduceSub,Int.reduceToNat,Nat.reduceMul]
  refine a_call _ _ (nat_Norm (nl v) hlim (by omega)) (by simp (maxSteps:=1000000) (disch:=first | omega | (simp only [LL];omega)) only [W,V,TY,CC,reduceIte,Nat.reduceEqDiff,Nat.reduceAdd,Nat.reduceLeDiff,Nat.reduceLT,Int.reduceLE,Int.reduceLT,Int.reduceAdd,Int.reduceSub,Int.reduceToNat,Nat.reduceMul]) ?_
  rw [show tr (nl v) = nl v by unfold tr; rw [nv_nl]]
  simp (maxSteps:=1000000) (disch:=first | omega | (simp only [LL];omega)) only [W,V,TY,CC,reduceIte,Nat.reduceEqDiff,Nat.reduceAdd,Nat.reduceLeDiff,Nat.reduceLT,Int.reduceLE,Int.reduceLT,Int.reduceAdd,Int.reduceSub,Int.reduceToNat,Nat.reduceMul]
  refine w_loop (fun k s => (k = 1 ∧ s.t 3 = .one (.dt (natD (nl v))) ∧ s.t 4 = .one .z ∧ s.g 23 = 0 ∧ s.g 57 = 0) ∨ (k = 0 ∧ s.t 3 = .one (.dt (natD (nl 0))) ∧ s.t 4 = .one (.row (23, 0) 0) ∧ s.r (23, 0) = some ⟨113, 1, 1, natC [(v : Int)], 0, true⟩ ∧ s.g 57 = 0)) 1 (.inl ⟨rfl, ?_, ?_, ?_, ?_⟩) ?_
  · simp (maxSteps:=1000000) (disch:=first | omega | (simp only [LL];omega)) only [W,V,TY,CC,reduceIte,Nat.reduceEqDiff,Nat.reduceAdd,Nat.reduceLeDiff,Nat.reduceLT,Int.reduceLE,Int.reduceLT,Int.reduceAdd,Int.reduceSub,Int.reduceToNat,Nat.reduceMul]
  · simp (maxSteps:=1000000) (disch:=first | omega | (simp only [LL];omega)) only [W,V,TY,CC,reduceIte,Nat.reduceEqDiff,Nat.reduceAdd,Nat.reduceLeDiff,Nat.reduceLT,Int.reduceLE,Int.reduceLT,Int.reduceAdd,Int.reduceSub,Int.reduceToNat,Nat.reduceMul]
  · simp (maxSteps:=1000000) (disch:=first | omega | (simp only [LL];omega)) only [W,V,TY,CC,reduceIte,Nat.reduceEqDiff,Nat.reduceAdd,Nat.reduceLeDiff,Nat.reduceLT,Int.reduceLE,Int.reduceLT,Int.reduceAdd,Int.reduceSub,Int.reduceToNat,Nat.reduceMul]
  · simp (maxSteps:=1000000) (disch:=first | omega | (simp only [LL];omega)) only [W,V,TY,CC,reduceIte,Nat.reduceEqDiff,Nat.reduceAdd,Nat.reduceLeDiff,Nat.reduceLT,Int.reduceLE,Int.reduceLT,Int.reduceAdd,Int.reduceSub,Int.reduceToNat,Nat.reduceMul]
  intro k s hwf hi
  rcases hi with ⟨rfl, t3, t4, g23, g57⟩ | ⟨rfl, t3, t4, r23, g57⟩
  · simp (maxSteps:=1000000) (disch:=first | omega | (simp only [LL];omega)) only [W,V,TY,CC,reduceIte,Nat.reduceEqDiff,Nat.reduceAdd,Nat.reduceLeDiff,Nat.reduceLT,Int.reduceLE,Int.reduceLT,Int.reduceAdd,Int.reduceSub,Int.reduceToNat,Nat.reduceMul,t3,t4,g23,g57,hlen]
    refine a_call _ _ (nat_divSmall (nl v) 1000000000 hlim (by omega) (by decide) (by decide)) (by simp (maxSteps:=1000000) (disch:=first | omega | (simp only [LL];omega)) only [W,V,TY,CC,reduceIte,Nat.reduceEqDiff,Nat.reduceAdd,Nat.reduceLeDiff,Nat.reduceLT,Int.reduceLE,Int.reduceLT,Int.reduceAdd,Int.reduceSub,Int.reduceToNat,Nat.reduceMul,t3]) ?_
    rw [nv_nl, show v / (Int.toNat 1000000000) = 0 from Nat.div_eq_of_lt h1, show v % (Int.toNat 1000000000) = v from Nat.mod_eq_of_lt h1]
    have ec : [Dt.lit (.int .u32 (v : Int))] = natC [(v : Int)] := rfl
    simp (maxSteps:=1000000) (disch:=first | omega | (simp only [LL];omega)) only [W,V,TY,CC,reduceIte,Nat.reduceEqDiff,Nat.reduceAdd,Nat.reduceLeDiff,Nat.reduceLT,Int.reduceLE,Int.reduceLT,Int.reduceAdd,Int.reduceSub,Int.reduceToNat,Nat.reduceMul,t3,t4,g23,g57,maxLen_eq,ec]
    refine ⟨0, by omega, .inr rfl⟩
  · have z1 : ((1 : Int) = 0) = False := eq_false (by decide)
    simp (maxSteps:=1000000) (disch:=first | omega | (simp only [LL];omega)) only [W,V,TY,CC,reduceIte,Nat.reduceEqDiff,Nat.reduceAdd,Nat.reduceLeDiff,Nat.reduceLT,Int.reduceLE,Int.reduceLT,Int.reduceAdd,Int.reduceSub,Int.reduceToNat,Nat.reduceMul,t3,t4,r23,g57,nl_zero,z1]
    refine w_loop (fun k s => (k = 1 ∧ s.t 8 = .one (.dt (.lit (.int .i64 0))) ∧ s.t 4 = .one (.row (23, 0) 0) ∧ s.r (23, 0) = some ⟨113, 1, 1, natC [(v : Int)], 0, true⟩ ∧ s.t 7 = .one .z ∧ s.g 57 = 0) ∨ (k = 0 ∧ s.t 8 = .one (.dt (.lit (.int .i64 (-1)))) ∧ s.t 7 = .one (.row (57, 0) 0) ∧ s.r (57, 0) = some ⟨5, 1, b.size, strD b, 0, true⟩)) 1 (.inl ⟨rfl, ?_, ?_, ?_, ?_, ?_⟩) ?_
    · simp (maxSteps:=1000000) (disch:=first | omega | (simp only [LL];omega)) only [W,V,TY,CC,reduceIte,Nat.reduceEqDiff,Nat.reduceAdd,Nat.reduceLeDiff,Nat.reduceLT,Int.reduceLE,Int.reduceLT,Int.reduceAdd,Int.reduceSub,Int.reduceToNat,Nat.reduceMul,t3,t4,r23,g57]
    · simp (maxSteps:=1000000) (disch:=first | omega | (simp only [LL];omega)) only [W,V,TY,CC,reduceIte,Nat.reduceEqDiff,Nat.reduceAdd,Nat.reduceLeDiff,Nat.reduceLT,Int.reduceLE,Int.reduceLT,Int.reduceAdd,Int.reduceSub,Int.reduceToNat,Nat.reduceMul,t3,t4,r23,g57]
    · simp (maxSteps:=1000000) (disch:=first | omega | (simp only [LL];omega)) only [W,V,TY,CC,reduceIte,Nat.reduceEqDiff,Nat.reduceAdd,Nat.reduceLeDiff,Nat.reduceLT,Int.reduceLE,Int.reduceLT,Int.reduceAdd,Int.reduceSub,Int.reduceToNat,Nat.reduceMul,t3,t4,r23,g57]
    · simp (maxSteps:=1000000) (disch:=first | omega | (simp only [LL];omega)) only [W,V,TY,CC,reduceIte,Nat.reduceEqDiff,Nat.reduceAdd,Nat.reduceLeDiff,Nat.reduceLT,Int.reduceLE,Int.reduceLT,Int.reduceAdd,Int.reduceSub,Int.reduceToNat,Nat.reduceMul,t3,t4,r23,g57]
    · simp (maxSteps:=1000000) (disch:=first | omega | (simp only [LL];omega)) only [W,V,TY,CC,reduceIte,Nat.reduceEqDiff,Nat.reduceAdd,Nat.reduceLeDiff,Nat.reduceLT,Int.reduceLE,Int.reduceLT,Int.reduceAdd,Int.reduceSub,Int.reduceToNat,Nat.reduceMul,t3,t4,r23,g57]
    clear t3 t4 r23 g57 hwf
    intro k s hwf hi
    rcases hi with ⟨rfl, t8, t4, r23, t7, g57⟩ | ⟨rfl, t8, t7, r57⟩
    · have ec : natC [(v : Int)] = [Dt.lit (.int .u32 (v : Int))] := rfl
      have wv : IntKind.u64.wrap (v : Int) = v := by rw [IntKind.wrap_u64]; omega
      simp (maxSteps:=1000000) (disch:=first | omega | (simp only [LL];omega)) only [W,V,TY,CC,reduceIte,Nat.reduceEqDiff,Nat.reduceAdd,Nat.reduceLeDiff,Nat.reduceLT,Int.reduceLE,Int.reduceLT,Int.reduceAdd,Int.reduceSub,Int.reduceToNat,Nat.reduceMul,t8,t4,r23,t7,g57,ec,wv]
      refine a_call _ _ hF (by simp (maxSteps:=1000000) (disch:=first | omega | (simp only [LL];omega)) only [W,V,TY,CC,reduceIte,Nat.reduceEqDiff,Nat.reduceAdd,Nat.reduceLeDiff,Nat.reduceLT,Int.reduceLE,Int.reduceLT,Int.reduceAdd,Int.reduceSub,Int.reduceToNat,Nat.reduceMul,t8,t4,r23,t7,g57]) ?_
      simp (maxSteps:=1000000) (disch:=first | omega | (simp only [LL];omega)) only [W,V,TY,CC,reduceIte,Nat.reduceEqDiff,Nat.reduceAdd,Nat.reduceLeDiff,Nat.reduceLT,Int.reduceLE,Int.reduceLT,Int.reduceAdd,Int.reduceSub,Int.reduceToNat,Nat.reduceMul,t8,t4,r23,t7,g57]
      refine a_sapp b 5 (by simp (maxSteps:=1000000) (disch:=first | omega | (simp only [LL];omega)) only [W,V,TY,CC,reduceIte,Nat.reduceEqDiff,Nat.reduceAdd,Nat.reduceLeDiff,Nat.reduceLT,Int.reduceLE,Int.reduceLT,Int.reduceAdd,Int.reduceSub,Int.reduceToNat,Nat.reduceMul]) (by simp (maxSteps:=1000000) (disch:=first | omega | (simp only [LL];omega)) only [W,V,TY,CC,reduceIte,Nat.reduceEqDiff,Nat.reduceAdd,Nat.reduceLeDiff,Nat.reduceLT,Int.reduceLE,Int.reduceLT,Int.reduceAdd,Int.reduceSub,Int.reduceToNat,Nat.reduceMul]) (by simp (maxSteps:=1000000) (disch:=first | omega | (simp only [LL];omega)) only [W,V,TY,CC,reduceIte,Nat.reduceEqDiff,Nat.reduceAdd,Nat.reduceLeDiff,Nat.reduceLT,Int.reduceLE,Int.reduceLT,Int.reduceAdd,Int.reduceSub,Int.reduceToNat,Nat.reduceMul]) (by simp (maxSteps:=1000000) (disch:=first | omega | (simp only [LL];omega)) only [W,V,TY,CC,reduceIte,Nat.reduceEqDiff,Nat.reduceAdd,Nat.reduceLeDiff,Nat.reduceLT,Int.reduceLE,Int.reduceLT,Int.reduceAdd,Int.reduceSub,Int.reduceToNat,Nat.reduceMul]) ?_ ?_
      · simp (maxSteps:=1000000) (disch:=first | omega | (simp only [LL];omega)) only [W,V,TY,CC,reduceIte,Nat.reduceEqDiff,Nat.reduceAdd,Nat.reduceLeDiff,Nat.reduceLT,Int.reduceLE,Int.reduceLT,Int.reduceAdd,Int.reduceSub,Int.reduceToNat,Nat.reduceMul,t7,maxLen_eq,strD_len]
        omega
      simp (maxSteps:=1000000) (disch:=first | omega | (simp only [LL];omega)) only [W,V,TY,CC,reduceIte,Nat.reduceEqDiff,Nat.reduceAdd,Nat.reduceLeDiff,Nat.reduceLT,Int.reduceLE,Int.reduceLT,Int.reduceAdd,Int.reduceSub,Int.reduceToNat,Nat.reduceMul,t8,t4,r23,t7,g57]
      exact ⟨0, by omega, .inr rfl⟩
    · simp (maxSteps:=1000000) (disch:=first | omega | (simp only [LL];omega)) only [W,V,TY,CC,reduceIte,Nat.reduceEqDiff,Nat.reduceAdd,Nat.reduceLeDiff,Nat.reduceLT,Int.reduceLE,Int.reduceLT,Int.reduceAdd,Int.reduceSub,Int.reduceToNat,Nat.reduceMul,t8,t7,r57]
      refine a_sconv b 5 (by simp (maxSteps:=1000000) (disch:=first | omega | (simp only [LL];omega)) only [W,V,TY,CC,reduceIte,Nat.reduceEqDiff,Nat.reduceAdd,Nat.reduceLeDiff,Nat.reduceLT,Int.reduceLE,Int.reduceLT,Int.reduceAdd,Int.reduceSub,Int.reduceToNat,Nat.reduceMul]) (by simp (maxSteps:=1000000) (disch:=first | omega | (simp only [LL];omega)) only [W,V,TY,CC,reduceIte,Nat.reduceEqDiff,Nat.reduceAdd,Nat.reduceLeDiff,Nat.reduceLT,Int.reduceLE,Int.reduceLT,Int.reduceAdd,Int.reduceSub,Int.reduceToNat,Nat.reduceMul]) (by simp (maxSteps:=1000000) (disch:=first | omega | (simp only [LL];omega)) only [W,V,TY,CC,reduceIte,Nat.reduceEqDiff,Nat.reduceAdd,Nat.reduceLeDiff,Nat.reduceLT,Int.reduceLE,Int.reduceLT,Int.reduceAdd,Int.reduceSub,Int.reduceToNat,Nat.reduceMul]) ?_ ?_
      · simp (maxSteps:=1000000) (disch:=first | omega | (simp only [LL];omega)) only [W,V,TY,CC,reduceIte,Nat.reduceEqDiff,Nat.reduceAdd,Nat.reduceLeDiff,Nat.reduceLT,Int.reduceLE,Int.reduceLT,Int.reduceAdd,Int.reduceSub,Int.reduceToNat,Nat.reduceMul,t8,t7,r57]
        exact sd_row ⟨5, 1, b.size, strD b, 0, false⟩ (by simp (maxSteps:=1000000) (disch:=first | omega | (simp only [LL];omega)) only [W,V,TY,CC,reduceIte,Nat.reduceEqDiff,Nat.reduceAdd,Nat.reduceLeDiff,Nat.reduceLT,Int.reduceLE,Int.reduceLT,Int.reduceAdd,Int.reduceSub,Int.reduceToNat,Nat.reduceMul,r57]) rfl rfl
      simp (maxSteps:=1000000) (disch:=first | omega | (simp only [LL];omega)) only [W,V,TY,CC,reduceIte,Nat.reduceEqDiff,Nat.reduceAdd,Nat.reduceLeDiff,Nat.reduceLT,Int.reduceLE,Int.reduceLT,Int.reduceAdd,Int.reduceSub,Int.reduceToNat,Nat.reduceMul]
      refine f_ret _ _ _ ?_
      simp (maxSteps:=1000000) (disch:=first | omega | (simp only [LL];omega)) only [W,V,TY,CC,reduceIte,Nat.reduceEqDiff,Nat.reduceAdd,Nat.reduceLeDiff,Nat.reduceLT,Int.reduceLE,Int.reduceLT,Int.reduceAdd,Int.reduceSub,Int.reduceToNat,Nat.reduceMul]
theorem nat_Print0 : AFun Tryd.prog 70 [.one (natD (nl 0))] [.one (.lit (.string ⟨#[48]⟩))] := by
  refine afun_intro mo_ _ _ c70 k70 _ _ rfl (by decide) ?_
  unfold b70
  have hlim := nl_lim 0
  have hlen : (nl 0).length = 0 := by rw [nl_zero]; rfl
  simp (maxSteps:=1000000) (disch:=first | omega | (simp only [LL];omega)) only [W,V,TY,CC,reduceIte,Nat.reduceEqDiff,Nat.reduceAdd,Nat.reduceLeDiff,Nat.reduceLT,Int.reduceLE,Int.reduceLT,Int.reduceAdd,Int.reduceSub,Int.reduceToNat,Nat.reduceMul]
  refine a_call _ _ (nat_Norm (nl 0) hlim (by omega)) (by simp (maxSteps:=1000000) (disch:=first | omega | (simp only [LL];omega)) only [W,V,TY,CC,reduceIte,Nat.reduceEqDiff,Nat.reduceAdd,Nat.reduceLeDiff,Nat.reduceLT,Int.reduceLE,Int.reduceLT,Int.reduceAdd,Int.reduceSub,Int.reduceToNat,Nat.reduceMul]) ?_
  rw [show tr (nl 0) = nl 0 by unfold tr; rw [nv_nl]]
  simp (maxSteps:=1000000) (disch:=first | omega | (simp only [LL];omega)) only [W,V,TY,CC,reduceIte,Nat.reduceEqDiff,Nat.reduceAdd,Nat.reduceLeDiff,Nat.reduceLT,Int.reduceLE,Int.reduceLT,Int.reduceAdd,Int.reduceSub,Int.reduceToNat,Nat.reduceMul]
  refine w_loop (fun k s => s.t 3 = .one (.dt (natD (nl 0))) ∧ s.t 4 = .one .z) 0 ⟨?_, ?_⟩ ?_
  · simp (maxSteps:=1000000) (disch:=first | omega | (simp only [LL];omega)) only [W,V,TY,CC,reduceIte,Nat.reduceEqDiff,Nat.reduceAdd,Nat.reduceLeDiff,Nat.reduceLT,Int.reduceLE,Int.reduceLT,Int.reduceAdd,Int.reduceSub,Int.reduceToNat,Nat.reduceMul]
  · simp (maxSteps:=1000000) (disch:=first | omega | (simp only [LL];omega)) only [W,V,TY,CC,reduceIte,Nat.reduceEqDiff,Nat.reduceAdd,Nat.reduceLeDiff,Nat.reduceLT,Int.reduceLE,Int.reduceLT,Int.reduceAdd,Int.reduceSub,Int.reduceToNat,Nat.reduceMul]
  intro k s hwf ⟨t3, t4⟩
  simp (maxSteps:=1000000) (disch:=first | omega | (simp only [LL];omega)) only [W,V,TY,CC,reduceIte,Nat.reduceEqDiff,Nat.reduceAdd,Nat.reduceLeDiff,Nat.reduceLT,Int.reduceLE,Int.reduceLT,Int.reduceAdd,Int.reduceSub,Int.reduceToNat,Nat.reduceMul,t3,t4,hlen]
  refine f_ret _ _ _ ?_
  simp (maxSteps:=1000000) (disch:=first | omega | (simp only [LL];omega)) only [W,V,TY,CC,reduceIte,Nat.reduceEqDiff,Nat.reduceAdd,Nat.reduceLeDiff,Nat.reduceLT,Int.reduceLE,Int.reduceLT,Int.reduceAdd,Int.reduceSub,Int.reduceToNat,Nat.reduceMul]
/-- a natural number below 100, in digits -/
def dig (v : Nat) : ByteArray := if v = 0 then ⟨#[48]⟩ else smallS v
theorem smallS_size {i : Int} (h0 : 0 ≤ i) (h1 : i < 100) : (smallS i).size ≤ 2 := by
  unfold smallS
  split
  · rw [ByteArray.size_extract, digS_size]; omega
  · rw [ByteArray.size_extract, twoS_size]; omega
theorem dig_size {v : Nat} (h1 : v < 100) : (dig v).size ≤ 2 := by
  unfold dig
  split
  · decide
  · exact smallS_size (by omega) (by omega)
theorem nat_Print2 (v : Nat) (h1 : v < 100) : AFun Tryd.prog 70 [.one (natD (nl v))] [.one (.lit (.string (dig v)))] := by
  unfold dig
  split
  · rename_i h; subst h; exact nat_Print0
  · have := smallS_size (i := v) (by omega) (by omega)
    exact nat_Print v _ (by omega) (by omega) (by omega) (str_FormatUint v (by omega) (by omega))
/-- an integer, in digits -/
def digI (z : Int) : ByteArray := if z < 0 then ⟨#[45]⟩ ++ dig z.natAbs else dig z.natAbs
/-- examboard/integer.Print -/
def b67 : AF := ⟨13, 1, [.tmp 2],
  (.seq (.reg [
    ⟨some 1, .box 25 (.tmp 0), none⟩,
    ⟨some 2, .assign (.const (.string ⟨#[]⟩)), none⟩])
  (.seq (.seq (.reg [
    ⟨some 3, .load 25 (.tmp 1), none⟩,
    ⟨some 4, .call ⟨(.value (.func 53)), #[(.tmp 3)], #[25]⟩, none⟩,
    ⟨some 5, .binOp .lss 3 (.tmp 4) (.const (.int .i64 0)) 3, none⟩])
  (.cond (.tmp 5)
    (.seq (.reg [
      ⟨some 6, .fieldAddr 25 (.tmp 1) 1, none⟩,
      ⟨some 7, .load 23 (.tmp 6), none⟩,
      ⟨some 8, .call ⟨(.value (.func 70)), #[(.tmp 7)], #[23]⟩, none⟩,
      ⟨some 9, .binOp .add 9 (.const (.string ⟨#[45]⟩)) (.tmp 8) 9, none⟩,
      ⟨some 2, .assign (.tmp 9), none⟩])
    .ret)
    .skip))
  (.seq (.reg [
    ⟨some 10, .fieldAddr 25 (.tmp 1) 1, none⟩,
    ⟨some 11, .load 23 (.tmp 10), none⟩,
    ⟨some 12, .call ⟨(.value (.func 70)), #[(.tmp 11)], #[23]⟩, none⟩,
    ⟨some 2, .assign (.tmp 12), none⟩])
  .ret)))⟩
theorem c67 : fcomp Tryd.prog 67 = ⟨b67.n, b67.np, b67.res, b67.body.bare⟩ := by kernel_rfl
theorem k67 : fok Tryd.prog 67 = true := by kernel_rfl
theorem int_Print (z : Int) (h0 : -100 < z) (h1 : z < 100) : AFun Tryd.prog 67 [.agg (intC z)] [.one (.lit (.string (digI z)))] := by
  refine afun_intro mo_ _ _ c67 k67 _ _ rfl (by decide) ?_
  unfold b67
  have hl : (nl z.natAbs).length ≤ 1 := nl_len (by omega)
  have hz : (dig z.natAbs).size ≤ 2 := dig_size (by omega)
  have h45 : (⟨#[45]⟩ : ByteArray).size = 1 := rfl
  have cs : sgn z < 0 ↔ z < 0 := by unfold sgn; split <;> (try split) <;> omega
  unfold digI
  simp (maxSteps:=1000000) (disch:=first | omega | (simp only [LL];omega)) only [W,V,TY,CC,reduceIte,Nat.reduceEqDiff,Nat.reduceAdd,Nat.reduceLeDiff,Nat.reduceLT,Int.reduceLE,Int.reduceLT,Int.reduceAdd,Int.reduceSub,Int.reduceToNat,Nat.reduceMul,intC]
  refine a_call _ _ (int_Sign (decide (z < 0)) (nl z.natAbs) (nl_lim _) (by omega)) (by simp (maxSteps:=1000000) (disch:=first | omega | (simp only [LL];omega)) only [W,V,TY,CC,reduceIte,Nat.reduceEqDiff,Nat.reduceAdd,Nat.reduceLeDiff,Nat.reduceLT,Int.reduceLE,Int.reduceLT,Int.reduceAdd,Int.reduceSub,Int.reduceToNat,Nat.reduceMul]) ?_
  rw [iv_nl]
  simp (maxSteps:=1000000) (disch:=first | omega | (simp only [LL];omega)) only [W,V,TY,CC,reduceIte,Nat.reduceEqDiff,Nat.reduceAdd,Nat.reduceLeDiff,Nat.reduceLT,Int.reduceLE,Int.reduceLT,Int.reduceAdd,Int.reduceSub,Int.reduceToNat,Nat.reduceMul]
  refine c_split (fun h => ?_) (fun h => ?_)
  · rw [if_pos (cs.1 h)]
    simp (maxSteps:=1000000) (disch:=first | omega | (simp only [LL];omega)) only [W,V,TY,CC,reduceIte,Nat.reduceEqDiff,Nat.reduceAdd,Nat.reduceLeDiff,Nat.reduceLT,Int.reduceLE,Int.reduceLT,Int.reduceAdd,Int.reduceSub,Int.reduceToNat,Nat.reduceMul]
    refine a_call _ _ (nat_Print2 z.natAbs (by omega)) (by simp (maxSteps:=1000000) (disch:=first | omega | (simp only [LL];omega)) only [W,V,TY,CC,reduceIte,Nat.reduceEqDiff,Nat.reduceAdd,Nat.reduceLeDiff,Nat.reduceLT,Int.reduceLE,Int.reduceLT,Int.reduceAdd,Int.reduceSub,Int.reduceToNat,Nat.reduceMul]) ?_
    simp (maxSteps:=1000000) (disch:=first | omega | (simp only [LL];omega)) only [W,V,TY,CC,reduceIte,Nat.reduceEqDiff,Nat.reduceAdd,Nat.reduceLeDiff,Nat.reduceLT,Int.reduceLE,Int.reduceLT,Int.reduceAdd,Int.reduceSub,Int.reduceToNat,Nat.reduceMul,h45]
    refine ⟨by omega, f_ret _ _ _ ?_⟩
    simp (maxSteps:=1000000) (disch:=first | omega | (simp only [LL];omega)) only [W,V,TY,CC,reduceIte,Nat.reduceEqDiff,Nat.reduceAdd,Nat.reduceLeDiff,Nat.reduceLT,Int.reduceLE,Int.reduceLT,Int.reduceAdd,Int.reduceSub,Int.reduceToNat,Nat.reduceMul]
  · rw [if_neg (fun e => h (cs.2 e))]
    simp (maxSteps:=1000000) (disch:=first | omega | (simp only [LL];omega)) only [W,V,TY,CC,reduceIte,Nat.reduceEqDiff,Nat.reduceAdd,Nat.reduceLeDiff,Nat.reduceLT,Int.reduceLE,Int.reduceLT,Int.reduceAdd,Int.reduceSub,Int.reduceToNat,Nat.reduceMul]
    refine a_call _ _ (nat_Print2 z.natAbs (by omega)) (by simp (maxSteps:=1000000) (disch:=first | omega | (simp only [LL];omega)) only [W,V,TY,CC,reduceIte,Nat.reduceEqDiff,Nat.reduceAdd,Nat.reduceLeDiff,Nat.reduceLT,Int.reduceLE,Int.reduceLT,Int.reduceAdd,Int.reduceSub,Int.reduceToNat,Nat.reduceMul]) ?_
    simp (maxSteps:=1000000) (disch:=first | omega | (simp only [LL];omega)) only [W,V,TY,CC,reduceIte,Nat.reduceEqDiff,Nat.reduceAdd,Nat.reduceLeDiff,Nat.reduceLT,Int.reduceLE,Int.reduceLT,Int.reduceAdd,Int.reduceSub,Int.reduceToNat,Nat.reduceMul]
    refine f_ret _ _ _ ?_
    simp (maxSteps:=1000000) (disch:=first | omega | (simp only [LL];omega)) only [W,V,TY,CC,reduceIte,Nat.reduceEqDiff,Nat.reduceAdd,Nat.reduceLeDiff,Nat.reduceLT,Int.reduceLE,Int.reduceLT,Int.reduceAdd,Int.reduceSub,Int.reduceToNat,Nat.reduceMul]
/-- a number, in digits -/
def digQ (q : Rat) : ByteArray := if q.den = 1 then digI q.num else digI q.num ++ (⟨#[47]⟩ ++ dig q.den)
theorem digI_size {z : Int} (h0 : -100 < z) (h1 : z < 100) : (digI z).size ≤ 3 := by
  have hz : (dig z.natAbs).size ≤ 2 := dig_size (by omega)
  have h45 : (⟨#[45]⟩ : ByteArray).size = 1 := rfl
  unfold digI
  split
  · rw [ByteArray.size_append, h45]; omega
  · omega
/-- examboard/ratio.Print -/
def b41 : AF := ⟨22, 1, [.tmp 2],
  (.seq (.reg [
    ⟨some 1, .box 27 (.tmp 0), none⟩,
    ⟨some 2, .assign (.const (.string ⟨#[]⟩)), none⟩])
  (.seq (.reg [
    ⟨some 5, .load 27 (.tmp 1), none⟩,
    ⟨some 6, .call ⟨(.value (.func 57)), #[(.tmp 5)], #[27]⟩, none⟩,
    ⟨some 3, .alloc 27, none⟩,
    ⟨none, .store 27 (.tmp 3) (.tmp 6), none⟩])
  (.seq (.reg [
    ⟨some 7, .fieldAddr 27 (.tmp 3) 0, none⟩,
    ⟨some 8, .load 25 (.tmp 7), none⟩,
    ⟨some 9, .call ⟨(.value (.func 67)), #[(.tmp 8)], #[25]⟩, none⟩,
    ⟨some 4, .assign (.tmp 9), none⟩])
  (.seq (.seq (.dreg [
    ⟨some 10, .fieldAddr 27 (.tmp 3) 1, none⟩,
    ⟨some 11, .load 23 (.tmp 10), none⟩,
    ⟨some 12, .call ⟨(.value (.func 69)), #[(.const (.int .u64 1))], #[99]⟩, none⟩,
    ⟨some 13, .call ⟨(.value (.func 68)), #[(.tmp 11), (.tmp 12)], #[23, 23]⟩, none⟩,
    ⟨some 14, .binOp .neq 3 (.tmp 13) (.const (.int .i64 0)) 3, none⟩])
  (.cond (.tmp 14)
    (.reg [
      ⟨some 15, .move (.tmp 4), none⟩,
      ⟨some 16, .fieldAddr 27 (.tmp 3) 1, none⟩,
      ⟨some 17, .load 23 (.tmp 16), none⟩,
      ⟨some 18, .call ⟨(.value (.func 70)), #[(.tmp 17)], #[23]⟩, none⟩,
      ⟨some 19, .binOp .add 9 (.const (.string ⟨#[47]⟩)) (.tmp 18) 9, none⟩,
      ⟨some 20, .binOp .add 9 (.tmp 15) (.tmp 19) 9, none⟩,
      ⟨some 4, .assign (.tmp 20), none⟩])
    .skip))
  (.seq (.reg [
    ⟨some 21, .move (.tmp 4), none⟩,
    ⟨some 2, .assign (.tmp 21), none⟩])
  .ret)))))⟩
theorem c41 : fcomp Tryd.prog 41 = ⟨b41.n, b41.np, b41.res, b41.body.bare⟩ := by kernel_rfl
theorem k41 : fok Tryd.prog 41 = true := by kernel_rfl
theorem rat_Print (q : Rat) (h0 : -100 < q.num) (h1 : q.num < 100) (h2 : q.den < 100) : AFun Tryd.prog 41 [.agg (ratC q)] [.one (.lit (.string (digQ q)))] := by
  refine afun_intro mo_ _ _ c41 k41 _ _ rfl (by decide) ?_
  unfold b41
  have l1 : (nl q.num.natAbs).length ≤ 1 := nl_len (by omega)
  have l2 : (nl q.den).length ≤ 1 := nl_len (by omega)
  have l3 : (nl (Int.toNat 1)).length ≤ 1 := nl_len (by decide)
  have z1 := digI_size h0 h1
  have z2 := dig_size h2
  have h47 : (⟨#[47]⟩ : ByteArray).size = 1 := rfl
  have cn := rat_Norm (decide (q.num < 0)) (nl q.num.natAbs) (nl q.den) (nl_lim _) (nl_lim _) (by omega) (by omega)
  rw [rv_ratC] at cn
  have ci := int_Print q.num h0 h1
  simp only [intC] at ci
  unfold digQ
  simp (maxSteps:=1000000) (disch:=first | omega | (simp only [LL];omega)) only [W,V,TY,CC,reduceIte,Nat.reduceEqDiff,Nat.reduceAdd,Nat.reduceLeDiff,Nat.reduceLT,Int.reduceLE,Int.reduceLT,Int.reduceAdd,Int.reduceSub,Int.reduceToNat,Nat.reduceMul,ratC]
  refine a_call _ _ cn (by simp (maxSteps:=1000000) (disch:=first | omega | (simp only [LL];omega)) only [W,V,TY,CC,reduceIte,Nat.reduceEqDiff,Nat.reduceAdd,Nat.reduceLeDiff,Nat.reduceLT,Int.reduceLE,Int.reduceLT,Int.reduceAdd,Int.reduceSub,Int.reduceToNat,Nat.reduceMul]) ?_
  simp (maxSteps:=1000000) (disch:=first | omega | (simp only [LL];omega)) only [W,V,TY,CC,reduceIte,Nat.reduceEqDiff,Nat.reduceAdd,Nat.reduceLeDiff,Nat.reduceLT,Int.reduceLE,Int.reduceLT,Int.reduceAdd,Int.reduceSub,Int.reduceToNat,Nat.reduceMul,ratC]
  refine a_call _ _ ci (by simp (maxSteps:=1000000) (disch:=first | omega | (simp only [LL];omega)) only [W,V,TY,CC,reduceIte,Nat.reduceEqDiff,Nat.reduceAdd,Nat.reduceLeDiff,Nat.reduceLT,Int.reduceLE,Int.reduceLT,Int.reduceAdd,Int.reduceSub,Int.reduceToNat,Nat.reduceMul]) ?_
  simp (maxSteps:=1000000) (disch:=first | omega | (simp only [LL];omega)) only [W,V,TY,CC,reduceIte,Nat.reduceEqDiff,Nat.reduceAdd,Nat.reduceLeDiff,Nat.reduceLT,Int.reduceLE,Int.reduceLT,Int.reduceAdd,Int.reduceSub,Int.reduceToNat,Nat.reduceMul]
  refine a_call _ _ (nat_Of 1 (by decide) (by decide)) (by simp (maxSteps:=1000000) (disch:=first | omega | (simp only [LL];omega)) only [W,V,TY,CC,reduceIte,Nat.reduceEqDiff,Nat.reduceAdd,Nat.reduceLeDiff,Nat.reduceLT,Int.reduceLE,Int.reduceLT,Int.reduceAdd,Int.reduceSub,Int.reduceToNat,Nat.reduceMul]) ?_
  simp (maxSteps:=1000000) (disch:=first | omega | (simp only [LL];omega)) only [W,V,TY,CC,reduceIte,Nat.reduceEqDiff,Nat.reduceAdd,Nat.reduceLeDiff,Nat.reduceLT,Int.reduceLE,Int.reduceLT,Int.reduceAdd,Int.reduceSub,Int.reduceToNat,Nat.reduceMul]
  refine a_call _ _ (nat_Cmp (nl q.den) (nl (Int.toNat 1)) (nl_lim _) (nl_lim _) (by omega) (by omega)) (by simp (maxSteps:=1000000) (disch:=first | omega | (simp only [LL];omega)) only [W,V,TY,CC,reduceIte,Nat.reduceEqDiff,Nat.reduceAdd,Nat.reduceLeDiff,Nat.reduceLT,Int.reduceLE,Int.reduceLT,Int.reduceAdd,Int.reduceSub,Int.reduceToNat,Nat.reduceMul]) ?_
  rw [val_nl, val_nl]
  have hc : cmpZ (q.den : Int) ((Int.toNat 1 : Nat) : Int) = 0 ↔ q.den = 1 := by unfold cmpZ; split <;> (try split) <;> omega
  simp (maxSteps:=1000000) (disch:=first | omega | (simp only [LL];omega)) only [W,V,TY,CC,reduceIte,Nat.reduceEqDiff,Nat.reduceAdd,Nat.reduceLeDiff,Nat.reduceLT,Int.reduceLE,Int.reduceLT,Int.reduceAdd,Int.reduceSub,Int.reduceToNat,Nat.reduceMul]
  refine c_split (fun h => ?_) (fun h => ?_)
  · rw [if_neg (fun e => h (hc.2 e))]
    simp (maxSteps:=1000000) (disch:=first | omega | (simp only [LL];omega)) only [W,V,TY,CC,reduceIte,Nat.reduceEqDiff,Nat.reduceAdd,Nat.reduceLeDiff,Nat.reduceLT,Int.reduceLE,Int.reduceLT,Int.reduceAdd,Int.reduceSub,Int.reduceToNat,Nat.reduceMul]
    refine a_call _ _ (nat_Print2 q.den h2) (by simp (maxSteps:=1000000) (disch:=first | omega | (simp only [LL];omega)) only [W,V,TY,CC,reduceIte,Nat.reduceEqDiff,Nat.reduceAdd,Nat.reduceLeDiff,Nat.reduceLT,Int.reduceLE,Int.reduceLT,Int.reduceAdd,Int.reduceSub,Int.reduceToNat,Nat.reduceMul]) ?_
    have z3 : (⟨#[47]⟩ ++ dig q.den : ByteArray).size ≤ 3 := by rw [ByteArray.size_append, h47]; omega
    simp (maxSteps:=1000000) (disch:=first | omega | (simp only [LL];omega)) only [W,V,TY,CC,reduceIte,Nat.reduceEqDiff,Nat.reduceAdd,Nat.reduceLeDiff,Nat.reduceLT,Int.reduceLE,Int.reduceLT,Int.reduceAdd,Int.reduceSub,Int.reduceToNat,Nat.reduceMul,h47]
    refine ⟨by omega, by omega, f_ret _ _ _ ?_⟩
    simp (maxSteps:=1000000) (disch:=first | omega | (simp only [LL];omega)) only [W,V,TY,CC,reduceIte,Nat.reduceEqDiff,Nat.reduceAdd,Nat.reduceLeDiff,Nat.reduceLT,Int.reduceLE,Int.reduceLT,Int.reduceAdd,Int.reduceSub,Int.reduceToNat,Nat.reduceMul]
  · rw [if_pos (hc.1 (Classical.not_not.1 h))]
    simp (maxSteps:=1000000) (disch:=first | omega | (simp only [LL];omega)) only [W,V,TY,CC,reduceIte,Nat.reduceEqDiff,Nat.reduceAdd,Nat.reduceLeDiff,Nat.reduceLT,Int.reduceLE,Int.reduceLT,Int.reduceAdd,Int.reduceSub,Int.reduceToNat,Nat.reduceMul]
    refine f_ret _ _ _ ?_
    simp (maxSteps:=1000000) (disch:=first | omega | (simp only [LL];omega)) only [W,V,TY,CC,reduceIte,Nat.reduceEqDiff,Nat.reduceAdd,Nat.reduceLeDiff,Nat.reduceLT,Int.reduceLE,Int.reduceLT,Int.reduceAdd,Int.reduceSub,Int.reduceToNat,Nat.reduceMul]
end Go.Proofs.YtljmgdepldpmdaaDoor.E

set_option linter.unusedSimpArgs false
set_option linter.unusedVariables false
set_option maxHeartbeats 2000000
namespace Go.Proofs.YtljmgdepldpmdaaDoor.E
open Go.RowKit Limbs
theorem qs_int {x : Int} (h0 : -9223372036854775808 ≤ x) (h1 : x < 9223372036854775808) : qs ((x : Int) : Rat) ≤ 10 := by
  rw [← divInt_one]
  refine Nat.le_trans (qs_div _ _) ?_
  have := zl_i64 h0 h1
  have := zl_i64 (x := 1) (by omega) (by omega)
  omega
end Go.Proofs.YtljmgdepldpmdaaDoor.E

set_option linter.unusedSimpArgs false
set_option linter.unusedVariables false
set_option maxHeartbeats 2000000
namespace Go.Proofs.YtljmgdepldpmdaaDoor.E
open Go.RowKit Limbs
/-! ### the lesser and the greater -/
def qmin (p q : Rat) : Rat := if q < p then q else p
def qmax (p q : Rat) : Rat := if q < p then p else q
theorem qmin_le_qmax (p q : Rat) : qmin p q ≤ qmax p q := by unfold qmin qmax; split <;> rename_i h; exact Rat.le_of_lt h; exact Rat.not_lt.1 h
theorem qmin_eq {p q : Rat} (h : p ≤ q) : qmin p q = p := if_neg (Rat.not_lt.2 h)
theorem qmax_eq {p q : Rat} (h : p ≤ q) : qmax p q = q := if_neg (Rat.not_lt.2 h)
theorem qs_min {k : Nat} {p q : Rat} (hp : qs p ≤ k) (hq : qs q ≤ k) : qs (qmin p q) ≤ k := by unfold qmin; split <;> assumption
theorem qs_max {k : Nat} {p q : Rat} (hp : qs p ≤ k) (hq : qs q ≤ k) : qs (qmax p q) ≤ k := by unfold qmax; split <;> assumption
theorem qmin_comm (p q : Rat) : qmin p q = qmin q p := by unfold qmin; split <;> split <;> grind
theorem qmax_comm (p q : Rat) : qmax p q = qmax q p := by unfold qmax; split <;> split <;> grind
theorem qmin_le_l (p q : Rat) : qmin p q ≤ p := by unfold qmin; split <;> grind
theorem qmin_le_r (p q : Rat) : qmin p q ≤ q := by unfold qmin; split <;> grind
theorem qmax_ge_l (p q : Rat) : p ≤ qmax p q := by unfold qmax; split <;> grind
theorem qmax_ge_r (p q : Rat) : q ≤ qmax p q := by unfold qmax; split <;> grind
theorem qmin_or (p q : Rat) : qmin p q = p ∨ qmin p q = q := by unfold qmin; split <;> simp
theorem qmax_or (p q : Rat) : qmax p q = p ∨ qmax p q = q := by unfold qmax; split <;> simp
theorem le_qmin {a p q : Rat} (h : a ≤ p) (h' : a ≤ q) : a ≤ qmin p q := by unfold qmin; split <;> assumption
theorem qmax_le {a p q : Rat} (h : p ≤ a) (h' : q ≤ a) : qmax p q ≤ a := by unfold qmax; split <;> assumption
theorem cmpQ_gt (a b : Rat) : 0 < cmpQ a b ↔ b < a := by
  unfold cmpQ
  by_cases h1 : a < b
  · rw [if_pos h1]; exact ⟨fun h => absurd h (by decide), fun h => absurd (Rat.le_of_lt h) (Rat.not_le.2 h1)⟩
  · rw [if_neg h1]
    by_cases h2 : b < a
    · rw [if_pos h2]; exact ⟨fun _ => h2, fun _ => by decide⟩
    · rw [if_neg h2]; exact ⟨fun h => absurd h (by decide), fun h => absurd h h2⟩
/-! ### widths -/
/-! ### a number in an interval -/
def inI (x y z : Rat) : Prop := qmin x y ≤ z ∧ z ≤ qmax x y
instance (x y z : Rat) : Decidable (inI x y z) := by unfold inI; infer_instance
theorem inI_l (x y : Rat) : inI x y x := ⟨qmin_le_l _ _, qmax_ge_l _ _⟩
theorem inI_r (x y : Rat) : inI x y y := ⟨qmin_le_r _ _, qmax_ge_r _ _⟩
theorem inI_of {p q z : Rat} (h : p ≤ z) (h' : z ≤ q) : inI p q z := by
  have := Rat.le_trans h h'
  unfold inI
  rw [qmin_eq this, qmax_eq this]
  exact ⟨h, h'⟩
theorem inI_iff {p q z : Rat} (hpq : p ≤ q) : inI p q z ↔ p ≤ z ∧ z ≤ q := by
  unfold inI
  rw [qmin_eq hpq, qmax_eq hpq]
/-- the least and the greatest of the four products -/
def m4 (a b c d : Rat) : Rat := qmin (qmin (qmin a b) c) d
def M4 (a b c d : Rat) : Rat := qmax (qmax (qmax a b) c) d
theorem m4_le (a b c d : Rat) : m4 a b c d ≤ a ∧ m4 a b c d ≤ b ∧ m4 a b c d ≤ c ∧ m4 a b c d ≤ d := by
  unfold m4
  have h1 := qmin_le_l a b
  have h2 := qmin_le_r a b
  have h3 := qmin_le_l (qmin a b) c
  have h4 := qmin_le_r (qmin a b) c
  have h5 := qmin_le_l (qmin (qmin a b) c) d
  have h6 := qmin_le_r (qmin (qmin a b) c) d
  grind
theorem M4_ge (a b c d : Rat) : a ≤ M4 a b c d ∧ b ≤ M4 a b c d ∧ c ≤ M4 a b c d ∧ d ≤ M4 a b c d := by
  unfold M4
  have h1 := qmax_ge_l a b
  have h2 := qmax_ge_r a b
  have h3 := qmax_ge_l (qmax a b) c
  have h4 := qmax_ge_r (qmax a b) c
  have h5 := qmax_ge_l (qmax (qmax a b) c) d
  have h6 := qmax_ge_r (qmax (qmax a b) c) d
  grind
theorem m4_le_M4 (a b c d : Rat) : m4 a b c d ≤ M4 a b c d := Rat.le_trans (m4_le a b c d).1 (M4_ge a b c d).1
def mlo (x y u v : Rat) : Rat := m4 (x * u) (x * v) (y * u) (y * v)
def mhi (x y u v : Rat) : Rat := M4 (x * u) (x * v) (y * u) (y * v)
/-! ### an interval in an interval -/
def subI (x y u v : Rat) : Prop := inI u v x ∧ inI u v y
instance (x y u v : Rat) : Decidable (subI x y u v) := by unfold subI; infer_instance
/-! ### between -/
/-! ### the intersection and the hull -/
def ordI (x y u v : Rat) : Int := if qmax x y < qmin u v then -1 else if qmax u v < qmin x y then 1 else 0
theorem ordI_swap (x y u v : Rat) : ordI u v x y = -ordI x y u v := by
  have h1 := qmin_le_qmax x y
  have h2 := qmin_le_qmax u v
  unfold ordI
  by_cases h3 : qmax u v < qmin x y
  · have h4 : ¬ qmax x y < qmin u v := fun h => by grind
    rw [if_pos h3, if_neg h4, if_pos h3]
  · by_cases h4 : qmax x y < qmin u v
    · rw [if_neg h3, if_pos h4, if_pos h4]; rfl
    · rw [if_neg h3, if_neg h4, if_neg h4, if_neg h3]; rfl
def meetLo (x y u v : Rat) : Rat := qmax (qmin x y) (qmin u v)
def meetHi (x y u v : Rat) : Rat := qmin (qmax x y) (qmax u v)
theorem meet_ok (x y u v : Rat) : meetHi x y u v < meetLo x y u v ↔ ¬ ordI x y u v = 0 := by
  have h1 := qmin_le_qmax x y
  have h2 := qmin_le_qmax u v
  unfold meetHi meetLo ordI
  generalize qmin x y = a at *
  generalize qmax x y = b at *
  generalize qmin u v = c at *
  generalize qmax u v = d at *
  by_cases h3 : b < c
  · rw [if_pos h3]
    refine ⟨fun _ => by decide, fun _ => ?_⟩
    have := qmin_le_l b d
    have := qmax_ge_r a c
    grind
  · rw [if_neg h3]
    by_cases h4 : d < a
    · rw [if_pos h4]
      refine ⟨fun _ => by decide, fun _ => ?_⟩
      have := qmin_le_r b d
      have := qmax_ge_l a c
      grind
    · rw [if_neg h4]
      refine ⟨fun h => ?_, fun h => absurd rfl h⟩
      rcases qmin_or b d with e | e <;> rcases qmax_or a c with e' | e' <;> rw [e, e'] at h <;> grind
theorem inI_meet {x y u v z : Rat} (h : ¬ meetHi x y u v < meetLo x y u v) : inI (meetLo x y u v) (meetHi x y u v) z ↔ inI x y z ∧ inI u v z := by
  rw [inI_iff (Rat.not_lt.1 h)]
  unfold meetLo meetHi inI
  constructor
  · intro ⟨h1, h2⟩
    have a1 := qmax_ge_l (qmin x y) (qmin u v)
    have a2 := qmax_ge_r (qmin x y) (qmin u v)
    have a3 := qmin_le_l (qmax x y) (qmax u v)
    have a4 := qmin_le_r (qmax x y) (qmax u v)
    exact ⟨⟨Rat.le_trans a1 h1, Rat.le_trans h2 a3⟩, Rat.le_trans a2 h1, Rat.le_trans h2 a4⟩
  · intro ⟨⟨h1, h2⟩, h3, h4⟩
    exact ⟨qmax_le h1 h3, le_qmin h2 h4⟩
theorem not_meet {x y u v z : Rat} (h : meetHi x y u v < meetLo x y u v) : ¬ (inI x y z ∧ inI u v z) := by
  intro ⟨⟨h1, h2⟩, h3, h4⟩
  have a : meetLo x y u v ≤ z := qmax_le h1 h3
  have b : z ≤ meetHi x y u v := le_qmin h2 h4
  exact absurd (Rat.le_trans a b) (Rat.not_le.2 h)
def hullLo (x y u v : Rat) : Rat := qmin (qmin x y) (qmin u v)
def hullHi (x y u v : Rat) : Rat := qmax (qmax x y) (qmax u v)
theorem inI_hull {x y u v z : Rat} (h : inI x y z ∨ inI u v z) : inI (hullLo x y u v) (hullHi x y u v) z := by
  have a1 := qmin_le_l (qmin x y) (qmin u v)
  have a2 := qmin_le_r (qmin x y) (qmin u v)
  have a3 := qmax_ge_l (qmax x y) (qmax u v)
  have a4 := qmax_ge_r (qmax x y) (qmax u v)
  rcases h with h | h
  · exact inI_of (Rat.le_trans a1 h.1) (Rat.le_trans h.2 a3)
  · exact inI_of (Rat.le_trans a2 h.1) (Rat.le_trans h.2 a4)
theorem subI_hull_l (x y u v : Rat) : subI x y (hullLo x y u v) (hullHi x y u v) := ⟨inI_hull (.inl (inI_l _ _)), inI_hull (.inl (inI_r _ _))⟩
theorem subI_hull_r (x y u v : Rat) : subI u v (hullLo x y u v) (hullHi x y u v) := ⟨inI_hull (.inr (inI_l _ _)), inI_hull (.inr (inI_r _ _))⟩
theorem hullLo_comm (x y u v : Rat) : hullLo x y u v = hullLo u v x y := qmin_comm _ _
theorem hullHi_comm (x y u v : Rat) : hullHi x y u v = hullHi u v x y := qmax_comm _ _
theorem subI_meet_l {x y u v : Rat} (h : ¬ meetHi x y u v < meetLo x y u v) : subI (meetLo x y u v) (meetHi x y u v) x y := ⟨((inI_meet h).1 (inI_l _ _)).1, ((inI_meet h).1 (inI_r _ _)).1⟩
theorem subI_meet_r {x y u v : Rat} (h : ¬ meetHi x y u v < meetLo x y u v) : subI (meetLo x y u v) (meetHi x y u v) u v := ⟨((inI_meet h).1 (inI_l _ _)).2, ((inI_meet h).1 (inI_r _ _)).2⟩
end Go.Proofs.YtljmgdepldpmdaaDoor.E

set_option linter.unusedSimpArgs false
set_option linter.unusedVariables false
set_option maxHeartbeats 2000000
namespace Go.Proofs.YtljmgdepldpmdaaDoor.E
open Go.RowKit Limbs
/-! ### numbers as they were handed over -/
structure RR where
  n : Bool
  m : List Int
  d : List Int
def rC (x : RR) : List Dt := [.lit (.bool x.n), natD x.m, natD x.d]
def RR.q (x : RR) : Rat := rv x.n x.m x.d
structure rok (k : Nat) (x : RR) : Prop where
  m : Lim x.m
  d : Lim x.d
  lm : x.m.length ≤ k
  ld : x.d.length ≤ k
theorem rok.mono {a b : Nat} {x : RR} (h : rok a x) (hab : a ≤ b) : rok b x := ⟨h.m, h.d, Nat.le_trans h.lm hab, Nat.le_trans h.ld hab⟩
/-- a number in lowest terms -/
def nr (q : Rat) : RR := ⟨decide (q.num < 0), nl q.num.natAbs, nl q.den⟩
theorem rC_nr (q : Rat) : rC (nr q) = ratC q := rfl
theorem nr_q (q : Rat) : (nr q).q = q := rv_ratC q
theorem rok_nr {k : Nat} {q : Rat} (h : qs q ≤ k) : rok k (nr q) := ⟨nl_lim _, nl_lim _, Nat.le_trans (qs_num q) h, Nat.le_trans (qs_den q) h⟩
theorem qs_rr {k : Nat} {x : RR} (h : rok k x) : qs x.q ≤ k + 1 := by
  have := qs_rv x.n h.m h.d
  have := h.lm
  have := h.ld
  unfold RR.q
  omega
section
variable {x y : RR} (hx : rok 68719476600 x) (hy : rok 68719476600 y)
include hx hy
theorem R_Cmp : AFun Tryd.prog 23 [.agg (rC x), .agg (rC y)] [.one (.lit (.int .i64 (cmpQ x.q y.q)))] := by
  obtain ⟨h1, h2, h3, h4⟩ := hx
  obtain ⟨k1, k2, k3, k4⟩ := hy
  exact rat_Cmp x.n x.m x.d y.n y.m y.d h1 h2 k1 k2 (by omega) (by omega) (by omega) (by omega)
theorem R_Sub : AFun Tryd.prog 16 [.agg (rC x), .agg (rC y)] [.agg (ratC (x.q - y.q))] := by
  obtain ⟨h1, h2, h3, h4⟩ := hx
  obtain ⟨k1, k2, k3, k4⟩ := hy
  exact rat_Sub x.n x.m x.d y.n y.m y.d h1 h2 k1 k2 (by omega) (by omega) (by omega) (by omega)
theorem R_Mul : AFun Tryd.prog 18 [.agg (rC x), .agg (rC y)] [.agg (ratC (x.q * y.q))] := by
  obtain ⟨h1, h2, h3, h4⟩ := hx
  obtain ⟨k1, k2, k3, k4⟩ := hy
  exact rat_Mul x.n x.m x.d y.n y.m y.d h1 h2 k1 k2 (by omega) (by omega) (by omega) (by omega)
omit hy
theorem R_Norm : AFun Tryd.prog 57 [.agg (rC x)] [.agg (ratC x.q)] := by
  obtain ⟨h1, h2, h3, h4⟩ := hx
  exact rat_Norm x.n x.m x.d h1 h2 (by omega) (by omega)
end
/-! ### the lesser and the greater -/
def elo (x y : RR) : RR := if y.q < x.q then y else x
def ehi (x y : RR) : RR := if y.q < x.q then x else y
theorem elo_q (x y : RR) : (elo x y).q = qmin x.q y.q := by unfold elo qmin; split <;> rfl
theorem ehi_q (x y : RR) : (ehi x y).q = qmax x.q y.q := by unfold ehi qmax; split <;> rfl
theorem rok_elo {k : Nat} {x y : RR} (hx : rok k x) (hy : rok k y) : rok k (elo x y) := by unfold elo; split; exact hy; exact hx
theorem rok_ehi {k : Nat} {x y : RR} (hx : rok k x) (hy : rok k y) : rok k (ehi x y) := by unfold ehi; split; exact hx; exact hy
def sQ (p q : Rat) : List Dt := ratC p ++ ratC q
/-- examboard/span.ends -/
def b45 : AF := ⟨18, 1, [.cell 2 27, .cell 3 27],
  (.seq (.reg [
    ⟨some 1, .box 29 (.tmp 0), none⟩,
    ⟨some 2, .alloc 27, none⟩,
    ⟨some 3, .alloc 27, none⟩])
  (.seq (.seq (.reg [
    ⟨some 4, .fieldAddr 29 (.tmp 1) 0, none⟩,
    ⟨some 5, .load 27 (.tmp 4), none⟩,
    ⟨some 6, .fieldAddr 29 (.tmp 1) 1, none⟩,
    ⟨some 7, .load 27 (.tmp 6), none⟩,
    ⟨some 8, .call ⟨(.value (.func 23)), #[(.tmp 5), (.tmp 7)], #[27, 27]⟩, none⟩,
    ⟨some 9, .binOp .gtr 3 (.tmp 8) (.const (.int .i64 0)) 3, none⟩])
  (.cond (.tmp 9)
    (.seq (.xreg (.br ⟨some 10, .fieldAddr 29 (.tmp 1) 1, none⟩ (.br ⟨some 11, .load 27 (.tmp 10), none⟩ (.br ⟨some 12, .fieldAddr 29 (.tmp 1) 0, none⟩ (.br ⟨some 13, .load 27 (.tmp 12), none⟩ (.br ⟨none, .store 27 (.tmp 2) (.tmp 11), none⟩ (.br ⟨none, .store 27 (.tmp 3) (.tmp 13), none⟩ .leaf
 .nil)
 .nil)
 (.br ⟨none, .store 27 (.tmp 2) (.tmp 11), none⟩ (.br ⟨some 13, .load 27 (.tmp 12), none⟩ (.br ⟨none, .store 27 (.tmp 3) (.tmp 13), none⟩ .leaf
 .nil)
 .nil)
 .nil))
 (.br ⟨none, .store 27 (.tmp 2) (.tmp 11), none⟩ (.br ⟨some 12, .fieldAddr 29 (.tmp 1) 0, none⟩ (.br ⟨some 13, .load 27 (.tmp 12), none⟩ (.br ⟨none, .store 27 (.tmp 3) (.tmp 13), none⟩ .leaf
 .nil)
 .nil)
 .nil)
 .nil))
 .nil)
 .nil))
    .ret)
    .skip))
  (.seq (.xreg (.br ⟨some 14, .fieldAddr 29 (.tmp 1) 0, none⟩ (.br ⟨some 15, .load 27 (.tmp 14), none⟩ (.br ⟨some 16, .fieldAddr 29 (.tmp 1) 1, none⟩ (.br ⟨some 17, .load 27 (.tmp 16), none⟩ (.br ⟨none, .store 27 (.tmp 2) (.tmp 15), none⟩ (.br ⟨none, .store 27 (.tmp 3) (.tmp 17), none⟩ .leaf
 .nil)
 .nil)
 (.br ⟨none, .store 27 (.tmp 2) (.tmp 15), none⟩ (.br ⟨some 17, .load 27 (.tmp 16), none⟩ (.br ⟨none, .store 27 (.tmp 3) (.tmp 17), none⟩ .leaf
 .nil)
 .nil)
 .nil))
 (.br ⟨none, .store 27 (.tmp 2) (.tmp 15), none⟩ (.br ⟨some 16, .fieldAddr 29 (.tmp 1) 1, none⟩ (.br ⟨some 17, .load 27 (.tmp 16), none⟩ (.br ⟨none, .store 27 (.tmp 3) (.tmp 17), none⟩ .leaf
 .nil)
 .nil)
 .nil)
 .nil))
 .nil)
 .nil))
  .ret)))⟩
theorem c45 : fcomp Tryd.prog 45 = ⟨b45.n, b45.np, b45.res, b45.body.bare⟩ := by kernel_rfl
theorem k45 : fok Tryd.prog 45 = true := by kernel_rfl
/-- examboard/span.Of -/
def b28 : AF := ⟨19, 2, [.cell 4 29],
  (.seq (.reg [
    ⟨some 2, .box 27 (.tmp 0), none⟩,
    ⟨some 3, .box 27 (.tmp 1), none⟩,
    ⟨some 4, .alloc 29, none⟩])
  (.seq (.reg [
    ⟨some 8, .load 27 (.tmp 2), none⟩,
    ⟨some 9, .load 27 (.tmp 3), none⟩,
    ⟨some 10, .build 29 #[(0, (.tmp 8)), (1, (.tmp 9))], none⟩,
    ⟨some 11, .call ⟨(.value (.func 45)), #[(.tmp 10)], #[29]⟩, none⟩,
    ⟨some 7, .move (.tmp 11), none⟩,
    ⟨some 12, .extract (.tmp 7) 0, none⟩,
    ⟨some 13, .extract (.tmp 7) 1, none⟩,
    ⟨some 5, .alloc 27, none⟩,
    ⟨some 6, .alloc 27, none⟩,
    ⟨none, .store 27 (.tmp 5) (.tmp 12), none⟩,
    ⟨none, .store 27 (.tmp 6) (.tmp 13), none⟩])
  (.seq (.dreg [
    ⟨some 14, .load 27 (.tmp 5), none⟩,
    ⟨some 15, .call ⟨(.value (.func 57)), #[(.tmp 14)], #[27]⟩, none⟩,
    ⟨some 16, .load 27 (.tmp 6), none⟩,
    ⟨some 17, .call ⟨(.value (.func 57)), #[(.tmp 16)], #[27]⟩, none⟩,
    ⟨some 18, .build 29 #[(0, (.tmp 15)), (1, (.tmp 17))], none⟩,
    ⟨none, .store 29 (.tmp 4) (.tmp 18), none⟩])
  .ret)))⟩
theorem c28 : fcomp Tryd.prog 28 = ⟨b28.n, b28.np, b28.res, b28.body.bare⟩ := by kernel_rfl
theorem k28 : fok Tryd.prog 28 = true := by kernel_rfl
/-- examboard/span.Order -/
def b30 : AF := ⟨29, 2, [.tmp 4],
  (.seq (.reg [
    ⟨some 2, .box 29 (.tmp 0), none⟩,
    ⟨some 3, .box 29 (.tmp 1), none⟩,
    ⟨some 4, .assign (.const (.int .i64 0)), none⟩])
  (.seq (.reg [
    ⟨some 10, .load 29 (.tmp 2), none⟩,
    ⟨some 11, .call ⟨(.value (.func 45)), #[(.tmp 10)], #[29]⟩, none⟩,
    ⟨some 9, .move (.tmp 11), none⟩,
    ⟨some 12, .extract (.tmp 9) 0, none⟩,
    ⟨some 13, .extract (.tmp 9) 1, none⟩,
    ⟨some 5, .alloc 27, none⟩,
    ⟨some 6, .alloc 27, none⟩,
    ⟨none, .store 27 (.tmp 5) (.tmp 12), none⟩,
    ⟨none, .store 27 (.tmp 6) (.tmp 13), none⟩])
  (.seq (.reg [
    ⟨some 15, .load 29 (.tmp 3), none⟩,
    ⟨some 16, .call ⟨(.value (.func 45)), #[(.tmp 15)], #[29]⟩, none⟩,
    ⟨some 14, .move (.tmp 16), none⟩,
    ⟨some 17, .extract (.tmp 14) 0, none⟩,
    ⟨some 18, .extract (.tmp 14) 1, none⟩,
    ⟨some 7, .alloc 27, none⟩,
    ⟨some 8, .alloc 27, none⟩,
    ⟨none, .store 27 (.tmp 7) (.tmp 17), none⟩,
    ⟨none, .store 27 (.tmp 8) (.tmp 18), none⟩])
  (.seq (.block 0 (.seq (.reg [
    ⟨some 20, .load 27 (.tmp 6), none⟩,
    ⟨some 21, .load 27 (.tmp 7), none⟩,
    ⟨some 22, .call ⟨(.value (.func 23)), #[(.tmp 20), (.tmp 21)], #[27, 27]⟩, none⟩,
    ⟨some 23, .binOp .lss 3 (.tmp 22) (.const (.int .i64 0)) 3, none⟩,
    ⟨some 19, .assign (.tmp 23), none⟩])
  (.cond (.tmp 19)
    (.seq (.reg [
      ⟨some 4, .assign (.const (.int .i64 (-1))), none⟩])
    .ret)
    (.seq (.reg [
      ⟨some 25, .load 27 (.tmp 5), none⟩,
      ⟨some 26, .load 27 (.tmp 8), none⟩,
      ⟨some 27, .call ⟨(.value (.func 23)), #[(.tmp 25), (.tmp 26)], #[27, 27]⟩, none⟩,
      ⟨some 28, .binOp .gtr 3 (.tmp 27) (.const (.int .i64 0)) 3, none⟩,
      ⟨some 24, .assign (.tmp 28), none⟩])
    (.cond (.tmp 24)
      (.seq (.reg [
        ⟨some 4, .assign (.const (.int .i64 1)), none⟩])
      .ret)
      .skip)))))
  (.seq (.reg [
    ⟨some 4, .assign (.const (.int .i64 0)), none⟩])
  .ret)))))⟩
theorem c30 : fcomp Tryd.prog 30 = ⟨b30.n, b30.np, b30.res, b30.body.bare⟩ := by kernel_rfl
theorem k30 : fok Tryd.prog 30 = true := by kernel_rfl
/-- examboard/span.Has -/
def b12 : AF := ⟨22, 2, [.tmp 4],
  (.seq (.reg [
    ⟨some 2, .box 29 (.tmp 0), none⟩,
    ⟨some 3, .box 27 (.tmp 1), none⟩,
    ⟨some 4, .assign (.const (.bool false)), none⟩])
  (.seq (.reg [
    ⟨some 8, .load 29 (.tmp 2), none⟩,
    ⟨some 9, .call ⟨(.value (.func 45)), #[(.tmp 8)], #[29]⟩, none⟩,
    ⟨some 7, .move (.tmp 9), none⟩,
    ⟨some 10, .extract (.tmp 7) 0, none⟩,
    ⟨some 11, .extract (.tmp 7) 1, none⟩,
    ⟨some 5, .alloc 27, none⟩,
    ⟨some 6, .alloc 27, none⟩,
    ⟨none, .store 27 (.tmp 5) (.tmp 10), none⟩,
    ⟨none, .store 27 (.tmp 6) (.tmp 11), none⟩])
  (.seq (.reg [
    ⟨some 12, .load 27 (.tmp 5), none⟩,
    ⟨some 13, .load 27 (.tmp 3), none⟩,
    ⟨some 14, .call ⟨(.value (.func 23)), #[(.tmp 12), (.tmp 13)], #[27, 27]⟩, none⟩,
    ⟨some 15, .binOp .leq 3 (.tmp 14) (.const (.int .i64 0)) 3, none⟩,
    ⟨some 16, .move (.tmp 15), none⟩,
    ⟨some 17, .load 27 (.tmp 3), some (16, true)⟩,
    ⟨some 18, .load 27 (.tmp 6), some (16, true)⟩,
    ⟨some 19, .call ⟨(.value (.func 23)), #[(.tmp 17), (.tmp 18)], #[27, 27]⟩, some (16, true)⟩,
    ⟨some 20, .binOp .leq 3 (.tmp 19) (.const (.int .i64 0)) 3, some (16, true)⟩,
    ⟨some 21, .pick (.tmp 16) (.tmp 20) (.const (.bool false)), none⟩,
    ⟨some 4, .assign (.tmp 21), none⟩])
  .ret)))⟩
theorem c12 : fcomp Tryd.prog 12 = ⟨b12.n, b12.np, b12.res, b12.body.bare⟩ := by kernel_rfl
theorem k12 : fok Tryd.prog 12 = true := by kernel_rfl
/-- examboard/span.Within -/
def b26 : AF := ⟨15, 2, [.tmp 4],
  (.seq (.reg [
    ⟨some 2, .box 29 (.tmp 0), none⟩,
    ⟨some 3, .box 29 (.tmp 1), none⟩,
    ⟨some 4, .assign (.const (.bool false)), none⟩])
  (.seq (.reg [
    ⟨some 5, .load 29 (.tmp 3), none⟩,
    ⟨some 6, .fieldAddr 29 (.tmp 2) 0, none⟩,
    ⟨some 7, .load 27 (.tmp 6), none⟩,
    ⟨some 8, .call ⟨(.value (.func 12)), #[(.tmp 5), (.tmp 7)], #[29, 27]⟩, none⟩,
    ⟨some 9, .move (.tmp 8), none⟩,
    ⟨some 10, .load 29 (.tmp 3), some (9, true)⟩,
    ⟨some 11, .fieldAddr 29 (.tmp 2) 1, some (9, true)⟩,
    ⟨some 12, .load 27 (.tmp 11), some (9, true)⟩,
    ⟨some 13, .call ⟨(.value (.func 12)), #[(.tmp 10), (.tmp 12)], #[29, 27]⟩, some (9, true)⟩,
    ⟨some 14, .pick (.tmp 9) (.tmp 13) (.const (.bool false)), none⟩,
    ⟨some 4, .assign (.tmp 14), none⟩])
  .ret))⟩
theorem c26 : fcomp Tryd.prog 26 = ⟨b26.n, b26.np, b26.res, b26.body.bare⟩ := by kernel_rfl
theorem k26 : fok Tryd.prog 26 = true := by kernel_rfl
/-- examboard/span.Width -/
def b21 : AF := ⟨9, 1, [.cell 2 27],
  (.seq (.reg [
    ⟨some 1, .box 29 (.tmp 0), none⟩,
    ⟨some 2, .alloc 27, none⟩])
  (.seq (.reg [
    ⟨some 3, .fieldAddr 29 (.tmp 1) 1, none⟩,
    ⟨some 4, .load 27 (.tmp 3), none⟩,
    ⟨some 5, .fieldAddr 29 (.tmp 1) 0, none⟩,
    ⟨some 6, .load 27 (.tmp 5), none⟩,
    ⟨some 7, .call ⟨(.value (.func 16)), #[(.tmp 4), (.tmp 6)], #[27, 27]⟩, none⟩,
    ⟨some 8, .call ⟨(.value (.func 25)), #[(.tmp 7)], #[27]⟩, none⟩,
    ⟨none, .store 27 (.tmp 2) (.tmp 8), none⟩])
  .ret))⟩
theorem c21 : fcomp Tryd.prog 21 = ⟨b21.n, b21.np, b21.res, b21.body.bare⟩ := by kernel_rfl
theorem k21 : fok Tryd.prog 21 = true := by kernel_rfl
section
variable {x y : RR} (hx : rok 68719476600 x) (hy : rok 68719476600 y)
include hx hy
theorem S_ends : AFun Tryd.prog 45 [.agg (rC x ++ rC y)] [.agg (rC (elo x y)), .agg (rC (ehi x y))] := by
  refine afun_intro mo_ _ _ c45 k45 _ _ rfl (by decide) ?_
  unfold b45
  have cc := R_Cmp hx hy
  have hg := cmpQ_gt x.q y.q
  unfold elo ehi
  simp (maxSteps:=1000000) (disch:=first | omega | (simp only [LL];omega)) only [W,V,TY,CC,reduceIte,Nat.reduceEqDiff,Nat.reduceAdd,Nat.reduceLeDiff,Nat.reduceLT,Int.reduceLE,Int.reduceLT,Int.reduceAdd,Int.reduceSub,Int.reduceToNat,Nat.reduceMul,rC]
  refine a_call _ _ cc (by simp (maxSteps:=1000000) (disch:=first | omega | (simp only [LL];omega)) only [W,V,TY,CC,reduceIte,Nat.reduceEqDiff,Nat.reduceAdd,Nat.reduceLeDiff,Nat.reduceLT,Int.reduceLE,Int.reduceLT,Int.reduceAdd,Int.reduceSub,Int.reduceToNat,Nat.reduceMul,rC]) ?_
  simp (maxSteps:=1000000) (disch:=first | omega | (simp only [LL];omega)) only [W,V,TY,CC,reduceIte,Nat.reduceEqDiff,Nat.reduceAdd,Nat.reduceLeDiff,Nat.reduceLT,Int.reduceLE,Int.reduceLT,Int.reduceAdd,Int.reduceSub,Int.reduceToNat,Nat.reduceMul]
  refine c_split (fun h => ?_) (fun h => ?_)
  · rw [if_pos (hg.1 h), if_pos (hg.1 h)]
    simp (maxSteps:=1000000) (disch:=first | omega | (simp only [LL];omega)) only [W,V,TY,CC,reduceIte,Nat.reduceEqDiff,Nat.reduceAdd,Nat.reduceLeDiff,Nat.reduceLT,Int.reduceLE,Int.reduceLT,Int.reduceAdd,Int.reduceSub,Int.reduceToNat,Nat.reduceMul]
    repeat' apply And.intro
    all_goals
      refine f_ret _ _ _ ?_
      simp (maxSteps:=1000000) (disch:=first | omega | (simp only [LL];omega)) only [W,V,TY,CC,reduceIte,Nat.reduceEqDiff,Nat.reduceAdd,Nat.reduceLeDiff,Nat.reduceLT,Int.reduceLE,Int.reduceLT,Int.reduceAdd,Int.reduceSub,Int.reduceToNat,Nat.reduceMul]
  · rw [if_neg (fun e => h (hg.2 e)), if_neg (fun e => h (hg.2 e))]
    simp (maxSteps:=1000000) (disch:=first | omega | (simp only [LL];omega)) only [W,V,TY,CC,reduceIte,Nat.reduceEqDiff,Nat.reduceAdd,Nat.reduceLeDiff,Nat.reduceLT,Int.reduceLE,Int.reduceLT,Int.reduceAdd,Int.reduceSub,Int.reduceToNat,Nat.reduceMul]
    repeat' apply And.intro
    all_goals
      refine f_ret _ _ _ ?_
      simp (maxSteps:=1000000) (disch:=first | omega | (simp only [LL];omega)) only [W,V,TY,CC,reduceIte,Nat.reduceEqDiff,Nat.reduceAdd,Nat.reduceLeDiff,Nat.reduceLT,Int.reduceLE,Int.reduceLT,Int.reduceAdd,Int.reduceSub,Int.reduceToNat,Nat.reduceMul]
theorem S_Of : AFun Tryd.prog 28 [.agg (rC x), .agg (rC y)] [.agg (sQ (qmin x.q y.q) (qmax x.q y.q))] := by
  refine afun_intro mo_ _ _ c28 k28 _ _ rfl (by decide) ?_
  unfold b28
  have c0 := S_ends hx hy
  have c1 := R_Norm (rok_elo hx hy)
  have c2 := R_Norm (rok_ehi hx hy)
  rw [elo_q] at c1
  rw [ehi_q] at c2
  simp (maxSteps:=1000000) (disch:=first | omega | (simp only [LL];omega)) only [W,V,TY,CC,reduceIte,Nat.reduceEqDiff,Nat.reduceAdd,Nat.reduceLeDiff,Nat.reduceLT,Int.reduceLE,Int.reduceLT,Int.reduceAdd,Int.reduceSub,Int.reduceToNat,Nat.reduceMul,rC,sQ]
  refine a_call _ _ c0 (by simp (maxSteps:=1000000) (disch:=first | omega | (simp only [LL];omega)) only [W,V,TY,CC,reduceIte,Nat.reduceEqDiff,Nat.reduceAdd,Nat.reduceLeDiff,Nat.reduceLT,Int.reduceLE,Int.reduceLT,Int.reduceAdd,Int.reduceSub,Int.reduceToNat,Nat.reduceMul,rC]) ?_
  simp (maxSteps:=1000000) (disch:=first | omega | (simp only [LL];omega)) only [W,V,TY,CC,reduceIte,Nat.reduceEqDiff,Nat.reduceAdd,Nat.reduceLeDiff,Nat.reduceLT,Int.reduceLE,Int.reduceLT,Int.reduceAdd,Int.reduceSub,Int.reduceToNat,Nat.reduceMul,rC]
  refine a_call _ _ c1 (by simp (maxSteps:=1000000) (disch:=first | omega | (simp only [LL];omega)) only [W,V,TY,CC,reduceIte,Nat.reduceEqDiff,Nat.reduceAdd,Nat.reduceLeDiff,Nat.reduceLT,Int.reduceLE,Int.reduceLT,Int.reduceAdd,Int.reduceSub,Int.reduceToNat,Nat.reduceMul,rC]) ?_
  simp (maxSteps:=1000000) (disch:=first | omega | (simp only [LL];omega)) only [W,V,TY,CC,reduceIte,Nat.reduceEqDiff,Nat.reduceAdd,Nat.reduceLeDiff,Nat.reduceLT,Int.reduceLE,Int.reduceLT,Int.reduceAdd,Int.reduceSub,Int.reduceToNat,Nat.reduceMul,ratC]
  refine a_call _ _ c2 (by simp (maxSteps:=1000000) (disch:=first | omega | (simp only [LL];omega)) only [W,V,TY,CC,reduceIte,Nat.reduceEqDiff,Nat.reduceAdd,Nat.reduceLeDiff,Nat.reduceLT,Int.reduceLE,Int.reduceLT,Int.reduceAdd,Int.reduceSub,Int.reduceToNat,Nat.reduceMul,rC]) ?_
  simp (maxSteps:=1000000) (disch:=first | omega | (simp only [LL];omega)) only [W,V,TY,CC,reduceIte,Nat.reduceEqDiff,Nat.reduceAdd,Nat.reduceLeDiff,Nat.reduceLT,Int.reduceLE,Int.reduceLT,Int.reduceAdd,Int.reduceSub,Int.reduceToNat,Nat.reduceMul,ratC]
  refine f_ret _ _ _ ?_
  simp (maxSteps:=1000000) (disch:=first | omega | (simp only [LL];omega)) only [W,V,TY,CC,reduceIte,Nat.reduceEqDiff,Nat.reduceAdd,Nat.reduceLeDiff,Nat.reduceLT,Int.reduceLE,Int.reduceLT,Int.reduceAdd,Int.reduceSub,Int.reduceToNat,Nat.reduceMul,ratC]
end
theorem S_Of2 {p q : Rat} (hp : qs p ≤ 68719476600) (hq : qs q ≤ 68719476600) : AFun Tryd.prog 28 [.agg (ratC p), .agg (ratC q)] [.agg (sQ (qmin p q) (qmax p q))] := by
  have := S_Of (rok_nr hp) (rok_nr hq)
  rwa [nr_q, nr_q] at this
section
variable {x y u v : RR} (hx : rok 68719476600 x) (hy : rok 68719476600 y) (hu : rok 68719476600 u) (hv : rok 68719476600 v)
include hx hy hu hv
theorem S_Order : AFun Tryd.prog 30 [.agg (rC x ++ rC y), .agg (rC u ++ rC v)] [.one (.lit (.int .i64 (ordI x.q y.q u.q v.q)))] := by
  unfold ordI
  refine afun_intro mo_ _ _ c30 k30 _ _ rfl (by decide) ?_
  unfold b30
  have c0 := S_ends hx hy
  have c1 := S_ends hu hv
  have c2 := R_Cmp (rok_ehi hx hy) (rok_elo hu hv)
  have c3 := R_Cmp (rok_elo hx hy) (rok_ehi hu hv)
  rw [elo_q, ehi_q] at c2
  rw [ehi_q, elo_q] at c3
  have g2 := cmpQ_lt (qmax x.q y.q) (qmin u.q v.q)
  have g3 := cmpQ_gt (qmin x.q y.q) (qmax u.q v.q)
  simp (maxSteps:=1000000) (disch:=first | omega | (simp only [LL];omega)) only [W,V,TY,CC,reduceIte,Nat.reduceEqDiff,Nat.reduceAdd,Nat.reduceLeDiff,Nat.reduceLT,Int.reduceLE,Int.reduceLT,Int.reduceAdd,Int.reduceSub,Int.reduceToNat,Nat.reduceMul,rC]
  refine a_call _ _ c0 (by simp (maxSteps:=1000000) (disch:=first | omega | (simp only [LL];omega)) only [W,V,TY,CC,reduceIte,Nat.reduceEqDiff,Nat.reduceAdd,Nat.reduceLeDiff,Nat.reduceLT,Int.reduceLE,Int.reduceLT,Int.reduceAdd,Int.reduceSub,Int.reduceToNat,Nat.reduceMul,rC]) ?_
  simp (maxSteps:=1000000) (disch:=first | omega | (simp only [LL];omega)) only [W,V,TY,CC,reduceIte,Nat.reduceEqDiff,Nat.reduceAdd,Nat.reduceLeDiff,Nat.reduceLT,Int.reduceLE,Int.reduceLT,Int.reduceAdd,Int.reduceSub,Int.reduceToNat,Nat.reduceMul,rC]
  refine a_call _ _ c1 (by simp (maxSteps:=1000000) (disch:=first | omega | (simp only [LL];omega)) only [W,V,TY,CC,reduceIte,Nat.reduceEqDiff,Nat.reduceAdd,Nat.reduceLeDiff,Nat.reduceLT,Int.reduceLE,Int.reduceLT,Int.reduceAdd,Int.reduceSub,Int.reduceToNat,Nat.reduceMul,rC]) ?_
  simp (maxSteps:=1000000) (disch:=first | omega | (simp only [LL];omega)) only [W,V,TY,CC,reduceIte,Nat.reduceEqDiff,Nat.reduceAdd,Nat.reduceLeDiff,Nat.reduceLT,Int.reduceLE,Int.reduceLT,Int.reduceAdd,Int.reduceSub,Int.reduceToNat,Nat.reduceMul,rC]
  refine a_call _ _ c2 (by simp (maxSteps:=1000000) (disch:=first | omega | (simp only [LL];omega)) only [W,V,TY,CC,reduceIte,Nat.reduceEqDiff,Nat.reduceAdd,Nat.reduceLeDiff,Nat.reduceLT,Int.reduceLE,Int.reduceLT,Int.reduceAdd,Int.reduceSub,Int.reduceToNat,Nat.reduceMul,rC]) ?_
  simp (maxSteps:=1000000) (disch:=first | omega | (simp only [LL];omega)) only [W,V,TY,CC,reduceIte,Nat.reduceEqDiff,Nat.reduceAdd,Nat.reduceLeDiff,Nat.reduceLT,Int.reduceLE,Int.reduceLT,Int.reduceAdd,Int.reduceSub,Int.reduceToNat,Nat.reduceMul]
  refine c_split (fun h => ?_) (fun h => ?_)
  · rw [if_pos (g2.1 h)]
    simp (maxSteps:=1000000) (disch:=first | omega | (simp only [LL];omega)) only [W,V,TY,CC,reduceIte,Nat.reduceEqDiff,Nat.reduceAdd,Nat.reduceLeDiff,Nat.reduceLT,Int.reduceLE,Int.reduceLT,Int.reduceAdd,Int.reduceSub,Int.reduceToNat,Nat.reduceMul]
    refine f_ret _ _ _ ?_
    simp (maxSteps:=1000000) (disch:=first | omega | (simp only [LL];omega)) only [W,V,TY,CC,reduceIte,Nat.reduceEqDiff,Nat.reduceAdd,Nat.reduceLeDiff,Nat.reduceLT,Int.reduceLE,Int.reduceLT,Int.reduceAdd,Int.reduceSub,Int.reduceToNat,Nat.reduceMul]
  · rw [if_neg (fun e => h (g2.2 e))]
    simp (maxSteps:=1000000) (disch:=first | omega | (simp only [LL];omega)) only [W,V,TY,CC,reduceIte,Nat.reduceEqDiff,Nat.reduceAdd,Nat.reduceLeDiff,Nat.reduceLT,Int.reduceLE,Int.reduceLT,Int.reduceAdd,Int.reduceSub,Int.reduceToNat,Nat.reduceMul]
    refine a_call _ _ c3 (by simp (maxSteps:=1000000) (disch:=first | omega | (simp only [LL];omega)) only [W,V,TY,CC,reduceIte,Nat.reduceEqDiff,Nat.reduceAdd,Nat.reduceLeDiff,Nat.reduceLT,Int.reduceLE,Int.reduceLT,Int.reduceAdd,Int.reduceSub,Int.reduceToNat,Nat.reduceMul,rC]) ?_
    simp (maxSteps:=1000000) (disch:=first | omega | (simp only [LL];omega)) only [W,V,TY,CC,reduceIte,Nat.reduceEqDiff,Nat.reduceAdd,Nat.reduceLeDiff,Nat.reduceLT,Int.reduceLE,Int.reduceLT,Int.reduceAdd,Int.reduceSub,Int.reduceToNat,Nat.reduceMul]
    refine c_split (fun h' => ?_) (fun h' => ?_)
    · rw [if_pos (g3.1 h')]
      simp (maxSteps:=1000000) (disch:=first | omega | (simp only [LL];omega)) only [W,V,TY,CC,reduceIte,Nat.reduceEqDiff,Nat.reduceAdd,Nat.reduceLeDiff,Nat.reduceLT,Int.reduceLE,Int.reduceLT,Int.reduceAdd,Int.reduceSub,Int.reduceToNat,Nat.reduceMul]
      refine f_ret _ _ _ ?_
      simp (maxSteps:=1000000) (disch:=first | omega | (simp only [LL];omega)) only [W,V,TY,CC,reduceIte,Nat.reduceEqDiff,Nat.reduceAdd,Nat.reduceLeDiff,Nat.reduceLT,Int.reduceLE,Int.reduceLT,Int.reduceAdd,Int.reduceSub,Int.reduceToNat,Nat.reduceMul]
    · rw [if_neg (fun e => h' (g3.2 e))]
      simp (maxSteps:=1000000) (disch:=first | omega | (simp only [LL];omega)) only [W,V,TY,CC,reduceIte,Nat.reduceEqDiff,Nat.reduceAdd,Nat.reduceLeDiff,Nat.reduceLT,Int.reduceLE,Int.reduceLT,Int.reduceAdd,Int.reduceSub,Int.reduceToNat,Nat.reduceMul]
      refine f_ret _ _ _ ?_
      simp (maxSteps:=1000000) (disch:=first | omega | (simp only [LL];omega)) only [W,V,TY,CC,reduceIte,Nat.reduceEqDiff,Nat.reduceAdd,Nat.reduceLeDiff,Nat.reduceLT,Int.reduceLE,Int.reduceLT,Int.reduceAdd,Int.reduceSub,Int.reduceToNat,Nat.reduceMul]
end
section
variable {x y u v : RR} (hx : rok 68719476600 x) (hy : rok 68719476600 y) (hu : rok 68719476600 u) (hv : rok 68719476600 v)
include hx hy hu
theorem S_Has : AFun Tryd.prog 12 [.agg (rC x ++ rC y), .agg (rC u)] [.one (.lit (.bool (decide (inI x.q y.q u.q))))] := by
  refine afun_intro mo_ _ _ c12 k12 _ _ rfl (by decide) ?_
  unfold b12
  have c0 := S_ends hx hy
  have c2 := R_Cmp (rok_elo hx hy) hu
  have c3 := R_Cmp hu (rok_ehi hx hy)
  rw [elo_q] at c2
  rw [ehi_q] at c3
  have g2 := cmpQ_le (qmin x.q y.q) u.q
  have g3 := cmpQ_le u.q (qmax x.q y.q)
  simp (maxSteps:=1000000) (disch:=first | omega | (simp only [LL];omega)) only [W,V,TY,CC,reduceIte,Nat.reduceEqDiff,Nat.reduceAdd,Nat.reduceLeDiff,Nat.reduceLT,Int.reduceLE,Int.reduceLT,Int.reduceAdd,Int.reduceSub,Int.reduceToNat,Nat.reduceMul,rC]
  refine a_call _ _ c0 (by simp (maxSteps:=1000000) (disch:=first | omega | (simp only [LL];omega)) only [W,V,TY,CC,reduceIte,Nat.reduceEqDiff,Nat.reduceAdd,Nat.reduceLeDiff,Nat.reduceLT,Int.reduceLE,Int.reduceLT,Int.reduceAdd,Int.reduceSub,Int.reduceToNat,Nat.reduceMul,rC]) ?_
  simp (maxSteps:=1000000) (disch:=first | omega | (simp only [LL];omega)) only [W,V,TY,CC,reduceIte,Nat.reduceEqDiff,Nat.reduceAdd,Nat.reduceLeDiff,Nat.reduceLT,Int.reduceLE,Int.reduceLT,Int.reduceAdd,Int.reduceSub,Int.reduceToNat,Nat.reduceMul,rC]
  refine a_call _ _ c2 (by simp (maxSteps:=1000000) (disch:=first | omega | (simp only [LL];omega)) only [W,V,TY,CC,reduceIte,Nat.reduceEqDiff,Nat.reduceAdd,Nat.reduceLeDiff,Nat.reduceLT,Int.reduceLE,Int.reduceLT,Int.reduceAdd,Int.reduceSub,Int.reduceToNat,Nat.reduceMul,rC]) ?_
  simp (maxSteps:=1000000) (disch:=first | omega | (simp only [LL];omega)) only [W,V,TY,CC,reduceIte,Nat.reduceEqDiff,Nat.reduceAdd,Nat.reduceLeDiff,Nat.reduceLT,Int.reduceLE,Int.reduceLT,Int.reduceAdd,Int.reduceSub,Int.reduceToNat,Nat.reduceMul]
  refine g_split (fun h => ?_) (fun h => ?_)
  · simp (maxSteps:=1000000) (disch:=first | omega | (simp only [LL];omega)) only [W,V,TY,CC,reduceIte,Nat.reduceEqDiff,Nat.reduceAdd,Nat.reduceLeDiff,Nat.reduceLT,Int.reduceLE,Int.reduceLT,Int.reduceAdd,Int.reduceSub,Int.reduceToNat,Nat.reduceMul,h]
    refine a_call _ _ c3 (by simp (maxSteps:=1000000) (disch:=first | omega | (simp only [LL];omega)) only [W,V,TY,CC,reduceIte,Nat.reduceEqDiff,Nat.reduceAdd,Nat.reduceLeDiff,Nat.reduceLT,Int.reduceLE,Int.reduceLT,Int.reduceAdd,Int.reduceSub,Int.reduceToNat,Nat.reduceMul,rC,h]) ?_
    simp (maxSteps:=1000000) (disch:=first | omega | (simp only [LL];omega)) only [W,V,TY,CC,reduceIte,Nat.reduceEqDiff,Nat.reduceAdd,Nat.reduceLeDiff,Nat.reduceLT,Int.reduceLE,Int.reduceLT,Int.reduceAdd,Int.reduceSub,Int.reduceToNat,Nat.reduceMul,h]
    refine f_ret _ _ _ ?_
    simp (maxSteps:=1000000) (disch:=first | omega | (simp only [LL];omega)) only [W,V,TY,CC,reduceIte,Nat.reduceEqDiff,Nat.reduceAdd,Nat.reduceLeDiff,Nat.reduceLT,Int.reduceLE,Int.reduceLT,Int.reduceAdd,Int.reduceSub,Int.reduceToNat,Nat.reduceMul,inI,← g2, ← g3, h]
  · simp (maxSteps:=1000000) (disch:=first | omega | (simp only [LL];omega)) only [W,V,TY,CC,reduceIte,Nat.reduceEqDiff,Nat.reduceAdd,Nat.reduceLeDiff,Nat.reduceLT,Int.reduceLE,Int.reduceLT,Int.reduceAdd,Int.reduceSub,Int.reduceToNat,Nat.reduceMul,h]
    refine f_ret _ _ _ ?_
    simp (maxSteps:=1000000) (disch:=first | omega | (simp only [LL];omega)) only [W,V,TY,CC,reduceIte,Nat.reduceEqDiff,Nat.reduceAdd,Nat.reduceLeDiff,Nat.reduceLT,Int.reduceLE,Int.reduceLT,Int.reduceAdd,Int.reduceSub,Int.reduceToNat,Nat.reduceMul,inI,← g2, ← g3, h]
include hv
theorem S_Within : AFun Tryd.prog 26 [.agg (rC u ++ rC v), .agg (rC x ++ rC y)] [.one (.lit (.bool (decide (subI u.q v.q x.q y.q))))] := by
  refine afun_intro mo_ _ _ c26 k26 _ _ rfl (by decide) ?_
  unfold b26
  have c2 := S_Has hx hy hu
  have c3 := S_Has hx hy hv
  simp (maxSteps:=1000000) (disch:=first | omega | (simp only [LL];omega)) only [W,V,TY,CC,reduceIte,Nat.reduceEqDiff,Nat.reduceAdd,Nat.reduceLeDiff,Nat.reduceLT,Int.reduceLE,Int.reduceLT,Int.reduceAdd,Int.reduceSub,Int.reduceToNat,Nat.reduceMul,rC]
  refine a_call _ _ c2 (by simp (maxSteps:=1000000) (disch:=first | omega | (simp only [LL];omega)) only [W,V,TY,CC,reduceIte,Nat.reduceEqDiff,Nat.reduceAdd,Nat.reduceLeDiff,Nat.reduceLT,Int.reduceLE,Int.reduceLT,Int.reduceAdd,Int.reduceSub,Int.reduceToNat,Nat.reduceMul,rC]) ?_
  simp (maxSteps:=1000000) (disch:=first | omega | (simp only [LL];omega)) only [W,V,TY,CC,reduceIte,Nat.reduceEqDiff,Nat.reduceAdd,Nat.reduceLeDiff,Nat.reduceLT,Int.reduceLE,Int.reduceLT,Int.reduceAdd,Int.reduceSub,Int.reduceToNat,Nat.reduceMul]
  refine g_split (fun h => ?_) (fun h => ?_)
  · simp (maxSteps:=1000000) (disch:=first | omega | (simp only [LL];omega)) only [W,V,TY,CC,reduceIte,Nat.reduceEqDiff,Nat.reduceAdd,Nat.reduceLeDiff,Nat.reduceLT,Int.reduceLE,Int.reduceLT,Int.reduceAdd,Int.reduceSub,Int.reduceToNat,Nat.reduceMul,h]
    refine a_call _ _ c3 (by simp (maxSteps:=1000000) (disch:=first | omega | (simp only [LL];omega)) only [W,V,TY,CC,reduceIte,Nat.reduceEqDiff,Nat.reduceAdd,Nat.reduceLeDiff,Nat.reduceLT,Int.reduceLE,Int.reduceLT,Int.reduceAdd,Int.reduceSub,Int.reduceToNat,Nat.reduceMul,rC,h]) ?_
    simp (maxSteps:=1000000) (disch:=first | omega | (simp only [LL];omega)) only [W,V,TY,CC,reduceIte,Nat.reduceEqDiff,Nat.reduceAdd,Nat.reduceLeDiff,Nat.reduceLT,Int.reduceLE,Int.reduceLT,Int.reduceAdd,Int.reduceSub,Int.reduceToNat,Nat.reduceMul,h]
    refine f_ret _ _ _ ?_
    simp (maxSteps:=1000000) (disch:=first | omega | (simp only [LL];omega)) only [W,V,TY,CC,reduceIte,Nat.reduceEqDiff,Nat.reduceAdd,Nat.reduceLeDiff,Nat.reduceLT,Int.reduceLE,Int.reduceLT,Int.reduceAdd,Int.reduceSub,Int.reduceToNat,Nat.reduceMul,subI,h]
  · simp (maxSteps:=1000000) (disch:=first | omega | (simp only [LL];omega)) only [W,V,TY,CC,reduceIte,Nat.reduceEqDiff,Nat.reduceAdd,Nat.reduceLeDiff,Nat.reduceLT,Int.reduceLE,Int.reduceLT,Int.reduceAdd,Int.reduceSub,Int.reduceToNat,Nat.reduceMul,h]
    refine f_ret _ _ _ ?_
    simp (maxSteps:=1000000) (disch:=first | omega | (simp only [LL];omega)) only [W,V,TY,CC,reduceIte,Nat.reduceEqDiff,Nat.reduceAdd,Nat.reduceLeDiff,Nat.reduceLT,Int.reduceLE,Int.reduceLT,Int.reduceAdd,Int.reduceSub,Int.reduceToNat,Nat.reduceMul,subI,h]
end
theorem S_Width {x y : RR} (hx : rok 68719476600 x) (hy : rok 68719476600 y) (hq : qs (y.q - x.q) ≤ 68719476600) : AFun Tryd.prog 21 [.agg (rC x ++ rC y)] [.agg (ratC (qabs (y.q - x.q)))] := by
  refine afun_intro mo_ _ _ c21 k21 _ _ rfl (by decide) ?_
  unfold b21
  have c0 := R_Sub hy hx
  have c1 := rat_Abs2 (a := y.q - x.q) (by omega)
  simp (maxSteps:=1000000) (disch:=first | omega | (simp only [LL];omega)) only [W,V,TY,CC,reduceIte,Nat.reduceEqDiff,Nat.reduceAdd,Nat.reduceLeDiff,Nat.reduceLT,Int.reduceLE,Int.reduceLT,Int.reduceAdd,Int.reduceSub,Int.reduceToNat,Nat.reduceMul,rC]
  refine a_call _ _ c0 (by simp (maxSteps:=1000000) (disch:=first | omega | (simp only [LL];omega)) only [W,V,TY,CC,reduceIte,Nat.reduceEqDiff,Nat.reduceAdd,Nat.reduceLeDiff,Nat.reduceLT,Int.reduceLE,Int.reduceLT,Int.reduceAdd,Int.reduceSub,Int.reduceToNat,Nat.reduceMul,rC]) ?_
  simp (maxSteps:=1000000) (disch:=first | omega | (simp only [LL];omega)) only [W,V,TY,CC,reduceIte,Nat.reduceEqDiff,Nat.reduceAdd,Nat.reduceLeDiff,Nat.reduceLT,Int.reduceLE,Int.reduceLT,Int.reduceAdd,Int.reduceSub,Int.reduceToNat,Nat.reduceMul,ratC]
  refine a_call _ _ c1 (by simp (maxSteps:=1000000) (disch:=first | omega | (simp only [LL];omega)) only [W,V,TY,CC,reduceIte,Nat.reduceEqDiff,Nat.reduceAdd,Nat.reduceLeDiff,Nat.reduceLT,Int.reduceLE,Int.reduceLT,Int.reduceAdd,Int.reduceSub,Int.reduceToNat,Nat.reduceMul,ratC]) ?_
  simp (maxSteps:=1000000) (disch:=first | omega | (simp only [LL];omega)) only [W,V,TY,CC,reduceIte,Nat.reduceEqDiff,Nat.reduceAdd,Nat.reduceLeDiff,Nat.reduceLT,Int.reduceLE,Int.reduceLT,Int.reduceAdd,Int.reduceSub,Int.reduceToNat,Nat.reduceMul,ratC]
  refine f_ret _ _ _ ?_
  simp (maxSteps:=1000000) (disch:=first | omega | (simp only [LL];omega)) only [W,V,TY,CC,reduceIte,Nat.reduceEqDiff,Nat.reduceAdd,Nat.reduceLeDiff,Nat.reduceLT,Int.reduceLE,Int.reduceLT,Int.reduceAdd,Int.reduceSub,Int.reduceToNat,Nat.reduceMul,ratC]
end Go.Proofs.YtljmgdepldpmdaaDoor.E

set_option linter.unusedSimpArgs false
set_option linter.unusedVariables false
set_option maxHeartbeats 2000000
namespace Go.Proofs.YtljmgdepldpmdaaDoor.E
open Go.RowKit Limbs
/-- the interval of two zeros that aren't numbers -/
def zS : List Dt := [.lit (.bool false), natD [], natD [], .lit (.bool false), natD [], natD []]
/-- examboard/span.Hull -/
def b31 : AF := ⟨32, 2, [.cell 4 29],
  (.seq (.reg [
    ⟨some 2, .box 29 (.tmp 0), none⟩,
    ⟨some 3, .box 29 (.tmp 1), none⟩,
    ⟨some 4, .alloc 29, none⟩])
  (.seq (.reg [
    ⟨some 10, .load 29 (.tmp 2), none⟩,
    ⟨some 11, .call ⟨(.value (.func 45)), #[(.tmp 10)], #[29]⟩, none⟩,
    ⟨some 9, .move (.tmp 11), none⟩,
    ⟨some 12, .extract (.tmp 9) 0, none⟩,
    ⟨some 13, .extract (.tmp 9) 1, none⟩,
    ⟨some 5, .alloc 27, none⟩,
    ⟨some 6, .alloc 27, none⟩,
    ⟨none, .store 27 (.tmp 5) (.tmp 12), none⟩,
    ⟨none, .store 27 (.tmp 6) (.tmp 13), none⟩])
  (.seq (.reg [
    ⟨some 15, .load 29 (.tmp 3), none⟩,
    ⟨some 16, .call ⟨(.value (.func 45)), #[(.tmp 15)], #[29]⟩, none⟩,
    ⟨some 14, .move (.tmp 16), none⟩,
    ⟨some 17, .extract (.tmp 14) 0, none⟩,
    ⟨some 18, .extract (.tmp 14) 1, none⟩,
    ⟨some 7, .alloc 27, none⟩,
    ⟨some 8, .alloc 27, none⟩,
    ⟨none, .store 27 (.tmp 7) (.tmp 17), none⟩,
    ⟨none, .store 27 (.tmp 8) (.tmp 18), none⟩])
  (.seq (.seq (.reg [
    ⟨some 19, .load 27 (.tmp 7), none⟩,
    ⟨some 20, .load 27 (.tmp 5), none⟩,
    ⟨some 21, .call ⟨(.value (.func 23)), #[(.tmp 19), (.tmp 20)], #[27, 27]⟩, none⟩,
    ⟨some 22, .binOp .lss 3 (.tmp 21) (.const (.int .i64 0)) 3, none⟩])
  (.cond (.tmp 22)
    (.reg [
      ⟨some 23, .load 27 (.tmp 7), none⟩,
      ⟨none, .store 27 (.tmp 5) (.tmp 23), none⟩])
    .skip))
  (.seq (.seq (.reg [
    ⟨some 24, .load 27 (.tmp 8), none⟩,
    ⟨some 25, .load 27 (.tmp 6), none⟩,
    ⟨some 26, .call ⟨(.value (.func 23)), #[(.tmp 24), (.tmp 25)], #[27, 27]⟩, none⟩,
    ⟨some 27, .binOp .gtr 3 (.tmp 26) (.const (.int .i64 0)) 3, none⟩])
  (.cond (.tmp 27)
    (.reg [
      ⟨some 28, .load 27 (.tmp 8), none⟩,
      ⟨none, .store 27 (.tmp 6) (.tmp 28), none⟩])
    .skip))
  (.seq (.reg [
    ⟨some 29, .load 27 (.tmp 5), none⟩,
    ⟨some 30, .load 27 (.tmp 6), none⟩,
    ⟨some 31, .call ⟨(.value (.func 28)), #[(.tmp 29), (.tmp 30)], #[27, 27]⟩, none⟩,
    ⟨none, .store 29 (.tmp 4) (.tmp 31), none⟩])
  .ret))))))⟩
theorem c31 : fcomp Tryd.prog 31 = ⟨b31.n, b31.np, b31.res, b31.body.bare⟩ := by kernel_rfl
theorem k31 : fok Tryd.prog 31 = true := by kernel_rfl
/-- examboard/span.Meet -/
def b29 : AF := ⟨38, 2, [.cell 4 29, .tmp 5],
  (.seq (.reg [
    ⟨some 2, .box 29 (.tmp 0), none⟩,
    ⟨some 3, .box 29 (.tmp 1), none⟩,
    ⟨some 4, .alloc 29, none⟩,
    ⟨some 5, .assign (.const (.bool false)), none⟩])
  (.seq (.reg [
    ⟨some 11, .load 29 (.tmp 2), none⟩,
    ⟨some 12, .call ⟨(.value (.func 45)), #[(.tmp 11)], #[29]⟩, none⟩,
    ⟨some 10, .move (.tmp 12), none⟩,
    ⟨some 13, .extract (.tmp 10) 0, none⟩,
    ⟨some 14, .extract (.tmp 10) 1, none⟩,
    ⟨some 6, .alloc 27, none⟩,
    ⟨some 7, .alloc 27, none⟩,
    ⟨none, .store 27 (.tmp 6) (.tmp 13), none⟩,
    ⟨none, .store 27 (.tmp 7) (.tmp 14), none⟩])
  (.seq (.reg [
    ⟨some 16, .load 29 (.tmp 3), none⟩,
    ⟨some 17, .call ⟨(.value (.func 45)), #[(.tmp 16)], #[29]⟩, none⟩,
    ⟨some 15, .move (.tmp 17), none⟩,
    ⟨some 18, .extract (.tmp 15) 0, none⟩,
    ⟨some 19, .extract (.tmp 15) 1, none⟩,
    ⟨some 8, .alloc 27, none⟩,
    ⟨some 9, .alloc 27, none⟩,
    ⟨none, .store 27 (.tmp 8) (.tmp 18), none⟩,
    ⟨none, .store 27 (.tmp 9) (.tmp 19), none⟩])
  (.seq (.seq (.reg [
    ⟨some 20, .load 27 (.tmp 6), none⟩,
    ⟨some 21, .load 27 (.tmp 8), none⟩,
    ⟨some 22, .call ⟨(.value (.func 23)), #[(.tmp 20), (.tmp 21)], #[27, 27]⟩, none⟩,
    ⟨some 23, .binOp .lss 3 (.tmp 22) (.const (.int .i64 0)) 3, none⟩])
  (.cond (.tmp 23)
    (.reg [
      ⟨some 24, .load 27 (.tmp 8), none⟩,
      ⟨none, .store 27 (.tmp 6) (.tmp 24), none⟩])
    .skip))
  (.seq (.seq (.reg [
    ⟨some 25, .load 27 (.tmp 7), none⟩,
    ⟨some 26, .load 27 (.tmp 9), none⟩,
    ⟨some 27, .call ⟨(.value (.func 23)), #[(.tmp 25), (.tmp 26)], #[27, 27]⟩, none⟩,
    ⟨some 28, .binOp .gtr 3 (.tmp 27) (.const (.int .i64 0)) 3, none⟩])
  (.cond (.tmp 28)
    (.reg [
      ⟨some 29, .load 27 (.tmp 9), none⟩,
      ⟨none, .store 27 (.tmp 7) (.tmp 29), none⟩])
    .skip))
  (.seq (.seq (.reg [
    ⟨some 30, .load 27 (.tmp 6), none⟩,
    ⟨some 31, .load 27 (.tmp 7), none⟩,
    ⟨some 32, .call ⟨(.value (.func 23)), #[(.tmp 30), (.tmp 31)], #[27, 27]⟩, none⟩,
    ⟨some 33, .binOp .gtr 3 (.tmp 32) (.const (.int .i64 0)) 3, none⟩])
  (.cond (.tmp 33)
    (.seq (.reg [
      ⟨some 34, .build 29 #[], none⟩,
      ⟨none, .store 29 (.tmp 4) (.tmp 34), none⟩,
      ⟨some 5, .assign (.const (.bool false)), none⟩])
    .ret)
    .skip))
  (.seq (.reg [
    ⟨some 35, .load 27 (.tmp 6), none⟩,
    ⟨some 36, .load 27 (.tmp 7), none⟩,
    ⟨some 37, .call ⟨(.value (.func 28)), #[(.tmp 35), (.tmp 36)], #[27, 27]⟩, none⟩,
    ⟨none, .store 29 (.tmp 4) (.tmp 37), none⟩,
    ⟨some 5, .assign (.const (.bool true)), none⟩])
  .ret)))))))⟩
theorem c29 : fcomp Tryd.prog 29 = ⟨b29.n, b29.np, b29.res, b29.body.bare⟩ := by kernel_rfl
theorem k29 : fok Tryd.prog 29 = true := by kernel_rfl
/-- examboard/span.Mul -/
def b17 : AF := ⟨55, 2, [.cell 4 29],
  (.seq (.reg [
    ⟨some 2, .box 29 (.tmp 0), none⟩,
    ⟨some 3, .box 29 (.tmp 1), none⟩,
    ⟨some 4, .alloc 29, none⟩])
  (.seq (.dreg [
    ⟨some 10, .fieldAddr 29 (.tmp 2) 0, none⟩,
    ⟨some 11, .load 27 (.tmp 10), none⟩,
    ⟨some 12, .fieldAddr 29 (.tmp 3) 0, none⟩,
    ⟨some 13, .load 27 (.tmp 12), none⟩,
    ⟨some 14, .call ⟨(.value (.func 18)), #[(.tmp 11), (.tmp 13)], #[27, 27]⟩, none⟩,
    ⟨some 15, .fieldAddr 29 (.tmp 2) 0, none⟩,
    ⟨some 16, .load 27 (.tmp 15), none⟩,
    ⟨some 17, .fieldAddr 29 (.tmp 3) 1, none⟩,
    ⟨some 18, .load 27 (.tmp 17), none⟩,
    ⟨some 19, .call ⟨(.value (.func 18)), #[(.tmp 16), (.tmp 18)], #[27, 27]⟩, none⟩,
    ⟨some 20, .fieldAddr 29 (.tmp 2) 1, none⟩,
    ⟨some 21, .load 27 (.tmp 20), none⟩,
    ⟨some 22, .fieldAddr 29 (.tmp 3) 0, none⟩,
    ⟨some 23, .load 27 (.tmp 22), none⟩,
    ⟨some 24, .call ⟨(.value (.func 18)), #[(.tmp 21), (.tmp 23)], #[27, 27]⟩, none⟩,
    ⟨some 25, .fieldAddr 29 (.tmp 2) 1, none⟩,
    ⟨some 26, .load 27 (.tmp 25), none⟩,
    ⟨some 27, .fieldAddr 29 (.tmp 3) 1, none⟩,
    ⟨some 28, .load 27 (.tmp 27), none⟩,
    ⟨some 29, .call ⟨(.value (.func 18)), #[(.tmp 26), (.tmp 28)], #[27, 27]⟩, none⟩,
    ⟨some 30, .build 82 #[(0, (.tmp 14)), (1, (.tmp 19)), (2, (.tmp 24)), (3, (.tmp 29))], none⟩,
    ⟨some 5, .alloc 82, none⟩,
    ⟨none, .store 82 (.tmp 5) (.tmp 30), none⟩])
  (.seq (.xreg (.br ⟨some 31, .indexAddr 82 (.tmp 5) (.const (.int .i64 0)), none⟩ (.br ⟨some 32, .load 27 (.tmp 31), none⟩ (.br ⟨some 6, .alloc 27, none⟩ (.br ⟨some 7, .alloc 27, none⟩ (.br ⟨some 33, .indexAddr 82 (.tmp 5) (.const (.int .i64 0)), none⟩ (.br ⟨some 34, .load 27 (.tmp 33), none⟩ (.br ⟨none, .store 27 (.tmp 6) (.tmp 32), none⟩ (.br ⟨none, .store 27 (.tmp 7) (.tmp 34), none⟩ .leaf
 .nil)
 .nil)
 (.br ⟨none, .store 27 (.tmp 6) (.tmp 32), none⟩ (.br ⟨some 34, .load 27 (.tmp 33), none⟩ (.br ⟨none, .store 27 (.tmp 7) (.tmp 34), none⟩ .leaf
 .nil)
 .nil)
 .nil))
 (.br ⟨none, .store 27 (.tmp 6) (.tmp 32), none⟩ (.br ⟨some 33, .indexAddr 82 (.tmp 5) (.const (.int .i64 0)), none⟩ (.br ⟨some 34, .load 27 (.tmp 33), none⟩ (.br ⟨none, .store 27 (.tmp 7) (.tmp 34), none⟩ .leaf
 .nil)
 .nil)
 .nil)
 .nil))
 .nil)
 .nil)
 .nil)
 .nil))
  (.seq (.seq (.seq (.gh [.frzv 5])
  (.reg [
    ⟨some 35, .slice 82 (.tmp 5) (some (.const (.int .i64 1))) none none, none⟩,
    ⟨some 36, .call ⟨(.builtin .len), #[(.tmp 35)], #[50]⟩, none⟩,
    ⟨some 37, .move (.const (.int .i64 0)), none⟩]))
  (.block 0 (.loop (.seq (.reg [
    ⟨some 38, .binOp .lss 3 (.tmp 37) (.tmp 36) 3, none⟩])
  (.seq (.cond (.tmp 38)
    .skip
    (.exit 0))
  (.seq (.block 1 (.seq (.reg [
    ⟨some 39, .indexAddr 50 (.tmp 35) (.tmp 37), none⟩,
    ⟨some 40, .load 27 (.tmp 39), none⟩,
    ⟨some 9, .alloc 27, none⟩,
    ⟨none, .store 27 (.tmp 9) (.tmp 40), none⟩])
  (.seq (.seq (.reg [
    ⟨some 41, .load 27 (.tmp 9), none⟩,
    ⟨some 42, .load 27 (.tmp 6), none⟩,
    ⟨some 43, .call ⟨(.value (.func 23)), #[(.tmp 41), (.tmp 42)], #[27, 27]⟩, none⟩,
    ⟨some 44, .binOp .lss 3 (.tmp 43) (.const (.int .i64 0)) 3, none⟩])
  (.cond (.tmp 44)
    (.reg [
      ⟨some 45, .load 27 (.tmp 9), none⟩,
      ⟨none, .store 27 (.tmp 6) (.tmp 45), none⟩])
    .skip))
  (.seq (.reg [
    ⟨some 46, .load 27 (.tmp 9), none⟩,
    ⟨some 47, .load 27 (.tmp 7), none⟩,
    ⟨some 48, .call ⟨(.value (.func 23)), #[(.tmp 46), (.tmp 47)], #[27, 27]⟩, none⟩,
    ⟨some 49, .binOp .gtr 3 (.tmp 48) (.const (.int .i64 0)) 3, none⟩])
  (.cond (.tmp 49)
    (.reg [
      ⟨some 50, .load 27 (.tmp 9), none⟩,
      ⟨none, .store 27 (.tmp 7) (.tmp 50), none⟩])
    .skip)))))
  (.reg [
    ⟨some 51, .binOp .add 3 (.tmp 37) (.const (.int .i64 1)) 3, none⟩,
    ⟨some 37, .move (.tmp 51), none⟩])))))))
  (.seq (.reg [
    ⟨some 52, .load 27 (.tmp 6), none⟩,
    ⟨some 53, .load 27 (.tmp 7), none⟩,
    ⟨some 54, .call ⟨(.value (.func 28)), #[(.tmp 52), (.tmp 53)], #[27, 27]⟩, none⟩,
    ⟨none, .store 29 (.tmp 4) (.tmp 54), none⟩])
  .ret)))))⟩
theorem c17 : fcomp Tryd.prog 17 = ⟨b17.n, b17.np, b17.res, b17.body.bare⟩ := by kernel_rfl
theorem k17 : fok Tryd.prog 17 = true := by kernel_rfl
section
variable {x y u v : RR} (hx : rok 68719476600 x) (hy : rok 68719476600 y) (hu : rok 68719476600 u) (hv : rok 68719476600 v)
include hx hy hu hv
theorem S_Hull : AFun Tryd.prog 31 [.agg (rC x ++ rC y), .agg (rC u ++ rC v)] [.agg (sQ (hullLo x.q y.q u.q v.q) (hullHi x.q y.q u.q v.q))] := by
  unfold hullLo hullHi
  refine afun_intro mo_ _ _ c31 k31 _ _ rfl (by decide) ?_
  unfold b31
  have r1 := rok_elo hx hy
  have r2 := rok_ehi hx hy
  have r3 := rok_elo hu hv
  have r4 := rok_ehi hu hv
  have c0 := S_ends hx hy
  have c1 := S_ends hu hv
  have e1 := elo_q x y
  have e2 := ehi_q x y
  have e3 := elo_q u v
  have e4 := ehi_q u v
  have m1 := qmin_le_qmax x.q y.q
  have m2 := qmin_le_qmax u.q v.q
  generalize elo x y = a at *
  generalize ehi x y = b at *
  generalize elo u v = c at *
  generalize ehi u v = d at *
  rw [← e1, ← e2, ← e3, ← e4]
  rw [← e1, ← e2] at m1
  rw [← e3, ← e4] at m2
  have g1 := cmpQ_lt c.q a.q
  have g2 := cmpQ_gt d.q b.q
  have fin : ∀ {p q : RR}, rok 68719476600 p → rok 68719476600 q → p.q = qmin a.q c.q → q.q = qmax b.q d.q → AFun Tryd.prog 28 [.agg (rC p), .agg (rC q)] [.agg (sQ (qmin a.q c.q) (qmax b.q d.q))] := fun {p q} hp hq e e' => by
    have h := S_Of hp hq
    have hle : p.q ≤ q.q := by
      rw [e, e']
      unfold qmin qmax
      split <;> split <;> grind
    rw [qmin_eq hle, qmax_eq hle, e, e'] at h
    exact h
  simp (maxSteps:=1000000) (disch:=first | omega | (simp only [LL];omega)) only [W,V,TY,CC,reduceIte,Nat.reduceEqDiff,Nat.reduceAdd,Nat.reduceLeDiff,Nat.reduceLT,Int.reduceLE,Int.reduceLT,Int.reduceAdd,Int.reduceSub,Int.reduceToNat,Nat.reduceMul,rC,sQ]
  refine a_call _ _ c0 (by simp (maxSteps:=1000000) (disch:=first | omega | (simp only [LL];omega)) only [W,V,TY,CC,reduceIte,Nat.reduceEqDiff,Nat.reduceAdd,Nat.reduceLeDiff,Nat.reduceLT,Int.reduceLE,Int.reduceLT,Int.reduceAdd,Int.reduceSub,Int.reduceToNat,Nat.reduceMul,rC]) ?_
  simp (maxSteps:=1000000) (disch:=first | omega | (simp only [LL];omega)) only [W,V,TY,CC,reduceIte,Nat.reduceEqDiff,Nat.reduceAdd,Nat.reduceLeDiff,Nat.reduceLT,Int.reduceLE,Int.reduceLT,Int.reduceAdd,Int.reduceSub,Int.reduceToNat,Nat.reduceMul,rC]
  refine a_call _ _ c1 (by simp (maxSteps:=1000000) (disch:=first | omega | (simp only [LL];omega)) only [W,V,TY,CC,reduceIte,Nat.reduceEqDiff,Nat.reduceAdd,Nat.reduceLeDiff,Nat.reduceLT,Int.reduceLE,Int.reduceLT,Int.reduceAdd,Int.reduceSub,Int.reduceToNat,Nat.reduceMul,rC]) ?_
  simp (maxSteps:=1000000) (disch:=first | omega | (simp only [LL];omega)) only [W,V,TY,CC,reduceIte,Nat.reduceEqDiff,Nat.reduceAdd,Nat.reduceLeDiff,Nat.reduceLT,Int.reduceLE,Int.reduceLT,Int.reduceAdd,Int.reduceSub,Int.reduceToNat,Nat.reduceMul,rC]
  refine a_call _ _ (R_Cmp r3 r1) (by simp (maxSteps:=1000000) (disch:=first | omega | (simp only [LL];omega)) only [W,V,TY,CC,reduceIte,Nat.reduceEqDiff,Nat.reduceAdd,Nat.reduceLeDiff,Nat.reduceLT,Int.reduceLE,Int.reduceLT,Int.reduceAdd,Int.reduceSub,Int.reduceToNat,Nat.reduceMul,rC]) ?_
  simp (maxSteps:=1000000) (disch:=first | omega | (simp only [LL];omega)) only [W,V,TY,CC,reduceIte,Nat.reduceEqDiff,Nat.reduceAdd,Nat.reduceLeDiff,Nat.reduceLT,Int.reduceLE,Int.reduceLT,Int.reduceAdd,Int.reduceSub,Int.reduceToNat,Nat.reduceMul]
  refine c_split (fun h => ?_) (fun h => ?_)
  all_goals
    simp (maxSteps:=1000000) (disch:=first | omega | (simp only [LL];omega)) only [W,V,TY,CC,reduceIte,Nat.reduceEqDiff,Nat.reduceAdd,Nat.reduceLeDiff,Nat.reduceLT,Int.reduceLE,Int.reduceLT,Int.reduceAdd,Int.reduceSub,Int.reduceToNat,Nat.reduceMul]
    refine a_call _ _ (R_Cmp r4 r2) (by simp (maxSteps:=1000000) (disch:=first | omega | (simp only [LL];omega)) only [W,V,TY,CC,reduceIte,Nat.reduceEqDiff,Nat.reduceAdd,Nat.reduceLeDiff,Nat.reduceLT,Int.reduceLE,Int.reduceLT,Int.reduceAdd,Int.reduceSub,Int.reduceToNat,Nat.reduceMul,rC]) ?_
    simp (maxSteps:=1000000) (disch:=first | omega | (simp only [LL];omega)) only [W,V,TY,CC,reduceIte,Nat.reduceEqDiff,Nat.reduceAdd,Nat.reduceLeDiff,Nat.reduceLT,Int.reduceLE,Int.reduceLT,Int.reduceAdd,Int.reduceSub,Int.reduceToNat,Nat.reduceMul]
    refine c_split (fun h' => ?_) (fun h' => ?_)
  · have := fin r3 r4 (by unfold qmin; rw [if_pos (g1.1 h)]) (by unfold qmax; rw [if_neg (Rat.not_lt.2 (Rat.le_of_lt (g2.1 h')))])
    simp (maxSteps:=1000000) (disch:=first | omega | (simp only [LL];omega)) only [W,V,TY,CC,reduceIte,Nat.reduceEqDiff,Nat.reduceAdd,Nat.reduceLeDiff,Nat.reduceLT,Int.reduceLE,Int.reduceLT,Int.reduceAdd,Int.reduceSub,Int.reduceToNat,Nat.reduceMul]
    refine a_call _ _ this (by simp (maxSteps:=1000000) (disch:=first | omega | (simp only [LL];omega)) only [W,V,TY,CC,reduceIte,Nat.reduceEqDiff,Nat.reduceAdd,Nat.reduceLeDiff,Nat.reduceLT,Int.reduceLE,Int.reduceLT,Int.reduceAdd,Int.reduceSub,Int.reduceToNat,Nat.reduceMul,rC]) ?_
    simp (maxSteps:=1000000) (disch:=first | omega | (simp only [LL];omega)) only [W,V,TY,CC,reduceIte,Nat.reduceEqDiff,Nat.reduceAdd,Nat.reduceLeDiff,Nat.reduceLT,Int.reduceLE,Int.reduceLT,Int.reduceAdd,Int.reduceSub,Int.reduceToNat,Nat.reduceMul,sQ,ratC]
    refine f_ret _ _ _ ?_
    simp (maxSteps:=1000000) (disch:=first | omega | (simp only [LL];omega)) only [W,V,TY,CC,reduceIte,Nat.reduceEqDiff,Nat.reduceAdd,Nat.reduceLeDiff,Nat.reduceLT,Int.reduceLE,Int.reduceLT,Int.reduceAdd,Int.reduceSub,Int.reduceToNat,Nat.reduceMul,ratC]
  · have hh : ¬ b.q < d.q := fun e => h' (g2.2 e)
    have := fin r3 r2 (by unfold qmin; rw [if_pos (g1.1 h)]) (by
      unfold qmax
      split
      · rfl
      · rename_i h5
        exact Rat.le_antisymm (Rat.not_lt.1 h5) (Rat.not_lt.1 hh))
    simp (maxSteps:=1000000) (disch:=first | omega | (simp only [LL];omega)) only [W,V,TY,CC,reduceIte,Nat.reduceEqDiff,Nat.reduceAdd,Nat.reduceLeDiff,Nat.reduceLT,Int.reduceLE,Int.reduceLT,Int.reduceAdd,Int.reduceSub,Int.reduceToNat,Nat.reduceMul]
    refine a_call _ _ this (by simp (maxSteps:=1000000) (disch:=first | omega | (simp only [LL];omega)) only [W,V,TY,CC,reduceIte,Nat.reduceEqDiff,Nat.reduceAdd,Nat.reduceLeDiff,Nat.reduceLT,Int.reduceLE,Int.reduceLT,Int.reduceAdd,Int.reduceSub,Int.reduceToNat,Nat.reduceMul,rC]) ?_
    simp (maxSteps:=1000000) (disch:=first | omega | (simp only [LL];omega)) only [W,V,TY,CC,reduceIte,Nat.reduceEqDiff,Nat.reduceAdd,Nat.reduceLeDiff,Nat.reduceLT,Int.reduceLE,Int.reduceLT,Int.reduceAdd,Int.reduceSub,Int.reduceToNat,Nat.reduceMul,sQ,ratC]
    refine f_ret _ _ _ ?_
    simp (maxSteps:=1000000) (disch:=first | omega | (simp only [LL];omega)) only [W,V,TY,CC,reduceIte,Nat.reduceEqDiff,Nat.reduceAdd,Nat.reduceLeDiff,Nat.reduceLT,Int.reduceLE,Int.reduceLT,Int.reduceAdd,Int.reduceSub,Int.reduceToNat,Nat.reduceMul,ratC]
  · have := fin r1 r4 (by unfold qmin; rw [if_neg (fun e => h (g1.2 e))]) (by unfold qmax; rw [if_neg (Rat.not_lt.2 (Rat.le_of_lt (g2.1 h')))])
    simp (maxSteps:=1000000) (disch:=first | omega | (simp only [LL];omega)) only [W,V,TY,CC,reduceIte,Nat.reduceEqDiff,Nat.reduceAdd,Nat.reduceLeDiff,Nat.reduceLT,Int.reduceLE,Int.reduceLT,Int.reduceAdd,Int.reduceSub,Int.reduceToNat,Nat.reduceMul]
    refine a_call _ _ this (by simp (maxSteps:=1000000) (disch:=first | omega | (simp only [LL];omega)) only [W,V,TY,CC,reduceIte,Nat.reduceEqDiff,Nat.reduceAdd,Nat.reduceLeDiff,Nat.reduceLT,Int.reduceLE,Int.reduceLT,Int.reduceAdd,Int.reduceSub,Int.reduceToNat,Nat.reduceMul,rC]) ?_
    simp (maxSteps:=1000000) (disch:=first | omega | (simp only [LL];omega)) only [W,V,TY,CC,reduceIte,Nat.reduceEqDiff,Nat.reduceAdd,Nat.reduceLeDiff,Nat.reduceLT,Int.reduceLE,Int.reduceLT,Int.reduceAdd,Int.reduceSub,Int.reduceToNat,Nat.reduceMul,sQ,ratC]
    refine f_ret _ _ _ ?_
    simp (maxSteps:=1000000) (disch:=first | omega | (simp only [LL];omega)) only [W,V,TY,CC,reduceIte,Nat.reduceEqDiff,Nat.reduceAdd,Nat.reduceLeDiff,Nat.reduceLT,Int.reduceLE,Int.reduceLT,Int.reduceAdd,Int.reduceSub,Int.reduceToNat,Nat.reduceMul,ratC]
  · have hh : ¬ b.q < d.q := fun e => h' (g2.2 e)
    have := fin r1 r2 (by unfold qmin; rw [if_neg (fun e => h (g1.2 e))]) (by
      unfold qmax
      split
      · rfl
      · rename_i h5
        exact Rat.le_antisymm (Rat.not_lt.1 h5) (Rat.not_lt.1 hh))
    simp (maxSteps:=1000000) (disch:=first | omega | (simp only [LL];omega)) only [W,V,TY,CC,reduceIte,Nat.reduceEqDiff,Nat.reduceAdd,Nat.reduceLeDiff,Nat.reduceLT,Int.reduceLE,Int.reduceLT,Int.reduceAdd,Int.reduceSub,Int.reduceToNat,Nat.reduceMul]
    refine a_call _ _ this (by simp (maxSteps:=1000000) (disch:=first | omega | (simp only [LL];omega)) only [W,V,TY,CC,reduceIte,Nat.reduceEqDiff,Nat.reduceAdd,Nat.reduceLeDiff,Nat.reduceLT,Int.reduceLE,Int.reduceLT,Int.reduceAdd,Int.reduceSub,Int.reduceToNat,Nat.reduceMul,rC]) ?_
    simp (maxSteps:=1000000) (disch:=first | omega | (simp only [LL];omega)) only [W,V,TY,CC,reduceIte,Nat.reduceEqDiff,Nat.reduceAdd,Nat.reduceLeDiff,Nat.reduceLT,Int.reduceLE,Int.reduceLT,Int.reduceAdd,Int.reduceSub,Int.reduceToNat,Nat.reduceMul,sQ,ratC]
    refine f_ret _ _ _ ?_
    simp (maxSteps:=1000000) (disch:=first | omega | (simp only [LL];omega)) only [W,V,TY,CC,reduceIte,Nat.reduceEqDiff,Nat.reduceAdd,Nat.reduceLeDiff,Nat.reduceLT,Int.reduceLE,Int.reduceLT,Int.reduceAdd,Int.reduceSub,Int.reduceToNat,Nat.reduceMul,ratC]
theorem S_Meet : AFun Tryd.prog 29 [.agg (rC x ++ rC y), .agg (rC u ++ rC v)] [.agg (if meetHi x.q y.q u.q v.q < meetLo x.q y.q u.q v.q then zS else sQ (meetLo x.q y.q u.q v.q) (meetHi x.q y.q u.q v.q)), .one (.lit (.bool (decide (¬ meetHi x.q y.q u.q v.q < meetLo x.q y.q u.q v.q))))] := by
  unfold meetLo meetHi
  refine afun_intro mo_ _ _ c29 k29 _ _ rfl (by decide) ?_
  unfold b29
  have r1 := rok_elo hx hy
  have r2 := rok_ehi hx hy
  have r3 := rok_elo hu hv
  have r4 := rok_ehi hu hv
  have c0 := S_ends hx hy
  have c1 := S_ends hu hv
  have e1 := elo_q x y
  have e2 := ehi_q x y
  have e3 := elo_q u v
  have e4 := ehi_q u v
  generalize elo x y = a at *
  generalize ehi x y = b at *
  generalize elo u v = c at *
  generalize ehi u v = d at *
  rw [← e1, ← e2, ← e3, ← e4]
  have g1 := cmpQ_lt a.q c.q
  have g2 := cmpQ_gt b.q d.q
  have tot : ∀ {p q : Rat}, ¬ p < q → ¬ q < p → p = q := fun h h' => Rat.le_antisymm (Rat.not_lt.1 h') (Rat.not_lt.1 h)
  simp (maxSteps:=1000000) (disch:=first | omega | (simp only [LL];omega)) only [W,V,TY,CC,reduceIte,Nat.reduceEqDiff,Nat.reduceAdd,Nat.reduceLeDiff,Nat.reduceLT,Int.reduceLE,Int.reduceLT,Int.reduceAdd,Int.reduceSub,Int.reduceToNat,Nat.reduceMul,rC]
  refine a_call _ _ c0 (by simp (maxSteps:=1000000) (disch:=first | omega | (simp only [LL];omega)) only [W,V,TY,CC,reduceIte,Nat.reduceEqDiff,Nat.reduceAdd,Nat.reduceLeDiff,Nat.reduceLT,Int.reduceLE,Int.reduceLT,Int.reduceAdd,Int.reduceSub,Int.reduceToNat,Nat.reduceMul,rC]) ?_
  simp (maxSteps:=1000000) (disch:=first | omega | (simp only [LL];omega)) only [W,V,TY,CC,reduceIte,Nat.reduceEqDiff,Nat.reduceAdd,Nat.reduceLeDiff,Nat.reduceLT,Int.reduceLE,Int.reduceLT,Int.reduceAdd,Int.reduceSub,Int.reduceToNat,Nat.reduceMul,rC]
  refine a_call _ _ c1 (by simp (maxSteps:=1000000) (disch:=first | omega | (simp only [LL];omega)) only [W,V,TY,CC,reduceIte,Nat.reduceEqDiff,Nat.reduceAdd,Nat.reduceLeDiff,Nat.reduceLT,Int.reduceLE,Int.reduceLT,Int.reduceAdd,Int.reduceSub,Int.reduceToNat,Nat.reduceMul,rC]) ?_
  simp (maxSteps:=1000000) (disch:=first | omega | (simp only [LL];omega)) only [W,V,TY,CC,reduceIte,Nat.reduceEqDiff,Nat.reduceAdd,Nat.reduceLeDiff,Nat.reduceLT,Int.reduceLE,Int.reduceLT,Int.reduceAdd,Int.reduceSub,Int.reduceToNat,Nat.reduceMul,rC]
  refine a_call _ _ (R_Cmp r1 r3) (by simp (maxSteps:=1000000) (disch:=first | omega | (simp only [LL];omega)) only [W,V,TY,CC,reduceIte,Nat.reduceEqDiff,Nat.reduceAdd,Nat.reduceLeDiff,Nat.reduceLT,Int.reduceLE,Int.reduceLT,Int.reduceAdd,Int.reduceSub,Int.reduceToNat,Nat.reduceMul,rC]) ?_
  simp (maxSteps:=1000000) (disch:=first | omega | (simp only [LL];omega)) only [W,V,TY,CC,reduceIte,Nat.reduceEqDiff,Nat.reduceAdd,Nat.reduceLeDiff,Nat.reduceLT,Int.reduceLE,Int.reduceLT,Int.reduceAdd,Int.reduceSub,Int.reduceToNat,Nat.reduceMul]
  refine c_split (fun h => ?_) (fun h => ?_)
  all_goals
    simp (maxSteps:=1000000) (disch:=first | omega | (simp only [LL];omega)) only [W,V,TY,CC,reduceIte,Nat.reduceEqDiff,Nat.reduceAdd,Nat.reduceLeDiff,Nat.reduceLT,Int.reduceLE,Int.reduceLT,Int.reduceAdd,Int.reduceSub,Int.reduceToNat,Nat.reduceMul]
    refine a_call _ _ (R_Cmp r2 r4) (by simp (maxSteps:=1000000) (disch:=first | omega | (simp only [LL];omega)) only [W,V,TY,CC,reduceIte,Nat.reduceEqDiff,Nat.reduceAdd,Nat.reduceLeDiff,Nat.reduceLT,Int.reduceLE,Int.reduceLT,Int.reduceAdd,Int.reduceSub,Int.reduceToNat,Nat.reduceMul,rC]) ?_
    simp (maxSteps:=1000000) (disch:=first | omega | (simp only [LL];omega)) only [W,V,TY,CC,reduceIte,Nat.reduceEqDiff,Nat.reduceAdd,Nat.reduceLeDiff,Nat.reduceLT,Int.reduceLE,Int.reduceLT,Int.reduceAdd,Int.reduceSub,Int.reduceToNat,Nat.reduceMul]
    refine c_split (fun h' => ?_) (fun h' => ?_)
    all_goals
      simp (maxSteps:=1000000) (disch:=first | omega | (simp only [LL];omega)) only [W,V,TY,CC,reduceIte,Nat.reduceEqDiff,Nat.reduceAdd,Nat.reduceLeDiff,Nat.reduceLT,Int.reduceLE,Int.reduceLT,Int.reduceAdd,Int.reduceSub,Int.reduceToNat,Nat.reduceMul]
  · have hp := r3
    have hq := r4
    have ep : c.q = qmax a.q c.q := by unfold qmax; rw [if_neg (Rat.not_lt.2 (Rat.le_of_lt (g1.1 h)))]
    have eq : d.q = qmin b.q d.q := by unfold qmin; rw [if_pos (g2.1 h')]
    rw [← ep, ← eq]
    have g3 := cmpQ_gt c.q d.q
    refine a_call _ _ (R_Cmp hp hq) (by simp (maxSteps:=1000000) (disch:=first | omega | (simp only [LL];omega)) only [W,V,TY,CC,reduceIte,Nat.reduceEqDiff,Nat.reduceAdd,Nat.reduceLeDiff,Nat.reduceLT,Int.reduceLE,Int.reduceLT,Int.reduceAdd,Int.reduceSub,Int.reduceToNat,Nat.reduceMul,rC]) ?_
    simp (maxSteps:=1000000) (disch:=first | omega | (simp only [LL];omega)) only [W,V,TY,CC,reduceIte,Nat.reduceEqDiff,Nat.reduceAdd,Nat.reduceLeDiff,Nat.reduceLT,Int.reduceLE,Int.reduceLT,Int.reduceAdd,Int.reduceSub,Int.reduceToNat,Nat.reduceMul]
    refine c_split (fun k => ?_) (fun k => ?_)
    · rw [if_pos (g3.1 k)]
      have dk := decide_eq_false (not_not_intro (g3.1 k))
      simp (maxSteps:=1000000) (disch:=first | omega | (simp only [LL];omega)) only [W,V,TY,CC,reduceIte,Nat.reduceEqDiff,Nat.reduceAdd,Nat.reduceLeDiff,Nat.reduceLT,Int.reduceLE,Int.reduceLT,Int.reduceAdd,Int.reduceSub,Int.reduceToNat,Nat.reduceMul]
      refine f_ret _ _ _ ?_
      simp (maxSteps:=1000000) (disch:=first | omega | (simp only [LL];omega)) only [W,V,TY,CC,reduceIte,Nat.reduceEqDiff,Nat.reduceAdd,Nat.reduceLeDiff,Nat.reduceLT,Int.reduceLE,Int.reduceLT,Int.reduceAdd,Int.reduceSub,Int.reduceToNat,Nat.reduceMul,zS,dk]
      rfl
    · have k' : ¬ d.q < c.q := fun e => k (g3.2 e)
      rw [if_neg k']
      have dk := decide_eq_true k'
      have co := S_Of hp hq
      rw [qmin_eq (Rat.not_lt.1 k'), qmax_eq (Rat.not_lt.1 k')] at co
      simp (maxSteps:=1000000) (disch:=first | omega | (simp only [LL];omega)) only [W,V,TY,CC,reduceIte,Nat.reduceEqDiff,Nat.reduceAdd,Nat.reduceLeDiff,Nat.reduceLT,Int.reduceLE,Int.reduceLT,Int.reduceAdd,Int.reduceSub,Int.reduceToNat,Nat.reduceMul]
      refine a_call _ _ co (by simp (maxSteps:=1000000) (disch:=first | omega | (simp only [LL];omega)) only [W,V,TY,CC,reduceIte,Nat.reduceEqDiff,Nat.reduceAdd,Nat.reduceLeDiff,Nat.reduceLT,Int.reduceLE,Int.reduceLT,Int.reduceAdd,Int.reduceSub,Int.reduceToNat,Nat.reduceMul,rC]) ?_
      simp (maxSteps:=1000000) (disch:=first | omega | (simp only [LL];omega)) only [W,V,TY,CC,reduceIte,Nat.reduceEqDiff,Nat.reduceAdd,Nat.reduceLeDiff,Nat.reduceLT,Int.reduceLE,Int.reduceLT,Int.reduceAdd,Int.reduceSub,Int.reduceToNat,Nat.reduceMul,sQ,ratC]
      refine f_ret _ _ _ ?_
      simp (maxSteps:=1000000) (disch:=first | omega | (simp only [LL];omega)) only [W,V,TY,CC,reduceIte,Nat.reduceEqDiff,Nat.reduceAdd,Nat.reduceLeDiff,Nat.reduceLT,Int.reduceLE,Int.reduceLT,Int.reduceAdd,Int.reduceSub,Int.reduceToNat,Nat.reduceMul,ratC,dk]
  · have hp := r3
    have hq := r2
    have ep : c.q = qmax a.q c.q := by unfold qmax; rw [if_neg (Rat.not_lt.2 (Rat.le_of_lt (g1.1 h)))]
    have eq : b.q = qmin b.q d.q := by unfold qmin; rw [if_neg (fun e => h' (g2.2 e))]
    rw [← ep, ← eq]
    have g3 := cmpQ_gt c.q b.q
    refine a_call _ _ (R_Cmp hp hq) (by simp (maxSteps:=1000000) (disch:=first | omega | (simp only [LL];omega)) only [W,V,TY,CC,reduceIte,Nat.reduceEqDiff,Nat.reduceAdd,Nat.reduceLeDiff,Nat.reduceLT,Int.reduceLE,Int.reduceLT,Int.reduceAdd,Int.reduceSub,Int.reduceToNat,Nat.reduceMul,rC]) ?_
    simp (maxSteps:=1000000) (disch:=first | omega | (simp only [LL];omega)) only [W,V,TY,CC,reduceIte,Nat.reduceEqDiff,Nat.reduceAdd,Nat.reduceLeDiff,Nat.reduceLT,Int.reduceLE,Int.reduceLT,Int.reduceAdd,Int.reduceSub,Int.reduceToNat,Nat.reduceMul]
    refine c_split (fun k => ?_) (fun k => ?_)
    · rw [if_pos (g3.1 k)]
      have dk := decide_eq_false (not_not_intro (g3.1 k))
      simp (maxSteps:=1000000) (disch:=first | omega | (simp only [LL];omega)) only [W,V,TY,CC,reduceIte,Nat.reduceEqDiff,Nat.reduceAdd,Nat.reduceLeDiff,Nat.reduceLT,Int.reduceLE,Int.reduceLT,Int.reduceAdd,Int.reduceSub,Int.reduceToNat,Nat.reduceMul]
      refine f_ret _ _ _ ?_
      simp (maxSteps:=1000000) (disch:=first | omega | (simp only [LL];omega)) only [W,V,TY,CC,reduceIte,Nat.reduceEqDiff,Nat.reduceAdd,Nat.reduceLeDiff,Nat.reduceLT,Int.reduceLE,Int.reduceLT,Int.reduceAdd,Int.reduceSub,Int.reduceToNat,Nat.reduceMul,zS,dk]
      rfl
    · have k' : ¬ b.q < c.q := fun e => k (g3.2 e)
      rw [if_neg k']
      have dk := decide_eq_true k'
      have co := S_Of hp hq
      rw [qmin_eq (Rat.not_lt.1 k'), qmax_eq (Rat.not_lt.1 k')] at co
      simp (maxSteps:=1000000) (disch:=first | omega | (simp only [LL];omega)) only [W,V,TY,CC,reduceIte,Nat.reduceEqDiff,Nat.reduceAdd,Nat.reduceLeDiff,Nat.reduceLT,Int.reduceLE,Int.reduceLT,Int.reduceAdd,Int.reduceSub,Int.reduceToNat,Nat.reduceMul]
      refine a_call _ _ co (by simp (maxSteps:=1000000) (disch:=first | omega | (simp only [LL];omega)) only [W,V,TY,CC,reduceIte,Nat.reduceEqDiff,Nat.reduceAdd,Nat.reduceLeDiff,Nat.reduceLT,Int.reduceLE,Int.reduceLT,Int.reduceAdd,Int.reduceSub,Int.reduceToNat,Nat.reduceMul,rC]) ?_
      simp (maxSteps:=1000000) (disch:=first | omega | (simp only [LL];omega)) only [W,V,TY,CC,reduceIte,Nat.reduceEqDiff,Nat.reduceAdd,Nat.reduceLeDiff,Nat.reduceLT,Int.reduceLE,Int.reduceLT,Int.reduceAdd,Int.reduceSub,Int.reduceToNat,Nat.reduceMul,sQ,ratC]
      refine f_ret _ _ _ ?_
      simp (maxSteps:=1000000) (disch:=first | omega | (simp only [LL];omega)) only [W,V,TY,CC,reduceIte,Nat.reduceEqDiff,Nat.reduceAdd,Nat.reduceLeDiff,Nat.reduceLT,Int.reduceLE,Int.reduceLT,Int.reduceAdd,Int.reduceSub,Int.reduceToNat,Nat.reduceMul,ratC,dk]
  · have hp := r1
    have hq := r4
    have ep : a.q = qmax a.q c.q := by unfold qmax; split; rfl; exact tot (fun e => h (g1.2 e)) (by assumption)
    have eq : d.q = qmin b.q d.q := by unfold qmin; rw [if_pos (g2.1 h')]
    rw [← ep, ← eq]
    have g3 := cmpQ_gt a.q d.q
    refine a_call _ _ (R_Cmp hp hq) (by simp (maxSteps:=1000000) (disch:=first | omega | (simp only [LL];omega)) only [W,V,TY,CC,reduceIte,Nat.reduceEqDiff,Nat.reduceAdd,Nat.reduceLeDiff,Nat.reduceLT,Int.reduceLE,Int.reduceLT,Int.reduceAdd,Int.reduceSub,Int.reduceToNat,Nat.reduceMul,rC]) ?_
    simp (maxSteps:=1000000) (disch:=first | omega | (simp only [LL];omega)) only [W,V,TY,CC,reduceIte,Nat.reduceEqDiff,Nat.reduceAdd,Nat.reduceLeDiff,Nat.reduceLT,Int.reduceLE,Int.reduceLT,Int.reduceAdd,Int.reduceSub,Int.reduceToNat,Nat.reduceMul]
    refine c_split (fun k => ?_) (fun k => ?_)
    · rw [if_pos (g3.1 k)]
      have dk := decide_eq_false (not_not_intro (g3.1 k))
      simp (maxSteps:=1000000) (disch:=first | omega | (simp only [LL];omega)) only [W,V,TY,CC,reduceIte,Nat.reduceEqDiff,Nat.reduceAdd,Nat.reduceLeDiff,Nat.reduceLT,Int.reduceLE,Int.reduceLT,Int.reduceAdd,Int.reduceSub,Int.reduceToNat,Nat.reduceMul]
      refine f_ret _ _ _ ?_
      simp (maxSteps:=1000000) (disch:=first | omega | (simp only [LL];omega)) only [W,V,TY,CC,reduceIte,Nat.reduceEqDiff,Nat.reduceAdd,Nat.reduceLeDiff,Nat.reduceLT,Int.reduceLE,Int.reduceLT,Int.reduceAdd,Int.reduceSub,Int.reduceToNat,Nat.reduceMul,zS,dk]
      rfl
    · have k' : ¬ d.q < a.q := fun e => k (g3.2 e)
      rw [if_neg k']
      have dk := decide_eq_true k'
      have co := S_Of hp hq
      rw [qmin_eq (Rat.not_lt.1 k'), qmax_eq (Rat.not_lt.1 k')] at co
      simp (maxSteps:=1000000) (disch:=first | omega | (simp only [LL];omega)) only [W,V,TY,CC,reduceIte,Nat.reduceEqDiff,Nat.reduceAdd,Nat.reduceLeDiff,Nat.reduceLT,Int.reduceLE,Int.reduceLT,Int.reduceAdd,Int.reduceSub,Int.reduceToNat,Nat.reduceMul]
      refine a_call _ _ co (by simp (maxSteps:=1000000) (disch:=first | omega | (simp only [LL];omega)) only [W,V,TY,CC,reduceIte,Nat.reduceEqDiff,Nat.reduceAdd,Nat.reduceLeDiff,Nat.reduceLT,Int.reduceLE,Int.reduceLT,Int.reduceAdd,Int.reduceSub,Int.reduceToNat,Nat.reduceMul,rC]) ?_
      simp (maxSteps:=1000000) (disch:=first | omega | (simp only [LL];omega)) only [W,V,TY,CC,reduceIte,Nat.reduceEqDiff,Nat.reduceAdd,Nat.reduceLeDiff,Nat.reduceLT,Int.reduceLE,Int.reduceLT,Int.reduceAdd,Int.reduceSub,Int.reduceToNat,Nat.reduceMul,sQ,ratC]
      refine f_ret _ _ _ ?_
      simp (maxSteps:=1000000) (disch:=first | omega | (simp only [LL];omega)) only [W,V,TY,CC,reduceIte,Nat.reduceEqDiff,Nat.reduceAdd,Nat.reduceLeDiff,Nat.reduceLT,Int.reduceLE,Int.reduceLT,Int.reduceAdd,Int.reduceSub,Int.reduceToNat,Nat.reduceMul,ratC,dk]
  · have hp := r1
    have hq := r2
    have ep : a.q = qmax a.q c.q := by unfold qmax; split; rfl; exact tot (fun e => h (g1.2 e)) (by assumption)
    have eq : b.q = qmin b.q d.q := by unfold qmin; rw [if_neg (fun e => h' (g2.2 e))]
    rw [← ep, ← eq]
    have g3 := cmpQ_gt a.q b.q
    refine a_call _ _ (R_Cmp hp hq) (by simp (maxSteps:=1000000) (disch:=first | omega | (simp only [LL];omega)) only [W,V,TY,CC,reduceIte,Nat.reduceEqDiff,Nat.reduceAdd,Nat.reduceLeDiff,Nat.reduceLT,Int.reduceLE,Int.reduceLT,Int.reduceAdd,Int.reduceSub,Int.reduceToNat,Nat.reduceMul,rC]) ?_
    simp (maxSteps:=1000000) (disch:=first | omega | (simp only [LL];omega)) only [W,V,TY,CC,reduceIte,Nat.reduceEqDiff,Nat.reduceAdd,Nat.reduceLeDiff,Nat.reduceLT,Int.reduceLE,Int.reduceLT,Int.reduceAdd,Int.reduceSub,Int.reduceToNat,Nat.reduceMul]
    refine c_split (fun k => ?_) (fun k => ?_)
    · rw [if_pos (g3.1 k)]
      have dk := decide_eq_false (not_not_intro (g3.1 k))
      simp (maxSteps:=1000000) (disch:=first | omega | (simp only [LL];omega)) only [W,V,TY,CC,reduceIte,Nat.reduceEqDiff,Nat.reduceAdd,Nat.reduceLeDiff,Nat.reduceLT,Int.reduceLE,Int.reduceLT,Int.reduceAdd,Int.reduceSub,Int.reduceToNat,Nat.reduceMul]
      refine f_ret _ _ _ ?_
      simp (maxSteps:=1000000) (disch:=first | omega | (simp only [LL];omega)) only [W,V,TY,CC,reduceIte,Nat.reduceEqDiff,Nat.reduceAdd,Nat.reduceLeDiff,Nat.reduceLT,Int.reduceLE,Int.reduceLT,Int.reduceAdd,Int.reduceSub,Int.reduceToNat,Nat.reduceMul,zS,dk]
      rfl
    · have k' : ¬ b.q < a.q := fun e => k (g3.2 e)
      rw [if_neg k']
      have dk := decide_eq_true k'
      have co := S_Of hp hq
      rw [qmin_eq (Rat.not_lt.1 k'), qmax_eq (Rat.not_lt.1 k')] at co
      simp (maxSteps:=1000000) (disch:=first | omega | (simp only [LL];omega)) only [W,V,TY,CC,reduceIte,Nat.reduceEqDiff,Nat.reduceAdd,Nat.reduceLeDiff,Nat.reduceLT,Int.reduceLE,Int.reduceLT,Int.reduceAdd,Int.reduceSub,Int.reduceToNat,Nat.reduceMul]
      refine a_call _ _ co (by simp (maxSteps:=1000000) (disch:=first | omega | (simp only [LL];omega)) only [W,V,TY,CC,reduceIte,Nat.reduceEqDiff,Nat.reduceAdd,Nat.reduceLeDiff,Nat.reduceLT,Int.reduceLE,Int.reduceLT,Int.reduceAdd,Int.reduceSub,Int.reduceToNat,Nat.reduceMul,rC]) ?_
      simp (maxSteps:=1000000) (disch:=first | omega | (simp only [LL];omega)) only [W,V,TY,CC,reduceIte,Nat.reduceEqDiff,Nat.reduceAdd,Nat.reduceLeDiff,Nat.reduceLT,Int.reduceLE,Int.reduceLT,Int.reduceAdd,Int.reduceSub,Int.reduceToNat,Nat.reduceMul,sQ,ratC]
      refine f_ret _ _ _ ?_
      simp (maxSteps:=1000000) (disch:=first | omega | (simp only [LL];omega)) only [W,V,TY,CC,reduceIte,Nat.reduceEqDiff,Nat.reduceAdd,Nat.reduceLeDiff,Nat.reduceLT,Int.reduceLE,Int.reduceLT,Int.reduceAdd,Int.reduceSub,Int.reduceToNat,Nat.reduceMul,ratC,dk]
end
/-- a row of rational numbers -/
def rqD (l : List Rat) : Dt := rowD ratC l
theorem rq_len : ∀ q : Rat, (ratC q).length = 3 := fun _ => rfl
theorem RQR : (∀ {s : AS} {k : IntKind} {x : Int} (l : List Rat), 0 ≤ x → x < l.length → idxO s 3 (.one (.dt (rqD l))) (.one (.dt (.lit (.int k x)))) = True) ∧
  (∀ {k : IntKind} {x : Int} (l : List Rat), 0 ≤ x → x < l.length → idxV 3 (.one (.dt (rqD l))) (.one (.dt (.lit (.int k x)))) = .el (ratC (l.getD x.toNat 0))) ∧
  (∀ {s : AS} (l : List Rat), lenO s (.one (.dt (rqD l))) = True) ∧
  (∀ {s : AS} (l : List Rat), lenV s (.one (.dt (rqD l))) = .one (.dt (.lit (.int .i64 l.length)))) ∧
  (∀ (s : AS) (q : Rat), acells s (.el (ratC q)) = some [.dt (.lit (.bool (decide (q.num < 0)))), .dt (natD (nl q.num.natAbs)), .dt (natD (nl q.den))]) := by
  refine ⟨fun l h h' => ?_, fun l h h' => ?_, fun l => rfl, fun l => rfl, fun s q => rfl⟩
  · rw [show rqD l = rowD ratC l from rfl, io_rowD rq_len (by decide) l]; simp [h, h']
  · exact iv_rowD rq_len l 0 h h'
theorem take_succ_getD (l : List Rat) (i : Nat) (h : i < l.length) : l.take (i + 1) = l.take i ++ [l.getD i 0] := by
  rw [List.take_succ_eq_append_getElem h, List.getD_eq_getElem?_getD, List.getElem?_eq_getElem h]
  rfl
theorem qmax_neg {p q : Rat} (h : ¬ p < q) : qmax p q = p := by
  unfold qmax
  split
  · rfl
  · exact Rat.le_antisymm (Rat.not_lt.1 h) (Rat.not_lt.1 (by assumption))
def fmin (p : Rat) (l : List Rat) (i : Nat) : Rat := (l.take i).foldl qmin p
def fmax (p : Rat) (l : List Rat) (i : Nat) : Rat := (l.take i).foldl qmax p
theorem fmin_succ (p : Rat) (l : List Rat) (i : Nat) (h : i < l.length) : fmin p l (i + 1) = qmin (fmin p l i) (l.getD i 0) := by
  unfold fmin; rw [take_succ_getD l i h, List.foldl_append]; rfl
theorem fmax_succ (p : Rat) (l : List Rat) (i : Nat) (h : i < l.length) : fmax p l (i + 1) = qmax (fmax p l i) (l.getD i 0) := by
  unfold fmax; rw [take_succ_getD l i h, List.foldl_append]; rfl
theorem qs_fold {k : Nat} {p : Rat} (hp : qs p ≤ k) {l : List Rat} (hl : ∀ x ∈ l, qs x ≤ k) (i : Nat) : qs (fmin p l i) ≤ k ∧ qs (fmax p l i) ≤ k := by
  unfold fmin fmax
  have hl' : ∀ x ∈ l.take i, qs x ≤ k := fun x hx => hl x (List.mem_of_mem_take hx)
  generalize l.take i = m at *
  clear hl
  have h2 : ∀ (m : List Rat) (p : Rat), qs p ≤ k → (∀ x ∈ m, qs x ≤ k) → qs (m.foldl qmin p) ≤ k ∧ qs (m.foldl qmax p) ≤ k := by
    intro m
    induction m with
    | nil => exact fun p hp _ => ⟨hp, hp⟩
    | cons a m ih =>
      intro p hp hm
      exact ⟨(ih (qmin p a) (qs_min hp (hm a (by simp))) (fun x hx => hm x (by simp [hx]))).1, (ih (qmax p a) (qs_max hp (hm a (by simp))) (fun x hx => hm x (by simp [hx]))).2⟩
  exact h2 m p hp hl'
theorem LST : (∀ {α : Type} (l : List α), l.drop 0 = l) ∧ (∀ {α : Type} (n : Nat) (x : α) (l : List α), (x :: l).drop (n + 1) = l.drop n) ∧ (∀ {α : Type} (l : List α), l.take 0 = []) ∧ (∀ {α : Type} (n : Nat) (x : α) (l : List α), (x :: l).take (n + 1) = x :: l.take n) ∧ (∀ {α : Type} (n : Nat), ([] : List α).take n = []) ∧ (∀ {α : Type} (n : Nat), ([] : List α).drop n = []) ∧
  ((none : Option AV).isNone = true) ∧ ((none : Option AV).isSome = false) ∧ (∀ {α : Type} (x : α), (some x).isSome = true) :=
  ⟨fun _ => rfl, fun _ _ _ => rfl, fun _ => rfl, fun _ _ _ => rfl, fun _ => List.take_nil, fun _ => List.drop_nil, rfl, rfl, fun _ => rfl⟩
/-- an array in a variable -/
theorem ARR : (∀ {n : Nat} {y : Nat × Nat} {off : Nat} {k : IntKind} {x : Int}, arrO n (.ptr y off) (.one (.dt (.lit (.int k x)))) = (0 ≤ x ∧ x < n)) ∧
  (∀ {sz : Nat} {y : Nat × Nat} {off : Nat} {k : IntKind} {x : Int}, arrV sz (.ptr y off) (.one (.dt (.lit (.int k x)))) = .ptr y (off + x.toNat * sz)) := ⟨rfl, rfl⟩
theorem S_Mul {x y u v : RR} (hx : rok 68719476600 x) (hy : rok 68719476600 y) (hu : rok 68719476600 u) (hv : rok 68719476600 v) (qx : qs x.q ≤ 10000000000) (qy : qs y.q ≤ 10000000000) (qu : qs u.q ≤ 10000000000) (qv : qs v.q ≤ 10000000000) :
    AFun Tryd.prog 17 [.agg (rC x ++ rC y), .agg (rC u ++ rC v)] [.agg (sQ (mlo x.q y.q u.q v.q) (mhi x.q y.q u.q v.q))] := by
  have c1 := R_Mul hx hu
  have c2 := R_Mul hx hv
  have c3 := R_Mul hy hu
  have c4 := R_Mul hy hv
  have b1 := qs_mul x.q u.q
  have b2 := qs_mul x.q v.q
  have b3 := qs_mul y.q u.q
  have b4 := qs_mul y.q v.q
  unfold mlo mhi
  generalize x.q * u.q = p1 at *
  generalize x.q * v.q = p2 at *
  generalize y.q * u.q = p3 at *
  generalize y.q * v.q = p4 at *
  have el : m4 p1 p2 p3 p4 = fmin p1 [p2, p3, p4] 3 := rfl
  have eh : M4 p1 p2 p3 p4 = fmax p1 [p2, p3, p4] 3 := rfl
  have le := m4_le_M4 p1 p2 p3 p4
  rw [el, eh] at *
  have e1 : fmin p1 [p2, p3, p4] 0 = p1 := rfl
  have e2 : fmax p1 [p2, p3, p4] 0 = p1 := rfl
  have hl : ∀ x ∈ [p2, p3, p4], qs x ≤ 68719476600 := by
    intro x hx
    simp only [List.mem_cons, List.not_mem_nil, or_false] at hx
    rcases hx with rfl | rfl | rfl <;> omega
  have hb := fun i => qs_fold (k := 68719476600) (p := p1) (by omega) hl i
  have hs := fun i => fmin_succ p1 [p2, p3, p4] i
  have ht := fun i => fmax_succ p1 [p2, p3, p4] i
  have hlen : [p2, p3, p4].length = 3 := rfl
  have hrow : Dt.sl 3 [.lit (.bool (decide (p2.num < 0))), natD (nl p2.num.natAbs), natD (nl p2.den), .lit (.bool (decide (p3.num < 0))), natD (nl p3.num.natAbs), natD (nl p3.den), .lit (.bool (decide (p4.num < 0))), natD (nl p4.num.natAbs), natD (nl p4.den)] = rqD [p2, p3, p4] := rfl
  refine afun_intro mo_ _ _ c17 k17 _ _ rfl (by decide) ?_
  unfold b17
  simp (maxSteps:=1000000) (disch:=first | omega | (simp only [LL];omega)) only [W,V,TY,CC,reduceIte,Nat.reduceEqDiff,Nat.reduceAdd,Nat.reduceLeDiff,Nat.reduceLT,Int.reduceLE,Int.reduceLT,Int.reduceAdd,Int.reduceSub,Int.reduceToNat,Nat.reduceMul,rC,sQ]
  refine a_call _ _ c1 (by simp (maxSteps:=1000000) (disch:=first | omega | (simp only [LL];omega)) only [W,V,TY,CC,reduceIte,Nat.reduceEqDiff,Nat.reduceAdd,Nat.reduceLeDiff,Nat.reduceLT,Int.reduceLE,Int.reduceLT,Int.reduceAdd,Int.reduceSub,Int.reduceToNat,Nat.reduceMul,rC]) ?_
  simp (maxSteps:=1000000) (disch:=first | omega | (simp only [LL];omega)) only [W,V,TY,CC,reduceIte,Nat.reduceEqDiff,Nat.reduceAdd,Nat.reduceLeDiff,Nat.reduceLT,Int.reduceLE,Int.reduceLT,Int.reduceAdd,Int.reduceSub,Int.reduceToNat,Nat.reduceMul,rC,ratC]
  refine a_call _ _ c2 (by simp (maxSteps:=1000000) (disch:=first | omega | (simp only [LL];omega)) only [W,V,TY,CC,reduceIte,Nat.reduceEqDiff,Nat.reduceAdd,Nat.reduceLeDiff,Nat.reduceLT,Int.reduceLE,Int.reduceLT,Int.reduceAdd,Int.reduceSub,Int.reduceToNat,Nat.reduceMul,rC]) ?_
  simp (maxSteps:=1000000) (disch:=first | omega | (simp only [LL];omega)) only [W,V,TY,CC,reduceIte,Nat.reduceEqDiff,Nat.reduceAdd,Nat.reduceLeDiff,Nat.reduceLT,Int.reduceLE,Int.reduceLT,Int.reduceAdd,Int.reduceSub,Int.reduceToNat,Nat.reduceMul,rC,ratC]
  refine a_call _ _ c3 (by simp (maxSteps:=1000000) (disch:=first | omega | (simp only [LL];omega)) only [W,V,TY,CC,reduceIte,Nat.reduceEqDiff,Nat.reduceAdd,Nat.reduceLeDiff,Nat.reduceLT,Int.reduceLE,Int.reduceLT,Int.reduceAdd,Int.reduceSub,Int.reduceToNat,Nat.reduceMul,rC]) ?_
  simp (maxSteps:=1000000) (disch:=first | omega | (simp only [LL];omega)) only [W,V,TY,CC,reduceIte,Nat.reduceEqDiff,Nat.reduceAdd,Nat.reduceLeDiff,Nat.reduceLT,Int.reduceLE,Int.reduceLT,Int.reduceAdd,Int.reduceSub,Int.reduceToNat,Nat.reduceMul,rC,ratC]
  refine a_call _ _ c4 (by simp (maxSteps:=1000000) (disch:=first | omega | (simp only [LL];omega)) only [W,V,TY,CC,reduceIte,Nat.reduceEqDiff,Nat.reduceAdd,Nat.reduceLeDiff,Nat.reduceLT,Int.reduceLE,Int.reduceLT,Int.reduceAdd,Int.reduceSub,Int.reduceToNat,Nat.reduceMul,rC]) ?_
  simp (maxSteps:=1000000) (disch:=first | omega | (simp only [LL];omega)) only [W,V,TY,CC,reduceIte,Nat.reduceEqDiff,Nat.reduceAdd,Nat.reduceLeDiff,Nat.reduceLT,Int.reduceLE,Int.reduceLT,Int.reduceAdd,Int.reduceSub,Int.reduceToNat,Nat.reduceMul,ratC,ARR,acutO,acutV,LST]
  rw [hrow]
  clear hrow
  generalize [p2, p3, p4] = l at *
  simp (maxSteps:=1000000) (disch:=first | omega | (simp only [LL];omega)) only [W,V,TY,CC,reduceIte,Nat.reduceEqDiff,Nat.reduceAdd,Nat.reduceLeDiff,Nat.reduceLT,Int.reduceLE,Int.reduceLT,Int.reduceAdd,Int.reduceSub,Int.reduceToNat,Nat.reduceMul,ratC,RQR,hlen]
  repeat' apply And.intro
  all_goals
    refine w_loop (fun n s => ∃ i : Nat, n + i = 3 ∧ s.t 4 = .ptr (4, 0) 0 ∧ s.v (4, 0) = some [.dt (.lit (.bool false)), .z, .z, .dt (.lit (.bool false)), .z, .z] ∧ s.f (4, 0) = false ∧ s.t 6 = .ptr (6, 0) 0 ∧ s.v (6, 0) = some ((ratC (fmin p1 l i)).map .dt) ∧ s.f (6, 0) = false ∧ s.t 7 = .ptr (7, 0) 0 ∧ s.v (7, 0) = some ((ratC (fmax p1 l i)).map .dt) ∧ s.f (7, 0) = false ∧ s.t 35 = .one (.dt (rqD l)) ∧ s.t 36 = .one (.dt (.lit (.int .i64 3))) ∧ s.t 37 = .one (.dt (.lit (.int .i64 i)))) 3 ⟨0, rfl, ?_, ?_, ?_, ?_, ?_, ?_, ?_, ?_, ?_, ?_, ?_, ?_⟩ ?_
    · simp (maxSteps:=1000000) (disch:=first | omega | (simp only [LL];omega)) only [W,V,TY,CC,reduceIte,Nat.reduceEqDiff,Nat.reduceAdd,Nat.reduceLeDiff,Nat.reduceLT,Int.reduceLE,Int.reduceLT,Int.reduceAdd,Int.reduceSub,Int.reduceToNat,Nat.reduceMul]
    · simp (maxSteps:=1000000) (disch:=first | omega | (simp only [LL];omega)) only [W,V,TY,CC,reduceIte,Nat.reduceEqDiff,Nat.reduceAdd,Nat.reduceLeDiff,Nat.reduceLT,Int.reduceLE,Int.reduceLT,Int.reduceAdd,Int.reduceSub,Int.reduceToNat,Nat.reduceMul]
    · simp (maxSteps:=1000000) (disch:=first | omega | (simp only [LL];omega)) only [W,V,TY,CC,reduceIte,Nat.reduceEqDiff,Nat.reduceAdd,Nat.reduceLeDiff,Nat.reduceLT,Int.reduceLE,Int.reduceLT,Int.reduceAdd,Int.reduceSub,Int.reduceToNat,Nat.reduceMul]
    · simp (maxSteps:=1000000) (disch:=first | omega | (simp only [LL];omega)) only [W,V,TY,CC,reduceIte,Nat.reduceEqDiff,Nat.reduceAdd,Nat.reduceLeDiff,Nat.reduceLT,Int.reduceLE,Int.reduceLT,Int.reduceAdd,Int.reduceSub,Int.reduceToNat,Nat.reduceMul]
    · simp (maxSteps:=1000000) (disch:=first | omega | (simp only [LL];omega)) only [W,V,TY,CC,reduceIte,Nat.reduceEqDiff,Nat.reduceAdd,Nat.reduceLeDiff,Nat.reduceLT,Int.reduceLE,Int.reduceLT,Int.reduceAdd,Int.reduceSub,Int.reduceToNat,Nat.reduceMul,e1,ratC]
    · simp (maxSteps:=1000000) (disch:=first | omega | (simp only [LL];omega)) only [W,V,TY,CC,reduceIte,Nat.reduceEqDiff,Nat.reduceAdd,Nat.reduceLeDiff,Nat.reduceLT,Int.reduceLE,Int.reduceLT,Int.reduceAdd,Int.reduceSub,Int.reduceToNat,Nat.reduceMul]
    · simp (maxSteps:=1000000) (disch:=first | omega | (simp only [LL];omega)) only [W,V,TY,CC,reduceIte,Nat.reduceEqDiff,Nat.reduceAdd,Nat.reduceLeDiff,Nat.reduceLT,Int.reduceLE,Int.reduceLT,Int.reduceAdd,Int.reduceSub,Int.reduceToNat,Nat.reduceMul]
    · simp (maxSteps:=1000000) (disch:=first | omega | (simp only [LL];omega)) only [W,V,TY,CC,reduceIte,Nat.reduceEqDiff,Nat.reduceAdd,Nat.reduceLeDiff,Nat.reduceLT,Int.reduceLE,Int.reduceLT,Int.reduceAdd,Int.reduceSub,Int.reduceToNat,Nat.reduceMul,e2,ratC]
    · simp (maxSteps:=1000000) (disch:=first | omega | (simp only [LL];omega)) only [W,V,TY,CC,reduceIte,Nat.reduceEqDiff,Nat.reduceAdd,Nat.reduceLeDiff,Nat.reduceLT,Int.reduceLE,Int.reduceLT,Int.reduceAdd,Int.reduceSub,Int.reduceToNat,Nat.reduceMul]
    · simp (maxSteps:=1000000) (disch:=first | omega | (simp only [LL];omega)) only [W,V,TY,CC,reduceIte,Nat.reduceEqDiff,Nat.reduceAdd,Nat.reduceLeDiff,Nat.reduceLT,Int.reduceLE,Int.reduceLT,Int.reduceAdd,Int.reduceSub,Int.reduceToNat,Nat.reduceMul]
    · simp (maxSteps:=1000000) (disch:=first | omega | (simp only [LL];omega)) only [W,V,TY,CC,reduceIte,Nat.reduceEqDiff,Nat.reduceAdd,Nat.reduceLeDiff,Nat.reduceLT,Int.reduceLE,Int.reduceLT,Int.reduceAdd,Int.reduceSub,Int.reduceToNat,Nat.reduceMul]
    · simp (maxSteps:=1000000) (disch:=first | omega | (simp only [LL];omega)) only [W,V,TY,CC,reduceIte,Nat.reduceEqDiff,Nat.reduceAdd,Nat.reduceLeDiff,Nat.reduceLT,Int.reduceLE,Int.reduceLT,Int.reduceAdd,Int.reduceSub,Int.reduceToNat,Nat.reduceMul]
    intro n s hwf ⟨i, e, t4, v4, f4, t6, v6, f6, t7, v7, f7, t35, t36, t37⟩
    simp only [ratC, List.map_cons, List.map_nil] at v6 v7
    have f9 := (hwf 9 (s.g 9) (Nat.le_refl _)).2.2
    simp (maxSteps:=1000000) (disch:=first | omega | (simp only [LL];omega)) only [W,V,TY,CC,reduceIte,Nat.reduceEqDiff,Nat.reduceAdd,Nat.reduceLeDiff,Nat.reduceLT,Int.reduceLE,Int.reduceLT,Int.reduceAdd,Int.reduceSub,Int.reduceToNat,Nat.reduceMul,t4,v4,f4,t6,v6,f6,t7,v7,f7,t35,t36,t37]
    refine c_split (fun hi => ?_) (fun hi => ?_)
    · have hil : i < l.length := by omega
      have qa : qs (l.getD i 0) ≤ 68719476600 := hl _ (by rw [List.getD_eq_getElem?_getD, List.getElem?_eq_getElem hil]; exact List.getElem_mem hil)
      have qb := hb i
      have hs' := hs i hil
      have ht' := ht i hil
      have g1 := cmpQ_lt (l.getD i 0) (fmin p1 l i)
      have g2 := cmpQ_gt (l.getD i 0) (fmax p1 l i)
      have E1p : cmpQ (l.getD i 0) (fmin p1 l i) < 0 → fmin p1 l (i + 1) = l.getD i 0 := fun h => hs'.trans (if_pos (g1.1 h))
      have E1n : ¬ cmpQ (l.getD i 0) (fmin p1 l i) < 0 → fmin p1 l (i + 1) = fmin p1 l i := fun h => hs'.trans (if_neg (fun e => h (g1.2 e)))
      have E2p : 0 < cmpQ (l.getD i 0) (fmax p1 l i) → fmax p1 l (i + 1) = l.getD i 0 := fun h => ht'.trans (if_neg (Rat.not_lt.2 (Rat.le_of_lt (g2.1 h))))
      have E2n : ¬ 0 < cmpQ (l.getD i 0) (fmax p1 l i) → fmax p1 l (i + 1) = fmax p1 l i := fun h => ht'.trans (qmax_neg (fun e => h (g2.2 e)))
      have d1 := rat_Cmp2 (a := l.getD i 0) (b := fmin p1 l i) (by omega) (by omega)
      have d2 := rat_Cmp2 (a := l.getD i 0) (b := fmax p1 l i) (by omega) (by omega)
      simp (maxSteps:=1000000) (disch:=first | omega | (simp only [LL];omega)) only [W,V,TY,CC,reduceIte,Nat.reduceEqDiff,Nat.reduceAdd,Nat.reduceLeDiff,Nat.reduceLT,Int.reduceLE,Int.reduceLT,Int.reduceAdd,Int.reduceSub,Int.reduceToNat,Nat.reduceMul,t4,v4,f4,t6,v6,f6,t7,v7,f7,t35,t36,t37,f9,RQR,hlen]
      refine a_call _ _ d1 (by simp (maxSteps:=1000000) (disch:=first | omega | (simp only [LL];omega)) only [W,V,TY,CC,reduceIte,Nat.reduceEqDiff,Nat.reduceAdd,Nat.reduceLeDiff,Nat.reduceLT,Int.reduceLE,Int.reduceLT,Int.reduceAdd,Int.reduceSub,Int.reduceToNat,Nat.reduceMul,t4,v4,f4,t6,v6,f6,t7,v7,f7,t35,t36,t37,f9,ratC]) ?_
      simp (maxSteps:=1000000) (disch:=first | omega | (simp only [LL];omega)) only [W,V,TY,CC,reduceIte,Nat.reduceEqDiff,Nat.reduceAdd,Nat.reduceLeDiff,Nat.reduceLT,Int.reduceLE,Int.reduceLT,Int.reduceAdd,Int.reduceSub,Int.reduceToNat,Nat.reduceMul,t4,v4,f4,t6,v6,f6,t7,v7,f7,t35,t36,t37,f9]
      refine c_split (fun h => ?_) (fun h => ?_)
      all_goals
        simp (maxSteps:=1000000) (disch:=first | omega | (simp only [LL];omega)) only [W,V,TY,CC,reduceIte,Nat.reduceEqDiff,Nat.reduceAdd,Nat.reduceLeDiff,Nat.reduceLT,Int.reduceLE,Int.reduceLT,Int.reduceAdd,Int.reduceSub,Int.reduceToNat,Nat.reduceMul,t4,v4,f4,t6,v6,f6,t7,v7,f7,t35,t36,t37,f9]
        refine a_call _ _ d2 (by simp (maxSteps:=1000000) (disch:=first | omega | (simp only [LL];omega)) only [W,V,TY,CC,reduceIte,Nat.reduceEqDiff,Nat.reduceAdd,Nat.reduceLeDiff,Nat.reduceLT,Int.reduceLE,Int.reduceLT,Int.reduceAdd,Int.reduceSub,Int.reduceToNat,Nat.reduceMul,t4,v4,f4,t6,v6,f6,t7,v7,f7,t35,t36,t37,f9,ratC]) ?_
        simp (maxSteps:=1000000) (disch:=first | omega | (simp only [LL];omega)) only [W,V,TY,CC,reduceIte,Nat.reduceEqDiff,Nat.reduceAdd,Nat.reduceLeDiff,Nat.reduceLT,Int.reduceLE,Int.reduceLT,Int.reduceAdd,Int.reduceSub,Int.reduceToNat,Nat.reduceMul,t4,v4,f4,t6,v6,f6,t7,v7,f7,t35,t36,t37,f9]
        refine c_split (fun h' => ?_) (fun h' => ?_)
        all_goals
          simp (maxSteps:=1000000) (disch:=first | omega | (simp only [LL];omega)) only [W,V,TY,CC,reduceIte,Nat.reduceEqDiff,Nat.reduceAdd,Nat.reduceLeDiff,Nat.reduceLT,Int.reduceLE,Int.reduceLT,Int.reduceAdd,Int.reduceSub,Int.reduceToNat,Nat.reduceMul,t4,v4,f4,t6,v6,f6,t7,v7,f7,t35,t36,t37,f9]
          first
            | exact ⟨n - 1, by omega, i + 1, by omega, by rw [E1p h]; rfl, by rw [E2p h']; rfl, rfl⟩
            | exact ⟨n - 1, by omega, i + 1, by omega, by rw [E1p h]; rfl, by rw [E2n h']; rfl, rfl⟩
            | exact ⟨n - 1, by omega, i + 1, by omega, by rw [E1n h]; rfl, by rw [E2p h']; rfl, rfl⟩
            | exact ⟨n - 1, by omega, i + 1, by omega, by rw [E1n h]; rfl, by rw [E2n h']; rfl, rfl⟩
    · obtain rfl : i = 3 := by omega
      have co := S_Of2 (hb 3).1 (hb 3).2
      rw [qmin_eq le, qmax_eq le] at co
      simp (maxSteps:=1000000) (disch:=first | omega | (simp only [LL];omega)) only [W,V,TY,CC,reduceIte,Nat.reduceEqDiff,Nat.reduceAdd,Nat.reduceLeDiff,Nat.reduceLT,Int.reduceLE,Int.reduceLT,Int.reduceAdd,Int.reduceSub,Int.reduceToNat,Nat.reduceMul,t4,v4,f4,t6,v6,f6,t7,v7,f7,t35,t36,t37]
      refine a_call _ _ co (by simp (maxSteps:=1000000) (disch:=first | omega | (simp only [LL];omega)) only [W,V,TY,CC,reduceIte,Nat.reduceEqDiff,Nat.reduceAdd,Nat.reduceLeDiff,Nat.reduceLT,Int.reduceLE,Int.reduceLT,Int.reduceAdd,Int.reduceSub,Int.reduceToNat,Nat.reduceMul,ratC,t4,v4,f4,t6,v6,f6,t7,v7,f7]) ?_
      simp (maxSteps:=1000000) (disch:=first | omega | (simp only [LL];omega)) only [W,V,TY,CC,reduceIte,Nat.reduceEqDiff,Nat.reduceAdd,Nat.reduceLeDiff,Nat.reduceLT,Int.reduceLE,Int.reduceLT,Int.reduceAdd,Int.reduceSub,Int.reduceToNat,Nat.reduceMul,sQ,ratC,t4,v4,f4,t6,v6,f6,t7,v7,f7]
      refine f_ret _ _ _ ?_
      simp (maxSteps:=1000000) (disch:=first | omega | (simp only [LL];omega)) only [W,V,TY,CC,reduceIte,Nat.reduceEqDiff,Nat.reduceAdd,Nat.reduceLeDiff,Nat.reduceLT,Int.reduceLE,Int.reduceLT,Int.reduceAdd,Int.reduceSub,Int.reduceToNat,Nat.reduceMul,ratC,t4,v4,f4,t6,v6,f6,t7,v7,f7]
end Go.Proofs.YtljmgdepldpmdaaDoor.E

set_option linter.unusedSimpArgs false
set_option linter.unusedVariables false
set_option maxHeartbeats 2000000
namespace Go.Proofs.YtljmgdepldpmdaaDoor.E
open Go.RowKit Limbs
/-- examboard/examboardlaw05.limbs -/
def b55 : AF := ⟨26, 2, [.tmp 4],
  (.seq (.reg [
    ⟨some 4, .assign (.const (.bool false)), none⟩])
  (.seq (.seq (.reg [
    ⟨some 6, .move (.tmp 0), none⟩,
    ⟨some 7, .call ⟨(.builtin .len), #[(.tmp 6)], #[23]⟩, none⟩,
    ⟨some 8, .move (.tmp 1), none⟩,
    ⟨some 9, .call ⟨(.builtin .len), #[(.tmp 8)], #[23]⟩, none⟩,
    ⟨some 10, .binOp .neq 3 (.tmp 7) (.tmp 9) 3, none⟩])
  (.cond (.tmp 10)
    (.seq (.reg [
      ⟨some 4, .assign (.const (.bool false)), none⟩])
    .ret)
    .skip))
  (.seq (.seq (.reg [
    ⟨some 11, .move (.tmp 0), none⟩,
    ⟨some 12, .call ⟨(.builtin .len), #[(.tmp 11)], #[23]⟩, none⟩,
    ⟨some 13, .move (.const (.int .i64 0)), none⟩])
  (.block 0 (.loop (.seq (.reg [
    ⟨some 14, .binOp .lss 3 (.tmp 13) (.tmp 12) 3, none⟩])
  (.seq (.cond (.tmp 14)
    .skip
    (.exit 0))
  (.seq (.block 1 (.seq (.reg [
    ⟨some 15, .move (.tmp 13), none⟩,
    ⟨some 5, .assign (.tmp 15), none⟩])
  (.seq (.dreg [
    ⟨some 16, .move (.tmp 0), none⟩,
    ⟨some 17, .move (.tmp 5), none⟩,
    ⟨some 18, .indexAddr 23 (.tmp 16) (.tmp 17), none⟩,
    ⟨some 19, .load 113 (.tmp 18), none⟩,
    ⟨some 20, .move (.tmp 1), none⟩,
    ⟨some 21, .move (.tmp 5), none⟩,
    ⟨some 22, .indexAddr 23 (.tmp 20) (.tmp 21), none⟩,
    ⟨some 23, .load 113 (.tmp 22), none⟩,
    ⟨some 24, .binOp .neq 113 (.tmp 19) (.tmp 23) 113, none⟩])
  (.cond (.tmp 24)
    (.seq (.reg [
      ⟨some 4, .assign (.const (.bool false)), none⟩])
    .ret)
    .skip))))
  (.reg [
    ⟨some 25, .binOp .add 3 (.tmp 13) (.const (.int .i64 1)) 3, none⟩,
    ⟨some 13, .move (.tmp 25), none⟩])))))))
  (.seq (.reg [
    ⟨some 4, .assign (.const (.bool true)), none⟩])
  .ret))))⟩
theorem c55 : fcomp Tryd.prog 55 = ⟨b55.n, b55.np, b55.res, b55.body.bare⟩ := by kernel_rfl
theorem k55 : fok Tryd.prog 55 = true := by kernel_rfl
/-- examboard/examboardlaw05.equal -/
def b24 : AF := ⟨28, 2, [.tmp 4],
  (.seq (.reg [
    ⟨some 2, .box 27 (.tmp 0), none⟩,
    ⟨some 3, .box 27 (.tmp 1), none⟩,
    ⟨some 4, .assign (.const (.bool false)), none⟩])
  (.seq (.reg [
    ⟨some 5, .fieldAddr 27 (.tmp 2) 0, none⟩,
    ⟨some 6, .fieldAddr 25 (.tmp 5) 0, none⟩,
    ⟨some 7, .load 4 (.tmp 6), none⟩,
    ⟨some 8, .fieldAddr 27 (.tmp 3) 0, none⟩,
    ⟨some 9, .fieldAddr 25 (.tmp 8) 0, none⟩,
    ⟨some 10, .load 4 (.tmp 9), none⟩,
    ⟨some 11, .binOp .eql 4 (.tmp 7) (.tmp 10) 4, none⟩,
    ⟨some 12, .move (.tmp 11), none⟩,
    ⟨some 13, .fieldAddr 27 (.tmp 2) 0, some (12, true)⟩,
    ⟨some 14, .fieldAddr 25 (.tmp 13) 1, some (12, true)⟩,
    ⟨some 15, .load 23 (.tmp 14), some (12, true)⟩,
    ⟨some 16, .fieldAddr 27 (.tmp 3) 0, some (12, true)⟩,
    ⟨some 17, .fieldAddr 25 (.tmp 16) 1, some (12, true)⟩,
    ⟨some 18, .load 23 (.tmp 17), some (12, true)⟩,
    ⟨some 19, .call ⟨(.value (.func 55)), #[(.tmp 15), (.tmp 18)], #[23, 23]⟩, some (12, true)⟩,
    ⟨some 20, .pick (.tmp 12) (.tmp 19) (.const (.bool false)), none⟩,
    ⟨some 21, .move (.tmp 20), none⟩,
    ⟨some 22, .fieldAddr 27 (.tmp 2) 1, some (21, true)⟩,
    ⟨some 23, .load 23 (.tmp 22), some (21, true)⟩,
    ⟨some 24, .fieldAddr 27 (.tmp 3) 1, some (21, true)⟩,
    ⟨some 25, .load 23 (.tmp 24), some (21, true)⟩,
    ⟨some 26, .call ⟨(.value (.func 55)), #[(.tmp 23), (.tmp 25)], #[23, 23]⟩, some (21, true)⟩,
    ⟨some 27, .pick (.tmp 21) (.tmp 26) (.const (.bool false)), none⟩,
    ⟨some 4, .assign (.tmp 27), none⟩])
  .ret))⟩
theorem c24 : fcomp Tryd.prog 24 = ⟨b24.n, b24.np, b24.res, b24.body.bare⟩ := by kernel_rfl
theorem k24 : fok Tryd.prog 24 = true := by kernel_rfl
/-- examboard/examboardlaw05.same -/
def b27 : AF := ⟨17, 2, [.tmp 4],
  (.seq (.reg [
    ⟨some 2, .box 29 (.tmp 0), none⟩,
    ⟨some 3, .box 29 (.tmp 1), none⟩,
    ⟨some 4, .assign (.const (.bool false)), none⟩])
  (.seq (.reg [
    ⟨some 5, .fieldAddr 29 (.tmp 2) 0, none⟩,
    ⟨some 6, .load 27 (.tmp 5), none⟩,
    ⟨some 7, .fieldAddr 29 (.tmp 3) 0, none⟩,
    ⟨some 8, .load 27 (.tmp 7), none⟩,
    ⟨some 9, .call ⟨(.value (.func 24)), #[(.tmp 6), (.tmp 8)], #[27, 27]⟩, none⟩,
    ⟨some 10, .move (.tmp 9), none⟩,
    ⟨some 11, .fieldAddr 29 (.tmp 2) 1, some (10, true)⟩,
    ⟨some 12, .load 27 (.tmp 11), some (10, true)⟩,
    ⟨some 13, .fieldAddr 29 (.tmp 3) 1, some (10, true)⟩,
    ⟨some 14, .load 27 (.tmp 13), some (10, true)⟩,
    ⟨some 15, .call ⟨(.value (.func 24)), #[(.tmp 12), (.tmp 14)], #[27, 27]⟩, some (10, true)⟩,
    ⟨some 16, .pick (.tmp 10) (.tmp 15) (.const (.bool false)), none⟩,
    ⟨some 4, .assign (.tmp 16), none⟩])
  .ret))⟩
theorem c27 : fcomp Tryd.prog 27 = ⟨b27.n, b27.np, b27.res, b27.body.bare⟩ := by kernel_rfl
theorem k27 : fok Tryd.prog 27 = true := by kernel_rfl
/-- examboard/examboardlaw05.whole -/
def b52 : AF := ⟨22, 2, [.cell 4 29],
  (.seq (.reg [
    ⟨some 4, .alloc 29, none⟩])
  (.seq (.reg [
    ⟨some 10, .move (.tmp 0), none⟩,
    ⟨some 11, .call ⟨(.value (.func 44)), #[(.tmp 10), (.const (.int .i64 1))], #[2, 2]⟩, none⟩,
    ⟨some 9, .move (.tmp 11), none⟩,
    ⟨some 12, .extract (.tmp 9) 0, none⟩,
    ⟨some 13, .extract (.tmp 9) 1, none⟩,
    ⟨some 5, .alloc 27, none⟩,
    ⟨none, .store 27 (.tmp 5) (.tmp 12), none⟩,
    ⟨some 6, .assign (.tmp 13), none⟩])
  (.seq (.reg [
    ⟨some 15, .move (.tmp 1), none⟩,
    ⟨some 16, .call ⟨(.value (.func 44)), #[(.tmp 15), (.const (.int .i64 1))], #[2, 2]⟩, none⟩,
    ⟨some 14, .move (.tmp 16), none⟩,
    ⟨some 17, .extract (.tmp 14) 0, none⟩,
    ⟨some 18, .extract (.tmp 14) 1, none⟩,
    ⟨some 7, .alloc 27, none⟩,
    ⟨none, .store 27 (.tmp 7) (.tmp 17), none⟩,
    ⟨some 8, .assign (.tmp 18), none⟩])
  (.seq (.reg [
    ⟨some 19, .load 27 (.tmp 5), none⟩,
    ⟨some 20, .load 27 (.tmp 7), none⟩,
    ⟨some 21, .call ⟨(.value (.func 28)), #[(.tmp 19), (.tmp 20)], #[27, 27]⟩, none⟩,
    ⟨none, .store 29 (.tmp 4) (.tmp 21), none⟩])
  .ret))))⟩
theorem c52 : fcomp Tryd.prog 52 = ⟨b52.n, b52.np, b52.res, b52.body.bare⟩ := by kernel_rfl
theorem k52 : fok Tryd.prog 52 = true := by kernel_rfl
/-- examboard/examboardlaw05.between -/
def b11 : AF := ⟨26, 2, [.cell 4 27],
  (.seq (.reg [
    ⟨some 2, .box 29 (.tmp 0), none⟩,
    ⟨some 4, .alloc 27, none⟩])
  (.seq (.reg [
    ⟨some 8, .fieldAddr 29 (.tmp 2) 0, none⟩,
    ⟨some 9, .load 27 (.tmp 8), none⟩,
    ⟨some 10, .fieldAddr 29 (.tmp 2) 1, none⟩,
    ⟨some 11, .load 27 (.tmp 10), none⟩,
    ⟨some 12, .call ⟨(.value (.func 28)), #[(.tmp 9), (.tmp 11)], #[27, 27]⟩, none⟩,
    ⟨some 5, .alloc 29, none⟩,
    ⟨none, .store 29 (.tmp 5) (.tmp 12), none⟩])
  (.seq (.reg [
    ⟨some 14, .move (.tmp 1), none⟩,
    ⟨some 15, .convert 5 2 (.tmp 14), none⟩,
    ⟨some 16, .call ⟨(.value (.func 44)), #[(.tmp 15), (.const (.int .i64 255))], #[2, 2]⟩, none⟩,
    ⟨some 13, .move (.tmp 16), none⟩,
    ⟨some 17, .extract (.tmp 13) 0, none⟩,
    ⟨some 18, .extract (.tmp 13) 1, none⟩,
    ⟨some 6, .alloc 27, none⟩,
    ⟨none, .store 27 (.tmp 6) (.tmp 17), none⟩,
    ⟨some 7, .assign (.tmp 18), none⟩])
  (.seq (.dreg [
    ⟨some 19, .fieldAddr 29 (.tmp 5) 0, none⟩,
    ⟨some 20, .load 27 (.tmp 19), none⟩,
    ⟨some 21, .load 27 (.tmp 6), none⟩,
    ⟨some 22, .load 29 (.tmp 2), none⟩,
    ⟨some 23, .call ⟨(.value (.func 21)), #[(.tmp 22)], #[29]⟩, none⟩,
    ⟨some 24, .call ⟨(.value (.func 18)), #[(.tmp 21), (.tmp 23)], #[27, 27]⟩, none⟩,
    ⟨some 25, .call ⟨(.value (.func 14)), #[(.tmp 20), (.tmp 24)], #[27, 27]⟩, none⟩,
    ⟨none, .store 27 (.tmp 4) (.tmp 25), none⟩])
  .ret))))⟩
theorem c11 : fcomp Tryd.prog 11 = ⟨b11.n, b11.np, b11.res, b11.body.bare⟩ := by kernel_rfl
theorem k11 : fok Tryd.prog 11 = true := by kernel_rfl
/-- examboard/examboardlaw05.awake -/
def b20 : AF := ⟨46, 0, [.tmp 0],
  (.seq (.reg [
    ⟨some 0, .assign (.const (.bool false)), none⟩])
  (.seq (.reg [
    ⟨some 6, .call ⟨(.value (.func 52)), #[(.const (.int .i64 0)), (.const (.int .i64 1))], #[2, 2]⟩, none⟩,
    ⟨some 7, .call ⟨(.value (.func 52)), #[(.const (.int .i64 2)), (.const (.int .i64 1))], #[2, 2]⟩, none⟩,
    ⟨some 8, .call ⟨(.value (.func 29)), #[(.tmp 6), (.tmp 7)], #[29, 29]⟩, none⟩,
    ⟨some 5, .move (.tmp 8), none⟩,
    ⟨some 9, .extract (.tmp 5) 0, none⟩,
    ⟨some 10, .extract (.tmp 5) 1, none⟩,
    ⟨some 1, .alloc 29, none⟩,
    ⟨none, .store 29 (.tmp 1) (.tmp 9), none⟩,
    ⟨some 2, .assign (.tmp 10), none⟩])
  (.seq (.reg [
    ⟨some 12, .call ⟨(.value (.func 52)), #[(.const (.int .i64 0)), (.const (.int .i64 1))], #[2, 2]⟩, none⟩,
    ⟨some 13, .call ⟨(.value (.func 52)), #[(.const (.int .i64 3)), (.const (.int .i64 2))], #[2, 2]⟩, none⟩,
    ⟨some 14, .call ⟨(.value (.func 29)), #[(.tmp 12), (.tmp 13)], #[29, 29]⟩, none⟩,
    ⟨some 11, .move (.tmp 14), none⟩,
    ⟨some 15, .extract (.tmp 11) 0, none⟩,
    ⟨some 16, .extract (.tmp 11) 1, none⟩,
    ⟨some 3, .alloc 29, none⟩,
    ⟨none, .store 29 (.tmp 3) (.tmp 15), none⟩,
    ⟨some 4, .assign (.tmp 16), none⟩])
  (.seq (.dreg [
    ⟨some 17, .call ⟨(.value (.func 52)), #[(.const (.int .i64 2)), (.const (.int .i64 (-1)))], #[2, 2]⟩, none⟩,
    ⟨some 18, .call ⟨(.value (.func 52)), #[(.const (.int .i64 (-3))), (.const (.int .i64 4))], #[2, 2]⟩, none⟩,
    ⟨some 19, .call ⟨(.value (.func 17)), #[(.tmp 17), (.tmp 18)], #[29, 29]⟩, none⟩,
    ⟨some 20, .call ⟨(.value (.func 52)), #[(.const (.int .i64 (-6))), (.const (.int .i64 8))], #[2, 2]⟩, none⟩,
    ⟨some 21, .call ⟨(.value (.func 27)), #[(.tmp 19), (.tmp 20)], #[29, 29]⟩, none⟩,
    ⟨some 22, .move (.tmp 21), none⟩,
    ⟨some 23, .load 29 (.tmp 1), some (22, true)⟩,
    ⟨some 24, .call ⟨(.value (.func 52)), #[(.const (.int .i64 1)), (.const (.int .i64 1))], #[2, 2]⟩, some (22, true)⟩,
    ⟨some 25, .call ⟨(.value (.func 27)), #[(.tmp 23), (.tmp 24)], #[29, 29]⟩, some (22, true)⟩,
    ⟨some 26, .pick (.tmp 22) (.tmp 25) (.const (.bool false)), none⟩,
    ⟨some 27, .move (.tmp 26), none⟩,
    ⟨some 28, .move (.tmp 2), some (27, true)⟩,
    ⟨some 29, .pick (.tmp 27) (.tmp 28) (.const (.bool false)), none⟩,
    ⟨some 30, .move (.tmp 29), none⟩,
    ⟨some 31, .move (.tmp 4), some (30, true)⟩,
    ⟨some 32, .unOp .not 4 (.tmp 31), some (30, true)⟩,
    ⟨some 33, .pick (.tmp 30) (.tmp 32) (.const (.bool false)), none⟩,
    ⟨some 34, .move (.tmp 33), none⟩,
    ⟨some 35, .call ⟨(.value (.func 52)), #[(.const (.int .i64 0)), (.const (.int .i64 1))], #[2, 2]⟩, some (34, true)⟩,
    ⟨some 36, .call ⟨(.value (.func 52)), #[(.const (.int .i64 2)), (.const (.int .i64 3))], #[2, 2]⟩, some (34, true)⟩,
    ⟨some 37, .call ⟨(.value (.func 30)), #[(.tmp 35), (.tmp 36)], #[29, 29]⟩, some (34, true)⟩,
    ⟨some 38, .binOp .eql 3 (.tmp 37) (.const (.int .i64 (-1))) 3, some (34, true)⟩,
    ⟨some 39, .pick (.tmp 34) (.tmp 38) (.const (.bool false)), none⟩,
    ⟨some 40, .move (.tmp 39), none⟩,
    ⟨some 41, .call ⟨(.value (.func 52)), #[(.const (.int .i64 4)), (.const (.int .i64 (-1)))], #[2, 2]⟩, some (40, true)⟩,
    ⟨some 42, .call ⟨(.value (.func 21)), #[(.tmp 41)], #[29]⟩, some (40, true)⟩,
    ⟨some 43, .call ⟨(.value (.func 41)), #[(.tmp 42)], #[27]⟩, some (40, true)⟩,
    ⟨some 44, .binOp .eql 9 (.tmp 43) (.const (.string ⟨#[53]⟩)) 9, some (40, true)⟩,
    ⟨some 45, .pick (.tmp 40) (.tmp 44) (.const (.bool false)), none⟩,
    ⟨some 0, .assign (.tmp 45), none⟩])
  .ret))))⟩
theorem c20 : fcomp Tryd.prog 20 = ⟨b20.n, b20.np, b20.res, b20.body.bare⟩ := by kernel_rfl
theorem k20 : fok Tryd.prog 20 = true := by kernel_rfl
theorem l5_limbs (a b : List Int) (h1 : a.length < 4611686018427387904) : AFun Tryd.prog 55 [.one (natD a), .one (natD b)] [.one (.lit (.bool (decide (a = b))))] := by
  refine afun_intro mo_ _ _ c55 k55 _ _ rfl (by decide) ?_
  unfold b55
  simp (maxSteps:=1000000) (disch:=first | omega | (simp only [LL];omega)) only [W,V,TY,CC,reduceIte,Nat.reduceEqDiff,Nat.reduceAdd,Nat.reduceLeDiff,Nat.reduceLT,Int.reduceLE,Int.reduceLT,Int.reduceAdd,Int.reduceSub,Int.reduceToNat,Nat.reduceMul]
  refine c_split (fun hl => ?_) (fun hl => ?_)
  · simp (maxSteps:=1000000) (disch:=first | omega | (simp only [LL];omega)) only [W,V,TY,CC,reduceIte,Nat.reduceEqDiff,Nat.reduceAdd,Nat.reduceLeDiff,Nat.reduceLT,Int.reduceLE,Int.reduceLT,Int.reduceAdd,Int.reduceSub,Int.reduceToNat,Nat.reduceMul]
    refine f_ret _ _ _ ?_
    have hn : ¬ a = b := fun e => hl (by rw [e])
    simp (maxSteps:=1000000) (disch:=first | omega | (simp only [LL];omega)) only [W,V,TY,CC,reduceIte,Nat.reduceEqDiff,Nat.reduceAdd,Nat.reduceLeDiff,Nat.reduceLT,Int.reduceLE,Int.reduceLT,Int.reduceAdd,Int.reduceSub,Int.reduceToNat,Nat.reduceMul,hn]
  simp (maxSteps:=1000000) (disch:=first | omega | (simp only [LL];omega)) only [W,V,TY,CC,reduceIte,Nat.reduceEqDiff,Nat.reduceAdd,Nat.reduceLeDiff,Nat.reduceLT,Int.reduceLE,Int.reduceLT,Int.reduceAdd,Int.reduceSub,Int.reduceToNat,Nat.reduceMul]
  have hl' : a.length = b.length := by omega
  refine w_loop (fun n s => ∃ i : Nat, n + i = a.length ∧ s.t 0 = .one (.dt (natD a)) ∧ s.t 1 = .one (.dt (natD b)) ∧ s.t 12 = .one (.dt (.lit (.int .i64 a.length))) ∧ s.t 13 = .one (.dt (.lit (.int .i64 i))) ∧ ∀ j : Nat, j < i → a.getD j 0 = b.getD j 0) a.length ⟨0, by omega, ?_, ?_, ?_, ?_, fun j hj => by omega⟩ ?_
  · simp (maxSteps:=1000000) (disch:=first | omega | (simp only [LL];omega)) only [W,V,TY,CC,reduceIte,Nat.reduceEqDiff,Nat.reduceAdd,Nat.reduceLeDiff,Nat.reduceLT,Int.reduceLE,Int.reduceLT,Int.reduceAdd,Int.reduceSub,Int.reduceToNat,Nat.reduceMul]
  · simp (maxSteps:=1000000) (disch:=first | omega | (simp only [LL];omega)) only [W,V,TY,CC,reduceIte,Nat.reduceEqDiff,Nat.reduceAdd,Nat.reduceLeDiff,Nat.reduceLT,Int.reduceLE,Int.reduceLT,Int.reduceAdd,Int.reduceSub,Int.reduceToNat,Nat.reduceMul]
  · simp (maxSteps:=1000000) (disch:=first | omega | (simp only [LL];omega)) only [W,V,TY,CC,reduceIte,Nat.reduceEqDiff,Nat.reduceAdd,Nat.reduceLeDiff,Nat.reduceLT,Int.reduceLE,Int.reduceLT,Int.reduceAdd,Int.reduceSub,Int.reduceToNat,Nat.reduceMul]
  · simp (maxSteps:=1000000) (disch:=first | omega | (simp only [LL];omega)) only [W,V,TY,CC,reduceIte,Nat.reduceEqDiff,Nat.reduceAdd,Nat.reduceLeDiff,Nat.reduceLT,Int.reduceLE,Int.reduceLT,Int.reduceAdd,Int.reduceSub,Int.reduceToNat,Nat.reduceMul]
  intro n s _ ⟨i, e, t0, t1, t12, t13, ho⟩
  simp (maxSteps:=1000000) (disch:=first | omega | (simp only [LL];omega)) only [W,V,TY,CC,reduceIte,Nat.reduceEqDiff,Nat.reduceAdd,Nat.reduceLeDiff,Nat.reduceLT,Int.reduceLE,Int.reduceLT,Int.reduceAdd,Int.reduceSub,Int.reduceToNat,Nat.reduceMul,t0,t1,t12,t13]
  refine c_split (fun hi => ?_) (fun hi => ?_)
  · simp (maxSteps:=1000000) (disch:=first | omega | (simp only [LL];omega)) only [W,V,TY,CC,reduceIte,Nat.reduceEqDiff,Nat.reduceAdd,Nat.reduceLeDiff,Nat.reduceLT,Int.reduceLE,Int.reduceLT,Int.reduceAdd,Int.reduceSub,Int.reduceToNat,Nat.reduceMul,t0,t1,t12,t13]
    refine c_split (fun h6 => ?_) (fun h6 => ?_)
    · simp (maxSteps:=1000000) (disch:=first | omega | (simp only [LL];omega)) only [W,V,TY,CC,reduceIte,Nat.reduceEqDiff,Nat.reduceAdd,Nat.reduceLeDiff,Nat.reduceLT,Int.reduceLE,Int.reduceLT,Int.reduceAdd,Int.reduceSub,Int.reduceToNat,Nat.reduceMul,t0,t1,t12,t13]
      refine f_ret _ _ _ ?_
      have hn : ¬ a = b := fun e => h6 (by rw [e])
      simp (maxSteps:=1000000) (disch:=first | omega | (simp only [LL];omega)) only [W,V,TY,CC,reduceIte,Nat.reduceEqDiff,Nat.reduceAdd,Nat.reduceLeDiff,Nat.reduceLT,Int.reduceLE,Int.reduceLT,Int.reduceAdd,Int.reduceSub,Int.reduceToNat,Nat.reduceMul,hn]
    · simp (maxSteps:=1000000) (disch:=first | omega | (simp only [LL];omega)) only [W,V,TY,CC,reduceIte,Nat.reduceEqDiff,Nat.reduceAdd,Nat.reduceLeDiff,Nat.reduceLT,Int.reduceLE,Int.reduceLT,Int.reduceAdd,Int.reduceSub,Int.reduceToNat,Nat.reduceMul,t0,t1,t12,t13]
      refine ⟨n - 1, by omega, i + 1, by omega, rfl, fun j hj => ?_⟩
      by_cases hji : j = i
      · subst hji; exact Classical.not_not.1 h6
      · exact ho j (by omega)
  · simp (maxSteps:=1000000) (disch:=first | omega | (simp only [LL];omega)) only [W,V,TY,CC,reduceIte,Nat.reduceEqDiff,Nat.reduceAdd,Nat.reduceLeDiff,Nat.reduceLT,Int.reduceLE,Int.reduceLT,Int.reduceAdd,Int.reduceSub,Int.reduceToNat,Nat.reduceMul,t0,t1,t12,t13]
    refine f_ret _ _ _ ?_
    have hn : a = b := by
      apply List.ext_getElem hl'
      intro j hj hj'
      have := ho j (by omega)
      simpa [List.getD_eq_getElem?_getD, hj, hj'] using this
    simp (maxSteps:=1000000) (disch:=first | omega | (simp only [LL];omega)) only [W,V,TY,CC,reduceIte,Nat.reduceEqDiff,Nat.reduceAdd,Nat.reduceLeDiff,Nat.reduceLT,Int.reduceLE,Int.reduceLT,Int.reduceAdd,Int.reduceSub,Int.reduceToNat,Nat.reduceMul,hn]
theorem l5_equal (n : Bool) (m d : List Int) (lm : m.length < 4611686018427387904) (ld : d.length < 4611686018427387904) : AFun Tryd.prog 24 [.agg [.lit (.bool n), natD m, natD d], .agg [.lit (.bool n), natD m, natD d]] [.one (.lit (.bool true))] := by
  refine afun_intro mo_ _ _ c24 k24 _ _ rfl (by decide) ?_
  unfold b24
  have c1 := l5_limbs m m lm
  have c2 := l5_limbs d d ld
  simp (maxSteps:=1000000) (disch:=first | omega | (simp only [LL];omega)) only [W,V,TY,CC,reduceIte,Nat.reduceEqDiff,Nat.reduceAdd,Nat.reduceLeDiff,Nat.reduceLT,Int.reduceLE,Int.reduceLT,Int.reduceAdd,Int.reduceSub,Int.reduceToNat,Nat.reduceMul,beq_self_eq_true]
  refine a_call _ _ c1 (by simp (maxSteps:=1000000) (disch:=first | omega | (simp only [LL];omega)) only [W,V,TY,CC,reduceIte,Nat.reduceEqDiff,Nat.reduceAdd,Nat.reduceLeDiff,Nat.reduceLT,Int.reduceLE,Int.reduceLT,Int.reduceAdd,Int.reduceSub,Int.reduceToNat,Nat.reduceMul,beq_self_eq_true]) ?_
  simp (maxSteps:=1000000) (disch:=first | omega | (simp only [LL];omega)) only [W,V,TY,CC,reduceIte,Nat.reduceEqDiff,Nat.reduceAdd,Nat.reduceLeDiff,Nat.reduceLT,Int.reduceLE,Int.reduceLT,Int.reduceAdd,Int.reduceSub,Int.reduceToNat,Nat.reduceMul,beq_self_eq_true]
  refine a_call _ _ c2 (by simp (maxSteps:=1000000) (disch:=first | omega | (simp only [LL];omega)) only [W,V,TY,CC,reduceIte,Nat.reduceEqDiff,Nat.reduceAdd,Nat.reduceLeDiff,Nat.reduceLT,Int.reduceLE,Int.reduceLT,Int.reduceAdd,Int.reduceSub,Int.reduceToNat,Nat.reduceMul,beq_self_eq_true]) ?_
  simp (maxSteps:=1000000) (disch:=first | omega | (simp only [LL];omega)) only [W,V,TY,CC,reduceIte,Nat.reduceEqDiff,Nat.reduceAdd,Nat.reduceLeDiff,Nat.reduceLT,Int.reduceLE,Int.reduceLT,Int.reduceAdd,Int.reduceSub,Int.reduceToNat,Nat.reduceMul,beq_self_eq_true]
  refine f_ret _ _ _ ?_
  simp (maxSteps:=1000000) (disch:=first | omega | (simp only [LL];omega)) only [W,V,TY,CC,reduceIte,Nat.reduceEqDiff,Nat.reduceAdd,Nat.reduceLeDiff,Nat.reduceLT,Int.reduceLE,Int.reduceLT,Int.reduceAdd,Int.reduceSub,Int.reduceToNat,Nat.reduceMul,beq_self_eq_true]
theorem l5_equal2 {q : Rat} (h : qs q ≤ 68719476600) : AFun Tryd.prog 24 [.agg (ratC q), .agg (ratC q)] [.one (.lit (.bool true))] := by
  have h1 := qs_num q
  have h2 := qs_den q
  exact l5_equal _ _ _ (by omega) (by omega)
theorem l5_same {p q : Rat} (hp : qs p ≤ 68719476600) (hq : qs q ≤ 68719476600) : AFun Tryd.prog 27 [.agg (sQ p q), .agg (sQ p q)] [.one (.lit (.bool true))] := by
  refine afun_intro mo_ _ _ c27 k27 _ _ rfl (by decide) ?_
  unfold b27
  have c1 := l5_equal2 hp
  have c2 := l5_equal2 hq
  simp (maxSteps:=1000000) (disch:=first | omega | (simp only [LL];omega)) only [W,V,TY,CC,reduceIte,Nat.reduceEqDiff,Nat.reduceAdd,Nat.reduceLeDiff,Nat.reduceLT,Int.reduceLE,Int.reduceLT,Int.reduceAdd,Int.reduceSub,Int.reduceToNat,Nat.reduceMul,sQ,ratC]
  refine a_call _ _ c1 (by simp (maxSteps:=1000000) (disch:=first | omega | (simp only [LL];omega)) only [W,V,TY,CC,reduceIte,Nat.reduceEqDiff,Nat.reduceAdd,Nat.reduceLeDiff,Nat.reduceLT,Int.reduceLE,Int.reduceLT,Int.reduceAdd,Int.reduceSub,Int.reduceToNat,Nat.reduceMul,ratC]) ?_
  simp (maxSteps:=1000000) (disch:=first | omega | (simp only [LL];omega)) only [W,V,TY,CC,reduceIte,Nat.reduceEqDiff,Nat.reduceAdd,Nat.reduceLeDiff,Nat.reduceLT,Int.reduceLE,Int.reduceLT,Int.reduceAdd,Int.reduceSub,Int.reduceToNat,Nat.reduceMul]
  refine a_call _ _ c2 (by simp (maxSteps:=1000000) (disch:=first | omega | (simp only [LL];omega)) only [W,V,TY,CC,reduceIte,Nat.reduceEqDiff,Nat.reduceAdd,Nat.reduceLeDiff,Nat.reduceLT,Int.reduceLE,Int.reduceLT,Int.reduceAdd,Int.reduceSub,Int.reduceToNat,Nat.reduceMul,ratC]) ?_
  simp (maxSteps:=1000000) (disch:=first | omega | (simp only [LL];omega)) only [W,V,TY,CC,reduceIte,Nat.reduceEqDiff,Nat.reduceAdd,Nat.reduceLeDiff,Nat.reduceLT,Int.reduceLE,Int.reduceLT,Int.reduceAdd,Int.reduceSub,Int.reduceToNat,Nat.reduceMul]
  refine f_ret _ _ _ ?_
  simp (maxSteps:=1000000) (disch:=first | omega | (simp only [LL];omega)) only [W,V,TY,CC,reduceIte,Nat.reduceEqDiff,Nat.reduceAdd,Nat.reduceLeDiff,Nat.reduceLT,Int.reduceLE,Int.reduceLT,Int.reduceAdd,Int.reduceSub,Int.reduceToNat,Nat.reduceMul]
theorem l5_whole (a b lo hi : Int) (a0 : -9223372036854775808 ≤ a) (a1 : a < 9223372036854775808) (b0 : -9223372036854775808 ≤ b) (b1 : b < 9223372036854775808) (hl : qmin (a : Rat) b = lo) (hh : qmax (a : Rat) b = hi) :
    AFun Tryd.prog 52 [.one (.lit (.int .i64 a)), .one (.lit (.int .i64 b))] [.agg (sQ (lo : Rat) hi)] := by
  refine afun_intro mo_ _ _ c52 k52 _ _ rfl (by decide) ?_
  unfold b52
  have c1 := rat_Of a 1 a0 a1 (by decide) (by decide)
  have c2 := rat_Of b 1 b0 b1 (by decide) (by decide)
  have q1 := qs_int a0 a1
  have q2 := qs_int b0 b1
  have c3 := S_Of2 (p := (a : Rat)) (q := (b : Rat)) (by omega) (by omega)
  rw [divInt_one] at c1 c2
  rw [hl, hh] at c3
  simp (maxSteps:=1000000) (disch:=first | omega | (simp only [LL];omega)) only [W,V,TY,CC,reduceIte,Nat.reduceEqDiff,Nat.reduceAdd,Nat.reduceLeDiff,Nat.reduceLT,Int.reduceLE,Int.reduceLT,Int.reduceAdd,Int.reduceSub,Int.reduceToNat,Nat.reduceMul,sQ,ratC]
  refine a_call _ _ c1 (by simp (maxSteps:=1000000) (disch:=first | omega | (simp only [LL];omega)) only [W,V,TY,CC,reduceIte,Nat.reduceEqDiff,Nat.reduceAdd,Nat.reduceLeDiff,Nat.reduceLT,Int.reduceLE,Int.reduceLT,Int.reduceAdd,Int.reduceSub,Int.reduceToNat,Nat.reduceMul]) ?_
  simp (maxSteps:=1000000) (disch:=first | omega | (simp only [LL];omega)) only [W,V,TY,CC,reduceIte,Nat.reduceEqDiff,Nat.reduceAdd,Nat.reduceLeDiff,Nat.reduceLT,Int.reduceLE,Int.reduceLT,Int.reduceAdd,Int.reduceSub,Int.reduceToNat,Nat.reduceMul,ratC]
  refine a_call _ _ c2 (by simp (maxSteps:=1000000) (disch:=first | omega | (simp only [LL];omega)) only [W,V,TY,CC,reduceIte,Nat.reduceEqDiff,Nat.reduceAdd,Nat.reduceLeDiff,Nat.reduceLT,Int.reduceLE,Int.reduceLT,Int.reduceAdd,Int.reduceSub,Int.reduceToNat,Nat.reduceMul]) ?_
  simp (maxSteps:=1000000) (disch:=first | omega | (simp only [LL];omega)) only [W,V,TY,CC,reduceIte,Nat.reduceEqDiff,Nat.reduceAdd,Nat.reduceLeDiff,Nat.reduceLT,Int.reduceLE,Int.reduceLT,Int.reduceAdd,Int.reduceSub,Int.reduceToNat,Nat.reduceMul,ratC]
  refine a_call _ _ c3 (by simp (maxSteps:=1000000) (disch:=first | omega | (simp only [LL];omega)) only [W,V,TY,CC,reduceIte,Nat.reduceEqDiff,Nat.reduceAdd,Nat.reduceLeDiff,Nat.reduceLT,Int.reduceLE,Int.reduceLT,Int.reduceAdd,Int.reduceSub,Int.reduceToNat,Nat.reduceMul,ratC]) ?_
  simp (maxSteps:=1000000) (disch:=first | omega | (simp only [LL];omega)) only [W,V,TY,CC,reduceIte,Nat.reduceEqDiff,Nat.reduceAdd,Nat.reduceLeDiff,Nat.reduceLT,Int.reduceLE,Int.reduceLT,Int.reduceAdd,Int.reduceSub,Int.reduceToNat,Nat.reduceMul,sQ,ratC]
  refine f_ret _ _ _ ?_
  simp (maxSteps:=1000000) (disch:=first | omega | (simp only [LL];omega)) only [W,V,TY,CC,reduceIte,Nat.reduceEqDiff,Nat.reduceAdd,Nat.reduceLeDiff,Nat.reduceLT,Int.reduceLE,Int.reduceLT,Int.reduceAdd,Int.reduceSub,Int.reduceToNat,Nat.reduceMul,ratC]
theorem rok_int {x : Int} (h0 : -9223372036854775808 ≤ x) (h1 : x < 9223372036854775808) : rok 68719476600 (nr (x : Rat)) := rok_nr (by have := qs_int h0 h1; omega)
theorem l5_awake : AFun Tryd.prog 20 [] [.one (.lit (.bool true))] := by
  refine afun_intro mo_ _ _ c20 k20 _ _ rfl (by decide) ?_
  unfold b20
  have ri : ∀ x : Int, -100 ≤ x → x ≤ 100 → rok 68719476600 (nr (x : Rat)) := fun x h0 h1 => rok_int (by omega) (by omega)
  have qi : ∀ x : Int, -100 ≤ x → x ≤ 100 → qs (x : Rat) ≤ 68719476600 := fun x h0 h1 => by have := qs_int (x := x) (by omega) (by omega); omega
  have q10 : ∀ x : Int, -100 ≤ x → x ≤ 100 → qs (x : Rat) ≤ 10000000000 := fun x h0 h1 => by have := qs_int (x := x) (by omega) (by omega); omega
  have w1 := l5_whole 0 1 0 1 (by decide) (by decide) (by decide) (by decide) (by decide +kernel) (by decide +kernel)
  have w2 := l5_whole 2 1 1 2 (by decide) (by decide) (by decide) (by decide) (by decide +kernel) (by decide +kernel)
  have w3 := l5_whole 3 2 2 3 (by decide) (by decide) (by decide) (by decide) (by decide +kernel) (by decide +kernel)
  have w4 := l5_whole 2 (-1) (-1) 2 (by decide) (by decide) (by decide) (by decide) (by decide +kernel) (by decide +kernel)
  have w5 := l5_whole (-3) 4 (-3) 4 (by decide) (by decide) (by decide) (by decide) (by decide +kernel) (by decide +kernel)
  have w6 := l5_whole (-6) 8 (-6) 8 (by decide) (by decide) (by decide) (by decide) (by decide +kernel) (by decide +kernel)
  have w7 := l5_whole 1 1 1 1 (by decide) (by decide) (by decide) (by decide) (by decide +kernel) (by decide +kernel)
  have w8 := l5_whole 2 3 2 3 (by decide) (by decide) (by decide) (by decide) (by decide +kernel) (by decide +kernel)
  have w9 := l5_whole 4 (-1) (-1) 4 (by decide) (by decide) (by decide) (by decide) (by decide +kernel) (by decide +kernel)
  have m1 := S_Meet (ri 0 (by decide) (by decide)) (ri 1 (by decide) (by decide)) (ri 1 (by decide) (by decide)) (ri 2 (by decide) (by decide))
  have m2 := S_Meet (ri 0 (by decide) (by decide)) (ri 1 (by decide) (by decide)) (ri 2 (by decide) (by decide)) (ri 3 (by decide) (by decide))
  have mu := S_Mul (ri (-1) (by decide) (by decide)) (ri 2 (by decide) (by decide)) (ri (-3) (by decide) (by decide)) (ri 4 (by decide) (by decide)) (by rw [nr_q]; exact q10 (-1) (by decide) (by decide)) (by rw [nr_q]; exact q10 2 (by decide) (by decide)) (by rw [nr_q]; exact q10 (-3) (by decide) (by decide)) (by rw [nr_q]; exact q10 4 (by decide) (by decide))
  have or := S_Order (ri 0 (by decide) (by decide)) (ri 1 (by decide) (by decide)) (ri 2 (by decide) (by decide)) (ri 3 (by decide) (by decide))
  have wi := S_Width (ri (-1) (by decide) (by decide)) (ri 4 (by decide) (by decide)) 
  have s1 := l5_same (qi (-6) (by decide) (by decide)) (qi 8 (by decide) (by decide))
  have s2 := l5_same (qi 1 (by decide) (by decide)) (qi 1 (by decide) (by decide))
  simp only [nr_q, rC_nr] at m1 m2 mu or wi
  have e1 : meetLo ((0 : Int) : Rat) (1 : Int) (1 : Int) (2 : Int) = (1 : Int) := by decide +kernel
  have e2 : meetHi ((0 : Int) : Rat) (1 : Int) (1 : Int) (2 : Int) = (1 : Int) := by decide +kernel
  have e3 : meetHi ((0 : Int) : Rat) (1 : Int) (2 : Int) (3 : Int) < meetLo ((0 : Int) : Rat) (1 : Int) (2 : Int) (3 : Int) := by decide +kernel
  have e4 : mlo ((-1 : Int) : Rat) (2 : Int) (-3 : Int) (4 : Int) = (-6 : Int) := by decide +kernel
  have e5 : mhi ((-1 : Int) : Rat) (2 : Int) (-3 : Int) (4 : Int) = (8 : Int) := by decide +kernel
  have e6 : ordI ((0 : Int) : Rat) (1 : Int) (2 : Int) (3 : Int) = -1 := by decide +kernel
  have e7 : qabs (((4 : Int) : Rat) - (-1 : Int)) = (5 : Int) := by decide +kernel
  have e8 : ((4 : Int) : Rat) - (-1 : Int) = (5 : Int) := by decide +kernel
  have n1 : ¬ ((1 : Int) : Rat) < (1 : Int) := by decide +kernel
  rw [e1, e2, if_neg n1, decide_eq_true n1] at m1
  rw [if_pos e3, decide_eq_false (not_not_intro e3)] at m2
  rw [e4, e5] at mu
  rw [e6] at or
  have dq : digQ ((5 : Int) : Rat) = ⟨#[53]⟩ := by decide +kernel
  have pr := rat_Print ((5 : Int) : Rat) (by decide +kernel) (by decide +kernel) (by decide +kernel)
  rw [dq] at pr
  rw [e7, e8] at wi
  replace wi := wi (qi 5 (by decide) (by decide))
  simp (maxSteps:=1000000) (disch:=first | omega | (simp only [LL];omega)) only [W,V,TY,CC,reduceIte,Nat.reduceEqDiff,Nat.reduceAdd,Nat.reduceLeDiff,Nat.reduceLT,Int.reduceLE,Int.reduceLT,Int.reduceAdd,Int.reduceSub,Int.reduceToNat,Nat.reduceMul]
  refine a_call _ _ w1 (by simp (maxSteps:=1000000) (disch:=first | omega | (simp only [LL];omega)) only [W,V,TY,CC,reduceIte,Nat.reduceEqDiff,Nat.reduceAdd,Nat.reduceLeDiff,Nat.reduceLT,Int.reduceLE,Int.reduceLT,Int.reduceAdd,Int.reduceSub,Int.reduceToNat,Nat.reduceMul]) ?_
  simp (maxSteps:=1000000) (disch:=first | omega | (simp only [LL];omega)) only [W,V,TY,CC,reduceIte,Nat.reduceEqDiff,Nat.reduceAdd,Nat.reduceLeDiff,Nat.reduceLT,Int.reduceLE,Int.reduceLT,Int.reduceAdd,Int.reduceSub,Int.reduceToNat,Nat.reduceMul,sQ,ratC]
  refine a_call _ _ w2 (by simp (maxSteps:=1000000) (disch:=first | omega | (simp only [LL];omega)) only [W,V,TY,CC,reduceIte,Nat.reduceEqDiff,Nat.reduceAdd,Nat.reduceLeDiff,Nat.reduceLT,Int.reduceLE,Int.reduceLT,Int.reduceAdd,Int.reduceSub,Int.reduceToNat,Nat.reduceMul]) ?_
  simp (maxSteps:=1000000) (disch:=first | omega | (simp only [LL];omega)) only [W,V,TY,CC,reduceIte,Nat.reduceEqDiff,Nat.reduceAdd,Nat.reduceLeDiff,Nat.reduceLT,Int.reduceLE,Int.reduceLT,Int.reduceAdd,Int.reduceSub,Int.reduceToNat,Nat.reduceMul,sQ,ratC]
  refine a_call _ _ m1 (by simp (maxSteps:=1000000) (disch:=first | omega | (simp only [LL];omega)) only [W,V,TY,CC,reduceIte,Nat.reduceEqDiff,Nat.reduceAdd,Nat.reduceLeDiff,Nat.reduceLT,Int.reduceLE,Int.reduceLT,Int.reduceAdd,Int.reduceSub,Int.reduceToNat,Nat.reduceMul,sQ,ratC]) ?_
  simp (maxSteps:=1000000) (disch:=first | omega | (simp only [LL];omega)) only [W,V,TY,CC,reduceIte,Nat.reduceEqDiff,Nat.reduceAdd,Nat.reduceLeDiff,Nat.reduceLT,Int.reduceLE,Int.reduceLT,Int.reduceAdd,Int.reduceSub,Int.reduceToNat,Nat.reduceMul,sQ,ratC]
  refine a_call _ _ w1 (by simp (maxSteps:=1000000) (disch:=first | omega | (simp only [LL];omega)) only [W,V,TY,CC,reduceIte,Nat.reduceEqDiff,Nat.reduceAdd,Nat.reduceLeDiff,Nat.reduceLT,Int.reduceLE,Int.reduceLT,Int.reduceAdd,Int.reduceSub,Int.reduceToNat,Nat.reduceMul]) ?_
  simp (maxSteps:=1000000) (disch:=first | omega | (simp only [LL];omega)) only [W,V,TY,CC,reduceIte,Nat.reduceEqDiff,Nat.reduceAdd,Nat.reduceLeDiff,Nat.reduceLT,Int.reduceLE,Int.reduceLT,Int.reduceAdd,Int.reduceSub,Int.reduceToNat,Nat.reduceMul,sQ,ratC]
  refine a_call _ _ w3 (by simp (maxSteps:=1000000) (disch:=first | omega | (simp only [LL];omega)) only [W,V,TY,CC,reduceIte,Nat.reduceEqDiff,Nat.reduceAdd,Nat.reduceLeDiff,Nat.reduceLT,Int.reduceLE,Int.reduceLT,Int.reduceAdd,Int.reduceSub,Int.reduceToNat,Nat.reduceMul]) ?_
  simp (maxSteps:=1000000) (disch:=first | omega | (simp only [LL];omega)) only [W,V,TY,CC,reduceIte,Nat.reduceEqDiff,Nat.reduceAdd,Nat.reduceLeDiff,Nat.reduceLT,Int.reduceLE,Int.reduceLT,Int.reduceAdd,Int.reduceSub,Int.reduceToNat,Nat.reduceMul,sQ,ratC]
  refine a_call _ _ m2 (by simp (maxSteps:=1000000) (disch:=first | omega | (simp only [LL];omega)) only [W,V,TY,CC,reduceIte,Nat.reduceEqDiff,Nat.reduceAdd,Nat.reduceLeDiff,Nat.reduceLT,Int.reduceLE,Int.reduceLT,Int.reduceAdd,Int.reduceSub,Int.reduceToNat,Nat.reduceMul,sQ,ratC]) ?_
  simp (maxSteps:=1000000) (disch:=first | omega | (simp only [LL];omega)) only [W,V,TY,CC,reduceIte,Nat.reduceEqDiff,Nat.reduceAdd,Nat.reduceLeDiff,Nat.reduceLT,Int.reduceLE,Int.reduceLT,Int.reduceAdd,Int.reduceSub,Int.reduceToNat,Nat.reduceMul,sQ,zS]
  refine a_call _ _ w4 (by simp (maxSteps:=1000000) (disch:=first | omega | (simp only [LL];omega)) only [W,V,TY,CC,reduceIte,Nat.reduceEqDiff,Nat.reduceAdd,Nat.reduceLeDiff,Nat.reduceLT,Int.reduceLE,Int.reduceLT,Int.reduceAdd,Int.reduceSub,Int.reduceToNat,Nat.reduceMul]) ?_
  simp (maxSteps:=1000000) (disch:=first | omega | (simp only [LL];omega)) only [W,V,TY,CC,reduceIte,Nat.reduceEqDiff,Nat.reduceAdd,Nat.reduceLeDiff,Nat.reduceLT,Int.reduceLE,Int.reduceLT,Int.reduceAdd,Int.reduceSub,Int.reduceToNat,Nat.reduceMul,sQ,ratC]
  refine a_call _ _ w5 (by simp (maxSteps:=1000000) (disch:=first | omega | (simp only [LL];omega)) only [W,V,TY,CC,reduceIte,Nat.reduceEqDiff,Nat.reduceAdd,Nat.reduceLeDiff,Nat.reduceLT,Int.reduceLE,Int.reduceLT,Int.reduceAdd,Int.reduceSub,Int.reduceToNat,Nat.reduceMul]) ?_
  simp (maxSteps:=1000000) (disch:=first | omega | (simp only [LL];omega)) only [W,V,TY,CC,reduceIte,Nat.reduceEqDiff,Nat.reduceAdd,Nat.reduceLeDiff,Nat.reduceLT,Int.reduceLE,Int.reduceLT,Int.reduceAdd,Int.reduceSub,Int.reduceToNat,Nat.reduceMul,sQ,ratC]
  refine a_call _ _ mu (by simp (maxSteps:=1000000) (disch:=first | omega | (simp only [LL];omega)) only [W,V,TY,CC,reduceIte,Nat.reduceEqDiff,Nat.reduceAdd,Nat.reduceLeDiff,Nat.reduceLT,Int.reduceLE,Int.reduceLT,Int.reduceAdd,Int.reduceSub,Int.reduceToNat,Nat.reduceMul,sQ,ratC]) ?_
  simp (maxSteps:=1000000) (disch:=first | omega | (simp only [LL];omega)) only [W,V,TY,CC,reduceIte,Nat.reduceEqDiff,Nat.reduceAdd,Nat.reduceLeDiff,Nat.reduceLT,Int.reduceLE,Int.reduceLT,Int.reduceAdd,Int.reduceSub,Int.reduceToNat,Nat.reduceMul,sQ,ratC]
  refine a_call _ _ w6 (by simp (maxSteps:=1000000) (disch:=first | omega | (simp only [LL];omega)) only [W,V,TY,CC,reduceIte,Nat.reduceEqDiff,Nat.reduceAdd,Nat.reduceLeDiff,Nat.reduceLT,Int.reduceLE,Int.reduceLT,Int.reduceAdd,Int.reduceSub,Int.reduceToNat,Nat.reduceMul]) ?_
  simp (maxSteps:=1000000) (disch:=first | omega | (simp only [LL];omega)) only [W,V,TY,CC,reduceIte,Nat.reduceEqDiff,Nat.reduceAdd,Nat.reduceLeDiff,Nat.reduceLT,Int.reduceLE,Int.reduceLT,Int.reduceAdd,Int.reduceSub,Int.reduceToNat,Nat.reduceMul,sQ,ratC]
  refine a_call _ _ s1 (by simp (maxSteps:=1000000) (disch:=first | omega | (simp only [LL];omega)) only [W,V,TY,CC,reduceIte,Nat.reduceEqDiff,Nat.reduceAdd,Nat.reduceLeDiff,Nat.reduceLT,Int.reduceLE,Int.reduceLT,Int.reduceAdd,Int.reduceSub,Int.reduceToNat,Nat.reduceMul,sQ,ratC]) ?_
  simp (maxSteps:=1000000) (disch:=first | omega | (simp only [LL];omega)) only [W,V,TY,CC,reduceIte,Nat.reduceEqDiff,Nat.reduceAdd,Nat.reduceLeDiff,Nat.reduceLT,Int.reduceLE,Int.reduceLT,Int.reduceAdd,Int.reduceSub,Int.reduceToNat,Nat.reduceMul,sQ,ratC]
  refine a_call _ _ w7 (by simp (maxSteps:=1000000) (disch:=first | omega | (simp only [LL];omega)) only [W,V,TY,CC,reduceIte,Nat.reduceEqDiff,Nat.reduceAdd,Nat.reduceLeDiff,Nat.reduceLT,Int.reduceLE,Int.reduceLT,Int.reduceAdd,Int.reduceSub,Int.reduceToNat,Nat.reduceMul]) ?_
  simp (maxSteps:=1000000) (disch:=first | omega | (simp only [LL];omega)) only [W,V,TY,CC,reduceIte,Nat.reduceEqDiff,Nat.reduceAdd,Nat.reduceLeDiff,Nat.reduceLT,Int.reduceLE,Int.reduceLT,Int.reduceAdd,Int.reduceSub,Int.reduceToNat,Nat.reduceMul,sQ,ratC]
  refine a_call _ _ s2 (by simp (maxSteps:=1000000) (disch:=first | omega | (simp only [LL];omega)) only [W,V,TY,CC,reduceIte,Nat.reduceEqDiff,Nat.reduceAdd,Nat.reduceLeDiff,Nat.reduceLT,Int.reduceLE,Int.reduceLT,Int.reduceAdd,Int.reduceSub,Int.reduceToNat,Nat.reduceMul,sQ,ratC]) ?_
  simp (maxSteps:=1000000) (disch:=first | omega | (simp only [LL];omega)) only [W,V,TY,CC,reduceIte,Nat.reduceEqDiff,Nat.reduceAdd,Nat.reduceLeDiff,Nat.reduceLT,Int.reduceLE,Int.reduceLT,Int.reduceAdd,Int.reduceSub,Int.reduceToNat,Nat.reduceMul,sQ,ratC]
  refine a_call _ _ w1 (by simp (maxSteps:=1000000) (disch:=first | omega | (simp only [LL];omega)) only [W,V,TY,CC,reduceIte,Nat.reduceEqDiff,Nat.reduceAdd,Nat.reduceLeDiff,Nat.reduceLT,Int.reduceLE,Int.reduceLT,Int.reduceAdd,Int.reduceSub,Int.reduceToNat,Nat.reduceMul]) ?_
  simp (maxSteps:=1000000) (disch:=first | omega | (simp only [LL];omega)) only [W,V,TY,CC,reduceIte,Nat.reduceEqDiff,Nat.reduceAdd,Nat.reduceLeDiff,Nat.reduceLT,Int.reduceLE,Int.reduceLT,Int.reduceAdd,Int.reduceSub,Int.reduceToNat,Nat.reduceMul,sQ,ratC]
  refine a_call _ _ w8 (by simp (maxSteps:=1000000) (disch:=first | omega | (simp only [LL];omega)) only [W,V,TY,CC,reduceIte,Nat.reduceEqDiff,Nat.reduceAdd,Nat.reduceLeDiff,Nat.reduceLT,Int.reduceLE,Int.reduceLT,Int.reduceAdd,Int.reduceSub,Int.reduceToNat,Nat.reduceMul]) ?_
  simp (maxSteps:=1000000) (disch:=first | omega | (simp only [LL];omega)) only [W,V,TY,CC,reduceIte,Nat.reduceEqDiff,Nat.reduceAdd,Nat.reduceLeDiff,Nat.reduceLT,Int.reduceLE,Int.reduceLT,Int.reduceAdd,Int.reduceSub,Int.reduceToNat,Nat.reduceMul,sQ,ratC]
  refine a_call _ _ or (by simp (maxSteps:=1000000) (disch:=first | omega | (simp only [LL];omega)) only [W,V,TY,CC,reduceIte,Nat.reduceEqDiff,Nat.reduceAdd,Nat.reduceLeDiff,Nat.reduceLT,Int.reduceLE,Int.reduceLT,Int.reduceAdd,Int.reduceSub,Int.reduceToNat,Nat.reduceMul,sQ,ratC]) ?_
  simp (maxSteps:=1000000) (disch:=first | omega | (simp only [LL];omega)) only [W,V,TY,CC,reduceIte,Nat.reduceEqDiff,Nat.reduceAdd,Nat.reduceLeDiff,Nat.reduceLT,Int.reduceLE,Int.reduceLT,Int.reduceAdd,Int.reduceSub,Int.reduceToNat,Nat.reduceMul,sQ,ratC]
  refine a_call _ _ w9 (by simp (maxSteps:=1000000) (disch:=first | omega | (simp only [LL];omega)) only [W,V,TY,CC,reduceIte,Nat.reduceEqDiff,Nat.reduceAdd,Nat.reduceLeDiff,Nat.reduceLT,Int.reduceLE,Int.reduceLT,Int.reduceAdd,Int.reduceSub,Int.reduceToNat,Nat.reduceMul]) ?_
  simp (maxSteps:=1000000) (disch:=first | omega | (simp only [LL];omega)) only [W,V,TY,CC,reduceIte,Nat.reduceEqDiff,Nat.reduceAdd,Nat.reduceLeDiff,Nat.reduceLT,Int.reduceLE,Int.reduceLT,Int.reduceAdd,Int.reduceSub,Int.reduceToNat,Nat.reduceMul,sQ,ratC]
  refine a_call _ _ wi (by simp (maxSteps:=1000000) (disch:=first | omega | (simp only [LL];omega)) only [W,V,TY,CC,reduceIte,Nat.reduceEqDiff,Nat.reduceAdd,Nat.reduceLeDiff,Nat.reduceLT,Int.reduceLE,Int.reduceLT,Int.reduceAdd,Int.reduceSub,Int.reduceToNat,Nat.reduceMul,sQ,ratC]) ?_
  simp (maxSteps:=1000000) (disch:=first | omega | (simp only [LL];omega)) only [W,V,TY,CC,reduceIte,Nat.reduceEqDiff,Nat.reduceAdd,Nat.reduceLeDiff,Nat.reduceLT,Int.reduceLE,Int.reduceLT,Int.reduceAdd,Int.reduceSub,Int.reduceToNat,Nat.reduceMul,ratC]
  refine a_call _ _ pr (by simp (maxSteps:=1000000) (disch:=first | omega | (simp only [LL];omega)) only [W,V,TY,CC,reduceIte,Nat.reduceEqDiff,Nat.reduceAdd,Nat.reduceLeDiff,Nat.reduceLT,Int.reduceLE,Int.reduceLT,Int.reduceAdd,Int.reduceSub,Int.reduceToNat,Nat.reduceMul,ratC]) ?_
  simp (maxSteps:=1000000) (disch:=first | omega | (simp only [LL];omega)) only [W,V,TY,CC,reduceIte,Nat.reduceEqDiff,Nat.reduceAdd,Nat.reduceLeDiff,Nat.reduceLT,Int.reduceLE,Int.reduceLT,Int.reduceAdd,Int.reduceSub,Int.reduceToNat,Nat.reduceMul]
  refine f_ret _ _ _ ?_
  simp (maxSteps:=1000000) (disch:=first | omega | (simp only [LL];omega)) only [W,V,TY,CC,reduceIte,Nat.reduceEqDiff,Nat.reduceAdd,Nat.reduceLeDiff,Nat.reduceLT,Int.reduceLE,Int.reduceLT,Int.reduceAdd,Int.reduceSub,Int.reduceToNat,Nat.reduceMul,beq_self_eq_true]
/-- the number of the interval that the byte n names -/
def btw (x y : Rat) (n : Int) : Rat := qmin x y + Rat.divInt n 255 * qabs (y - x)
theorem qs_btw {x y : Rat} {n : Int} (h0 : 0 ≤ n) (h1 : n < 256) : qs (btw x y n) ≤ 2 * qs x + 2 * qs y + 20 := by
  have a := qs_add (qmin x y) (Rat.divInt n 255 * qabs (y - x))
  have b := qs_mul (Rat.divInt n 255) (qabs (y - x))
  have c := qs_sub y x
  have d := qs_div n 255
  have e := zl_i64 (x := n) (by omega) (by omega)
  have f := zl_i64 (x := 255) (by omega) (by omega)
  rw [qs_abs] at b
  have g : qs (qmin x y) ≤ max (qs x) (qs y) := qs_min (Nat.le_max_left _ _) (Nat.le_max_right _ _)
  unfold btw
  omega
theorem l5_between {x y : RR} (hx : rok 1048576 x) (hy : rok 1048576 y) (n : Int) (h0 : 0 ≤ n) (h1 : n < 256) : AFun Tryd.prog 11 [.agg (rC x ++ rC y), .one (.lit (.int .u8 n))] [.agg (ratC (btw x.q y.q n))] := by
  refine afun_intro mo_ _ _ c11 k11 _ _ rfl (by decide) ?_
  unfold b11 btw
  have q1 := qs_rr hx
  have q2 := qs_rr hy
  have q3 := qs_sub y.q x.q
  have q4 := qs_abs (y.q - x.q)
  have q5 := qs_mul (Rat.divInt n 255) (qabs (y.q - x.q))
  have d := qs_div n 255
  have e := zl_i64 (x := n) (by omega) (by omega)
  have f := zl_i64 (x := 255) (by omega) (by omega)
  have g : qs (qmin x.q y.q) ≤ 1048577 := qs_min q1 q2
  have c1 := S_Of (hx.mono (b := 68719476600) (by decide)) (hy.mono (b := 68719476600) (by decide))
  have c2 := rat_Of n 255 (by omega) (by omega) (by decide) (by decide)
  have c3 := S_Width (hx.mono (b := 68719476600) (by decide)) (hy.mono (b := 68719476600) (by decide)) (by omega)
  have c4 := rat_Mul2 (a := Rat.divInt n 255) (b := qabs (y.q - x.q)) (by omega) (by omega)
  have c5 := rat_Add2 (a := qmin x.q y.q) (b := Rat.divInt n 255 * qabs (y.q - x.q)) (by omega) (by omega)
  simp (maxSteps:=1000000) (disch:=first | omega | (simp only [LL];omega)) only [W,V,TY,CC,reduceIte,Nat.reduceEqDiff,Nat.reduceAdd,Nat.reduceLeDiff,Nat.reduceLT,Int.reduceLE,Int.reduceLT,Int.reduceAdd,Int.reduceSub,Int.reduceToNat,Nat.reduceMul,rC]
  refine a_call _ _ c1 (by simp (maxSteps:=1000000) (disch:=first | omega | (simp only [LL];omega)) only [W,V,TY,CC,reduceIte,Nat.reduceEqDiff,Nat.reduceAdd,Nat.reduceLeDiff,Nat.reduceLT,Int.reduceLE,Int.reduceLT,Int.reduceAdd,Int.reduceSub,Int.reduceToNat,Nat.reduceMul,rC]) ?_
  simp (maxSteps:=1000000) (disch:=first | omega | (simp only [LL];omega)) only [W,V,TY,CC,reduceIte,Nat.reduceEqDiff,Nat.reduceAdd,Nat.reduceLeDiff,Nat.reduceLT,Int.reduceLE,Int.reduceLT,Int.reduceAdd,Int.reduceSub,Int.reduceToNat,Nat.reduceMul,sQ,ratC]
  refine a_call _ _ c2 (by simp (maxSteps:=1000000) (disch:=first | omega | (simp only [LL];omega)) only [W,V,TY,CC,reduceIte,Nat.reduceEqDiff,Nat.reduceAdd,Nat.reduceLeDiff,Nat.reduceLT,Int.reduceLE,Int.reduceLT,Int.reduceAdd,Int.reduceSub,Int.reduceToNat,Nat.reduceMul]) ?_
  simp (maxSteps:=1000000) (disch:=first | omega | (simp only [LL];omega)) only [W,V,TY,CC,reduceIte,Nat.reduceEqDiff,Nat.reduceAdd,Nat.reduceLeDiff,Nat.reduceLT,Int.reduceLE,Int.reduceLT,Int.reduceAdd,Int.reduceSub,Int.reduceToNat,Nat.reduceMul,ratC]
  refine a_call _ _ c3 (by simp (maxSteps:=1000000) (disch:=first | omega | (simp only [LL];omega)) only [W,V,TY,CC,reduceIte,Nat.reduceEqDiff,Nat.reduceAdd,Nat.reduceLeDiff,Nat.reduceLT,Int.reduceLE,Int.reduceLT,Int.reduceAdd,Int.reduceSub,Int.reduceToNat,Nat.reduceMul,rC]) ?_
  simp (maxSteps:=1000000) (disch:=first | omega | (simp only [LL];omega)) only [W,V,TY,CC,reduceIte,Nat.reduceEqDiff,Nat.reduceAdd,Nat.reduceLeDiff,Nat.reduceLT,Int.reduceLE,Int.reduceLT,Int.reduceAdd,Int.reduceSub,Int.reduceToNat,Nat.reduceMul,ratC]
  refine a_call _ _ c4 (by simp (maxSteps:=1000000) (disch:=first | omega | (simp only [LL];omega)) only [W,V,TY,CC,reduceIte,Nat.reduceEqDiff,Nat.reduceAdd,Nat.reduceLeDiff,Nat.reduceLT,Int.reduceLE,Int.reduceLT,Int.reduceAdd,Int.reduceSub,Int.reduceToNat,Nat.reduceMul,ratC]) ?_
  simp (maxSteps:=1000000) (disch:=first | omega | (simp only [LL];omega)) only [W,V,TY,CC,reduceIte,Nat.reduceEqDiff,Nat.reduceAdd,Nat.reduceLeDiff,Nat.reduceLT,Int.reduceLE,Int.reduceLT,Int.reduceAdd,Int.reduceSub,Int.reduceToNat,Nat.reduceMul,ratC]
  refine a_call _ _ c5 (by simp (maxSteps:=1000000) (disch:=first | omega | (simp only [LL];omega)) only [W,V,TY,CC,reduceIte,Nat.reduceEqDiff,Nat.reduceAdd,Nat.reduceLeDiff,Nat.reduceLT,Int.reduceLE,Int.reduceLT,Int.reduceAdd,Int.reduceSub,Int.reduceToNat,Nat.reduceMul,ratC]) ?_
  simp (maxSteps:=1000000) (disch:=first | omega | (simp only [LL];omega)) only [W,V,TY,CC,reduceIte,Nat.reduceEqDiff,Nat.reduceAdd,Nat.reduceLeDiff,Nat.reduceLT,Int.reduceLE,Int.reduceLT,Int.reduceAdd,Int.reduceSub,Int.reduceToNat,Nat.reduceMul,ratC]
  refine f_ret _ _ _ ?_
  simp (maxSteps:=1000000) (disch:=first | omega | (simp only [LL];omega)) only [W,V,TY,CC,reduceIte,Nat.reduceEqDiff,Nat.reduceAdd,Nat.reduceLeDiff,Nat.reduceLT,Int.reduceLE,Int.reduceLT,Int.reduceAdd,Int.reduceSub,Int.reduceToNat,Nat.reduceMul,ratC]
end Go.Proofs.YtljmgdepldpmdaaDoor.E

set_option linter.unusedSimpArgs false
set_option linter.unusedVariables false
set_option maxHeartbeats 2000000
namespace Go.Proofs.YtljmgdepldpmdaaDoor.E
open Go.RowKit Limbs
end Go.Proofs.YtljmgdepldpmdaaDoor.E

set_option linter.unusedSimpArgs false
set_option linter.unusedVariables false
set_option maxHeartbeats 2000000
namespace Go.Proofs.YtljmgdepldpmdaaDoor.E
open Go.RowKit Limbs
/-- examboard/examboardlaw05.SpanLattice -/
def b6 : AF := ⟨122, 4, [.tmp 8],
  (.seq (.reg [
    ⟨some 4, .box 29 (.tmp 0), none⟩,
    ⟨some 5, .box 29 (.tmp 1), none⟩,
    ⟨some 6, .box 27 (.tmp 2), none⟩,
    ⟨some 8, .assign (.const (.bool false)), none⟩])
  (.seq (.reg [
    ⟨some 14, .load 29 (.tmp 4), none⟩,
    ⟨some 15, .load 29 (.tmp 5), none⟩,
    ⟨some 16, .call ⟨(.value (.func 29)), #[(.tmp 14), (.tmp 15)], #[29, 29]⟩, none⟩,
    ⟨some 13, .move (.tmp 16), none⟩,
    ⟨some 17, .extract (.tmp 13) 0, none⟩,
    ⟨some 18, .extract (.tmp 13) 1, none⟩,
    ⟨some 9, .alloc 29, none⟩,
    ⟨none, .store 29 (.tmp 9) (.tmp 17), none⟩,
    ⟨some 10, .assign (.tmp 18), none⟩])
  (.seq (.seq (.dreg [
    ⟨some 19, .move (.tmp 10), none⟩,
    ⟨some 20, .load 29 (.tmp 4), none⟩,
    ⟨some 21, .load 29 (.tmp 5), none⟩,
    ⟨some 22, .call ⟨(.value (.func 30)), #[(.tmp 20), (.tmp 21)], #[29, 29]⟩, none⟩,
    ⟨some 23, .binOp .eql 3 (.tmp 22) (.const (.int .i64 0)) 3, none⟩,
    ⟨some 24, .binOp .neq 4 (.tmp 19) (.tmp 23) 4, none⟩,
    ⟨some 25, .move (.tmp 24), none⟩,
    ⟨some 26, .load 29 (.tmp 5), some (25, false)⟩,
    ⟨some 27, .load 29 (.tmp 4), some (25, false)⟩,
    ⟨some 28, .call ⟨(.value (.func 30)), #[(.tmp 26), (.tmp 27)], #[29, 29]⟩, some (25, false)⟩,
    ⟨some 29, .load 29 (.tmp 4), some (25, false)⟩,
    ⟨some 30, .load 29 (.tmp 5), some (25, false)⟩,
    ⟨some 31, .call ⟨(.value (.func 30)), #[(.tmp 29), (.tmp 30)], #[29, 29]⟩, some (25, false)⟩,
    ⟨some 32, .unOp .neg 3 (.tmp 31), some (25, false)⟩,
    ⟨some 33, .binOp .neq 3 (.tmp 28) (.tmp 32) 3, some (25, false)⟩,
    ⟨some 34, .pick (.tmp 25) (.const (.bool true)) (.tmp 33), none⟩])
  (.cond (.tmp 34)
    (.seq (.reg [
      ⟨some 8, .assign (.const (.bool false)), none⟩])
    .ret)
    .skip))
  (.seq (.seq (.dreg [
    ⟨some 35, .load 27 (.tmp 6), none⟩,
    ⟨some 36, .fieldAddr 29 (.tmp 4) 0, none⟩,
    ⟨some 37, .load 27 (.tmp 36), none⟩,
    ⟨some 38, .fieldAddr 29 (.tmp 5) 0, none⟩,
    ⟨some 39, .load 27 (.tmp 38), none⟩,
    ⟨some 40, .fieldAddr 29 (.tmp 4) 1, none⟩,
    ⟨some 41, .load 27 (.tmp 40), none⟩,
    ⟨some 42, .fieldAddr 29 (.tmp 5) 1, none⟩,
    ⟨some 43, .load 27 (.tmp 42), none⟩,
    ⟨some 44, .load 29 (.tmp 4), none⟩,
    ⟨some 45, .move (.tmp 3), none⟩,
    ⟨some 46, .call ⟨(.value (.func 11)), #[(.tmp 44), (.tmp 45)], #[29, 5]⟩, none⟩,
    ⟨some 47, .buildSlice 50 6 #[(0, (.tmp 35)), (1, (.tmp 37)), (2, (.tmp 39)), (3, (.tmp 41)), (4, (.tmp 43)), (5, (.tmp 46))], none⟩,
    ⟨some 48, .call ⟨(.builtin .len), #[(.tmp 47)], #[50]⟩, none⟩,
    ⟨some 49, .move (.const (.int .i64 0)), none⟩])
  (.block 0 (.loop (.seq (.reg [
    ⟨some 50, .binOp .lss 3 (.tmp 49) (.tmp 48) 3, none⟩])
  (.seq (.cond (.tmp 50)
    .skip
    (.exit 0))
  (.seq (.block 1 (.seq (.reg [
    ⟨some 51, .indexAddr 50 (.tmp 47) (.tmp 49), none⟩,
    ⟨some 52, .load 27 (.tmp 51), none⟩,
    ⟨some 12, .alloc 27, none⟩,
    ⟨none, .store 27 (.tmp 12) (.tmp 52), none⟩])
  (.seq (.seq (.dreg [
    ⟨some 53, .move (.tmp 10), none⟩,
    ⟨some 54, .move (.tmp 53), none⟩,
    ⟨some 55, .load 29 (.tmp 9), some (54, true)⟩,
    ⟨some 56, .load 27 (.tmp 12), some (54, true)⟩,
    ⟨some 57, .call ⟨(.value (.func 12)), #[(.tmp 55), (.tmp 56)], #[29, 27]⟩, some (54, true)⟩,
    ⟨some 58, .pick (.tmp 54) (.tmp 57) (.const (.bool false)), none⟩,
    ⟨some 59, .load 29 (.tmp 4), none⟩,
    ⟨some 60, .load 27 (.tmp 12), none⟩,
    ⟨some 61, .call ⟨(.value (.func 12)), #[(.tmp 59), (.tmp 60)], #[29, 27]⟩, none⟩,
    ⟨some 62, .move (.tmp 61), none⟩,
    ⟨some 63, .load 29 (.tmp 5), some (62, true)⟩,
    ⟨some 64, .load 27 (.tmp 12), some (62, true)⟩,
    ⟨some 65, .call ⟨(.value (.func 12)), #[(.tmp 63), (.tmp 64)], #[29, 27]⟩, some (62, true)⟩,
    ⟨some 66, .pick (.tmp 62) (.tmp 65) (.const (.bool false)), none⟩,
    ⟨some 67, .binOp .neq 4 (.tmp 58) (.tmp 66) 4, none⟩])
  (.cond (.tmp 67)
    (.seq (.reg [
      ⟨some 8, .assign (.const (.bool false)), none⟩])
    .ret)
    .skip))
  (.seq (.dreg [
    ⟨some 68, .load 29 (.tmp 4), none⟩,
    ⟨some 69, .load 27 (.tmp 12), none⟩,
    ⟨some 70, .call ⟨(.value (.func 12)), #[(.tmp 68), (.tmp 69)], #[29, 27]⟩, none⟩,
    ⟨some 71, .move (.tmp 70), none⟩,
    ⟨some 72, .load 29 (.tmp 5), some (71, false)⟩,
    ⟨some 73, .load 27 (.tmp 12), some (71, false)⟩,
    ⟨some 74, .call ⟨(.value (.func 12)), #[(.tmp 72), (.tmp 73)], #[29, 27]⟩, some (71, false)⟩,
    ⟨some 75, .pick (.tmp 71) (.const (.bool true)) (.tmp 74), none⟩,
    ⟨some 76, .move (.tmp 75), none⟩,
    ⟨some 77, .load 29 (.tmp 4), some (76, true)⟩,
    ⟨some 78, .load 29 (.tmp 5), some (76, true)⟩,
    ⟨some 79, .call ⟨(.value (.func 31)), #[(.tmp 77), (.tmp 78)], #[29, 29]⟩, some (76, true)⟩,
    ⟨some 80, .load 27 (.tmp 12), some (76, true)⟩,
    ⟨some 81, .call ⟨(.value (.func 12)), #[(.tmp 79), (.tmp 80)], #[29, 27]⟩, some (76, true)⟩,
    ⟨some 82, .unOp .not 4 (.tmp 81), some (76, true)⟩,
    ⟨some 83, .pick (.tmp 76) (.tmp 82) (.const (.bool false)), none⟩])
  (.cond (.tmp 83)
    (.seq (.reg [
      ⟨some 8, .assign (.const (.bool false)), none⟩])
    .ret)
    .skip)))))
  (.reg [
    ⟨some 84, .binOp .add 3 (.tmp 49) (.const (.int .i64 1)) 3, none⟩,
    ⟨some 49, .move (.tmp 84), none⟩])))))))
  (.seq (.seq (.reg [
    ⟨some 85, .move (.tmp 10), none⟩,
    ⟨some 86, .move (.tmp 85), none⟩,
    ⟨some 87, .load 29 (.tmp 9), some (86, true)⟩,
    ⟨some 88, .load 29 (.tmp 4), some (86, true)⟩,
    ⟨some 89, .call ⟨(.value (.func 26)), #[(.tmp 87), (.tmp 88)], #[29, 29]⟩, some (86, true)⟩,
    ⟨some 90, .unOp .not 4 (.tmp 89), some (86, true)⟩,
    ⟨some 91, .move (.tmp 90), some (86, true)⟩,
    ⟨some 92, .load 29 (.tmp 9), some (91, false)⟩,
    ⟨some 93, .load 29 (.tmp 5), some (91, false)⟩,
    ⟨some 94, .call ⟨(.value (.func 26)), #[(.tmp 92), (.tmp 93)], #[29, 29]⟩, some (91, false)⟩,
    ⟨some 95, .unOp .not 4 (.tmp 94), some (91, false)⟩,
    ⟨some 96, .pick (.tmp 91) (.const (.bool true)) (.tmp 95), some (86, true)⟩,
    ⟨some 97, .pick (.tmp 86) (.tmp 96) (.const (.bool false)), none⟩])
  (.cond (.tmp 97)
    (.seq (.reg [
      ⟨some 8, .assign (.const (.bool false)), none⟩])
    .ret)
    .skip))
  (.seq (.dreg [
    ⟨some 98, .load 29 (.tmp 4), none⟩,
    ⟨some 99, .load 29 (.tmp 4), none⟩,
    ⟨some 100, .load 29 (.tmp 5), none⟩,
    ⟨some 101, .call ⟨(.value (.func 31)), #[(.tmp 99), (.tmp 100)], #[29, 29]⟩, none⟩,
    ⟨some 102, .call ⟨(.value (.func 26)), #[(.tmp 98), (.tmp 101)], #[29, 29]⟩, none⟩,
    ⟨some 103, .move (.tmp 102), none⟩,
    ⟨some 104, .load 29 (.tmp 5), some (103, true)⟩,
    ⟨some 105, .load 29 (.tmp 4), some (103, true)⟩,
    ⟨some 106, .load 29 (.tmp 5), some (103, true)⟩,
    ⟨some 107, .call ⟨(.value (.func 31)), #[(.tmp 105), (.tmp 106)], #[29, 29]⟩, some (103, true)⟩,
    ⟨some 108, .call ⟨(.value (.func 26)), #[(.tmp 104), (.tmp 107)], #[29, 29]⟩, some (103, true)⟩,
    ⟨some 109, .pick (.tmp 103) (.tmp 108) (.const (.bool false)), none⟩,
    ⟨some 110, .move (.tmp 109), none⟩,
    ⟨some 111, .load 29 (.tmp 4), some (110, true)⟩,
    ⟨some 112, .load 29 (.tmp 5), some (110, true)⟩,
    ⟨some 113, .call ⟨(.value (.func 31)), #[(.tmp 111), (.tmp 112)], #[29, 29]⟩, some (110, true)⟩,
    ⟨some 114, .load 29 (.tmp 5), some (110, true)⟩,
    ⟨some 115, .load 29 (.tmp 4), some (110, true)⟩,
    ⟨some 116, .call ⟨(.value (.func 31)), #[(.tmp 114), (.tmp 115)], #[29, 29]⟩, some (110, true)⟩,
    ⟨some 117, .call ⟨(.value (.func 27)), #[(.tmp 113), (.tmp 116)], #[29, 29]⟩, some (110, true)⟩,
    ⟨some 118, .pick (.tmp 110) (.tmp 117) (.const (.bool false)), none⟩,
    ⟨some 119, .move (.tmp 118), none⟩,
    ⟨some 120, .call ⟨(.value (.func 20)), #[], #[]⟩, some (119, true)⟩,
    ⟨some 121, .pick (.tmp 119) (.tmp 120) (.const (.bool false)), none⟩,
    ⟨some 8, .assign (.tmp 121), none⟩])
  .ret))))))⟩
theorem c6 : fcomp Tryd.prog 6 = ⟨b6.n, b6.np, b6.res, b6.body.bare⟩ := by kernel_rfl
theorem k6 : fok Tryd.prog 6 = true := by kernel_rfl
/-- a row of numbers as they were handed over -/
def rrD (l : List RR) : Dt := rowD rC l
instance : Inhabited RR := ⟨⟨false, [], []⟩⟩
def rr0 : RR := ⟨false, [], []⟩
theorem rr_len : ∀ q : RR, (rC q).length = 3 := fun _ => rfl
theorem RRR : (∀ {s : AS} {k : IntKind} {x : Int} (l : List RR), 0 ≤ x → x < l.length → idxO s 3 (.one (.dt (rrD l))) (.one (.dt (.lit (.int k x)))) = True) ∧
  (∀ {k : IntKind} {x : Int} (l : List RR), 0 ≤ x → x < l.length → idxV 3 (.one (.dt (rrD l))) (.one (.dt (.lit (.int k x)))) = .el (rC (l.getD x.toNat rr0))) ∧
  (∀ {s : AS} (l : List RR), lenO s (.one (.dt (rrD l))) = True) ∧
  (∀ {s : AS} (l : List RR), lenV s (.one (.dt (rrD l))) = .one (.dt (.lit (.int .i64 l.length)))) ∧
  (∀ (s : AS) (a b c : Dt), acells s (.el [a, b, c]) = some [.dt a, .dt b, .dt c]) := by
  refine ⟨fun l h h' => ?_, fun l h h' => ?_, fun l => rfl, fun l => rfl, fun s a b c => rfl⟩
  · rw [show rrD l = rowD rC l from rfl, io_rowD rr_len (by decide) l]; simp [h, h']
  · exact iv_rowD rr_len l rr0 h h'
set_option maxHeartbeats 8000000 in
theorem l5_SpanLattice {x y u v r : RR} (hx' : rok 1048576 x) (hy' : rok 1048576 y) (hu' : rok 1048576 u) (hv' : rok 1048576 v) (hr' : rok 1048576 r) (n : Int) (n0 : 0 ≤ n) (n1 : n < 256) :
    AFun Tryd.prog 6 [.agg (rC x ++ rC y), .agg (rC u ++ rC v), .agg (rC r), .one (.lit (.int .u8 n))] [.one (.lit (.bool true))] := by
  have hx := hx'.mono (b := 68719476600) (by decide)
  have hy := hy'.mono (b := 68719476600) (by decide)
  have hu := hu'.mono (b := 68719476600) (by decide)
  have hv := hv'.mono (b := 68719476600) (by decide)
  have hr := hr'.mono (b := 68719476600) (by decide)
  have qx := qs_rr hx'
  have qy := qs_rr hy'
  have qu := qs_rr hu'
  have qv := qs_rr hv'
  have q1 := qs_min qx qy
  have q2 := qs_max qx qy
  have q3 := qs_min qu qv
  have q4 := qs_max qu qv
  have p1 := qs_btw (x := x.q) (y := y.q) n0 n1
  have cb := l5_between hx' hy' n n0 n1
  have hz := rok_nr (k := 68719476600) (q := btw x.q y.q n) (by omega)
  rw [← rC_nr] at cb
  have co := S_Order hx hy hu hv
  have co' := S_Order hu hv hx hy
  rw [ordI_swap] at co'
  have ob : -1 ≤ ordI x.q y.q u.q v.q ∧ ordI x.q y.q u.q v.q ≤ 1 := by
    unfold ordI
    split
    · decide
    · split <;> decide
  have qh1 : qs (hullLo x.q y.q u.q v.q) ≤ 1048577 := qs_min q1 q3
  have qh2 : qs (hullHi x.q y.q u.q v.q) ≤ 1048577 := qs_max q2 q4
  have ch := S_Hull hx hy hu hv
  have ch' := S_Hull hu hv hx hy
  rw [hullLo_comm, hullHi_comm] at ch'
  have hha : ∀ z : RR, rok 68719476600 z → AFun Tryd.prog 12 [.agg (rC x ++ rC y), .agg (rC z)] [.one (.lit (.bool (decide (inI x.q y.q z.q))))] := fun z hz => S_Has hx hy hz
  have hhb : ∀ z : RR, rok 68719476600 z → AFun Tryd.prog 12 [.agg (rC u ++ rC v), .agg (rC z)] [.one (.lit (.bool (decide (inI u.q v.q z.q))))] := fun z hz => S_Has hu hv hz
  have hhh : ∀ z : RR, rok 68719476600 z → (inI x.q y.q z.q ∨ inI u.q v.q z.q) → AFun Tryd.prog 12 [.agg (sQ (hullLo x.q y.q u.q v.q) (hullHi x.q y.q u.q v.q)), .agg (rC z)] [.one (.lit (.bool true))] := fun z hz h => by
    have := S_Has (rok_nr (k := 68719476600) (q := hullLo x.q y.q u.q v.q) (by omega)) (rok_nr (k := 68719476600) (q := hullHi x.q y.q u.q v.q) (by omega)) hz
    simp only [nr_q, rC_nr] at this
    rw [decide_eq_true (inI_hull h)] at this
    exact this
  have wh1 := S_Within (rok_nr (k := 68719476600) (q := hullLo x.q y.q u.q v.q) (by omega)) (rok_nr (k := 68719476600) (q := hullHi x.q y.q u.q v.q) (by omega)) hx hy
  have wh2 := S_Within (rok_nr (k := 68719476600) (q := hullLo x.q y.q u.q v.q) (by omega)) (rok_nr (k := 68719476600) (q := hullHi x.q y.q u.q v.q) (by omega)) hu hv
  simp only [nr_q, rC_nr] at wh1 wh2
  rw [decide_eq_true (subI_hull_l _ _ _ _)] at wh1
  rw [decide_eq_true (subI_hull_r _ _ _ _)] at wh2
  have sh := l5_same (p := hullLo x.q y.q u.q v.q) (q := hullHi x.q y.q u.q v.q) (by omega) (by omega)
  have cm := S_Meet hx hy hu hv
  have hmo := meet_ok x.q y.q u.q v.q
  have qm1 : qs (meetLo x.q y.q u.q v.q) ≤ 1048577 := qs_max q1 q3
  have qm2 : qs (meetHi x.q y.q u.q v.q) ≤ 1048577 := qs_min q2 q4
  obtain ⟨m1, m2, m3, m4, m5, m6, ok, cm, hok, hno, wm1, wm2, ho⟩ : ∃ (m1 m2 m3 m4 m5 m6 : Dt) (ok : Bool), AFun Tryd.prog 29 [.agg (rC x ++ rC y), .agg (rC u ++ rC v)] [.agg [m1, m2, m3, m4, m5, m6], .one (.lit (.bool ok))] ∧
      (ok = true → ∀ z : RR, rok 68719476600 z → AFun Tryd.prog 12 [.agg [m1, m2, m3, m4, m5, m6], .agg (rC z)] [.one (.lit (.bool (decide (inI x.q y.q z.q ∧ inI u.q v.q z.q))))]) ∧
      (ok = false → ∀ z : RR, ¬ (inI x.q y.q z.q ∧ inI u.q v.q z.q)) ∧
      (ok = true → AFun Tryd.prog 26 [.agg [m1, m2, m3, m4, m5, m6], .agg (rC x ++ rC y)] [.one (.lit (.bool true))]) ∧
      (ok = true → AFun Tryd.prog 26 [.agg [m1, m2, m3, m4, m5, m6], .agg (rC u ++ rC v)] [.one (.lit (.bool true))]) ∧
      ok = decide (ordI x.q y.q u.q v.q = 0) := by
    by_cases hm : meetHi x.q y.q u.q v.q < meetLo x.q y.q u.q v.q
    · rw [if_pos hm, decide_eq_false (not_not_intro hm)] at cm
      exact ⟨_, _, _, _, _, _, false, cm, fun h => (by cases h), fun _ z => not_meet hm, fun h => (by cases h), fun h => (by cases h), (decide_eq_false (hmo.1 hm)).symm⟩
    · rw [if_neg hm, decide_eq_true hm] at cm
      have r1 := rok_nr (k := 68719476600) (q := meetLo x.q y.q u.q v.q) (by omega)
      have r2 := rok_nr (k := 68719476600) (q := meetHi x.q y.q u.q v.q) (by omega)
      refine ⟨_, _, _, _, _, _, true, cm, fun _ z hz => ?_, fun h => (by cases h), fun _ => ?_, fun _ => ?_, (decide_eq_true (Classical.not_not.1 fun e => hm (hmo.2 e))).symm⟩
      · have := S_Has r1 r2 hz
        simp only [nr_q, rC_nr, inI_meet hm] at this
        exact this
      · have := S_Within hx hy r1 r2
        simp only [nr_q, rC_nr] at this
        rw [decide_eq_true (subI_meet_l hm)] at this
        exact this
      · have := S_Within hu hv r1 r2
        simp only [nr_q, rC_nr] at this
        rw [decide_eq_true (subI_meet_r hm)] at this
        exact this
  generalize ordI x.q y.q u.q v.q = od at *
  subst ho
  have hok' : od = 0 → _ := fun h => hok (decide_eq_true h)
  have hno' : ¬ od = 0 → _ := fun h => hno (decide_eq_false h)
  have wm1' : od = 0 → _ := fun h => wm1 (decide_eq_true h)
  have wm2' : od = 0 → _ := fun h => wm2 (decide_eq_true h)
  clear hok hno wm1 wm2
  have no : -od = 0 - od := by omega
  rw [no] at co'
  clear hmo qm1 qm2 qh1 qh2 q1 q2 q3 q4 qx qy qu qv p1
  generalize hullLo x.q y.q u.q v.q = H1 at *
  generalize hullHi x.q y.q u.q v.q = H2 at *
  generalize nr (btw x.q y.q n) = bz at *
  have hrow : Dt.sl 6 [.lit (.bool r.n), natD r.m, natD r.d, .lit (.bool x.n), natD x.m, natD x.d, .lit (.bool u.n), natD u.m, natD u.d, .lit (.bool y.n), natD y.m, natD y.d, .lit (.bool v.n), natD v.m, natD v.d, .lit (.bool bz.n), natD bz.m, natD bz.d] = rrD [r, x, u, y, v, bz] := rfl
  have hl : ∀ z ∈ [r, x, u, y, v, bz], rok 68719476600 z := by
    intro z hz'
    simp only [List.mem_cons, List.not_mem_nil, or_false] at hz'
    rcases hz' with rfl | rfl | rfl | rfl | rfl | rfl <;> assumption
  have hlen : [r, x, u, y, v, bz].length = 6 := rfl
  refine afun_intro mo_ _ _ c6 k6 _ _ rfl (by decide) ?_
  unfold b6
  simp (maxSteps:=1000000) (disch:=first | omega | (simp only [LL];omega)) only [W,V,TY,CC,reduceIte,Nat.reduceEqDiff,Nat.reduceAdd,Nat.reduceLeDiff,Nat.reduceLT,Int.reduceLE,Int.reduceLT,Int.reduceAdd,Int.reduceSub,Int.reduceToNat,Nat.reduceMul,rC]
  refine a_call _ _ cm (by simp (maxSteps:=1000000) (disch:=first | omega | (simp only [LL];omega)) only [W,V,TY,CC,reduceIte,Nat.reduceEqDiff,Nat.reduceAdd,Nat.reduceLeDiff,Nat.reduceLT,Int.reduceLE,Int.reduceLT,Int.reduceAdd,Int.reduceSub,Int.reduceToNat,Nat.reduceMul,rC,sQ,ratC]) ?_
  simp (maxSteps:=1000000) (disch:=first | omega | (simp only [LL];omega)) only [W,V,TY,CC,reduceIte,Nat.reduceEqDiff,Nat.reduceAdd,Nat.reduceLeDiff,Nat.reduceLT,Int.reduceLE,Int.reduceLT,Int.reduceAdd,Int.reduceSub,Int.reduceToNat,Nat.reduceMul,rC,sQ,ratC]
  refine a_call _ _ co (by simp (maxSteps:=1000000) (disch:=first | omega | (simp only [LL];omega)) only [W,V,TY,CC,reduceIte,Nat.reduceEqDiff,Nat.reduceAdd,Nat.reduceLeDiff,Nat.reduceLT,Int.reduceLE,Int.reduceLT,Int.reduceAdd,Int.reduceSub,Int.reduceToNat,Nat.reduceMul,rC,sQ,ratC,beq_self_eq_true,Bool.not_true]) ?_
  simp (maxSteps:=1000000) (disch:=first | omega | (simp only [LL];omega)) only [W,V,TY,CC,reduceIte,Nat.reduceEqDiff,Nat.reduceAdd,Nat.reduceLeDiff,Nat.reduceLT,Int.reduceLE,Int.reduceLT,Int.reduceAdd,Int.reduceSub,Int.reduceToNat,Nat.reduceMul,rC,sQ,ratC,beq_self_eq_true,Bool.not_true]
  refine a_call _ _ co' (by simp (maxSteps:=1000000) (disch:=first | omega | (simp only [LL];omega)) only [W,V,TY,CC,reduceIte,Nat.reduceEqDiff,Nat.reduceAdd,Nat.reduceLeDiff,Nat.reduceLT,Int.reduceLE,Int.reduceLT,Int.reduceAdd,Int.reduceSub,Int.reduceToNat,Nat.reduceMul,rC,sQ,ratC,beq_self_eq_true,Bool.not_true]) ?_
  simp (maxSteps:=1000000) (disch:=first | omega | (simp only [LL];omega)) only [W,V,TY,CC,reduceIte,Nat.reduceEqDiff,Nat.reduceAdd,Nat.reduceLeDiff,Nat.reduceLT,Int.reduceLE,Int.reduceLT,Int.reduceAdd,Int.reduceSub,Int.reduceToNat,Nat.reduceMul,rC,sQ,ratC,beq_self_eq_true,Bool.not_true]
  refine a_call _ _ co (by simp (maxSteps:=1000000) (disch:=first | omega | (simp only [LL];omega)) only [W,V,TY,CC,reduceIte,Nat.reduceEqDiff,Nat.reduceAdd,Nat.reduceLeDiff,Nat.reduceLT,Int.reduceLE,Int.reduceLT,Int.reduceAdd,Int.reduceSub,Int.reduceToNat,Nat.reduceMul,rC,sQ,ratC,beq_self_eq_true,Bool.not_true]) ?_
  simp (maxSteps:=1000000) (disch:=first | omega | (simp only [LL];omega)) only [W,V,TY,CC,reduceIte,Nat.reduceEqDiff,Nat.reduceAdd,Nat.reduceLeDiff,Nat.reduceLT,Int.reduceLE,Int.reduceLT,Int.reduceAdd,Int.reduceSub,Int.reduceToNat,Nat.reduceMul,rC,sQ,ratC,beq_self_eq_true,Bool.not_true]
  refine a_call _ _ cb (by simp (maxSteps:=1000000) (disch:=first | omega | (simp only [LL];omega)) only [W,V,TY,CC,reduceIte,Nat.reduceEqDiff,Nat.reduceAdd,Nat.reduceLeDiff,Nat.reduceLT,Int.reduceLE,Int.reduceLT,Int.reduceAdd,Int.reduceSub,Int.reduceToNat,Nat.reduceMul,rC,sQ,ratC,beq_self_eq_true,Bool.not_true]) ?_
  simp (maxSteps:=1000000) (disch:=first | omega | (simp only [LL];omega)) only [W,V,TY,CC,reduceIte,Nat.reduceEqDiff,Nat.reduceAdd,Nat.reduceLeDiff,Nat.reduceLT,Int.reduceLE,Int.reduceLT,Int.reduceAdd,Int.reduceSub,Int.reduceToNat,Nat.reduceMul,rC,sQ,ratC,beq_self_eq_true,Bool.not_true]
  rw [hrow]
  clear hrow
  generalize [r, x, u, y, v, bz] = l at *
  have BB : (true == true) = true ∧ (false == false) = true ∧ (true == false) = false ∧ (false == true) = false ∧ (!true) = false ∧ (!false) = true := ⟨rfl, rfl, rfl, rfl, rfl, rfl⟩
  simp (maxSteps:=1000000) (disch:=first | omega | (simp only [LL];omega)) only [W,V,TY,CC,reduceIte,Nat.reduceEqDiff,Nat.reduceAdd,Nat.reduceLeDiff,Nat.reduceLT,Int.reduceLE,Int.reduceLT,Int.reduceAdd,Int.reduceSub,Int.reduceToNat,Nat.reduceMul,rC,RRR,hlen]
  refine w_loop (fun k s => ∃ i : Nat, k + i = 6 ∧ s.t 4 = .ptr (4, 0) 0 ∧ s.v (4, 0) = some ((rC x ++ rC y).map .dt) ∧ s.t 5 = .ptr (5, 0) 0 ∧ s.v (5, 0) = some ((rC u ++ rC v).map .dt) ∧ s.t 9 = .ptr (9, 0) 0 ∧ s.v (9, 0) = some ([m1, m2, m3, m4, m5, m6].map .dt) ∧ s.t 10 = .one (.dt (.lit (.bool (decide (od = 0))))) ∧ s.t 47 = .one (.dt (rrD l)) ∧ s.t 48 = .one (.dt (.lit (.int .i64 6))) ∧ s.t 49 = .one (.dt (.lit (.int .i64 i)))) 6 ⟨0, rfl, ?_, ?_, ?_, ?_, ?_, ?_, ?_, ?_, ?_, ?_⟩ ?_
  · simp (maxSteps:=1000000) (disch:=first | omega | (simp only [LL];omega)) only [W,V,TY,CC,reduceIte,Nat.reduceEqDiff,Nat.reduceAdd,Nat.reduceLeDiff,Nat.reduceLT,Int.reduceLE,Int.reduceLT,Int.reduceAdd,Int.reduceSub,Int.reduceToNat,Nat.reduceMul]
  · simp (maxSteps:=1000000) (disch:=first | omega | (simp only [LL];omega)) only [W,V,TY,CC,reduceIte,Nat.reduceEqDiff,Nat.reduceAdd,Nat.reduceLeDiff,Nat.reduceLT,Int.reduceLE,Int.reduceLT,Int.reduceAdd,Int.reduceSub,Int.reduceToNat,Nat.reduceMul,rC]
  · simp (maxSteps:=1000000) (disch:=first | omega | (simp only [LL];omega)) only [W,V,TY,CC,reduceIte,Nat.reduceEqDiff,Nat.reduceAdd,Nat.reduceLeDiff,Nat.reduceLT,Int.reduceLE,Int.reduceLT,Int.reduceAdd,Int.reduceSub,Int.reduceToNat,Nat.reduceMul]
  · simp (maxSteps:=1000000) (disch:=first | omega | (simp only [LL];omega)) only [W,V,TY,CC,reduceIte,Nat.reduceEqDiff,Nat.reduceAdd,Nat.reduceLeDiff,Nat.reduceLT,Int.reduceLE,Int.reduceLT,Int.reduceAdd,Int.reduceSub,Int.reduceToNat,Nat.reduceMul,rC]
  · simp (maxSteps:=1000000) (disch:=first | omega | (simp only [LL];omega)) only [W,V,TY,CC,reduceIte,Nat.reduceEqDiff,Nat.reduceAdd,Nat.reduceLeDiff,Nat.reduceLT,Int.reduceLE,Int.reduceLT,Int.reduceAdd,Int.reduceSub,Int.reduceToNat,Nat.reduceMul]
  · simp (maxSteps:=1000000) (disch:=first | omega | (simp only [LL];omega)) only [W,V,TY,CC,reduceIte,Nat.reduceEqDiff,Nat.reduceAdd,Nat.reduceLeDiff,Nat.reduceLT,Int.reduceLE,Int.reduceLT,Int.reduceAdd,Int.reduceSub,Int.reduceToNat,Nat.reduceMul]
  · simp (maxSteps:=1000000) (disch:=first | omega | (simp only [LL];omega)) only [W,V,TY,CC,reduceIte,Nat.reduceEqDiff,Nat.reduceAdd,Nat.reduceLeDiff,Nat.reduceLT,Int.reduceLE,Int.reduceLT,Int.reduceAdd,Int.reduceSub,Int.reduceToNat,Nat.reduceMul]
  · simp (maxSteps:=1000000) (disch:=first | omega | (simp only [LL];omega)) only [W,V,TY,CC,reduceIte,Nat.reduceEqDiff,Nat.reduceAdd,Nat.reduceLeDiff,Nat.reduceLT,Int.reduceLE,Int.reduceLT,Int.reduceAdd,Int.reduceSub,Int.reduceToNat,Nat.reduceMul]
  · simp (maxSteps:=1000000) (disch:=first | omega | (simp only [LL];omega)) only [W,V,TY,CC,reduceIte,Nat.reduceEqDiff,Nat.reduceAdd,Nat.reduceLeDiff,Nat.reduceLT,Int.reduceLE,Int.reduceLT,Int.reduceAdd,Int.reduceSub,Int.reduceToNat,Nat.reduceMul]
  · simp (maxSteps:=1000000) (disch:=first | omega | (simp only [LL];omega)) only [W,V,TY,CC,reduceIte,Nat.reduceEqDiff,Nat.reduceAdd,Nat.reduceLeDiff,Nat.reduceLT,Int.reduceLE,Int.reduceLT,Int.reduceAdd,Int.reduceSub,Int.reduceToNat,Nat.reduceMul]
  intro k s hwf ⟨i, e, t4, v4, t5, v5, t9, v9, t10, t47, t48, t49⟩
  simp only [rC, List.map_cons, List.map_nil, List.cons_append, List.nil_append] at v4 v5 v9
  have f12 := (hwf 12 (s.g 12) (Nat.le_refl _)).2.2
  simp (maxSteps:=1000000) (disch:=first | omega | (simp only [LL];omega)) only [W,V,TY,CC,reduceIte,Nat.reduceEqDiff,Nat.reduceAdd,Nat.reduceLeDiff,Nat.reduceLT,Int.reduceLE,Int.reduceLT,Int.reduceAdd,Int.reduceSub,Int.reduceToNat,Nat.reduceMul,t4,v4,t5,v5,t9,v9,t10,t47,t48,t49]
  refine c_split (fun hi => ?_) (fun hi => ?_)
  · have hil : i < l.length := by omega
    have hz : rok 68719476600 (l.getD i rr0) := hl _ (by rw [List.getD_eq_getElem?_getD, List.getElem?_eq_getElem hil]; exact List.getElem_mem hil)
    have ha := hha _ hz
    have hb := hhb _ hz
    have hh := hhh _ hz
    have hm := fun h => hok' h _ hz
    have hn := fun h => hno' h (l.getD i rr0)
    by_cases hA : inI x.q y.q (l.getD i rr0).q <;> by_cases hB : inI u.q v.q (l.getD i rr0).q <;> by_cases hod : od = 0
    · rw [decide_eq_true hA] at ha
      rw [decide_eq_true hB] at hb
      have hm := hm hod
      rw [decide_eq_true ⟨hA, hB⟩] at hm
      have hh := hh (.inl hA)
      simp (maxSteps:=1000000) (disch:=first | omega | (simp only [LL];omega)) only [W,V,TY,CC,reduceIte,Nat.reduceEqDiff,Nat.reduceAdd,Nat.reduceLeDiff,Nat.reduceLT,Int.reduceLE,Int.reduceLT,Int.reduceAdd,Int.reduceSub,Int.reduceToNat,Nat.reduceMul,t4,v4,t5,v5,t9,v9,t10,t47,t48,t49,f12,RRR,hlen,BB,hod,decide_true,decide_false,rC]
      refine a_call _ _ hm (by simp (maxSteps:=1000000) (disch:=first | omega | (simp only [LL];omega)) only [W,V,TY,CC,reduceIte,Nat.reduceEqDiff,Nat.reduceAdd,Nat.reduceLeDiff,Nat.reduceLT,Int.reduceLE,Int.reduceLT,Int.reduceAdd,Int.reduceSub,Int.reduceToNat,Nat.reduceMul,t4,v4,t5,v5,t9,v9,t10,t47,t48,t49,f12,RRR,hlen,BB,hod,decide_true,decide_false,rC,sQ,ratC]) ?_
      simp (maxSteps:=1000000) (disch:=first | omega | (simp only [LL];omega)) only [W,V,TY,CC,reduceIte,Nat.reduceEqDiff,Nat.reduceAdd,Nat.reduceLeDiff,Nat.reduceLT,Int.reduceLE,Int.reduceLT,Int.reduceAdd,Int.reduceSub,Int.reduceToNat,Nat.reduceMul,t4,v4,t5,v5,t9,v9,t10,t47,t48,t49,f12,RRR,hlen,BB,hod,decide_true,decide_false,rC,sQ,ratC]
      refine a_call _ _ ha (by simp (maxSteps:=1000000) (disch:=first | omega | (simp only [LL];omega)) only [W,V,TY,CC,reduceIte,Nat.reduceEqDiff,Nat.reduceAdd,Nat.reduceLeDiff,Nat.reduceLT,Int.reduceLE,Int.reduceLT,Int.reduceAdd,Int.reduceSub,Int.reduceToNat,Nat.reduceMul,t4,v4,t5,v5,t9,v9,t10,t47,t48,t49,f12,RRR,hlen,BB,hod,decide_true,decide_false,rC,sQ,ratC]) ?_
      simp (maxSteps:=1000000) (disch:=first | omega | (simp only [LL];omega)) only [W,V,TY,CC,reduceIte,Nat.reduceEqDiff,Nat.reduceAdd,Nat.reduceLeDiff,Nat.reduceLT,Int.reduceLE,Int.reduceLT,Int.reduceAdd,Int.reduceSub,Int.reduceToNat,Nat.reduceMul,t4,v4,t5,v5,t9,v9,t10,t47,t48,t49,f12,RRR,hlen,BB,hod,decide_true,decide_false,rC,sQ,ratC]
      refine a_call _ _ hb (by simp (maxSteps:=1000000) (disch:=first | omega | (simp only [LL];omega)) only [W,V,TY,CC,reduceIte,Nat.reduceEqDiff,Nat.reduceAdd,Nat.reduceLeDiff,Nat.reduceLT,Int.reduceLE,Int.reduceLT,Int.reduceAdd,Int.reduceSub,Int.reduceToNat,Nat.reduceMul,t4,v4,t5,v5,t9,v9,t10,t47,t48,t49,f12,RRR,hlen,BB,hod,decide_true,decide_false,rC,sQ,ratC]) ?_
      simp (maxSteps:=1000000) (disch:=first | omega | (simp only [LL];omega)) only [W,V,TY,CC,reduceIte,Nat.reduceEqDiff,Nat.reduceAdd,Nat.reduceLeDiff,Nat.reduceLT,Int.reduceLE,Int.reduceLT,Int.reduceAdd,Int.reduceSub,Int.reduceToNat,Nat.reduceMul,t4,v4,t5,v5,t9,v9,t10,t47,t48,t49,f12,RRR,hlen,BB,hod,decide_true,decide_false,rC,sQ,ratC]
      refine a_call _ _ ha (by simp (maxSteps:=1000000) (disch:=first | omega | (simp only [LL];omega)) only [W,V,TY,CC,reduceIte,Nat.reduceEqDiff,Nat.reduceAdd,Nat.reduceLeDiff,Nat.reduceLT,Int.reduceLE,Int.reduceLT,Int.reduceAdd,Int.reduceSub,Int.reduceToNat,Nat.reduceMul,t4,v4,t5,v5,t9,v9,t10,t47,t48,t49,f12,RRR,hlen,BB,hod,decide_true,decide_false,rC,sQ,ratC]) ?_
      simp (maxSteps:=1000000) (disch:=first | omega | (simp only [LL];omega)) only [W,V,TY,CC,reduceIte,Nat.reduceEqDiff,Nat.reduceAdd,Nat.reduceLeDiff,Nat.reduceLT,Int.reduceLE,Int.reduceLT,Int.reduceAdd,Int.reduceSub,Int.reduceToNat,Nat.reduceMul,t4,v4,t5,v5,t9,v9,t10,t47,t48,t49,f12,RRR,hlen,BB,hod,decide_true,decide_false,rC,sQ,ratC]
      refine a_call _ _ ch (by simp (maxSteps:=1000000) (disch:=first | omega | (simp only [LL];omega)) only [W,V,TY,CC,reduceIte,Nat.reduceEqDiff,Nat.reduceAdd,Nat.reduceLeDiff,Nat.reduceLT,Int.reduceLE,Int.reduceLT,Int.reduceAdd,Int.reduceSub,Int.reduceToNat,Nat.reduceMul,t4,v4,t5,v5,t9,v9,t10,t47,t48,t49,f12,RRR,hlen,BB,hod,decide_true,decide_false,rC,sQ,ratC]) ?_
      simp (maxSteps:=1000000) (disch:=first | omega | (simp only [LL];omega)) only [W,V,TY,CC,reduceIte,Nat.reduceEqDiff,Nat.reduceAdd,Nat.reduceLeDiff,Nat.reduceLT,Int.reduceLE,Int.reduceLT,Int.reduceAdd,Int.reduceSub,Int.reduceToNat,Nat.reduceMul,t4,v4,t5,v5,t9,v9,t10,t47,t48,t49,f12,RRR,hlen,BB,hod,decide_true,decide_false,rC,sQ,ratC]
      refine a_call _ _ hh (by simp (maxSteps:=1000000) (disch:=first | omega | (simp only [LL];omega)) only [W,V,TY,CC,reduceIte,Nat.reduceEqDiff,Nat.reduceAdd,Nat.reduceLeDiff,Nat.reduceLT,Int.reduceLE,Int.reduceLT,Int.reduceAdd,Int.reduceSub,Int.reduceToNat,Nat.reduceMul,t4,v4,t5,v5,t9,v9,t10,t47,t48,t49,f12,RRR,hlen,BB,hod,decide_true,decide_false,rC,sQ,ratC]) ?_
      simp (maxSteps:=1000000) (disch:=first | omega | (simp only [LL];omega)) only [W,V,TY,CC,reduceIte,Nat.reduceEqDiff,Nat.reduceAdd,Nat.reduceLeDiff,Nat.reduceLT,Int.reduceLE,Int.reduceLT,Int.reduceAdd,Int.reduceSub,Int.reduceToNat,Nat.reduceMul,t4,v4,t5,v5,t9,v9,t10,t47,t48,t49,f12,RRR,hlen,BB,hod,decide_true,decide_false,rC,sQ,ratC]
      exact ⟨k - 1, by omega, i + 1, by omega, rfl⟩
    · exact absurd ⟨hA, hB⟩ (hn hod)
    · rw [decide_eq_true hA] at ha
      rw [decide_eq_false hB] at hb
      have hm := hm hod
      rw [decide_eq_false (fun e => hB e.2)] at hm
      have hh := hh (.inl hA)
      simp (maxSteps:=1000000) (disch:=first | omega | (simp only [LL];omega)) only [W,V,TY,CC,reduceIte,Nat.reduceEqDiff,Nat.reduceAdd,Nat.reduceLeDiff,Nat.reduceLT,Int.reduceLE,Int.reduceLT,Int.reduceAdd,Int.reduceSub,Int.reduceToNat,Nat.reduceMul,t4,v4,t5,v5,t9,v9,t10,t47,t48,t49,f12,RRR,hlen,BB,hod,decide_true,decide_false,rC]
      refine a_call _ _ hm (by simp (maxSteps:=1000000) (disch:=first | omega | (simp only [LL];omega)) only [W,V,TY,CC,reduceIte,Nat.reduceEqDiff,Nat.reduceAdd,Nat.reduceLeDiff,Nat.reduceLT,Int.reduceLE,Int.reduceLT,Int.reduceAdd,Int.reduceSub,Int.reduceToNat,Nat.reduceMul,t4,v4,t5,v5,t9,v9,t10,t47,t48,t49,f12,RRR,hlen,BB,hod,decide_true,decide_false,rC,sQ,ratC]) ?_
      simp (maxSteps:=1000000) (disch:=first | omega | (simp only [LL];omega)) only [W,V,TY,CC,reduceIte,Nat.reduceEqDiff,Nat.reduceAdd,Nat.reduceLeDiff,Nat.reduceLT,Int.reduceLE,Int.reduceLT,Int.reduceAdd,Int.reduceSub,Int.reduceToNat,Nat.reduceMul,t4,v4,t5,v5,t9,v9,t10,t47,t48,t49,f12,RRR,hlen,BB,hod,decide_true,decide_false,rC,sQ,ratC]
      refine a_call _ _ ha (by simp (maxSteps:=1000000) (disch:=first | omega | (simp only [LL];omega)) only [W,V,TY,CC,reduceIte,Nat.reduceEqDiff,Nat.reduceAdd,Nat.reduceLeDiff,Nat.reduceLT,Int.reduceLE,Int.reduceLT,Int.reduceAdd,Int.reduceSub,Int.reduceToNat,Nat.reduceMul,t4,v4,t5,v5,t9,v9,t10,t47,t48,t49,f12,RRR,hlen,BB,hod,decide_true,decide_false,rC,sQ,ratC]) ?_
      simp (maxSteps:=1000000) (disch:=first | omega | (simp only [LL];omega)) only [W,V,TY,CC,reduceIte,Nat.reduceEqDiff,Nat.reduceAdd,Nat.reduceLeDiff,Nat.reduceLT,Int.reduceLE,Int.reduceLT,Int.reduceAdd,Int.reduceSub,Int.reduceToNat,Nat.reduceMul,t4,v4,t5,v5,t9,v9,t10,t47,t48,t49,f12,RRR,hlen,BB,hod,decide_true,decide_false,rC,sQ,ratC]
      refine a_call _ _ hb (by simp (maxSteps:=1000000) (disch:=first | omega | (simp only [LL];omega)) only [W,V,TY,CC,reduceIte,Nat.reduceEqDiff,Nat.reduceAdd,Nat.reduceLeDiff,Nat.reduceLT,Int.reduceLE,Int.reduceLT,Int.reduceAdd,Int.reduceSub,Int.reduceToNat,Nat.reduceMul,t4,v4,t5,v5,t9,v9,t10,t47,t48,t49,f12,RRR,hlen,BB,hod,decide_true,decide_false,rC,sQ,ratC]) ?_
      simp (maxSteps:=1000000) (disch:=first | omega | (simp only [LL];omega)) only [W,V,TY,CC,reduceIte,Nat.reduceEqDiff,Nat.reduceAdd,Nat.reduceLeDiff,Nat.reduceLT,Int.reduceLE,Int.reduceLT,Int.reduceAdd,Int.reduceSub,Int.reduceToNat,Nat.reduceMul,t4,v4,t5,v5,t9,v9,t10,t47,t48,t49,f12,RRR,hlen,BB,hod,decide_true,decide_false,rC,sQ,ratC]
      refine a_call _ _ ha (by simp (maxSteps:=1000000) (disch:=first | omega | (simp only [LL];omega)) only [W,V,TY,CC,reduceIte,Nat.reduceEqDiff,Nat.reduceAdd,Nat.reduceLeDiff,Nat.reduceLT,Int.reduceLE,Int.reduceLT,Int.reduceAdd,Int.reduceSub,Int.reduceToNat,Nat.reduceMul,t4,v4,t5,v5,t9,v9,t10,t47,t48,t49,f12,RRR,hlen,BB,hod,decide_true,decide_false,rC,sQ,ratC]) ?_
      simp (maxSteps:=1000000) (disch:=first | omega | (simp only [LL];omega)) only [W,V,TY,CC,reduceIte,Nat.reduceEqDiff,Nat.reduceAdd,Nat.reduceLeDiff,Nat.reduceLT,Int.reduceLE,Int.reduceLT,Int.reduceAdd,Int.reduceSub,Int.reduceToNat,Nat.reduceMul,t4,v4,t5,v5,t9,v9,t10,t47,t48,t49,f12,RRR,hlen,BB,hod,decide_true,decide_false,rC,sQ,ratC]
      refine a_call _ _ ch (by simp (maxSteps:=1000000) (disch:=first | omega | (simp only [LL];omega)) only [W,V,TY,CC,reduceIte,Nat.reduceEqDiff,Nat.reduceAdd,Nat.reduceLeDiff,Nat.reduceLT,Int.reduceLE,Int.reduceLT,Int.reduceAdd,Int.reduceSub,Int.reduceToNat,Nat.reduceMul,t4,v4,t5,v5,t9,v9,t10,t47,t48,t49,f12,RRR,hlen,BB,hod,decide_true,decide_false,rC,sQ,ratC]) ?_
      simp (maxSteps:=1000000) (disch:=first | omega | (simp only [LL];omega)) only [W,V,TY,CC,reduceIte,Nat.reduceEqDiff,Nat.reduceAdd,Nat.reduceLeDiff,Nat.reduceLT,Int.reduceLE,Int.reduceLT,Int.reduceAdd,Int.reduceSub,Int.reduceToNat,Nat.reduceMul,t4,v4,t5,v5,t9,v9,t10,t47,t48,t49,f12,RRR,hlen,BB,hod,decide_true,decide_false,rC,sQ,ratC]
      refine a_call _ _ hh (by simp (maxSteps:=1000000) (disch:=first | omega | (simp only [LL];omega)) only [W,V,TY,CC,reduceIte,Nat.reduceEqDiff,Nat.reduceAdd,Nat.reduceLeDiff,Nat.reduceLT,Int.reduceLE,Int.reduceLT,Int.reduceAdd,Int.reduceSub,Int.reduceToNat,Nat.reduceMul,t4,v4,t5,v5,t9,v9,t10,t47,t48,t49,f12,RRR,hlen,BB,hod,decide_true,decide_false,rC,sQ,ratC]) ?_
      simp (maxSteps:=1000000) (disch:=first | omega | (simp only [LL];omega)) only [W,V,TY,CC,reduceIte,Nat.reduceEqDiff,Nat.reduceAdd,Nat.reduceLeDiff,Nat.reduceLT,Int.reduceLE,Int.reduceLT,Int.reduceAdd,Int.reduceSub,Int.reduceToNat,Nat.reduceMul,t4,v4,t5,v5,t9,v9,t10,t47,t48,t49,f12,RRR,hlen,BB,hod,decide_true,decide_false,rC,sQ,ratC]
      exact ⟨k - 1, by omega, i + 1, by omega, rfl⟩
    · rw [decide_eq_true hA] at ha
      rw [decide_eq_false hB] at hb
      have hh := hh (.inl hA)
      simp (maxSteps:=1000000) (disch:=first | omega | (simp only [LL];omega)) only [W,V,TY,CC,reduceIte,Nat.reduceEqDiff,Nat.reduceAdd,Nat.reduceLeDiff,Nat.reduceLT,Int.reduceLE,Int.reduceLT,Int.reduceAdd,Int.reduceSub,Int.reduceToNat,Nat.reduceMul,t4,v4,t5,v5,t9,v9,t10,t47,t48,t49,f12,RRR,hlen,BB,hod,decide_true,decide_false,rC]
      refine a_call _ _ ha (by simp (maxSteps:=1000000) (disch:=first | omega | (simp only [LL];omega)) only [W,V,TY,CC,reduceIte,Nat.reduceEqDiff,Nat.reduceAdd,Nat.reduceLeDiff,Nat.reduceLT,Int.reduceLE,Int.reduceLT,Int.reduceAdd,Int.reduceSub,Int.reduceToNat,Nat.reduceMul,t4,v4,t5,v5,t9,v9,t10,t47,t48,t49,f12,RRR,hlen,BB,hod,decide_true,decide_false,rC,sQ,ratC]) ?_
      simp (maxSteps:=1000000) (disch:=first | omega | (simp only [LL];omega)) only [W,V,TY,CC,reduceIte,Nat.reduceEqDiff,Nat.reduceAdd,Nat.reduceLeDiff,Nat.reduceLT,Int.reduceLE,Int.reduceLT,Int.reduceAdd,Int.reduceSub,Int.reduceToNat,Nat.reduceMul,t4,v4,t5,v5,t9,v9,t10,t47,t48,t49,f12,RRR,hlen,BB,hod,decide_true,decide_false,rC,sQ,ratC]
      refine a_call _ _ hb (by simp (maxSteps:=1000000) (disch:=first | omega | (simp only [LL];omega)) only [W,V,TY,CC,reduceIte,Nat.reduceEqDiff,Nat.reduceAdd,Nat.reduceLeDiff,Nat.reduceLT,Int.reduceLE,Int.reduceLT,Int.reduceAdd,Int.reduceSub,Int.reduceToNat,Nat.reduceMul,t4,v4,t5,v5,t9,v9,t10,t47,t48,t49,f12,RRR,hlen,BB,hod,decide_true,decide_false,rC,sQ,ratC]) ?_
      simp (maxSteps:=1000000) (disch:=first | omega | (simp only [LL];omega)) only [W,V,TY,CC,reduceIte,Nat.reduceEqDiff,Nat.reduceAdd,Nat.reduceLeDiff,Nat.reduceLT,Int.reduceLE,Int.reduceLT,Int.reduceAdd,Int.reduceSub,Int.reduceToNat,Nat.reduceMul,t4,v4,t5,v5,t9,v9,t10,t47,t48,t49,f12,RRR,hlen,BB,hod,decide_true,decide_false,rC,sQ,ratC]
      refine a_call _ _ ha (by simp (maxSteps:=1000000) (disch:=first | omega | (simp only [LL];omega)) only [W,V,TY,CC,reduceIte,Nat.reduceEqDiff,Nat.reduceAdd,Nat.reduceLeDiff,Nat.reduceLT,Int.reduceLE,Int.reduceLT,Int.reduceAdd,Int.reduceSub,Int.reduceToNat,Nat.reduceMul,t4,v4,t5,v5,t9,v9,t10,t47,t48,t49,f12,RRR,hlen,BB,hod,decide_true,decide_false,rC,sQ,ratC]) ?_
      simp (maxSteps:=1000000) (disch:=first | omega | (simp only [LL];omega)) only [W,V,TY,CC,reduceIte,Nat.reduceEqDiff,Nat.reduceAdd,Nat.reduceLeDiff,Nat.reduceLT,Int.reduceLE,Int.reduceLT,Int.reduceAdd,Int.reduceSub,Int.reduceToNat,Nat.reduceMul,t4,v4,t5,v5,t9,v9,t10,t47,t48,t49,f12,RRR,hlen,BB,hod,decide_true,decide_false,rC,sQ,ratC]
      refine a_call _ _ ch (by simp (maxSteps:=1000000) (disch:=first | omega | (simp only [LL];omega)) only [W,V,TY,CC,reduceIte,Nat.reduceEqDiff,Nat.reduceAdd,Nat.reduceLeDiff,Nat.reduceLT,Int.reduceLE,Int.reduceLT,Int.reduceAdd,Int.reduceSub,Int.reduceToNat,Nat.reduceMul,t4,v4,t5,v5,t9,v9,t10,t47,t48,t49,f12,RRR,hlen,BB,hod,decide_true,decide_false,rC,sQ,ratC]) ?_
      simp (maxSteps:=1000000) (disch:=first | omega | (simp only [LL];omega)) only [W,V,TY,CC,reduceIte,Nat.reduceEqDiff,Nat.reduceAdd,Nat.reduceLeDiff,Nat.reduceLT,Int.reduceLE,Int.reduceLT,Int.reduceAdd,Int.reduceSub,Int.reduceToNat,Nat.reduceMul,t4,v4,t5,v5,t9,v9,t10,t47,t48,t49,f12,RRR,hlen,BB,hod,decide_true,decide_false,rC,sQ,ratC]
      refine a_call _ _ hh (by simp (maxSteps:=1000000) (disch:=first | omega | (simp only [LL];omega)) only [W,V,TY,CC,reduceIte,Nat.reduceEqDiff,Nat.reduceAdd,Nat.reduceLeDiff,Nat.reduceLT,Int.reduceLE,Int.reduceLT,Int.reduceAdd,Int.reduceSub,Int.reduceToNat,Nat.reduceMul,t4,v4,t5,v5,t9,v9,t10,t47,t48,t49,f12,RRR,hlen,BB,hod,decide_true,decide_false,rC,sQ,ratC]) ?_
      simp (maxSteps:=1000000) (disch:=first | omega | (simp only [LL];omega)) only [W,V,TY,CC,reduceIte,Nat.reduceEqDiff,Nat.reduceAdd,Nat.reduceLeDiff,Nat.reduceLT,Int.reduceLE,Int.reduceLT,Int.reduceAdd,Int.reduceSub,Int.reduceToNat,Nat.reduceMul,t4,v4,t5,v5,t9,v9,t10,t47,t48,t49,f12,RRR,hlen,BB,hod,decide_true,decide_false,rC,sQ,ratC]
      exact ⟨k - 1, by omega, i + 1, by omega, rfl⟩
    · rw [decide_eq_false hA] at ha
      rw [decide_eq_true hB] at hb
      have hm := hm hod
      rw [decide_eq_false (fun e => hA e.1)] at hm
      have hh := hh (.inr hB)
      simp (maxSteps:=1000000) (disch:=first | omega | (simp only [LL];omega)) only [W,V,TY,CC,reduceIte,Nat.reduceEqDiff,Nat.reduceAdd,Nat.reduceLeDiff,Nat.reduceLT,Int.reduceLE,Int.reduceLT,Int.reduceAdd,Int.reduceSub,Int.reduceToNat,Nat.reduceMul,t4,v4,t5,v5,t9,v9,t10,t47,t48,t49,f12,RRR,hlen,BB,hod,decide_true,decide_false,rC]
      refine a_call _ _ hm (by simp (maxSteps:=1000000) (disch:=first | omega | (simp only [LL];omega)) only [W,V,TY,CC,reduceIte,Nat.reduceEqDiff,Nat.reduceAdd,Nat.reduceLeDiff,Nat.reduceLT,Int.reduceLE,Int.reduceLT,Int.reduceAdd,Int.reduceSub,Int.reduceToNat,Nat.reduceMul,t4,v4,t5,v5,t9,v9,t10,t47,t48,t49,f12,RRR,hlen,BB,hod,decide_true,decide_false,rC,sQ,ratC]) ?_
      simp (maxSteps:=1000000) (disch:=first | omega | (simp only [LL];omega)) only [W,V,TY,CC,reduceIte,Nat.reduceEqDiff,Nat.reduceAdd,Nat.reduceLeDiff,Nat.reduceLT,Int.reduceLE,Int.reduceLT,Int.reduceAdd,Int.reduceSub,Int.reduceToNat,Nat.reduceMul,t4,v4,t5,v5,t9,v9,t10,t47,t48,t49,f12,RRR,hlen,BB,hod,decide_true,decide_false,rC,sQ,ratC]
      refine a_call _ _ ha (by simp (maxSteps:=1000000) (disch:=first | omega | (simp only [LL];omega)) only [W,V,TY,CC,reduceIte,Nat.reduceEqDiff,Nat.reduceAdd,Nat.reduceLeDiff,Nat.reduceLT,Int.reduceLE,Int.reduceLT,Int.reduceAdd,Int.reduceSub,Int.reduceToNat,Nat.reduceMul,t4,v4,t5,v5,t9,v9,t10,t47,t48,t49,f12,RRR,hlen,BB,hod,decide_true,decide_false,rC,sQ,ratC]) ?_
      simp (maxSteps:=1000000) (disch:=first | omega | (simp only [LL];omega)) only [W,V,TY,CC,reduceIte,Nat.reduceEqDiff,Nat.reduceAdd,Nat.reduceLeDiff,Nat.reduceLT,Int.reduceLE,Int.reduceLT,Int.reduceAdd,Int.reduceSub,Int.reduceToNat,Nat.reduceMul,t4,v4,t5,v5,t9,v9,t10,t47,t48,t49,f12,RRR,hlen,BB,hod,decide_true,decide_false,rC,sQ,ratC]
      refine a_call _ _ ha (by simp (maxSteps:=1000000) (disch:=first | omega | (simp only [LL];omega)) only [W,V,TY,CC,reduceIte,Nat.reduceEqDiff,Nat.reduceAdd,Nat.reduceLeDiff,Nat.reduceLT,Int.reduceLE,Int.reduceLT,Int.reduceAdd,Int.reduceSub,Int.reduceToNat,Nat.reduceMul,t4,v4,t5,v5,t9,v9,t10,t47,t48,t49,f12,RRR,hlen,BB,hod,decide_true,decide_false,rC,sQ,ratC]) ?_
      simp (maxSteps:=1000000) (disch:=first | omega | (simp only [LL];omega)) only [W,V,TY,CC,reduceIte,Nat.reduceEqDiff,Nat.reduceAdd,Nat.reduceLeDiff,Nat.reduceLT,Int.reduceLE,Int.reduceLT,Int.reduceAdd,Int.reduceSub,Int.reduceToNat,Nat.reduceMul,t4,v4,t5,v5,t9,v9,t10,t47,t48,t49,f12,RRR,hlen,BB,hod,decide_true,decide_false,rC,sQ,ratC]
      refine a_call _ _ hb (by simp (maxSteps:=1000000) (disch:=first | omega | (simp only [LL];omega)) only [W,V,TY,CC,reduceIte,Nat.reduceEqDiff,Nat.reduceAdd,Nat.reduceLeDiff,Nat.reduceLT,Int.reduceLE,Int.reduceLT,Int.reduceAdd,Int.reduceSub,Int.reduceToNat,Nat.reduceMul,t4,v4,t5,v5,t9,v9,t10,t47,t48,t49,f12,RRR,hlen,BB,hod,decide_true,decide_false,rC,sQ,ratC]) ?_
      simp (maxSteps:=1000000) (disch:=first | omega | (simp only [LL];omega)) only [W,V,TY,CC,reduceIte,Nat.reduceEqDiff,Nat.reduceAdd,Nat.reduceLeDiff,Nat.reduceLT,Int.reduceLE,Int.reduceLT,Int.reduceAdd,Int.reduceSub,Int.reduceToNat,Nat.reduceMul,t4,v4,t5,v5,t9,v9,t10,t47,t48,t49,f12,RRR,hlen,BB,hod,decide_true,decide_false,rC,sQ,ratC]
      refine a_call _ _ ch (by simp (maxSteps:=1000000) (disch:=first | omega | (simp only [LL];omega)) only [W,V,TY,CC,reduceIte,Nat.reduceEqDiff,Nat.reduceAdd,Nat.reduceLeDiff,Nat.reduceLT,Int.reduceLE,Int.reduceLT,Int.reduceAdd,Int.reduceSub,Int.reduceToNat,Nat.reduceMul,t4,v4,t5,v5,t9,v9,t10,t47,t48,t49,f12,RRR,hlen,BB,hod,decide_true,decide_false,rC,sQ,ratC]) ?_
      simp (maxSteps:=1000000) (disch:=first | omega | (simp only [LL];omega)) only [W,V,TY,CC,reduceIte,Nat.reduceEqDiff,Nat.reduceAdd,Nat.reduceLeDiff,Nat.reduceLT,Int.reduceLE,Int.reduceLT,Int.reduceAdd,Int.reduceSub,Int.reduceToNat,Nat.reduceMul,t4,v4,t5,v5,t9,v9,t10,t47,t48,t49,f12,RRR,hlen,BB,hod,decide_true,decide_false,rC,sQ,ratC]
      refine a_call _ _ hh (by simp (maxSteps:=1000000) (disch:=first | omega | (simp only [LL];omega)) only [W,V,TY,CC,reduceIte,Nat.reduceEqDiff,Nat.reduceAdd,Nat.reduceLeDiff,Nat.reduceLT,Int.reduceLE,Int.reduceLT,Int.reduceAdd,Int.reduceSub,Int.reduceToNat,Nat.reduceMul,t4,v4,t5,v5,t9,v9,t10,t47,t48,t49,f12,RRR,hlen,BB,hod,decide_true,decide_false,rC,sQ,ratC]) ?_
      simp (maxSteps:=1000000) (disch:=first | omega | (simp only [LL];omega)) only [W,V,TY,CC,reduceIte,Nat.reduceEqDiff,Nat.reduceAdd,Nat.reduceLeDiff,Nat.reduceLT,Int.reduceLE,Int.reduceLT,Int.reduceAdd,Int.reduceSub,Int.reduceToNat,Nat.reduceMul,t4,v4,t5,v5,t9,v9,t10,t47,t48,t49,f12,RRR,hlen,BB,hod,decide_true,decide_false,rC,sQ,ratC]
      exact ⟨k - 1, by omega, i + 1, by omega, rfl⟩
    · rw [decide_eq_false hA] at ha
      rw [decide_eq_true hB] at hb
      have hh := hh (.inr hB)
      simp (maxSteps:=1000000) (disch:=first | omega | (simp only [LL];omega)) only [W,V,TY,CC,reduceIte,Nat.reduceEqDiff,Nat.reduceAdd,Nat.reduceLeDiff,Nat.reduceLT,Int.reduceLE,Int.reduceLT,Int.reduceAdd,Int.reduceSub,Int.reduceToNat,Nat.reduceMul,t4,v4,t5,v5,t9,v9,t10,t47,t48,t49,f12,RRR,hlen,BB,hod,decide_true,decide_false,rC]
      refine a_call _ _ ha (by simp (maxSteps:=1000000) (disch:=first | omega | (simp only [LL];omega)) only [W,V,TY,CC,reduceIte,Nat.reduceEqDiff,Nat.reduceAdd,Nat.reduceLeDiff,Nat.reduceLT,Int.reduceLE,Int.reduceLT,Int.reduceAdd,Int.reduceSub,Int.reduceToNat,Nat.reduceMul,t4,v4,t5,v5,t9,v9,t10,t47,t48,t49,f12,RRR,hlen,BB,hod,decide_true,decide_false,rC,sQ,ratC]) ?_
      simp (maxSteps:=1000000) (disch:=first | omega | (simp only [LL];omega)) only [W,V,TY,CC,reduceIte,Nat.reduceEqDiff,Nat.reduceAdd,Nat.reduceLeDiff,Nat.reduceLT,Int.reduceLE,Int.reduceLT,Int.reduceAdd,Int.reduceSub,Int.reduceToNat,Nat.reduceMul,t4,v4,t5,v5,t9,v9,t10,t47,t48,t49,f12,RRR,hlen,BB,hod,decide_true,decide_false,rC,sQ,ratC]
      refine a_call _ _ ha (by simp (maxSteps:=1000000) (disch:=first | omega | (simp only [LL];omega)) only [W,V,TY,CC,reduceIte,Nat.reduceEqDiff,Nat.reduceAdd,Nat.reduceLeDiff,Nat.reduceLT,Int.reduceLE,Int.reduceLT,Int.reduceAdd,Int.reduceSub,Int.reduceToNat,Nat.reduceMul,t4,v4,t5,v5,t9,v9,t10,t47,t48,t49,f12,RRR,hlen,BB,hod,decide_true,decide_false,rC,sQ,ratC]) ?_
      simp (maxSteps:=1000000) (disch:=first | omega | (simp only [LL];omega)) only [W,V,TY,CC,reduceIte,Nat.reduceEqDiff,Nat.reduceAdd,Nat.reduceLeDiff,Nat.reduceLT,Int.reduceLE,Int.reduceLT,Int.reduceAdd,Int.reduceSub,Int.reduceToNat,Nat.reduceMul,t4,v4,t5,v5,t9,v9,t10,t47,t48,t49,f12,RRR,hlen,BB,hod,decide_true,decide_false,rC,sQ,ratC]
      refine a_call _ _ hb (by simp (maxSteps:=1000000) (disch:=first | omega | (simp only [LL];omega)) only [W,V,TY,CC,reduceIte,Nat.reduceEqDiff,Nat.reduceAdd,Nat.reduceLeDiff,Nat.reduceLT,Int.reduceLE,Int.reduceLT,Int.reduceAdd,Int.reduceSub,Int.reduceToNat,Nat.reduceMul,t4,v4,t5,v5,t9,v9,t10,t47,t48,t49,f12,RRR,hlen,BB,hod,decide_true,decide_false,rC,sQ,ratC]) ?_
      simp (maxSteps:=1000000) (disch:=first | omega | (simp only [LL];omega)) only [W,V,TY,CC,reduceIte,Nat.reduceEqDiff,Nat.reduceAdd,Nat.reduceLeDiff,Nat.reduceLT,Int.reduceLE,Int.reduceLT,Int.reduceAdd,Int.reduceSub,Int.reduceToNat,Nat.reduceMul,t4,v4,t5,v5,t9,v9,t10,t47,t48,t49,f12,RRR,hlen,BB,hod,decide_true,decide_false,rC,sQ,ratC]
      refine a_call _ _ ch (by simp (maxSteps:=1000000) (disch:=first | omega | (simp only [LL];omega)) only [W,V,TY,CC,reduceIte,Nat.reduceEqDiff,Nat.reduceAdd,Nat.reduceLeDiff,Nat.reduceLT,Int.reduceLE,Int.reduceLT,Int.reduceAdd,Int.reduceSub,Int.reduceToNat,Nat.reduceMul,t4,v4,t5,v5,t9,v9,t10,t47,t48,t49,f12,RRR,hlen,BB,hod,decide_true,decide_false,rC,sQ,ratC]) ?_
      simp (maxSteps:=1000000) (disch:=first | omega | (simp only [LL];omega)) only [W,V,TY,CC,reduceIte,Nat.reduceEqDiff,Nat.reduceAdd,Nat.reduceLeDiff,Nat.reduceLT,Int.reduceLE,Int.reduceLT,Int.reduceAdd,Int.reduceSub,Int.reduceToNat,Nat.reduceMul,t4,v4,t5,v5,t9,v9,t10,t47,t48,t49,f12,RRR,hlen,BB,hod,decide_true,decide_false,rC,sQ,ratC]
      refine a_call _ _ hh (by simp (maxSteps:=1000000) (disch:=first | omega | (simp only [LL];omega)) only [W,V,TY,CC,reduceIte,Nat.reduceEqDiff,Nat.reduceAdd,Nat.reduceLeDiff,Nat.reduceLT,Int.reduceLE,Int.reduceLT,Int.reduceAdd,Int.reduceSub,Int.reduceToNat,Nat.reduceMul,t4,v4,t5,v5,t9,v9,t10,t47,t48,t49,f12,RRR,hlen,BB,hod,decide_true,decide_false,rC,sQ,ratC]) ?_
      simp (maxSteps:=1000000) (disch:=first | omega | (simp only [LL];omega)) only [W,V,TY,CC,reduceIte,Nat.reduceEqDiff,Nat.reduceAdd,Nat.reduceLeDiff,Nat.reduceLT,Int.reduceLE,Int.reduceLT,Int.reduceAdd,Int.reduceSub,Int.reduceToNat,Nat.reduceMul,t4,v4,t5,v5,t9,v9,t10,t47,t48,t49,f12,RRR,hlen,BB,hod,decide_true,decide_false,rC,sQ,ratC]
      exact ⟨k - 1, by omega, i + 1, by omega, rfl⟩
    · rw [decide_eq_false hA] at ha
      rw [decide_eq_false hB] at hb
      have hm := hm hod
      rw [decide_eq_false (fun e => hA e.1)] at hm
      simp (maxSteps:=1000000) (disch:=first | omega | (simp only [LL];omega)) only [W,V,TY,CC,reduceIte,Nat.reduceEqDiff,Nat.reduceAdd,Nat.reduceLeDiff,Nat.reduceLT,Int.reduceLE,Int.reduceLT,Int.reduceAdd,Int.reduceSub,Int.reduceToNat,Nat.reduceMul,t4,v4,t5,v5,t9,v9,t10,t47,t48,t49,f12,RRR,hlen,BB,hod,decide_true,decide_false,rC]
      refine a_call _ _ hm (by simp (maxSteps:=1000000) (disch:=first | omega | (simp only [LL];omega)) only [W,V,TY,CC,reduceIte,Nat.reduceEqDiff,Nat.reduceAdd,Nat.reduceLeDiff,Nat.reduceLT,Int.reduceLE,Int.reduceLT,Int.reduceAdd,Int.reduceSub,Int.reduceToNat,Nat.reduceMul,t4,v4,t5,v5,t9,v9,t10,t47,t48,t49,f12,RRR,hlen,BB,hod,decide_true,decide_false,rC,sQ,ratC]) ?_
      simp (maxSteps:=1000000) (disch:=first | omega | (simp only [LL];omega)) only [W,V,TY,CC,reduceIte,Nat.reduceEqDiff,Nat.reduceAdd,Nat.reduceLeDiff,Nat.reduceLT,Int.reduceLE,Int.reduceLT,Int.reduceAdd,Int.reduceSub,Int.reduceToNat,Nat.reduceMul,t4,v4,t5,v5,t9,v9,t10,t47,t48,t49,f12,RRR,hlen,BB,hod,decide_true,decide_false,rC,sQ,ratC]
      refine a_call _ _ ha (by simp (maxSteps:=1000000) (disch:=first | omega | (simp only [LL];omega)) only [W,V,TY,CC,reduceIte,Nat.reduceEqDiff,Nat.reduceAdd,Nat.reduceLeDiff,Nat.reduceLT,Int.reduceLE,Int.reduceLT,Int.reduceAdd,Int.reduceSub,Int.reduceToNat,Nat.reduceMul,t4,v4,t5,v5,t9,v9,t10,t47,t48,t49,f12,RRR,hlen,BB,hod,decide_true,decide_false,rC,sQ,ratC]) ?_
      simp (maxSteps:=1000000) (disch:=first | omega | (simp only [LL];omega)) only [W,V,TY,CC,reduceIte,Nat.reduceEqDiff,Nat.reduceAdd,Nat.reduceLeDiff,Nat.reduceLT,Int.reduceLE,Int.reduceLT,Int.reduceAdd,Int.reduceSub,Int.reduceToNat,Nat.reduceMul,t4,v4,t5,v5,t9,v9,t10,t47,t48,t49,f12,RRR,hlen,BB,hod,decide_true,decide_false,rC,sQ,ratC]
      refine a_call _ _ ha (by simp (maxSteps:=1000000) (disch:=first | omega | (simp only [LL];omega)) only [W,V,TY,CC,reduceIte,Nat.reduceEqDiff,Nat.reduceAdd,Nat.reduceLeDiff,Nat.reduceLT,Int.reduceLE,Int.reduceLT,Int.reduceAdd,Int.reduceSub,Int.reduceToNat,Nat.reduceMul,t4,v4,t5,v5,t9,v9,t10,t47,t48,t49,f12,RRR,hlen,BB,hod,decide_true,decide_false,rC,sQ,ratC]) ?_
      simp (maxSteps:=1000000) (disch:=first | omega | (simp only [LL];omega)) only [W,V,TY,CC,reduceIte,Nat.reduceEqDiff,Nat.reduceAdd,Nat.reduceLeDiff,Nat.reduceLT,Int.reduceLE,Int.reduceLT,Int.reduceAdd,Int.reduceSub,Int.reduceToNat,Nat.reduceMul,t4,v4,t5,v5,t9,v9,t10,t47,t48,t49,f12,RRR,hlen,BB,hod,decide_true,decide_false,rC,sQ,ratC]
      refine a_call _ _ hb (by simp (maxSteps:=1000000) (disch:=first | omega | (simp only [LL];omega)) only [W,V,TY,CC,reduceIte,Nat.reduceEqDiff,Nat.reduceAdd,Nat.reduceLeDiff,Nat.reduceLT,Int.reduceLE,Int.reduceLT,Int.reduceAdd,Int.reduceSub,Int.reduceToNat,Nat.reduceMul,t4,v4,t5,v5,t9,v9,t10,t47,t48,t49,f12,RRR,hlen,BB,hod,decide_true,decide_false,rC,sQ,ratC]) ?_
      simp (maxSteps:=1000000) (disch:=first | omega | (simp only [LL];omega)) only [W,V,TY,CC,reduceIte,Nat.reduceEqDiff,Nat.reduceAdd,Nat.reduceLeDiff,Nat.reduceLT,Int.reduceLE,Int.reduceLT,Int.reduceAdd,Int.reduceSub,Int.reduceToNat,Nat.reduceMul,t4,v4,t5,v5,t9,v9,t10,t47,t48,t49,f12,RRR,hlen,BB,hod,decide_true,decide_false,rC,sQ,ratC]
      exact ⟨k - 1, by omega, i + 1, by omega, rfl⟩
    · rw [decide_eq_false hA] at ha
      rw [decide_eq_false hB] at hb
      simp (maxSteps:=1000000) (disch:=first | omega | (simp only [LL];omega)) only [W,V,TY,CC,reduceIte,Nat.reduceEqDiff,Nat.reduceAdd,Nat.reduceLeDiff,Nat.reduceLT,Int.reduceLE,Int.reduceLT,Int.reduceAdd,Int.reduceSub,Int.reduceToNat,Nat.reduceMul,t4,v4,t5,v5,t9,v9,t10,t47,t48,t49,f12,RRR,hlen,BB,hod,decide_true,decide_false,rC]
      refine a_call _ _ ha (by simp (maxSteps:=1000000) (disch:=first | omega | (simp only [LL];omega)) only [W,V,TY,CC,reduceIte,Nat.reduceEqDiff,Nat.reduceAdd,Nat.reduceLeDiff,Nat.reduceLT,Int.reduceLE,Int.reduceLT,Int.reduceAdd,Int.reduceSub,Int.reduceToNat,Nat.reduceMul,t4,v4,t5,v5,t9,v9,t10,t47,t48,t49,f12,RRR,hlen,BB,hod,decide_true,decide_false,rC,sQ,ratC]) ?_
      simp (maxSteps:=1000000) (disch:=first | omega | (simp only [LL];omega)) only [W,V,TY,CC,reduceIte,Nat.reduceEqDiff,Nat.reduceAdd,Nat.reduceLeDiff,Nat.reduceLT,Int.reduceLE,Int.reduceLT,Int.reduceAdd,Int.reduceSub,Int.reduceToNat,Nat.reduceMul,t4,v4,t5,v5,t9,v9,t10,t47,t48,t49,f12,RRR,hlen,BB,hod,decide_true,decide_false,rC,sQ,ratC]
      refine a_call _ _ ha (by simp (maxSteps:=1000000) (disch:=first | omega | (simp only [LL];omega)) only [W,V,TY,CC,reduceIte,Nat.reduceEqDiff,Nat.reduceAdd,Nat.reduceLeDiff,Nat.reduceLT,Int.reduceLE,Int.reduceLT,Int.reduceAdd,Int.reduceSub,Int.reduceToNat,Nat.reduceMul,t4,v4,t5,v5,t9,v9,t10,t47,t48,t49,f12,RRR,hlen,BB,hod,decide_true,decide_false,rC,sQ,ratC]) ?_
      simp (maxSteps:=1000000) (disch:=first | omega | (simp only [LL];omega)) only [W,V,TY,CC,reduceIte,Nat.reduceEqDiff,Nat.reduceAdd,Nat.reduceLeDiff,Nat.reduceLT,Int.reduceLE,Int.reduceLT,Int.reduceAdd,Int.reduceSub,Int.reduceToNat,Nat.reduceMul,t4,v4,t5,v5,t9,v9,t10,t47,t48,t49,f12,RRR,hlen,BB,hod,decide_true,decide_false,rC,sQ,ratC]
      refine a_call _ _ hb (by simp (maxSteps:=1000000) (disch:=first | omega | (simp only [LL];omega)) only [W,V,TY,CC,reduceIte,Nat.reduceEqDiff,Nat.reduceAdd,Nat.reduceLeDiff,Nat.reduceLT,Int.reduceLE,Int.reduceLT,Int.reduceAdd,Int.reduceSub,Int.reduceToNat,Nat.reduceMul,t4,v4,t5,v5,t9,v9,t10,t47,t48,t49,f12,RRR,hlen,BB,hod,decide_true,decide_false,rC,sQ,ratC]) ?_
      simp (maxSteps:=1000000) (disch:=first | omega | (simp only [LL];omega)) only [W,V,TY,CC,reduceIte,Nat.reduceEqDiff,Nat.reduceAdd,Nat.reduceLeDiff,Nat.reduceLT,Int.reduceLE,Int.reduceLT,Int.reduceAdd,Int.reduceSub,Int.reduceToNat,Nat.reduceMul,t4,v4,t5,v5,t9,v9,t10,t47,t48,t49,f12,RRR,hlen,BB,hod,decide_true,decide_false,rC,sQ,ratC]
      exact ⟨k - 1, by omega, i + 1, by omega, rfl⟩
  · by_cases hod : od = 0
    · have wm1 := wm1' hod
      have wm2 := wm2' hod
      simp (maxSteps:=1000000) (disch:=first | omega | (simp only [LL];omega)) only [W,V,TY,CC,reduceIte,Nat.reduceEqDiff,Nat.reduceAdd,Nat.reduceLeDiff,Nat.reduceLT,Int.reduceLE,Int.reduceLT,Int.reduceAdd,Int.reduceSub,Int.reduceToNat,Nat.reduceMul,t4,v4,t5,v5,t9,v9,t10,t47,t48,t49,BB,hod,decide_true,decide_false,rC]
      refine a_call _ _ wm1 (by simp (maxSteps:=1000000) (disch:=first | omega | (simp only [LL];omega)) only [W,V,TY,CC,reduceIte,Nat.reduceEqDiff,Nat.reduceAdd,Nat.reduceLeDiff,Nat.reduceLT,Int.reduceLE,Int.reduceLT,Int.reduceAdd,Int.reduceSub,Int.reduceToNat,Nat.reduceMul,t4,v4,t5,v5,t9,v9,t10,t47,t48,t49,BB,hod,decide_true,decide_false,rC,sQ,ratC]) ?_
      simp (maxSteps:=1000000) (disch:=first | omega | (simp only [LL];omega)) only [W,V,TY,CC,reduceIte,Nat.reduceEqDiff,Nat.reduceAdd,Nat.reduceLeDiff,Nat.reduceLT,Int.reduceLE,Int.reduceLT,Int.reduceAdd,Int.reduceSub,Int.reduceToNat,Nat.reduceMul,t4,v4,t5,v5,t9,v9,t10,t47,t48,t49,BB,hod,decide_true,decide_false,rC,sQ,ratC]
      refine a_call _ _ wm2 (by simp (maxSteps:=1000000) (disch:=first | omega | (simp only [LL];omega)) only [W,V,TY,CC,reduceIte,Nat.reduceEqDiff,Nat.reduceAdd,Nat.reduceLeDiff,Nat.reduceLT,Int.reduceLE,Int.reduceLT,Int.reduceAdd,Int.reduceSub,Int.reduceToNat,Nat.reduceMul,t4,v4,t5,v5,t9,v9,t10,t47,t48,t49,BB,hod,decide_true,decide_false,rC,sQ,ratC]) ?_
      simp (maxSteps:=1000000) (disch:=first | omega | (simp only [LL];omega)) only [W,V,TY,CC,reduceIte,Nat.reduceEqDiff,Nat.reduceAdd,Nat.reduceLeDiff,Nat.reduceLT,Int.reduceLE,Int.reduceLT,Int.reduceAdd,Int.reduceSub,Int.reduceToNat,Nat.reduceMul,t4,v4,t5,v5,t9,v9,t10,t47,t48,t49,BB,hod,decide_true,decide_false,rC,sQ,ratC]
      refine a_call _ _ ch (by simp (maxSteps:=1000000) (disch:=first | omega | (simp only [LL];omega)) only [W,V,TY,CC,reduceIte,Nat.reduceEqDiff,Nat.reduceAdd,Nat.reduceLeDiff,Nat.reduceLT,Int.reduceLE,Int.reduceLT,Int.reduceAdd,Int.reduceSub,Int.reduceToNat,Nat.reduceMul,t4,v4,t5,v5,t9,v9,t10,t47,t48,t49,BB,hod,decide_true,decide_false,rC,sQ,ratC]) ?_
      simp (maxSteps:=1000000) (disch:=first | omega | (simp only [LL];omega)) only [W,V,TY,CC,reduceIte,Nat.reduceEqDiff,Nat.reduceAdd,Nat.reduceLeDiff,Nat.reduceLT,Int.reduceLE,Int.reduceLT,Int.reduceAdd,Int.reduceSub,Int.reduceToNat,Nat.reduceMul,t4,v4,t5,v5,t9,v9,t10,t47,t48,t49,BB,hod,decide_true,decide_false,rC,sQ,ratC]
      refine a_call _ _ wh1 (by simp (maxSteps:=1000000) (disch:=first | omega | (simp only [LL];omega)) only [W,V,TY,CC,reduceIte,Nat.reduceEqDiff,Nat.reduceAdd,Nat.reduceLeDiff,Nat.reduceLT,Int.reduceLE,Int.reduceLT,Int.reduceAdd,Int.reduceSub,Int.reduceToNat,Nat.reduceMul,t4,v4,t5,v5,t9,v9,t10,t47,t48,t49,BB,hod,decide_true,decide_false,rC,sQ,ratC]) ?_
      simp (maxSteps:=1000000) (disch:=first | omega | (simp only [LL];omega)) only [W,V,TY,CC,reduceIte,Nat.reduceEqDiff,Nat.reduceAdd,Nat.reduceLeDiff,Nat.reduceLT,Int.reduceLE,Int.reduceLT,Int.reduceAdd,Int.reduceSub,Int.reduceToNat,Nat.reduceMul,t4,v4,t5,v5,t9,v9,t10,t47,t48,t49,BB,hod,decide_true,decide_false,rC,sQ,ratC]
      refine a_call _ _ ch (by simp (maxSteps:=1000000) (disch:=first | omega | (simp only [LL];omega)) only [W,V,TY,CC,reduceIte,Nat.reduceEqDiff,Nat.reduceAdd,Nat.reduceLeDiff,Nat.reduceLT,Int.reduceLE,Int.reduceLT,Int.reduceAdd,Int.reduceSub,Int.reduceToNat,Nat.reduceMul,t4,v4,t5,v5,t9,v9,t10,t47,t48,t49,BB,hod,decide_true,decide_false,rC,sQ,ratC]) ?_
      simp (maxSteps:=1000000) (disch:=first | omega | (simp only [LL];omega)) only [W,V,TY,CC,reduceIte,Nat.reduceEqDiff,Nat.reduceAdd,Nat.reduceLeDiff,Nat.reduceLT,Int.reduceLE,Int.reduceLT,Int.reduceAdd,Int.reduceSub,Int.reduceToNat,Nat.reduceMul,t4,v4,t5,v5,t9,v9,t10,t47,t48,t49,BB,hod,decide_true,decide_false,rC,sQ,ratC]
      refine a_call _ _ wh2 (by simp (maxSteps:=1000000) (disch:=first | omega | (simp only [LL];omega)) only [W,V,TY,CC,reduceIte,Nat.reduceEqDiff,Nat.reduceAdd,Nat.reduceLeDiff,Nat.reduceLT,Int.reduceLE,Int.reduceLT,Int.reduceAdd,Int.reduceSub,Int.reduceToNat,Nat.reduceMul,t4,v4,t5,v5,t9,v9,t10,t47,t48,t49,BB,hod,decide_true,decide_false,rC,sQ,ratC]) ?_
      simp (maxSteps:=1000000) (disch:=first | omega | (simp only [LL];omega)) only [W,V,TY,CC,reduceIte,Nat.reduceEqDiff,Nat.reduceAdd,Nat.reduceLeDiff,Nat.reduceLT,Int.reduceLE,Int.reduceLT,Int.reduceAdd,Int.reduceSub,Int.reduceToNat,Nat.reduceMul,t4,v4,t5,v5,t9,v9,t10,t47,t48,t49,BB,hod,decide_true,decide_false,rC,sQ,ratC]
      refine a_call _ _ ch (by simp (maxSteps:=1000000) (disch:=first | omega | (simp only [LL];omega)) only [W,V,TY,CC,reduceIte,Nat.reduceEqDiff,Nat.reduceAdd,Nat.reduceLeDiff,Nat.reduceLT,Int.reduceLE,Int.reduceLT,Int.reduceAdd,Int.reduceSub,Int.reduceToNat,Nat.reduceMul,t4,v4,t5,v5,t9,v9,t10,t47,t48,t49,BB,hod,decide_true,decide_false,rC,sQ,ratC]) ?_
      simp (maxSteps:=1000000) (disch:=first | omega | (simp only [LL];omega)) only [W,V,TY,CC,reduceIte,Nat.reduceEqDiff,Nat.reduceAdd,Nat.reduceLeDiff,Nat.reduceLT,Int.reduceLE,Int.reduceLT,Int.reduceAdd,Int.reduceSub,Int.reduceToNat,Nat.reduceMul,t4,v4,t5,v5,t9,v9,t10,t47,t48,t49,BB,hod,decide_true,decide_false,rC,sQ,ratC]
      refine a_call _ _ ch' (by simp (maxSteps:=1000000) (disch:=first | omega | (simp only [LL];omega)) only [W,V,TY,CC,reduceIte,Nat.reduceEqDiff,Nat.reduceAdd,Nat.reduceLeDiff,Nat.reduceLT,Int.reduceLE,Int.reduceLT,Int.reduceAdd,Int.reduceSub,Int.reduceToNat,Nat.reduceMul,t4,v4,t5,v5,t9,v9,t10,t47,t48,t49,BB,hod,decide_true,decide_false,rC,sQ,ratC]) ?_
      simp (maxSteps:=1000000) (disch:=first | omega | (simp only [LL];omega)) only [W,V,TY,CC,reduceIte,Nat.reduceEqDiff,Nat.reduceAdd,Nat.reduceLeDiff,Nat.reduceLT,Int.reduceLE,Int.reduceLT,Int.reduceAdd,Int.reduceSub,Int.reduceToNat,Nat.reduceMul,t4,v4,t5,v5,t9,v9,t10,t47,t48,t49,BB,hod,decide_true,decide_false,rC,sQ,ratC]
      refine a_call _ _ sh (by simp (maxSteps:=1000000) (disch:=first | omega | (simp only [LL];omega)) only [W,V,TY,CC,reduceIte,Nat.reduceEqDiff,Nat.reduceAdd,Nat.reduceLeDiff,Nat.reduceLT,Int.reduceLE,Int.reduceLT,Int.reduceAdd,Int.reduceSub,Int.reduceToNat,Nat.reduceMul,t4,v4,t5,v5,t9,v9,t10,t47,t48,t49,BB,hod,decide_true,decide_false,rC,sQ,ratC]) ?_
      simp (maxSteps:=1000000) (disch:=first | omega | (simp only [LL];omega)) only [W,V,TY,CC,reduceIte,Nat.reduceEqDiff,Nat.reduceAdd,Nat.reduceLeDiff,Nat.reduceLT,Int.reduceLE,Int.reduceLT,Int.reduceAdd,Int.reduceSub,Int.reduceToNat,Nat.reduceMul,t4,v4,t5,v5,t9,v9,t10,t47,t48,t49,BB,hod,decide_true,decide_false,rC,sQ,ratC]
      refine a_call _ _ l5_awake (by simp (maxSteps:=1000000) (disch:=first | omega | (simp only [LL];omega)) only [W,V,TY,CC,reduceIte,Nat.reduceEqDiff,Nat.reduceAdd,Nat.reduceLeDiff,Nat.reduceLT,Int.reduceLE,Int.reduceLT,Int.reduceAdd,Int.reduceSub,Int.reduceToNat,Nat.reduceMul,t4,v4,t5,v5,t9,v9,t10,t47,t48,t49,BB,hod,decide_true,decide_false,rC,sQ,ratC]) ?_
      simp (maxSteps:=1000000) (disch:=first | omega | (simp only [LL];omega)) only [W,V,TY,CC,reduceIte,Nat.reduceEqDiff,Nat.reduceAdd,Nat.reduceLeDiff,Nat.reduceLT,Int.reduceLE,Int.reduceLT,Int.reduceAdd,Int.reduceSub,Int.reduceToNat,Nat.reduceMul,t4,v4,t5,v5,t9,v9,t10,t47,t48,t49,BB,hod,decide_true,decide_false,rC,sQ,ratC]
      refine f_ret _ _ _ ?_
      simp (maxSteps:=1000000) (disch:=first | omega | (simp only [LL];omega)) only [W,V,TY,CC,reduceIte,Nat.reduceEqDiff,Nat.reduceAdd,Nat.reduceLeDiff,Nat.reduceLT,Int.reduceLE,Int.reduceLT,Int.reduceAdd,Int.reduceSub,Int.reduceToNat,Nat.reduceMul,t4,v4,t5,v5,t9,v9,t10,t47,t48,t49,BB,hod,decide_true,decide_false]
    · clear wm1' wm2'
      simp (maxSteps:=1000000) (disch:=first | omega | (simp only [LL];omega)) only [W,V,TY,CC,reduceIte,Nat.reduceEqDiff,Nat.reduceAdd,Nat.reduceLeDiff,Nat.reduceLT,Int.reduceLE,Int.reduceLT,Int.reduceAdd,Int.reduceSub,Int.reduceToNat,Nat.reduceMul,t4,v4,t5,v5,t9,v9,t10,t47,t48,t49,BB,hod,decide_true,decide_false,rC]
      refine a_call _ _ ch (by simp (maxSteps:=1000000) (disch:=first | omega | (simp only [LL];omega)) only [W,V,TY,CC,reduceIte,Nat.reduceEqDiff,Nat.reduceAdd,Nat.reduceLeDiff,Nat.reduceLT,Int.reduceLE,Int.reduceLT,Int.reduceAdd,Int.reduceSub,Int.reduceToNat,Nat.reduceMul,t4,v4,t5,v5,t9,v9,t10,t47,t48,t49,BB,hod,decide_true,decide_false,rC,sQ,ratC]) ?_
      simp (maxSteps:=1000000) (disch:=first | omega | (simp only [LL];omega)) only [W,V,TY,CC,reduceIte,Nat.reduceEqDiff,Nat.reduceAdd,Nat.reduceLeDiff,Nat.reduceLT,Int.reduceLE,Int.reduceLT,Int.reduceAdd,Int.reduceSub,Int.reduceToNat,Nat.reduceMul,t4,v4,t5,v5,t9,v9,t10,t47,t48,t49,BB,hod,decide_true,decide_false,rC,sQ,ratC]
      refine a_call _ _ wh1 (by simp (maxSteps:=1000000) (disch:=first | omega | (simp only [LL];omega)) only [W,V,TY,CC,reduceIte,Nat.reduceEqDiff,Nat.reduceAdd,Nat.reduceLeDiff,Nat.reduceLT,Int.reduceLE,Int.reduceLT,Int.reduceAdd,Int.reduceSub,Int.reduceToNat,Nat.reduceMul,t4,v4,t5,v5,t9,v9,t10,t47,t48,t49,BB,hod,decide_true,decide_false,rC,sQ,ratC]) ?_
      simp (maxSteps:=1000000) (disch:=first | omega | (simp only [LL];omega)) only [W,V,TY,CC,reduceIte,Nat.reduceEqDiff,Nat.reduceAdd,Nat.reduceLeDiff,Nat.reduceLT,Int.reduceLE,Int.reduceLT,Int.reduceAdd,Int.reduceSub,Int.reduceToNat,Nat.reduceMul,t4,v4,t5,v5,t9,v9,t10,t47,t48,t49,BB,hod,decide_true,decide_false,rC,sQ,ratC]
      refine a_call _ _ ch (by simp (maxSteps:=1000000) (disch:=first | omega | (simp only [LL];omega)) only [W,V,TY,CC,reduceIte,Nat.reduceEqDiff,Nat.reduceAdd,Nat.reduceLeDiff,Nat.reduceLT,Int.reduceLE,Int.reduceLT,Int.reduceAdd,Int.reduceSub,Int.reduceToNat,Nat.reduceMul,t4,v4,t5,v5,t9,v9,t10,t47,t48,t49,BB,hod,decide_true,decide_false,rC,sQ,ratC]) ?_
      simp (maxSteps:=1000000) (disch:=first | omega | (simp only [LL];omega)) only [W,V,TY,CC,reduceIte,Nat.reduceEqDiff,Nat.reduceAdd,Nat.reduceLeDiff,Nat.reduceLT,Int.reduceLE,Int.reduceLT,Int.reduceAdd,Int.reduceSub,Int.reduceToNat,Nat.reduceMul,t4,v4,t5,v5,t9,v9,t10,t47,t48,t49,BB,hod,decide_true,decide_false,rC,sQ,ratC]
      refine a_call _ _ wh2 (by simp (maxSteps:=1000000) (disch:=first | omega | (simp only [LL];omega)) only [W,V,TY,CC,reduceIte,Nat.reduceEqDiff,Nat.reduceAdd,Nat.reduceLeDiff,Nat.reduceLT,Int.reduceLE,Int.reduceLT,Int.reduceAdd,Int.reduceSub,Int.reduceToNat,Nat.reduceMul,t4,v4,t5,v5,t9,v9,t10,t47,t48,t49,BB,hod,decide_true,decide_false,rC,sQ,ratC]) ?_
      simp (maxSteps:=1000000) (disch:=first | omega | (simp only [LL];omega)) only [W,V,TY,CC,reduceIte,Nat.reduceEqDiff,Nat.reduceAdd,Nat.reduceLeDiff,Nat.reduceLT,Int.reduceLE,Int.reduceLT,Int.reduceAdd,Int.reduceSub,Int.reduceToNat,Nat.reduceMul,t4,v4,t5,v5,t9,v9,t10,t47,t48,t49,BB,hod,decide_true,decide_false,rC,sQ,ratC]
      refine a_call _ _ ch (by simp (maxSteps:=1000000) (disch:=first | omega | (simp only [LL];omega)) only [W,V,TY,CC,reduceIte,Nat.reduceEqDiff,Nat.reduceAdd,Nat.reduceLeDiff,Nat.reduceLT,Int.reduceLE,Int.reduceLT,Int.reduceAdd,Int.reduceSub,Int.reduceToNat,Nat.reduceMul,t4,v4,t5,v5,t9,v9,t10,t47,t48,t49,BB,hod,decide_true,decide_false,rC,sQ,ratC]) ?_
      simp (maxSteps:=1000000) (disch:=first | omega | (simp only [LL];omega)) only [W,V,TY,CC,reduceIte,Nat.reduceEqDiff,Nat.reduceAdd,Nat.reduceLeDiff,Nat.reduceLT,Int.reduceLE,Int.reduceLT,Int.reduceAdd,Int.reduceSub,Int.reduceToNat,Nat.reduceMul,t4,v4,t5,v5,t9,v9,t10,t47,t48,t49,BB,hod,decide_true,decide_false,rC,sQ,ratC]
      refine a_call _ _ ch' (by simp (maxSteps:=1000000) (disch:=first | omega | (simp only [LL];omega)) only [W,V,TY,CC,reduceIte,Nat.reduceEqDiff,Nat.reduceAdd,Nat.reduceLeDiff,Nat.reduceLT,Int.reduceLE,Int.reduceLT,Int.reduceAdd,Int.reduceSub,Int.reduceToNat,Nat.reduceMul,t4,v4,t5,v5,t9,v9,t10,t47,t48,t49,BB,hod,decide_true,decide_false,rC,sQ,ratC]) ?_
      simp (maxSteps:=1000000) (disch:=first | omega | (simp only [LL];omega)) only [W,V,TY,CC,reduceIte,Nat.reduceEqDiff,Nat.reduceAdd,Nat.reduceLeDiff,Nat.reduceLT,Int.reduceLE,Int.reduceLT,Int.reduceAdd,Int.reduceSub,Int.reduceToNat,Nat.reduceMul,t4,v4,t5,v5,t9,v9,t10,t47,t48,t49,BB,hod,decide_true,decide_false,rC,sQ,ratC]
      refine a_call _ _ sh (by simp (maxSteps:=1000000) (disch:=first | omega | (simp only [LL];omega)) only [W,V,TY,CC,reduceIte,Nat.reduceEqDiff,Nat.reduceAdd,Nat.reduceLeDiff,Nat.reduceLT,Int.reduceLE,Int.reduceLT,Int.reduceAdd,Int.reduceSub,Int.reduceToNat,Nat.reduceMul,t4,v4,t5,v5,t9,v9,t10,t47,t48,t49,BB,hod,decide_true,decide_false,rC,sQ,ratC]) ?_
      simp (maxSteps:=1000000) (disch:=first | omega | (simp only [LL];omega)) only [W,V,TY,CC,reduceIte,Nat.reduceEqDiff,Nat.reduceAdd,Nat.reduceLeDiff,Nat.reduceLT,Int.reduceLE,Int.reduceLT,Int.reduceAdd,Int.reduceSub,Int.reduceToNat,Nat.reduceMul,t4,v4,t5,v5,t9,v9,t10,t47,t48,t49,BB,hod,decide_true,decide_false,rC,sQ,ratC]
      refine a_call _ _ l5_awake (by simp (maxSteps:=1000000) (disch:=first | omega | (simp only [LL];omega)) only [W,V,TY,CC,reduceIte,Nat.reduceEqDiff,Nat.reduceAdd,Nat.reduceLeDiff,Nat.reduceLT,Int.reduceLE,Int.reduceLT,Int.reduceAdd,Int.reduceSub,Int.reduceToNat,Nat.reduceMul,t4,v4,t5,v5,t9,v9,t10,t47,t48,t49,BB,hod,decide_true,decide_false,rC,sQ,ratC]) ?_
      simp (maxSteps:=1000000) (disch:=first | omega | (simp only [LL];omega)) only [W,V,TY,CC,reduceIte,Nat.reduceEqDiff,Nat.reduceAdd,Nat.reduceLeDiff,Nat.reduceLT,Int.reduceLE,Int.reduceLT,Int.reduceAdd,Int.reduceSub,Int.reduceToNat,Nat.reduceMul,t4,v4,t5,v5,t9,v9,t10,t47,t48,t49,BB,hod,decide_true,decide_false,rC,sQ,ratC]
      refine f_ret _ _ _ ?_
      simp (maxSteps:=1000000) (disch:=first | omega | (simp only [LL];omega)) only [W,V,TY,CC,reduceIte,Nat.reduceEqDiff,Nat.reduceAdd,Nat.reduceLeDiff,Nat.reduceLT,Int.reduceLE,Int.reduceLT,Int.reduceAdd,Int.reduceSub,Int.reduceToNat,Nat.reduceMul,t4,v4,t5,v5,t9,v9,t10,t47,t48,t49,BB,hod,decide_true,decide_false]
end Go.Proofs.YtljmgdepldpmdaaDoor.E

set_option linter.unusedSimpArgs false
set_option linter.unusedVariables false
set_option maxHeartbeats 2000000
namespace Go.Proofs.YtljmgdepldpmdaaDoor.E
open Go.RowKit Go.ChangeShapes Go.WideShapes Go.Deep Limbs
section
variable {H : Type}
theorem bk_one (d : DataW H) : 1 ≤ Rows.uptoBulk d := by
  cases d with
  | lit l => cases l <;> simp [Rows.uptoBulk]
  | nil => simp [Rows.uptoBulk]
  | ptr d => simp [Rows.uptoBulk]
  | slice elems spare => simp [Rows.uptoBulk]
  | agg parts => simp [Rows.uptoBulk]
  | iface t d => simp [Rows.uptoBulk]
  | map entries => simp [Rows.uptoBulk]
  | held h => simp [Rows.uptoBulk]
theorem bk_part {d : DataW H} {l : List (DataW H)} (h : d ∈ l) : Rows.uptoBulk d ≤ Rows.uptoBulkAll l := by
  induction l with
  | nil => cases h
  | cons x r ih =>
    simp only [Rows.uptoBulkAll]
    cases List.mem_cons.1 h with
    | inl e => subst e; omega
    | inr e => have := ih e; omega
theorem bk_len (l : List (DataW H)) : l.length ≤ Rows.uptoBulkAll l := by
  induction l with
  | nil => simp [Rows.uptoBulkAll]
  | cons x r ih => have := bk_one x; simp only [Rows.uptoBulkAll, List.length_cons]; omega
variable {enc : TypeId × Value → H} {P : Program} {w : World} {base : Nat} {sp : Nat → Bool} {hd : Bool}
/-- a slice of one-cell elements -/
theorem rdB_slice {α : Type} [Inhabited α] (g : α → Dt) (Good : α → DataW H → Prop) {t e : TypeId} (ht : P.underlying t = some (.slice e)) (hc : P.cellsOf e = 1)
    (hel : ∀ n V D Pl, DataW.trod enc P w base sp hd n e [V] = some (D, Pl) → ∃ x, Good x D ∧ Rep w (fun k => k < w.heap.size) (g x) V) {fuel : Nat} {cs : List Value} {y : DataW H × List MemPlace}
    (h : DataW.trod enc P w base sp hd fuel t cs = some y) : ∃ l : List α, (∀ x ∈ l, ∃ D, Good x D ∧ Rows.uptoBulk D + 1 ≤ Rows.uptoBulk y.1) ∧ l.length + 1 ≤ Rows.uptoBulk y.1 ∧ ∃ v, cs = [v] ∧ Rep w (fun k => k < w.heap.size) (rowD (fun x => [g x]) l) v := by
  rcases open_slice1 ht hc h with ⟨rfl, rfl⟩ | ⟨a, len, cap, m, n, V, D, Pl, rfl, _, hl, _, hm, rfl, hx⟩
  · exact ⟨[], fun x hx => by simp at hx, by simp [Rows.uptoBulk], _, rfl, .sl none 0 0 [] [] rfl (Nat.le_refl _) (fun j u hj => by simp at hj) (fun j u d hj => by simp at hj)⟩
  · have hle : len ≤ m := by rw [hm]; split <;> omega
    obtain ⟨X, hX⟩ := choose_lt (n := len) (α := α) (p := fun i x => Good x (D i) ∧ Rep w (fun k => k < w.heap.size) (g x) (V i)) (fun i hi => hel n _ _ _ (hx i (by omega)).2)
    refine ⟨(List.range len).map X, fun x hxm => ?_, ?_, _, rfl, ?_⟩
    · obtain ⟨i, hi, rfl⟩ := List.mem_map.1 hxm
      refine ⟨D i, (hX i (by simpa using hi)).1, ?_⟩
      have := bk_part (d := D i) (l := (List.range len).map D) (List.mem_map.2 ⟨i, hi, rfl⟩)
      show Rows.uptoBulk (D i) + 1 ≤ Rows.uptoBulk (.slice _ _)
      simp only [Rows.uptoBulk]
      omega
    · have := bk_len ((List.range len).map D)
      show _ ≤ Rows.uptoBulk (.slice _ _)
      simp only [Rows.uptoBulk, List.length_map, List.length_range] at *
      omega
    · have hr : rowD (fun x => [g x]) ((List.range len).map X) = .sl len ((List.range len).map fun i => g (X i)) := by
        unfold rowD rowC
        congr 1
        · simp
        · rw [List.flatMap_map]
          induction List.range len with
          | nil => rfl
          | cons i l ih => simp only [List.flatMap_cons, List.map_cons, ih]; rfl
      rw [hr]
      refine .sl (some a) len cap _ ((List.range len).map V) (by simp) hl (fun j u hj => ?_) (fun j u d hj hd' => ?_)
      · rw [List.getElem?_map] at hj
        cases hq : (List.range len)[j]? with
        | none => rw [hq] at hj; simp at hj
        | some i =>
          rw [hq] at hj
          obtain ⟨hlt, hi⟩ := List.getElem?_eq_some_iff.1 hq
          simp only [List.length_range] at hlt
          simp only [List.getElem_range] at hi
          subst hi
          simp only [Option.map_some, Option.some.injEq] at hj
          subst hj
          have := (hx j (by omega)).1
          exact ⟨a, rfl, cell_block this, this⟩
      · rw [List.getElem?_map] at hj hd'
        cases hq : (List.range len)[j]? with
        | none => rw [hq] at hj; simp at hj
        | some i =>
          rw [hq] at hj hd'
          obtain ⟨hlt, hi⟩ := List.getElem?_eq_some_iff.1 hq
          simp only [List.length_range] at hlt
          simp only [Option.map_some, Option.some.injEq] at hj hd'
          subst hj; subst hd'
          have : i < len := by simp at hi; omega
          exact (hX i this).2
theorem rdB_nat {t e : TypeId} (ht : P.underlying t = some (.slice e)) (he : P.underlying e = some (.int .u32)) (hc : P.cellsOf e = 1) {fuel : Nat} {cs : List Value} {y : DataW H × List MemPlace}
    (h : DataW.trod enc P w base sp hd fuel t cs = some y) : ∃ l : List Int, Lim l ∧ l.length + 1 ≤ Rows.uptoBulk y.1 ∧ ∃ v, cs = [v] ∧ Rep w (fun k => k < w.heap.size) (natD l) v := by
  obtain ⟨l, h1, h2, h3⟩ := rdB_slice (fun n => .lit (.int .u32 n)) (fun x _ => 0 ≤ x ∧ x < 4294967296) ht hc (fun n V D Pl hV => by
    obtain ⟨x, hx, _, hw⟩ := DataW.trod_int he hV
    cases hx
    have := bounds_u32 hw
    exact ⟨x, ⟨this.1, by omega⟩, .lit _ rfl⟩) h
  exact ⟨l, fun x hx => by obtain ⟨_, h, _⟩ := h1 x hx; exact h, h2, h3⟩
/-- the types of a rational number -/
structure RatTy (P : Program) (t : TypeId) : Prop where
  ex : ∃ (tI tN tB e : TypeId) (f0 f1 g0 g1 : Field), P.underlying t = some (.struct #[f0, f1]) ∧ (f0.type = tI ∧ f0.offset = 0) ∧ (f1.type = tN ∧ f1.offset = 2) ∧ P.cellsOf t = 3 ∧ P.cellsOf tI = 2 ∧
    P.underlying tI = some (.struct #[g0, g1]) ∧ (g0.type = tB ∧ g0.offset = 0) ∧ (g1.type = tN ∧ g1.offset = 1) ∧ P.underlying tB = some .bool ∧ P.cellsOf tB = 1 ∧ P.cellsOf tN = 1 ∧
    P.underlying tN = some (.slice e) ∧ P.underlying e = some (.int .u32) ∧ P.cellsOf e = 1
/-- a rational number, as it was handed over -/
theorem rdB_ratio {t : TypeId} (hty : RatTy P t) {fuel : Nat} {cs : List Value} {y : DataW H × List MemPlace}
    (h : DataW.trod enc P w base sp hd fuel t cs = some y) : ∃ x : RR, rok (Rows.uptoBulk y.1) x ∧ Fits (Rep w (fun k => k < w.heap.size)) (rC x) cs := by
  obtain ⟨tI, tN, tB, e, f0, f1, g0, g1, ht, h0, h1, hct, hcI, hI, i0, i1, hB, hcB, hcN, hs, he, hc⟩ := hty.ex
  obtain ⟨y0, y1, k, hy, hl, k0, k1⟩ := trod_struct2 ht h
  rw [h0.1, h0.2, hcI] at k0
  rw [h1.1, h1.2, hcN] at k1
  obtain ⟨z0, z1, k', hz, hl', l0, l1⟩ := trod_struct2 hI k0
  rw [i0.1, i0.2, hcB] at l0
  rw [i1.1, i1.2, hcN] at l1
  obtain ⟨n, e0, hz0⟩ := DataW.trod_bool hB l0
  obtain ⟨m, hm, bm, v1, e1, r1⟩ := rdB_nat hs he hc l1
  obtain ⟨q, hq, bq, v2, e2, r2⟩ := rdB_nat hs he hc k1
  have hb : Rows.uptoBulk y.1 = Rows.uptoBulk z0.1 + Rows.uptoBulk z1.1 + 1 + Rows.uptoBulk y1.1 + 1 := by
    rw [hy, hz]
    simp only [Rows.uptoBulk, Rows.uptoBulkAll]
    omega
  refine ⟨⟨n, m, q⟩, ⟨hm, hq, by show m.length ≤ _; omega, by show q.length ≤ _; omega⟩, ?_⟩
  rw [hct] at hl
  match cs, hl with
  | [u0, u1, u2], _ =>
    simp at e0 e1 e2
    subst e0; subst e1; subst e2
    exact Fits.cons (.lit _ rfl) (Fits.cons r1 (Fits.cons r2 (Fits.nil _)))
/-- two rational numbers side by side -/
theorem rdB_pair {t tR : TypeId} {f0 f1 : Field} (ht : P.underlying t = some (.struct #[f0, f1])) (h0 : f0.type = tR ∧ f0.offset = 0) (h1 : f1.type = tR ∧ f1.offset = 3) (hct : P.cellsOf t = 6) (hcR : P.cellsOf tR = 3) (hty : RatTy P tR) {fuel : Nat} {cs : List Value} {y : DataW H × List MemPlace}
    (h : DataW.trod enc P w base sp hd fuel t cs = some y) : ∃ x z : RR, rok (Rows.uptoBulk y.1) x ∧ rok (Rows.uptoBulk y.1) z ∧ Fits (Rep w (fun k => k < w.heap.size)) (rC x ++ rC z) cs := by
  obtain ⟨y0, y1, k, hy, hl, k0, k1⟩ := trod_struct2 ht h
  rw [h0.1, h0.2, hcR] at k0
  rw [h1.1, h1.2, hcR] at k1
  obtain ⟨x, hx, rx⟩ := rdB_ratio hty k0
  obtain ⟨z, hz, rz⟩ := rdB_ratio hty k1
  have hb : Rows.uptoBulk y.1 = Rows.uptoBulk y0.1 + Rows.uptoBulk y1.1 + 1 := by
    rw [hy]
    simp only [Rows.uptoBulk, Rows.uptoBulkAll]
    omega
  refine ⟨x, z, hx.mono (by omega), hz.mono (by omega), ?_⟩
  have := rx.append rz
  rw [hct] at hl
  match cs, hl with
  | [u0, u1, u2, u3, u4, u5], _ => exact this
theorem rdV_ratio {t : TypeId} (hty : RatTy P t) {r : Reach} {b0 : Nat} {v : Value} {d : DataW H} {ps : List MemPlace} (hval : Value.okWide P w r b0 t v) (h : DataW.Trod enc P w base sp hd t v d ps) :
    ∃ x : RR, rok (Rows.uptoBulk d) x ∧ MR w (fun k => k < w.heap.size) (.agg (rC x)) v := by
  obtain ⟨tI, tN, tB, e, f0, f1, g0, g1, ht, _⟩ := hty.ex
  obtain ⟨cs, rfl, hsz⟩ := okWide_struct ht hval
  obtain ⟨fuel, hf⟩ := h
  obtain ⟨x, hx, hr⟩ := rdB_ratio hty hf
  exact ⟨x, hx, cs.toList, by simp, hr⟩
theorem rdV_pair {t tR : TypeId} {f0 f1 : Field} (ht : P.underlying t = some (.struct #[f0, f1])) (h0 : f0.type = tR ∧ f0.offset = 0) (h1 : f1.type = tR ∧ f1.offset = 3) (hct : P.cellsOf t = 6) (hcR : P.cellsOf tR = 3) (hty : RatTy P tR) {r : Reach} {b0 : Nat} {v : Value} {d : DataW H} {ps : List MemPlace} (hval : Value.okWide P w r b0 t v) (h : DataW.Trod enc P w base sp hd t v d ps) :
    ∃ x z : RR, rok (Rows.uptoBulk d) x ∧ rok (Rows.uptoBulk d) z ∧ MR w (fun k => k < w.heap.size) (.agg (rC x ++ rC z)) v := by
  obtain ⟨cs, rfl, hsz⟩ := okWide_struct ht hval
  obtain ⟨fuel, hf⟩ := h
  obtain ⟨x, z, hx, hz, hr⟩ := rdB_pair ht h0 h1 hct hcR hty hf
  exact ⟨x, z, hx, hz, cs.toList, by simp, hr⟩
theorem u8_wf {x : Int} (h : (Lit.int .u8 x).wf = true) : 0 ≤ x ∧ x < 256 := by
  have : 0 ≤ x ∧ x ≤ 255 := by simpa [Lit.wf, IntKind.min, IntKind.max, IntKind.signed, IntKind.bits] using h
  omega
theorem rdV_u8 {t : TypeId} (ht : P.underlying t = some (.int .u8)) {r : Reach} {b0 : Nat} {v : Value} {d : DataW H} {ps : List MemPlace} (hval : Value.okWide P w r b0 t v) (h : DataW.Trod enc P w base sp hd t v d ps) :
    ∃ x : Int, (0 ≤ x ∧ x < 256) ∧ MR w (fun k => k < w.heap.size) (.one (.lit (.int .u8 x))) v := by
  obtain ⟨fuel, hf⟩ := h
  obtain ⟨n, rfl⟩ := okWide_int ht hval
  obtain ⟨x, hx, _, hw⟩ := DataW.trod_int ht hf
  have hx' : [Value.int .u8 n] = [Value.int .u8 x] := hx
  cases hx'
  exact ⟨n, u8_wf hw, .lit _ rfl⟩
end
end Go.Proofs.YtljmgdepldpmdaaDoor.E
