/- The grids of any numbers that grid.Uniform and grid.Triangle return are those of the reference, for all integers; no condition. -/
import Derived.Test.YthhaoojgfbofnaaPGridMakesx2
namespace Go.Proofs.Ythhaoojgfbofnaa.Pure
open Go.RowKit Go.Proofs.Ythhaoojgfbofnaa.PGridMakes Go.Proofs.YthhaoojgfbofnaaW.PrintWords Go.Proofs.YthhaoojgfbofnaaW.PrintLast

theorem wr {a : Int} (h0 : -9223372036854775808 ≤ a) (h1 : a ≤ 9223372036854775807) : wrap64 a = a := by unfold wrap64; omega

/-- the points -/
def pts (lo step : Int) (n : Nat) : List Int := (List.range n).map fun (i : Nat) => lo + (i : Int) * step
theorem pts_succ (lo step : Int) (n : Nat) : pts lo step (n + 1) = pts lo step n ++ [lo + (n : Int) * step] := by simp [pts, List.range_succ]
theorem pts_len (lo step : Int) (n : Nat) : (pts lo step n).length = n := by simp [pts]
theorem ones_succ (n : Nat) : List.replicate (n + 1) (1 : Int) = List.replicate n 1 ++ [1] := by rw [List.replicate_succ']
theorem mul_bound {i step : Int} (h0 : 0 ≤ i) (h1 : i ≤ 21) (h2 : 1 ≤ step) (h3 : step ≤ 1000) : 0 ≤ i * step ∧ i * step ≤ 21000 := by
  refine ⟨Int.mul_nonneg h0 (by omega), ?_⟩
  have := Int.mul_le_mul h1 h3 (by omega) (by omega : (0 : Int) ≤ 21)
  omega

section
variable {lo step : Int} {n : Nat} (hn : 1 ≤ n) (hn2 : n ≤ 21) (hs : 1 ≤ step) (hs2 : step ≤ 1000) (hl : -1000 ≤ lo) (hl2 : lo ≤ 1000)
include hs hs2 hl hl2
theorem pt_wrap {i : Nat} (hi : i ≤ 21) : wrap64 (lo + wrap64 ((i : Int) * step)) = lo + (i : Int) * step := by
  obtain ⟨a, b⟩ := mul_bound (i := i) (by omega) (by omega) hs hs2
  rw [wr (a := (i : Int) * step) (by omega) (by omega), wr (by omega) (by omega)]

include hn2
theorem spaced_loop (d : Nat) : ∀ (k i : Nat), i + d = n → d < k → grid_spaced.l0 k lo step n i (pts lo step i) (List.replicate i 1) = some (pts lo step n, List.replicate n 1, 0) := by
  induction d with
  | zero =>
    intro k i hi hk
    obtain ⟨k, rfl⟩ : ∃ m, k = m + 1 := ⟨k - 1, by omega⟩
    obtain rfl : i = n := by omega
    simp only [grid_spaced.l0]; rw [if_neg (by omega)]
  | succ d ih =>
    intro k i hi hk
    obtain ⟨k, rfl⟩ : ∃ m, k = m + 1 := ⟨k - 1, by omega⟩
    simp only [grid_spaced.l0]
    rw [if_pos (by omega), if_pos (by rw [pts_len]; omega), if_pos (by simp; omega), pt_wrap hs hs2 hl hl2 (by omega), wr (a := (i : Int) + 1) (by omega) (by omega), ← pts_succ, ← ones_succ]
    have := ih k (i + 1) (by omega) (by omega)
    rw [Int.natCast_add] at this; exact this

theorem points_loop (d : Nat) : ∀ (k i : Nat), i + d = n → d < k → examboardref18_points.l0 k lo step n (pts lo step i) i = some (pts lo step n, true) := by
  induction d with
  | zero =>
    intro k i hi hk
    obtain ⟨k, rfl⟩ : ∃ m, k = m + 1 := ⟨k - 1, by omega⟩
    obtain rfl : i = n := by omega
    simp only [examboardref18_points.l0]; rw [if_neg (by omega)]
  | succ d ih =>
    intro k i hi hk
    obtain ⟨k, rfl⟩ : ∃ m, k = m + 1 := ⟨k - 1, by omega⟩
    simp only [examboardref18_points.l0]
    rw [if_pos (by omega), if_pos (by rw [pts_len]; omega), pt_wrap hs hs2 hl hl2 (by omega), wr (a := (i : Int) + 1) (by omega) (by omega), ← pts_succ]
    have := ih k (i + 1) (by omega) (by omega)
    rw [Int.natCast_add] at this; exact this
end

theorem runi_loop {n : Nat} (hn2 : n ≤ 21) (P : List Int) (d : Nat) : ∀ (k i : Nat), i + d = n → d < k → examboardref18_Uniform.l0 k n i P (List.replicate i 1) = some (P, List.replicate n 1, 0) := by
  induction d with
  | zero =>
    intro k i hi hk
    obtain ⟨k, rfl⟩ : ∃ m, k = m + 1 := ⟨k - 1, by omega⟩
    obtain rfl : i = n := by omega
    simp only [examboardref18_Uniform.l0]; rw [if_neg (by omega)]
  | succ d ih =>
    intro k i hi hk
    obtain ⟨k, rfl⟩ : ∃ m, k = m + 1 := ⟨k - 1, by omega⟩
    simp only [examboardref18_Uniform.l0]
    rw [if_pos (by omega), if_pos (by simp; omega), wr (a := (i : Int) + 1) (by omega) (by omega), ← ones_succ]
    have := ih k (i + 1) (by omega) (by omega)
    rw [Int.natCast_add] at this; exact this

/-- the weights of a triangle -/
def tri (n : Nat) (i : Nat) : Int := if (n : Int) - 1 - i < i then (n : Int) - 1 - i + 1 else (i : Int) + 1
def tris (n m : Nat) : List Int := (List.range m).map (tri n)
theorem tris_succ (n m : Nat) : tris n (m + 1) = tris n m ++ [tri n m] := by simp [tris, List.range_succ]
theorem tris_len (n m : Nat) : (tris n m).length = m := by simp [tris]

theorem rtri_loop {n : Nat} (hn2 : n ≤ 21) (P : List Int) (d : Nat) : ∀ (k i : Nat), i + d = n → d < k → examboardref18_Triangle.l0 k n i P (tris n i) = some (P, tris n n, 0) := by
  induction d with
  | zero =>
    intro k i hi hk
    obtain ⟨k, rfl⟩ : ∃ m, k = m + 1 := ⟨k - 1, by omega⟩
    obtain rfl : i = n := by omega
    simp only [examboardref18_Triangle.l0]; rw [if_neg (by omega)]
  | succ d ih =>
    intro k i hi hk
    obtain ⟨k, rfl⟩ : ∃ m, k = m + 1 := ⟨k - 1, by omega⟩
    have := ih k (i + 1) (by omega) (by omega)
    rw [Int.natCast_add, tris_succ] at this
    simp only [examboardref18_Triangle.l0]
    rw [if_pos (by omega), wr (a := (n : Int) - 1) (by omega) (by omega), wr (a := (n : Int) - 1 - i) (by omega) (by omega), wr (a := (i : Int) + 1) (by omega) (by omega), wr (a := (n : Int) - 1 - i + 1) (by omega) (by omega)]
    by_cases h : (n : Int) - 1 - i < i
    · rw [if_pos h, if_pos (by rw [tris_len]; omega)]
      rw [show tri n i = (n : Int) - 1 - i + 1 by unfold tri; rw [if_pos h]] at this
      exact this
    · rw [if_neg h, if_pos (by rw [tris_len]; omega)]
      rw [show tri n i = (i : Int) + 1 by unfold tri; rw [if_neg h]] at this
      exact this

theorem set_mid (a : List Int) (x y : Int) (m : Nat) (h : a.length = m) (b : List Int) : (a ++ x :: b).set m y = a ++ y :: b := by
  rw [List.set_append, if_neg (by omega), h]; simp

theorem tri_loop {n : Nat} (hn2 : n ≤ 21) (P : List Int) (e : Int) (d : Nat) : ∀ (k i : Nat), i + d = n → d < k → grid_Triangle.l0 k n e n i P (tris n i ++ List.replicate d 1) = some (P, tris n n, e) := by
  induction d with
  | zero =>
    intro k i hi hk
    obtain ⟨k, rfl⟩ : ∃ m, k = m + 1 := ⟨k - 1, by omega⟩
    obtain rfl : i = n := by omega
    simp only [grid_Triangle.l0]; rw [if_neg (by omega)]; simp
  | succ d ih =>
    intro k i hi hk
    obtain ⟨k, rfl⟩ : ∃ m, k = m + 1 := ⟨k - 1, by omega⟩
    have := ih k (i + 1) (by omega) (by omega)
    rw [Int.natCast_add, tris_succ] at this
    simp only [grid_Triangle.l0]
    have ht : wrap64 (mn (i : Int) (wrap64 (wrap64 ((n : Int) - 1) - i)) + 1) = tri n i := by
      rw [wr (a := (n : Int) - 1) (by omega) (by omega), wr (a := (n : Int) - 1 - i) (by omega) (by omega)]
      unfold mn tri
      split <;> rw [wr (by omega) (by omega)] <;> omega
    rw [if_pos (by omega), if_pos (by omega), if_pos (by simp [tris_len]; omega), ht, wr (a := (i : Int) + 1) (by omega) (by omega), Int.toNat_natCast, List.replicate_succ, set_mid _ _ _ _ (tris_len n i)]
    rw [List.append_assoc] at this; exact this

theorem ints_same (l : List Int) (hl : l.length ≤ 1000) (d : Nat) : ∀ (k i : Nat), i + d = l.length → d < k → examboardlaw18_ints.l0 k l l i = some true := by
  induction d with
  | zero =>
    intro k i hi hk
    obtain ⟨k, rfl⟩ : ∃ m, k = m + 1 := ⟨k - 1, by omega⟩
    simp only [examboardlaw18_ints.l0]; rw [if_neg (by omega)]
  | succ d ih =>
    intro k i hi hk
    obtain ⟨k, rfl⟩ : ∃ m, k = m + 1 := ⟨k - 1, by omega⟩
    have := ih k (i + 1) (by omega) (by omega)
    rw [Int.natCast_add] at this
    simp only [examboardlaw18_ints.l0]
    rw [if_pos (by omega), if_pos (by omega), if_pos (by omega), if_pos trivial, wr (a := (i : Int) + 1) (by omega) (by omega)]
    exact this
theorem ints_eq (l : List Int) (hl : l.length ≤ 1000) (k : Nat) (hk : l.length < k) : examboardlaw18_ints.f k l l = some true := by
  unfold examboardlaw18_ints.f
  rw [if_pos rfl]
  exact ints_same l hl l.length k 0 (by omega) hk

/-- the arguments that are in range -/
def Fits (lo step n : Int) : Prop := 1 ≤ n ∧ n ≤ 21 ∧ 1 ≤ step ∧ step ≤ 1000 ∧ -1000 ≤ lo ∧ lo ≤ 1000 ∧ lo + (n - 1) * step ≤ 1000

theorem within_eq (a b c : Int) : grid_within.f a b c = some (decide (b ≤ a ∧ a ≤ c)) := by
  unfold grid_within.f
  by_cases h : a ≥ b
  · rw [if_pos h]; simp [show b ≤ a from h]
  · rw [if_neg h]; simp [show ¬ b ≤ a from h]

theorem last_wrap {lo step n : Int} (h1 : 1 ≤ n) (h2 : n ≤ 21) (h3 : 1 ≤ step) (h4 : step ≤ 1000) (h5 : -1000 ≤ lo) (h6 : lo ≤ 1000) : wrap64 (lo + wrap64 (wrap64 (n - 1) * step)) = lo + (n - 1) * step := by
  obtain ⟨a, b⟩ := mul_bound (i := n - 1) (by omega) (by omega) h3 h4
  rw [wr (a := n - 1) (by omega) (by omega), wr (a := (n - 1) * step) (by omega) (by omega), wr (by omega) (by omega)]

theorem spaced_no {lo step n : Int} (h : ¬ Fits lo step n) (k : Nat) : grid_spaced.f (k + 1) lo step n = some ([], [], 3) := by
  unfold grid_spaced.f
  rw [within_eq, within_eq, within_eq]
  simp only [Option.bind_some, decide_eq_true_eq]
  by_cases h1 : 1 ≤ n ∧ n ≤ 21
  · rw [if_pos h1]
    by_cases h2 : 1 ≤ step ∧ step ≤ 1000
    · rw [if_pos h2]
      by_cases h3 : -1000 ≤ lo ∧ lo ≤ 1000
      · rw [if_pos h3, last_wrap h1.1 h1.2 h2.1 h2.2 h3.1 h3.2]
        have h4 : lo + (n - 1) * step > 1000 := by
          unfold Fits at h
          generalize (n - 1) * step = q at *
          omega
        simp only [grid_spaced.j0, decide_eq_true h4, if_true]
      · rw [if_neg h3]; simp only [grid_spaced.j0, if_true]
    · rw [if_neg h2]; simp only [grid_spaced.j0, if_true]
  · rw [if_neg h1]; simp only [grid_spaced.j0, if_true]

theorem points_no {lo step n : Int} (h : ¬ Fits lo step n) (k : Nat) : examboardref18_points.f (k + 1) lo step n = some ([], false) := by
  unfold examboardref18_points.f
  by_cases h1 : n < 1
  · rw [if_pos h1]; simp only [examboardref18_points.j0, if_true]
  rw [if_neg h1]
  by_cases h2 : n > 21
  · rw [if_pos h2]; simp only [examboardref18_points.j0, if_true]
  rw [if_neg h2]
  by_cases h3 : step < 1
  · rw [if_pos h3]; simp only [examboardref18_points.j0, if_true]
  rw [if_neg h3]
  by_cases h4 : step > 1000
  · rw [if_pos h4]; simp only [examboardref18_points.j0, if_true]
  rw [if_neg h4]
  by_cases h5 : lo < -1000
  · rw [if_pos h5]; simp only [examboardref18_points.j0, if_true]
  rw [if_neg h5]
  by_cases h6 : lo > 1000
  · rw [if_pos h6]; simp only [examboardref18_points.j0, if_true]
  rw [if_neg h6, last_wrap (by omega) (by omega) (by omega) (by omega) (by omega) (by omega)]
  have h7 : lo + (n - 1) * step > 1000 := by
    unfold Fits at h
    generalize (n - 1) * step = q at *
    omega
  simp only [examboardref18_points.j0, decide_eq_true h7, if_true]

theorem spaced_yes {lo step : Int} {n : Nat} (h : Fits lo step n) (k : Nat) (hk : 30 ≤ k) : grid_spaced.f k lo step n = some (pts lo step n, List.replicate n 1, 0) := by
  obtain ⟨h1, h2, h3, h4, h5, h6, h7⟩ := h
  obtain ⟨k, rfl⟩ : ∃ m, k = m + 1 := ⟨k - 1, by omega⟩
  unfold grid_spaced.f
  rw [within_eq, within_eq, within_eq]
  simp only [Option.bind_some, decide_eq_true_eq]
  rw [if_pos ⟨h1, h2⟩, if_pos ⟨h3, h4⟩, if_pos ⟨h5, h6⟩, last_wrap h1 h2 h3 h4 h5 h6]
  have h8 : ¬ lo + ((n : Int) - 1) * step > 1000 := by omega
  simp only [grid_spaced.j0, decide_eq_false h8]
  exact spaced_loop (lo := lo) (step := step) (n := n) (by omega) h3 h4 h5 h6 n k 0 (by omega) (by omega)

theorem points_yes {lo step : Int} {n : Nat} (h : Fits lo step n) (k : Nat) (hk : 30 ≤ k) : examboardref18_points.f k lo step n = some (pts lo step n, true) := by
  obtain ⟨h1, h2, h3, h4, h5, h6, h7⟩ := h
  obtain ⟨k, rfl⟩ : ∃ m, k = m + 1 := ⟨k - 1, by omega⟩
  unfold examboardref18_points.f
  have h8 : ¬ lo + ((n : Int) - 1) * step > 1000 := by omega
  rw [if_neg (by omega), if_neg (by omega), if_neg (by omega), if_neg (by omega), if_neg (by omega), if_neg (by omega), last_wrap h1 h2 h3 h4 h5 h6]
  simp only [examboardref18_points.j0, decide_eq_false h8]
  exact points_loop (lo := lo) (step := step) (n := n) (by omega) h3 h4 h5 h6 n k 0 (by omega) (by omega)

theorem tri_no (n : Int) (k : Nat) : grid_Triangle.l0 (k + 1) n 3 ((0 : Nat) : Int) 0 [] [] = some ([], [], 3) := by
  simp only [grid_Triangle.l0]; rw [if_neg (by omega)]

theorem GridMakes : examboardlaw18_GridMakes.Pure := by
  intro lo step n _ _ _
  refine ⟨100, ?_⟩
  unfold examboardlaw18_GridMakes.f grid_Uniform.f examboardref18_Uniform.f
  by_cases h : Fits lo step n
  · obtain ⟨m, rfl⟩ : ∃ m : Nat, n = m := ⟨n.toNat, by have := h.1; omega⟩
    have hm : m ≤ 21 := by have := h.2.1; omega
    have h0 : ((0 : Nat) : Int) = 0 := rfl
    have hu := runi_loop hm (pts lo step m) m 100 0 (by omega) (by omega)
    have ht := rtri_loop hm (pts lo step m) m 99 0 (by omega) (by omega)
    have hg := tri_loop hm (pts lo step m) 0 m 99 0 (by omega) (by omega)
    rw [h0] at hu ht hg
    rw [show List.replicate 0 (1 : Int) = [] from rfl] at hu
    rw [show tris m 0 = [] from rfl] at ht hg
    rw [List.nil_append] at hg
    rw [spaced_yes h 100 (by omega), points_yes h 100 (by omega)]
    simp only [Option.bind_some, if_true, hu]
    rw [ints_eq _ (by rw [pts_len]; omega) _ (by rw [pts_len]; omega), ints_eq _ (by simp; omega) _ (by simp; omega)]
    simp only [Option.bind_some, if_true, Bool.not_true, examboardlaw18_GridMakes.j0, Bool.false_eq_true, if_false]
    unfold grid_Triangle.f examboardref18_Triangle.f
    rw [spaced_yes h 99 (by omega), points_yes h 99 (by omega)]
    simp only [Option.bind_some, if_true, List.length_replicate, hg, ht]
    rw [ints_eq _ (by rw [pts_len]; omega) _ (by rw [pts_len]; omega), ints_eq _ (by rw [tris_len]; omega) _ (by rw [tris_len]; omega)]
    rfl
  · rw [spaced_no h 99, points_no h 99]
    have hi := ints_eq [] (by simp) 100 (by simp)
    have hj := ints_eq [] (by simp) 99 (by simp)
    simp only [Option.bind_some, Bool.false_eq_true, if_false]
    rw [hi]
    simp only [Option.bind_some, if_true]
    rw [show (!true) = false from rfl]
    simp only [examboardlaw18_GridMakes.j0, Bool.false_eq_true, if_false]
    unfold grid_Triangle.f examboardref18_Triangle.f
    rw [spaced_no h 98, points_no h 98]
    simp only [Option.bind_some, Bool.false_eq_true, if_false, List.length_nil]
    have hg : grid_Triangle.l0 99 n 3 ((0 : Nat) : Int) 0 [] [] = some ([], [], 3) := tri_no n 98
    rw [hg]
    simp only [Option.bind_some, if_true, hj]

end Go.Proofs.Ythhaoojgfbofnaa.Pure
