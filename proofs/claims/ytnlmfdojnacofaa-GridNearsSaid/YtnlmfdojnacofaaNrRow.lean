/- The row of the law GridNears, out of its function's contract. -/
import Derived.Test.YtnlmfdojnacofaaRows
import Derived.KernelRfl
import Derived.Test.YtnlmfdojnacofaaNrd
set_option linter.unusedSimpArgs false
set_option linter.unusedVariables false
set_option maxHeartbeats 2000000
namespace Go.Proofs.Ytnlmfdojnacofaa.gridNears
open Go.ChangeShapes Go.WideShapes Go.ChangeAt Go.RowKit Go.Proofs.Ytnlmfdojnacofaa.E
set_option linter.unusedVariables false
theorem own : ownKnob Try.prog.godebug = none := by kernel_rfl
theorem laidOut : laidOutB Try.prog = true := by kernel_rfl
theorem cells24 : Try.prog.cellsOf 24 = 2 := by kernel_rfl
theorem cells22 : Try.prog.cellsOf 22 = 1 := by kernel_rfl
theorem cells3 : Try.prog.cellsOf 3 = 1 := by kernel_rfl
theorem cells41 : Try.prog.cellsOf 41 = 3 := by kernel_rfl
theorem cells39 : Try.prog.cellsOf 39 = 2 := by kernel_rfl
theorem cells36 : Try.prog.cellsOf 36 = 1 := by kernel_rfl
theorem cells4 : Try.prog.cellsOf 4 = 1 := by kernel_rfl
theorem cells56 : Try.prog.cellsOf 56 = 1 := by kernel_rfl
section
variable {H : Type} {enc : TypeId × Value → H} {P : Program} {w : World} {base : Nat} {sp : Nat → Bool} {hd : Bool}
/-- a rational number, as it was handed over -/
theorem rd_ratio {t tI tN tB e : TypeId} {f0 f1 g0 g1 : Field} (ht : P.underlying t = some (.struct #[f0, f1])) (h0 : f0.type = tI ∧ f0.offset = 0) (h1 : f1.type = tN ∧ f1.offset = 2) (hct : P.cellsOf t = 3) (hcI : P.cellsOf tI = 2)
    (hI : P.underlying tI = some (.struct #[g0, g1])) (i0 : g0.type = tB ∧ g0.offset = 0) (i1 : g1.type = tN ∧ g1.offset = 1) (hB : P.underlying tB = some .bool) (hcB : P.cellsOf tB = 1) (hcN : P.cellsOf tN = 1)
    (hs : P.underlying tN = some (.slice e)) (he : P.underlying e = some (.int .u32)) (hc : P.cellsOf e = 1) {r : Reach} {b0 : Nat} {v : Value} {d : DataW H} {ps : List MemPlace} (hval : Value.okWide P w r b0 t v) (h : DataW.Trod enc P w base sp hd t v d ps) :
    ∃ (n : Bool) (m q : List Int), Limbs.Lim m ∧ Limbs.Lim q ∧ MR w (fun k => k < w.heap.size) (.agg [.lit (.bool n), natD m, natD q]) v := by
  obtain ⟨cs, rfl, hsz⟩ := okWide_struct ht hval
  obtain ⟨fuel, hf⟩ := h
  have hcs : (Value.agg cs).cells.toList = cs.toList := rfl
  rw [hcs] at hf
  obtain ⟨y0, y1, k, _, hl, k0, k1⟩ := trod_struct2 ht hf
  rw [h0.1, h0.2, hcI] at k0
  rw [h1.1, h1.2, hcN] at k1
  obtain ⟨z0, z1, k', _, hl', l0, l1⟩ := trod_struct2 hI k0
  rw [i0.1, i0.2, hcB] at l0
  rw [i1.1, i1.2, hcN] at l1
  obtain ⟨n, e0, _⟩ := DataW.trod_bool hB l0
  obtain ⟨m, hm, v1, e1, r1⟩ := rd_nat hs he hc l1
  obtain ⟨q, hq, v2, e2, r2⟩ := rd_nat hs he hc k1
  refine ⟨n, m, q, hm, hq, cs.toList, by simp, ?_⟩
  rw [hct] at hl
  match hcl : cs.toList, hl with
  | [u0, u1, u2], _ =>
    rw [hcl] at e0 e1 e2
    simp at e0 e1 e2
    subst e0; subst e1; subst e2
    exact Fits.cons (.lit _ rfl) (Fits.cons r1 (Fits.cons r2 (Fits.nil _)))
end
set_option maxRecDepth 100000 in
theorem lifted (os : Os) (started : os.Started) (H : Type) (enc : TypeId × Value → H) :
    ReturnsInHanded {} Try.checked os 5 .any (Rows.gridNearsSpec.pre6 enc Try.prog Try.f5 Rows.gridNearsRow.domain false) (Rows.gridNearsSpec.post enc Try.prog Try.f5 false true false false) := by
  refine returnsInHanded_of_change_sized (C := Try.checked) own started (by kernel_rfl) Try.func5
    (ChangeSpec.witness6 (enc := enc) (C := Try.checked) false ⟨#[], #[.agg #[.slice none 0 0, .slice none 0 0], .agg #[.bool false, .slice none 0 0, .slice none 0 0]], []⟩ 8 (by kernel_rfl) (by kernel_rfl) (by kernel_rfl) (by kernel_rfl)) ?_
  intro W base args ds gs before hval0 hW hcnd hsz0 _
  have hval : ∀ (j : Nat) t v, Try.f5.params[j]? = some t → args[j]? = some v → Value.okWide Try.prog W .any base t v := hval0
  have hW' := hW
  obtain ⟨p, q, hA0, hV, rfl, hfz, hnd⟩ := hW
  have hA : DataW.TrodAll enc Try.prog W 0 (fun _ => true) true Try.f5.params.toList args.toList ds p := hA0
  rw [Try.params5] at hA hval
  obtain ⟨v0, vs0, d0, ds0, p0, q0, hargs, rfl, rfl, h0, r0⟩ := trodAll_cons hA
  obtain ⟨v1, vs1, d1, ds1, p1, q1, hargs1, rfl, rfl, h1, r1⟩ := trodAll_cons r0
  obtain ⟨rfl, rfl, rfl⟩ := trodAll_nil r1
  obtain rfl : args = #[v0, v1] := by cases args; simp_all
  obtain ⟨rfl, rfl⟩ := trodVars_none hV
  have k0 := h0
  have k1 := h1
  have lt0 : ∀ x ∈ p0, x.block < W.heap.size := by obtain ⟨m, hm⟩ := k0; exact DataW.trod_lt m _ _ _ hm
  have lt1 : ∀ x ∈ p1, x.block < W.heap.size := by obtain ⟨m, hm⟩ := k1; exact DataW.trod_lt m _ _ _ hm
  obtain ⟨x0, y0, _, _, m0⟩ := rd_grid Try.underlying24 ⟨rfl, rfl⟩ ⟨rfl, rfl⟩ cells24 cells22 Try.underlying22 Try.underlying3 cells3 (hval 0 24 v0 rfl rfl) h0
  obtain ⟨n1, a1, b1, ha1, hb1, m1⟩ := rd_ratio Try.underlying41 ⟨rfl, rfl⟩ ⟨rfl, rfl⟩ cells41 cells39 Try.underlying39 ⟨rfl, rfl⟩ ⟨rfl, rfl⟩ Try.underlying4 cells4 cells36 Try.underlying36 Try.underlying56 cells56 (hval 1 41 v1 rfl rfl) h1
  clear hA0 hval0
  refine (calls_bool (law_GridNears x0 y0 n1 a1 b1 ha1 hb1) W [v0, v1] (Fits.cons m0 (Fits.cons m1 (Fits.nil _)))).mono fun e W' ⟨he, bel⟩ => ?_
  subst he
  exact ⟨_, rfl, _, _, _, [], _, [], hW', trodAll_mk1 (shut_bool Try.underlying4 _), (trodAll_cons_mk (Below.trod laidOut (by kernel_rfl) (of_decide_eq_true (by kernel_rfl)) k0 bel lt0) (trodAll_cons_mk (Below.trod laidOut (by kernel_rfl) (of_decide_eq_true (by kernel_rfl)) k1 bel lt1) trodAll_mk0)), rfl, bel.frame _, fun h => by cases h⟩
theorem over : Rows.gridNearsRow.holds Try.pinned (OpenSpec.ofChange Rows.gridNearsSpec) :=
  OpenClaim.holds_of_wide 5 Try.f5 rfl rfl rfl rfl rfl rfl rfl ⟨rfl, rfl, rfl, rfl, rfl⟩ rfl rfl rfl rfl rfl (by kernel_rfl) Try.func5 (by kernel_rfl)
    (of_decide_eq_true (by kernel_rfl)) (by unfold Func.isWrapper; first | (rw [if_pos (by decide +kernel)]; kernel_rfl) | (rw [if_neg (by decide +kernel)]; exact ⟨rfl, rfl⟩))
    (fun os started H enc _ => lifted os started H enc)
theorem proved : Rows.GridNearsSaid := over
#print axioms proved
end Go.Proofs.Ytnlmfdojnacofaa.gridNears
namespace Go.Proofs.Ytnlmfdojnacofaa
/-- The row, under a short name, for the claim. -/
theorem gridNears_holds : Rows.GridNearsSaid := gridNears.proved
end Go.Proofs.Ytnlmfdojnacofaa
