/- The tied card of the law GridNearest, out of its function's contract. -/
import Derived.Test.YteegehbighoplaaDoorCards
import Derived.Test.YteegehbighoplaaDoorTie
import Derived.LaidMore
import Derived.SevenTiedAt
import Derived.Stop.Joined
import Derived.KernelRfl
import Derived.Test.YteegehbighoplaaDoorNtd
set_option linter.unusedSimpArgs false
set_option linter.unusedVariables false
set_option maxHeartbeats 2000000
namespace Go.Proofs.YteegehbighoplaaDoor.gridNearest
open Go.ChangeShapes Go.WideShapes Go.ChangeAt Go.RowKit Go.Proofs.YteegehbighoplaaDoor.E
set_option linter.unusedVariables false
theorem own : ownKnob Tryd.prog.godebug = none := by kernel_rfl
theorem laidOut : laidOutB Tryd.prog = true := by kernel_rfl
theorem cGrid : Tryd.prog.cellsOf 24 = 2 := by kernel_rfl
theorem cInts : Tryd.prog.cellsOf 22 = 1 := by kernel_rfl
theorem cInt : Tryd.prog.cellsOf 3 = 1 := by kernel_rfl
theorem cRat : Tryd.prog.cellsOf 30 = 3 := by kernel_rfl
theorem cInteger : Tryd.prog.cellsOf 28 = 2 := by kernel_rfl
theorem cNat : Tryd.prog.cellsOf 26 = 1 := by kernel_rfl
theorem cBool : Tryd.prog.cellsOf 4 = 1 := by kernel_rfl
theorem cU32 : Tryd.prog.cellsOf 42 = 1 := by kernel_rfl
section
variable {H : Type} {enc : TypeId × Value → H} {P : Program} {w : World} {base : Nat} {sp : Nat → Bool} {hd : Bool}
/-- a rational number, as it was handed over -/
theorem rd_ratio {t tI tN tB e : TypeId} {f0 f1 g0 g1 : Field} (ht : P.underlying t = some (.struct #[f0, f1])) (h0 : f0.type = tI ∧ f0.offset = 0) (h1 : f1.type = tN ∧ f1.offset = 2) (hct : P.cellsOf t = 3) (hcI : P.cellsOf tI = 2)
    (hI : P.underlying tI = some (.struct #[g0, g1])) (i0 : g0.type = tB ∧ g0.offset = 0) (i1 : g1.type = tN ∧ g1.offset = 1) (hB : P.underlying tB = some .bool) (hcB : P.cellsOf tB = 1) (hcN : P.cellsOf tN = 1)
    (hs : P.underlying tN = some (.slice e)) (he : P.underlying e = some (.int .u32)) (hc : P.cellsOf e = 1) {r : Reach} {b0 : Nat} {v : Value} {d : DataW H} {ps : List MemPlace} (hval : Value.okWide P w r b0 t v) (h : DataW.Trod enc P w base sp hd t v d ps) :
    ∃ (n : Bool) (m q : List Int), Limbs.Lim m ∧ Limbs.Lim q ∧ MR w (fun k => k < w.heap.size) (.agg [.lit (.bool n), natD m, natD q]) v := by
  obtain ⟨cs, rfl, hsz⟩ := okWide_struct ht hval
  obtain ⟨fuel, hf⟩ := h
  have hcs : (Value.agg cs).cells.toList = cs.toList := rfl
  rw [hcs] at hf
  obtain ⟨y0, y1, k, _, hl, k0, k1⟩ := trod_struct2 ht hf
  rw [h0.1, h0.2, hcI] at k0
  rw [h1.1, h1.2, hcN] at k1
  obtain ⟨z0, z1, k', _, hl', l0, l1⟩ := trod_struct2 hI k0
  rw [i0.1, i0.2, hcB] at l0
  rw [i1.1, i1.2, hcN] at l1
  obtain ⟨n, e0, _⟩ := DataW.trod_bool hB l0
  obtain ⟨m, hm, v1, e1, r1⟩ := rd_nat hs he hc l1
  obtain ⟨q, hq, v2, e2, r2⟩ := rd_nat hs he hc k1
  refine ⟨n, m, q, hm, hq, cs.toList, by simp, ?_⟩
  rw [hct] at hl
  match hcl : cs.toList, hl with
  | [u0, u1, u2], _ =>
    rw [hcl] at e0 e1 e2
    simp at e0 e1 e2
    subst e0; subst e1; subst e2
    exact Fits.cons (.lit _ rfl) (Fits.cons r1 (Fits.cons r2 (Fits.nil _)))
end
/-- the door's own heap meets the condition -/
theorem door_met (os : Os) (args : Array Value) : laidMetH Tryd.prog Rows.gridNearestRow.laid ((World.doorLaid Tryd.prog 24 os).forCall (fun _ _ => 0) ⟨#[], args, []⟩).memory :=
  laidMetH_of_parts3 (fuel := 8) (laidMet_of_run' 8 (by kernel_rfl) (by kernel_rfl)) (by kernel_rfl) (by kernel_rfl)
set_option maxRecDepth 100000 in
theorem lifted (os : Os) (started : os.Started) (H : Type) (enc : TypeId × Value → H) :
    ReturnsInHanded {} Tryd.checked os 3 .any (fun w args => (Rows.gridNearestSpec.pre enc Tryd.prog Tryd.f3 [] false w args ∧ laidMetH Tryd.prog Rows.gridNearestRow.laid w) ∧ sizedMet enc Tryd.prog Tryd.f3 (OpenSpec.ofChange Rows.gridNearestSpec) false w args)
      (Rows.gridNearestSpec.post enc Tryd.prog Tryd.f3 false true false false) := by
  refine returnsInHanded_of_change_and (C := Tryd.checked) (X := fun w _ => laidMetH Tryd.prog Rows.gridNearestRow.laid w) (fun _ _ _ hh h => h.of_heap hh) own started (by kernel_rfl) Tryd.func3
    (ChangeSpec.witness_shaped (enc := enc) (C := Tryd.checked) (os := os) (X := fun w _ => laidMetH Tryd.prog Rows.gridNearestRow.laid w) false (World.doorLaid Tryd.prog 24 os) #[.agg #[.slice none 0 0, .slice none 0 0], .agg #[.bool false, .slice none 0 0, .slice none 0 0]] 8 rfl (World.shaped_of_RefB (by kernel_rfl) (by kernel_rfl)) (by kernel_rfl) (by kernel_rfl) (by kernel_rfl) (door_met os _)) ?_
  intro W base args ds gs before hval0 hW _ _ hL _
  have hval : ∀ (j : Nat) t v, Tryd.f3.params[j]? = some t → args[j]? = some v → Value.okWide Tryd.prog W .any base t v := hval0
  have hW' := hW
  obtain ⟨p, q, hA0, hV, rfl, hfz, hnd⟩ := hW
  have hA : DataW.TrodAll enc Tryd.prog W 0 (fun _ => true) true Tryd.f3.params.toList args.toList ds p := hA0
  rw [Tryd.params3] at hA hval
  obtain ⟨v0, vs0, d0, ds0, p0, q0, hargs, rfl, rfl, h0, r0⟩ := trodAll_cons hA
  obtain ⟨v1, vs1, d1, ds1, p1, q1, hargs1, rfl, rfl, h1, r1⟩ := trodAll_cons r0
  obtain ⟨rfl, rfl, rfl⟩ := trodAll_nil r1
  obtain rfl : args = #[v0, v1] := by cases args; simp_all
  obtain ⟨rfl, rfl⟩ := trodVars_none hV
  have k0 := h0
  have k1 := h1
  have lt0 : ∀ x ∈ p0, x.block < W.heap.size := by obtain ⟨m, hm⟩ := k0; exact DataW.trod_lt m _ _ _ hm
  have lt1 : ∀ x ∈ p1, x.block < W.heap.size := by obtain ⟨m, hm⟩ := k1; exact DataW.trod_lt m _ _ _ hm
  obtain ⟨x0, y0, _, _, m0⟩ := rd_grid Tryd.underlying24 ⟨rfl, rfl⟩ ⟨rfl, rfl⟩ cGrid cInts Tryd.underlying22 Tryd.underlying3 cInt (hval 0 24 v0 rfl rfl) h0
  obtain ⟨n1, a1, b1, ha1, hb1, m1⟩ := rd_ratio Tryd.underlying30 ⟨rfl, rfl⟩ ⟨rfl, rfl⟩ cRat cInteger Tryd.underlying28 ⟨rfl, rfl⟩ ⟨rfl, rfl⟩ Tryd.underlying4 cBool cNat Tryd.underlying26 Tryd.underlying42 cU32 (hval 1 30 v1 rfl rfl) h1
  clear hA0 hval0
  refine (calls_bool (law_GridNearest x0 y0 n1 a1 b1 ha1 hb1) W [v0, v1] (Fits.cons m0 (Fits.cons m1 (Fits.nil _)))).mono fun e W' ⟨he, bel⟩ => ?_
  subst he
  exact ⟨_, rfl, _, _, _, [], _, [], hW', trodAll_mk1 (shut_bool Tryd.underlying4 _), (trodAll_cons_mk (Below.trod laidOut (by kernel_rfl) (of_decide_eq_true (by kernel_rfl)) k0 bel lt0) (trodAll_cons_mk (Below.trod laidOut (by kernel_rfl) (of_decide_eq_true (by kernel_rfl)) k1 bel lt1) trodAll_mk0)), rfl, bel.frame _, fun h => by cases h⟩
theorem said : Rows.GridNearestSaid :=
  OpenClaim.holds_of_wide 3 Tryd.f3 rfl rfl rfl rfl rfl rfl rfl ⟨rfl, rfl, rfl, rfl, rfl⟩ rfl rfl rfl rfl rfl (by kernel_rfl) Tryd.func3 (by kernel_rfl)
    (of_decide_eq_true (by kernel_rfl)) (by unfold Func.isWrapper; first | (rw [if_pos (by decide +kernel)]; kernel_rfl) | (rw [if_neg (by decide +kernel)]; exact ⟨rfl, rfl⟩))
    (fun os started H enc _ => lifted os started H enc)
/-- No parameter wants a stand-in; the program's own looks are off. -/
theorem plainly (f : FuncId) (fn : Func) (hf : Tryd.pinned.checked.prog.funcNamed "examboard/examboardlaw18.GridNearest" = some f) (hfn : Tryd.pinned.checked.prog.funcs[f]? = some fn) :
    false = Tryd.pinned.checked.prog.looks [] ∧ ∀ (j : Nat) t, fn.params[j]? = some t → Tryd.pinned.checked.prog.wantsStandIn t = false := by
  obtain rfl : f = 3 := Option.some.inj ((show Tryd.prog.funcNamed "examboard/examboardlaw18.GridNearest" = some 3 by kernel_rfl).symm.trans hf) |>.symm
  obtain rfl : fn = Tryd.f3 := (Option.some.inj (Tryd.func3.symm.trans hfn)).symm
  refine ⟨by kernel_rfl, fun j t ht => ?_⟩
  rw [Tryd.params3] at ht
  have hm : t ∈ [24, 30] := by simpa using Array.mem_of_getElem? ht
  have hall : ([24, 30].all fun u => !Tryd.prog.wantsStandIn u) = true := by kernel_rfl
  exact (show Tryd.prog.wantsStandIn t = false by simpa using List.all_eq_true.1 hall t hm)
theorem card : Rows.GridNearestCardSaid :=
  Claim7.holds_tied_plain_at .later [] _ _ _ _ said (fun _ h => by cases h) (by kernel_rfl) (fun _ h => by cases h) gridNearest_row_tie rfl ⟨rfl, rfl⟩ (by kernel_rfl) rfl plainly (by kernel_rfl)
#print axioms card
end Go.Proofs.YteegehbighoplaaDoor.gridNearest
namespace Go.Proofs.YteegehbighoplaaDoor
/-- The card, under a short name, for the claim. -/
theorem gridNearest_holds : Rows.GridNearestCardSaid := gridNearest.card
end Go.Proofs.YteegehbighoplaaDoor
