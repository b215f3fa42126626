/- Swapping neighbours; regions in any order; no condition. -/
import Derived.Test.YthhaoojgfbofnaaEng12
set_option linter.unusedSimpArgs false
set_option linter.unusedVariables false
namespace Go.Proofs.Ythhaoojgfbofnaa.E
open Go.RowKit

theorem kind_le (op : Op) : kind op ≤ 4 := by
  unfold kind
  split <;> first | omega | (split <;> omega)

section
variable {ok0 : Nat → Prop} {w0 w w' : World} {N : Nat} {vb : Nat × Nat → Nat} {rb : Nat × Nat → Value} {s s' : AS} {a : Act} {P : Program}

theorem Sat.agree_app (h : Sat ok0 w0 N vb rb s a w) (dl : Dl) (d : Option Nat) (x : Operand) : MemAgree s (dl.app d s) (s.ev x) := by
  have hx := h.ev x
  have hv : ∀ y cs, s.v y = some cs → (dl.app d s).v y = s.v y := fun y cs hy => by
    cases dl with
    | put v => cases d <;> rfl
    | var cs1 =>
      cases d with
      | none => rfl
      | some d =>
        show (if y = (d, s.g d) then some cs1 else s.v y) = s.v y
        rw [if_neg]
        intro e
        rw [e, (h.wf d (s.g d) (Nat.le_refl _)).1] at hy
        cases hy
  have hr : (dl.app d s).r = s.r := by cases dl <;> cases d <;> rfl
  have hf : (dl.app d s).f = s.f := by cases dl <;> cases d <;> rfl
  cases he : s.ev x with
  | ptr y off =>
    rw [he] at hx
    obtain ⟨cs, hy, _⟩ := hx
    exact ⟨hv y cs hy, by rw [hf]⟩
  | one c => cases c <;> simp only [MemAgree, hr]
  | agg cs => intro r ver _; rw [hr]
  | rel r ver j => simp only [MemAgree, hr]
  | _ => trivial

theorem swap0 (h : Sat ok0 w0 N vb rb s a w) {op1 op2 : Op} {d1 d2 : Option Nat} {r1 r2 : List RV} (hA : ∀ d, d1 = some d → d ∉ rdT op2 ∧ d2 ≠ some d) (hB : ∀ d, d2 = some d → d ∉ rdT op1)
    (hK : kind op1 = 0 ∨ kind op2 = 0 ∨ (kind op1 ≤ 3 ∧ kind op2 ≤ 3)) (hb1 : obl P op1 d1 s r1) (hb2 : obl P op2 d2 (eff P op1 d1 s r1) r2) :
    obl P op2 d2 s r2 ∧ obl P op1 d1 (eff P op2 d2 s r2) r1 ∧ eff P op1 d1 (eff P op2 d2 s r2) r1 = eff P op2 d2 (eff P op1 d1 s r1) r2 := by
  have hev2 : ∀ x ∈ op2.operands.toList, (eff P op1 d1 s r1).ev x = s.ev x := fun x hx => ev_of_t x fun t ht => eff_t P op1 d1 s r1 t fun e => (hA t e).1 (rd_mem hx ht)
  have hev1 : ∀ x ∈ op1.operands.toList, (eff P op2 d2 s r2).ev x = s.ev x := fun x hx => ev_of_t x fun t ht => eff_t P op2 d2 s r2 t fun e => hB t e (rd_mem hx ht)
  have l1 := kind_le op1
  have l2 := kind_le op2
  by_cases k1 : kind op1 ≤ 3
  · by_cases k2 : kind op2 ≤ 3
    · -- both leave memory that was there alone
      obtain ⟨_, hd1⟩ := agree_op (P := P) (dst := d1) (s := s) (s' := s) (rs := r1) ⟨fun _ _ => rfl, .inr fun x _ => by
        cases hx : s.ev x with
        | one c => cases c <;> simp [MemAgree]
        | ptr => exact ⟨rfl, rfl⟩
        | agg => intro _ _ _; rfl
        | rel => exact rfl
        | _ => trivial⟩ k1
      obtain ⟨dl0, _, e0, _⟩ := hd1 hb1
      have ag2 : Agree op2 s (eff P op1 d1 s r1) := ⟨hev2, .inr fun x _ => by rw [e0]; exact h.agree_app dl0 d1 x⟩
      obtain ⟨i2, hd2⟩ := agree_op (P := P) (dst := d2) (rs := r2) ag2 k2
      have hb2' := i2.1 hb2
      obtain ⟨dl2, _, e2, e2'⟩ := hd2 hb2'
      have ag1 : Agree op1 s (eff P op2 d2 s r2) := ⟨hev1, .inr fun x _ => by rw [e2]; exact h.agree_app dl2 d2 x⟩
      obtain ⟨i1, hd1⟩ := agree_op (P := P) (dst := d1) (rs := r1) ag1 k1
      obtain ⟨dl1, _, e1, e1'⟩ := hd1 hb1
      refine ⟨hb2', i1.2 hb1, ?_⟩
      rw [e1', e2', e2, e1]
      exact (app_comm s (fun x hx => (hA x hx).2) dl1 dl2).symm
    · have k20 : kind op1 = 0 := by omega
      have k24 : kind op2 = 4 := by omega
      have ag1 : Agree op1 s (eff P op2 d2 s r2) := ⟨hev1, .inl k20⟩
      obtain ⟨i1, hd1⟩ := agree_op (P := P) (dst := d1) (rs := r1) ag1 k1
      obtain ⟨dl1, hp, e1, e1'⟩ := hd1 hb1
      obtain ⟨x, rfl⟩ := hp k20
      have e1p : eff P op1 d1 s r1 = s.put d1 x := e1
      rw [e1p] at hb2 ⊢
      obtain ⟨j1, j2⟩ := eff_put4 P op2 d2 s r2 d1 x (fun n hn => (hA n hn).1) (fun n hn => (hA n hn).2) k24
      have hb2' := j1.1 hb2
      exact ⟨hb2', i1.2 hb1, by rw [j2 hb2', e1']; rfl⟩
  · have k14 : kind op1 = 4 := by omega
    have k20 : kind op2 = 0 := by omega
    have ag2 : Agree op2 s (eff P op1 d1 s r1) := ⟨hev2, .inl k20⟩
    obtain ⟨i2, hd2⟩ := agree_op (P := P) (dst := d2) (rs := r2) ag2 (by omega)
    have hb2' := i2.1 hb2
    obtain ⟨dl2, hp, e2, e2'⟩ := hd2 hb2'
    obtain ⟨x, rfl⟩ := hp k20
    have e2p : eff P op2 d2 s r2 = s.put d2 x := e2
    obtain ⟨j1, j2⟩ := eff_put4 P op1 d1 s r1 d2 x hB (fun n hn e => (hA n e).2 hn) k14
    rw [e2p]
    exact ⟨hb2', j1.2 hb1, by rw [j2 hb1, e2']; rfl⟩

/-- an operation as it stands at a state: one that isn't wanted lays nothing -/
def core (o : AO) (s : AS) : Option Op := match o.gd with
  | none => some o.op
  | some (t, want) => match asB (s.t t) with
    | some b => if b = want then some o.op else some (.assign (.func 0))
    | none => none
theorem obl_core (o : AO) (s : AS) (rs : List RV) : obl' P o s rs ↔ ∃ op, core o s = some op ∧ obl P op o.dst s rs := by
  unfold obl' core
  cases o.gd with
  | none => simp
  | some p =>
    obtain ⟨t, want⟩ := p
    simp only
    cases asB (s.t t) with
    | none => simp
    | some b => by_cases e : b = want <;> simp [e, obl]
theorem eff_core {o : AO} {s : AS} {op : Op} (rs : List RV) (h : core o s = some op) : eff' P o s rs = eff P op o.dst s rs := by
  unfold core at h
  unfold eff'
  cases hg : o.gd with
  | none => rw [hg] at h; cases h; rfl
  | some p =>
    obtain ⟨t, want⟩ := p
    rw [hg] at h
    simp only at h ⊢
    cases hb : asB (s.t t) with
    | none => rw [hb] at h; cases h
    | some b =>
      rw [hb] at h
      simp only at h ⊢
      by_cases e : b = want
      · rw [if_pos e] at h ⊢; cases h; rfl
      · rw [if_neg e] at h ⊢; cases h; rfl
theorem core_agree {o : AO} {s s' : AS} (h : ∀ t want, o.gd = some (t, want) → s'.t t = s.t t) : core o s' = core o s := by
  unfold core
  cases hg : o.gd with
  | none => rfl
  | some p => obtain ⟨t, want⟩ := p; simp only [h t want hg]
theorem core_rd {o : AO} {s : AS} {op : Op} (h : core o s = some op) : (∀ t, t ∈ rdT op → t ∈ rdA o) ∧ (kind op = kind o.op ∨ kind op = 0) := by
  unfold core at h
  have hin : ∀ t, t ∈ rdT o.op → t ∈ rdA o := fun t ht => List.mem_append.2 (.inr ht)
  cases hg : o.gd with
  | none => rw [hg] at h; cases h; exact ⟨hin, .inl rfl⟩
  | some p =>
    obtain ⟨t, want⟩ := p
    rw [hg] at h
    simp only at h
    split at h
    · split at h
      · cases h; exact ⟨hin, .inl rfl⟩
      · cases h; exact ⟨fun t ht => by simp [rdT, Op.operands, opT] at ht, .inr rfl⟩
    · cases h
theorem gd_rd {o : AO} {t : Nat} {want : Bool} (h : o.gd = some (t, want)) : t ∈ rdA o := by
  unfold rdA
  rw [h]
  simp

theorem swap (h : Sat ok0 w0 N vb rb s a w) {o1 o2 : AO} (hi : indep o1 o2 = true) {r1 r2 : List RV} (hb1 : obl' P o1 s r1) (hb2 : obl' P o2 (eff' P o1 s r1) r2) :
    obl' P o2 s r2 ∧ obl' P o1 (eff' P o2 s r2) r1 ∧ eff' P o1 (eff' P o2 s r2) r1 = eff' P o2 (eff' P o1 s r1) r2 := by
  unfold indep at hi
  simp only [Bool.and_eq_true, Bool.or_eq_true, beq_iff_eq, decide_eq_true_eq] at hi
  obtain ⟨⟨hA, hB⟩, hK⟩ := hi
  have hA' : ∀ d, o1.dst = some d → d ∉ rdA o2 ∧ o2.dst ≠ some d := fun d hd => by
    rw [hd] at hA
    simpa using hA
  have hB' : ∀ d, o2.dst = some d → d ∉ rdA o1 := fun d hd => by
    rw [hd] at hB
    simpa using hB
  obtain ⟨op1, c1, b1⟩ := (obl_core o1 s r1).1 hb1
  have e1 := eff_core (P := P) r1 c1
  rw [e1] at hb2 ⊢
  have c2eq : core o2 (eff P op1 o1.dst s r1) = core o2 s := core_agree fun t want hg => eff_t P op1 o1.dst s r1 t fun e => (hA' t e).1 (gd_rd hg)
  obtain ⟨op2, c2, b2⟩ := (obl_core o2 _ r2).1 hb2
  have c2s : core o2 s = some op2 := c2eq ▸ c2
  have e2 := eff_core (P := P) r2 c2s
  have e2' := eff_core (P := P) r2 c2
  obtain ⟨rd1, kk1⟩ := core_rd c1
  obtain ⟨rd2, kk2⟩ := core_rd c2s
  obtain ⟨x1, x2, x3⟩ := swap0 (P := P) h (op1 := op1) (op2 := op2) (d1 := o1.dst) (d2 := o2.dst) (r1 := r1) (r2 := r2) (fun d hd => ⟨fun hm => (hA' d hd).1 (rd2 d hm), (hA' d hd).2⟩) (fun d hd hm => hB' d hd (rd1 d hm)) (by omega) b1 b2
  have c1' : core o1 (eff P op2 o2.dst s r2) = some op1 := (core_agree fun t want hg => eff_t P op2 o2.dst s r2 t fun e => hB' t e (gd_rd hg)).trans c1
  rw [e2, e2']
  exact ⟨(obl_core o2 s r2).2 ⟨op2, c2s, x1⟩, (obl_core o1 _ r1).2 ⟨op1, c1', x2⟩, by rw [eff_core (P := P) r1 c1']; exact x3⟩

/-- a step that can't panic comes to a frame and a world -/
theorem wp_comes {o : Oper} {K : Act → World → Prop} (h : o.wp P a w K (fun _ _ _ => False)) : ∃ a' w', K a' w' := by
  unfold Oper.wp at h
  generalize (execOp a.eval o).run P w = r at h
  cases r with
  | ok n w' =>
    cases n <;> simp only [Oper.upon] at h <;> first
      | exact ⟨_, _, h⟩
      | exact h.elim
      | (obtain ⟨e, w'', fr, he, _⟩ := h []
         cases e with
         | returned v => exact ⟨_, _, he⟩
         | panicked c => exact he.elim
         | outgrown => obtain ⟨_, _, hf⟩ := he; exact hf.elim)
      | (obtain ⟨v, w'', he, _⟩ := h default []
         exact ⟨_, _, he⟩)
  | halt x w' => cases x <;> simp only [Oper.upon] at h <;> exact h.elim

theorem live_step (h : Sat ok0 w0 N vb rb s a w) (ops : Array Oper) (i : Nat) (hi : i < ops.size) (hN : ∀ o ∈ ops, ∀ d, o.dst = some d → d < N) (rs : List RV) (hb : obl' P (ao ops i) s rs) :
    ∃ vb' rb' a' w', Sat ok0 w0 N vb' rb' (eff' P (ao ops i) s rs) a' w' := by
  have hw := step_sound (P := P) h ops i hi hN rs hb (K := fun a' w' => ∃ vb' rb', Sat ok0 w0 N vb' rb' (eff' P (ao ops i) s rs) a' w') (Q := fun _ _ _ => False) fun vb' rb' a' w' h' => ⟨vb', rb', h'⟩
  unfold wpOp at hw
  split at hw
  · obtain ⟨vb', rb', h'⟩ := hw; exact ⟨vb', rb', _, _, h'⟩
  · split at hw
    · rcases hw with hw | ⟨_, _, _, hf⟩
      · obtain ⟨a', w', vb', rb', h'⟩ := wp_comes hw
        exact ⟨vb', rb', a', w', h'⟩
      · exact hf.elim
    · obtain ⟨vb', rb', h'⟩ := hw; exact ⟨vb', rb', _, _, h'⟩

/-- an operation that is independent of those before it may come first -/
theorem front (ops : Array Oper) (hN : ∀ o ∈ ops, ∀ d, o.dst = some d → d < N) (i : Nat) (rest : List AO) {K : AS → Prop} :
    ∀ (pre : List Nat), (∀ j ∈ pre, j < ops.size) → (∀ j ∈ pre, indep (ao ops j) (ao ops i) = true) → ∀ (vb : Nat × Nat → Nat) (rb : Nat × Nat → Value) (s : AS) (a : Act) (w : World), Sat ok0 w0 N vb rb s a w →
      aops P (pre.map (ao ops) ++ ao ops i :: rest) K s → ∃ rs, obl' P (ao ops i) s rs ∧ aops P (pre.map (ao ops) ++ rest) K (eff' P (ao ops i) s rs)
  | [], _, _, vb, rb, s, a, w, _, hk => hk
  | j :: pre, hlt, hind, vb, rb, s, a, w, h, hk => by
    obtain ⟨rj, bj, hk⟩ := hk
    obtain ⟨vb', rb', a', w', h'⟩ := live_step (P := P) h ops j (hlt j (by simp)) hN rj bj
    obtain ⟨ri, bi, hk⟩ := front ops hN i rest pre (fun q hq => hlt q (by simp [hq])) (fun q hq => hind q (by simp [hq])) vb' rb' _ a' w' h' hk
    obtain ⟨x1, x2, x3⟩ := swap (P := P) h (hind j (by simp)) bj bi
    refine ⟨ri, x1, rj, x2, ?_⟩
    rw [x3]
    exact hk
end
end Go.Proofs.Ythhaoojgfbofnaa.E
