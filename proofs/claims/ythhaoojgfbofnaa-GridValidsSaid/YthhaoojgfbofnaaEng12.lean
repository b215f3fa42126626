/- Regions that draw their order: every order gives what the text's order gives; no condition. -/
import Derived.Test.YthhaoojgfbofnaaEng11
set_option linter.unusedSimpArgs false
set_option linter.unusedVariables false
namespace Go.Proofs.Ythhaoojgfbofnaa.E
open Go.RowKit

section
variable {s s' : AS} {P : Program}

theorem set_comm (s : AS) {d d' : Nat} (h : d ≠ d') (x y : AV) : (s.set d x).set d' y = (s.set d' y).set d x := by
  unfold AS.set
  congr 1
  funext n
  by_cases h1 : n = d <;> by_cases h2 : n = d' <;> simp [h1, h2]
  · omega
  · intro e; exact absurd e h
  · intro e; exact absurd e.symm h
theorem put_comm (s : AS) {d d' : Option Nat} (h : ∀ x, d = some x → d' ≠ some x) (x y : AV) : (s.put d x).put d' y = (s.put d' y).put d x := by
  cases d with
  | none => cases d' <;> rfl
  | some d =>
    cases d' with
    | none => rfl
    | some d' => exact set_comm s (fun e => h d rfl (by rw [e])) x y

theorem app_comm (s : AS) {d1 d2 : Option Nat} (h : ∀ x, d1 = some x → d2 ≠ some x) (a b : Dl) : b.app d2 (a.app d1 s) = a.app d1 (b.app d2 s) := by
  cases d1 with
  | none => cases a <;> rfl
  | some d1 =>
    cases d2 with
    | none => cases b <;> rfl
    | some d2 =>
      have hne : d1 ≠ d2 := fun e => h d1 rfl (by rw [e])
      cases a with
      | put x =>
        cases b with
        | put y => exact set_comm s hne x y
        | var cs =>
          simp only [Dl.app, AS.put, AS.set, AS.setv, AS.bump]
          congr 1
          funext n
          by_cases h1 : n = d1 <;> by_cases h2 : n = d2 <;> simp [h1, h2]
          · omega
          · intro e; exact absurd e hne
          · intro e; exact absurd e.symm hne
      | var cs1 =>
        cases b with
        | put y =>
          simp only [Dl.app, AS.put, AS.set, AS.setv, AS.bump]
          congr 1
          funext n
          by_cases h1 : n = d1 <;> by_cases h2 : n = d2 <;> simp [h1, h2]
          · omega
          · intro e; exact absurd e hne
          · intro e; exact absurd e.symm hne
        | var cs2 =>
          have hne' : d2 ≠ d1 := fun e => hne e.symm
          simp only [Dl.app, AS.set, AS.setv, AS.bump, if_neg hne, if_neg hne']
          congr 1
          · funext n
            by_cases h1 : n = d1 <;> by_cases h2 : n = d2 <;> simp [h1, h2]
            · omega
            · intro e; exact absurd e hne
            · intro e; exact absurd e.symm hne
          · funext y
            by_cases h1 : y = (d1, s.g d1) <;> by_cases h2 : y = (d2, s.g d2) <;> simp [h1, h2]
            · rw [h1] at h2; simp at h2; omega
            · intro e; exact absurd e hne
            · intro e; exact absurd e.symm hne
          · funext n
            by_cases h1 : n = d1 <;> by_cases h2 : n = d2 <;> simp [h1, h2, hne, hne']

theorem ev_put (s : AS) (d : Option Nat) (v : AV) (x : Operand) (h : ∀ n, d = some n → n ∉ opT x) : (s.put d v).ev x = s.ev x := by
  cases d with
  | none => rfl
  | some d =>
    cases x with
    | tmp t =>
      have hne : t ≠ d := fun e => h d rfl (by simp [opT, e])
      simp only [AS.put, AS.ev, AS.set, if_neg hne]
    | _ => rfl
theorem ev_of_t (x : Operand) (h : ∀ t ∈ opT x, s'.t t = s.t t) : s'.ev x = s.ev x := by
  cases x with
  | tmp t => exact h t (by simp [opT])
  | _ => rfl
theorem rd_mem {op : Op} {x : Operand} (hx : x ∈ op.operands.toList) {t : Nat} (ht : t ∈ opT x) : t ∈ rdT op := List.mem_flatMap.2 ⟨x, hx, ht⟩

/-- an operation changes no temporary but its own -/
theorem put_t (s : AS) (dst : Option Nat) (x : AV) (t : Nat) (h : dst ≠ some t) : (s.put dst x).t t = s.t t := by
  cases dst with
  | none => rfl
  | some d =>
    have : t ≠ d := fun e => h (by rw [e])
    simp only [AS.put, AS.set, if_neg this]
theorem stS_t (s : AS) (cs : List Ce) (a : AV) : (stS s cs a).t = s.t := by
  unfold stS
  split
  · split <;> rfl
  · split <;> rfl
  · rfl
theorem eff_t (P : Program) (op : Op) (dst : Option Nat) (s : AS) (rs : List RV) (t : Nat) (h : dst ≠ some t) : (eff P op dst s rs).t t = s.t t := by
  have hset : ∀ (s : AS) (d : Nat) (x : AV), dst = some d → (s.set d x).t t = s.t t := fun s d x e => by
    have : t ≠ d := fun e2 => h (by rw [e, e2])
    simp only [AS.set, if_neg this]
  unfold eff
  split
  all_goals first
    | exact put_t _ _ _ _ h
    | rfl
    | skip
  · split
    · exact hset _ _ _ rfl
    · rfl
  · split
    · exact hset _ _ _ rfl
    · rfl
  · split
    · split
      · exact put_t _ _ _ _ h
      · rfl
    · rfl
  · split
    · split
      · exact hset _ _ _ rfl
      · split
        · exact hset _ _ _ rfl
        · rfl
    · rfl
  · split
    · rw [put_t _ _ _ _ h, stS_t]
    · rfl
  · split
    · unfold mkS
      split
      · split
        · split
          · exact hset _ _ _ rfl
          · rfl
        · rfl
      · rfl
    · rfl
  · split
    · exact put_t _ _ _ _ h
    · exact put_t _ _ _ _ h
    · rfl
  · split
    · exact put_t _ _ _ _ h
    · exact put_t _ _ _ _ h
    · rfl
  · split
    · exact put_t _ _ _ _ h
    · split
      · exact put_t _ _ _ _ h
      · rfl
    · split
      · exact put_t _ _ _ _ h
      · rfl
    · split
      · exact put_t _ _ _ _ h
      · rfl
    · split
      · split
        · unfold appS
          split
          · split
            · exact hset _ _ _ rfl
            · rfl
          · split
            · exact hset _ _ _ rfl
            · rfl
          · rfl
        · rfl
      · rfl
    · split
      · unfold cpS
        split
        · split
          · exact put_t _ _ _ _ h
          · rfl
        · rfl
      · rfl
    · rfl

/-- what writes commutes with a new value elsewhere -/
theorem set_put (s : AS) {d : Nat} {d1 : Option Nat} (h : d1 ≠ some d) (x y : AV) : (s.put d1 x).set d y = (s.set d y).put d1 x := by
  cases d1 with
  | none => rfl
  | some d1 => exact set_comm s (fun e => h (by rw [e])) x y
theorem eff_put4 (P : Program) (op : Op) (dst : Option Nat) (s : AS) (rs : List RV) (d1 : Option Nat) (x : AV) (hr : ∀ n, d1 = some n → n ∉ rdT op) (hd : ∀ n, d1 = some n → dst ≠ some n) (hk : kind op = 4) :
    (obl P op dst (s.put d1 x) rs ↔ obl P op dst s rs) ∧ (obl P op dst s rs → eff P op dst (s.put d1 x) rs = (eff P op dst s rs).put d1 x) := by
  have hev : ∀ y ∈ op.operands.toList, (s.put d1 x).ev y = s.ev y := fun y hy => ev_put s d1 x y fun n hn ht => hr n hn (rd_mem hy ht)
  have hv : (s.put d1 x).v = s.v := by cases d1 <;> rfl
  have hr' : (s.put d1 x).r = s.r := by cases d1 <;> rfl
  have hg : (s.put d1 x).g = s.g := by cases d1 <;> rfl
  have hf : (s.put d1 x).f = s.f := by cases d1 <;> rfl
  have hdd : ∀ d, dst = some d → d1 ≠ some d := fun d e e2 => hd d e2 e
  have hsetv : ∀ y cs, (s.put d1 x).setv y cs = (s.setv y cs).put d1 x := fun y cs => by cases d1 <;> rfl
  have hsetr : ∀ y row, (s.put d1 x).setr y row = (s.setr y row).put d1 x := fun y row => by cases d1 <;> rfl
  have hbump : ∀ (s : AS) d, (s.put d1 x).bump d = (s.bump d).put d1 x := fun s d => by cases d1 <;> rfl
  have htoD : ∀ c, toD (s.put d1 x) c = toD s c := fun c => by cases c <;> simp only [toD, hr']
  have hsrc : ∀ a, srcD (s.put d1 x) a = srcD s a := fun a => by cases a <;> simp only [srcD, htoD]
  cases op with
  | box T y =>
    have e := hev y (by simp [Op.operands])
    refine ⟨by simp only [obl, e], fun hb => ?_⟩
    obtain ⟨d, h1⟩ := Option.isSome_iff_exists.mp hb.1
    obtain ⟨cs, h2⟩ := Option.isSome_iff_exists.mp hb.2
    simp only [eff, e, h1, h2, hg, hsetv, hbump]
    exact set_put _ (hdd d h1) _ _
  | store T y z =>
    have e1 := hev y (by simp [Op.operands])
    have e2 := hev z (by simp [Op.operands])
    have hst : ∀ cs a, stO (s.put d1 x) cs a = stO s cs a := fun cs a => by cases a <;> simp only [stO, hv, hf, hr']
    have hss : ∀ cs a, stS (s.put d1 x) cs a = (stS s cs a).put d1 x := fun cs a => by
      unfold stS
      split
      · rw [hv]; split
        · exact hsetv _ _
        · rfl
      · rw [hr']; split
        · exact hsetr _ _
        · rfl
      · rfl
    refine ⟨by simp only [obl, e1, e2, hst], fun hb => ?_⟩
    simp only [obl] at hb
    split at hb
    · rename_i cs hc
      simp only [eff, e1, e2, hc, hss]
      exact put_comm _ (fun n e => hd n e) _ _
    · exact hb.2.elim
  | makeSlice T l c =>
    have e1 := hev l (by simp [Op.operands])
    have e2 := hev c (by simp [Op.operands])
    refine ⟨by simp only [obl, e1, e2], fun hb => ?_⟩
    simp only [obl] at hb
    split at hb
    · rename_i el he
      obtain ⟨d, h1⟩ := Option.isSome_iff_exists.mp hb.1
      simp only [eff, he, h1, e1]
      unfold mkS
      split
      · split
        · split
          · simp only [hg, hsetr, hbump]
            exact set_put _ (hdd d h1) _ _
          · rfl
        · rfl
      · rfl
    · exact hb.elim
  | buildSlice T n parts =>
    have hn : n = 0 := by
      by_cases h0 : n = 0
      · exact h0
      · simp [kind, h0] at hk
    subst hn
    refine ⟨by simp only [obl, if_true], fun hb => ?_⟩
    simp only [obl, if_true] at hb
    split at hb
    · rename_i el he
      obtain ⟨d, h1⟩ := Option.isSome_iff_exists.mp hb.2.2.1
      simp only [eff, he, h1, if_true, hg, hsetr, hbump]
      exact set_put _ (hdd d h1) _ _
    · exact hb.elim
  | call c =>
    obtain ⟨callee, args, Ts⟩ := c
    have hevs : ∀ y ∈ args.toList, (s.put d1 x).ev y = s.ev y := fun y hy => hev y (by
      have hy' : y ∈ args := by simpa using hy
      simp [Op.operands, Call.operands, hy'])
    cases callee with
    | value f => cases f <;> first | (simp [kind] at hk; done) | exact ⟨Iff.rfl, fun hb => hb.elim⟩
    | invoke r m => exact ⟨Iff.rfl, fun hb => hb.elim⟩
    | builtin b =>
      cases b with
      | append =>
        have happ : ∀ e sz bytes src a, appO (s.put d1 x) e sz bytes src a = appO s e sz bytes src a := fun e sz bytes src a => by
          unfold appO; split <;> simp only [hr']
        have haps : ∀ d e sz src a, d1 ≠ some d → appO s e sz (tbytes P e) src a → appS (s.put d1 x) d e sz src a = (appS s d e sz src a).put d1 x := fun d e sz src a hne hap => by
          unfold appO at hap
          unfold appS
          split
          · split
            · simp only [hg, hsetr, hbump]
              exact set_put _ hne _ _
            · rfl
          · rw [hr']
            split
            · simp only [hsetr]
              exact set_put _ hne _ _
            · rfl
          · rfl
        refine ⟨?_, fun hb => ?_⟩
        · simp only [obl]
          split
          · rename_i y z T T' e1 e2
            simp only [hevs y (by rw [e1]; simp), hevs z (by rw [e1]; simp), hsrc, happ]
          · exact Iff.rfl
        · simp only [obl] at hb
          split at hb
          · rename_i y z T T' e1 e2
            obtain ⟨hT, hb⟩ := hb
            split at hb
            · rename_i el he
              obtain ⟨d, h1⟩ := Option.isSome_iff_exists.mp hb.1
              have := haps d el (tsz P el) (srcD s (s.ev z)) (s.ev y) (hdd d h1) hb.2.2.2.2
              simp only [eff, e1, e2, h1, he, hevs y (by rw [e1]; simp), hevs z (by rw [e1]; simp), hsrc]
              exact this
            · exact hb.elim
          · exact hb.elim
      | copy =>
        have hcp : ∀ src a, cpO (s.put d1 x) src a = cpO s src a := fun src a => by
          unfold cpO; split <;> simp only [hr']
        refine ⟨?_, fun hb => ?_⟩
        · simp only [obl]
          split
          · rename_i y z T T' e1 e2
            simp only [hevs y (by rw [e1]; simp), hevs z (by rw [e1]; simp), hsrc, hcp]
          · exact Iff.rfl
        · simp only [obl] at hb
          split at hb
          · rename_i y z T T' e1 e2
            simp only [eff, e1, hevs y (by rw [e1]; simp), hevs z (by rw [e1]; simp), hsrc]
            unfold cpS
            split
            · rw [hr']
              split
              · simp only [hsetr]
                exact put_comm _ (fun n e => hd n e) _ _
              · rfl
            · rfl
          · exact hb.elim
      | len => simp [kind] at hk
      | max => simp [kind] at hk
      | min => simp [kind] at hk
      | _ => exact ⟨Iff.rfl, fun hb => hb.elim⟩
  | move _ => simp [kind] at hk
  | assign _ => simp [kind] at hk
  | pick _ _ _ => simp [kind] at hk
  | build _ _ => simp [kind] at hk
  | binOp _ _ _ _ _ => simp [kind] at hk
  | unOp _ _ _ => simp [kind] at hk
  | convert _ _ _ => simp [kind] at hk
  | extract _ _ => simp [kind] at hk
  | load _ _ => simp [kind] at hk
  | fieldAddr _ _ _ => simp [kind] at hk
  | indexAddr _ _ _ => simp [kind] at hk
  | slice _ _ _ _ _ => simp [kind] at hk
  | alloc _ => simp [kind] at hk
  | _ => exact ⟨Iff.rfl, fun hb => hb.elim⟩
end
end Go.Proofs.Ythhaoojgfbofnaa.E
