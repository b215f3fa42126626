/- Operations whose order is open commute; a region in any order; no condition. -/
import Derived.Test.YthhaoojgfbofnaaEng10
set_option linter.unusedSimpArgs false
set_option linter.unusedVariables false
namespace Go.Proofs.Ythhaoojgfbofnaa.E
open Go.RowKit

def opT : Operand → List Nat
  | .tmp t => [t]
  | _ => []
def rdT (op : Op) : List Nat := op.operands.toList.flatMap opT
def rdA (o : AO) : List Nat := (match o.gd with
  | some (t, _) => [t]
  | none => []) ++ rdT o.op
/-- 0: computes alone · 1: reads memory · 2: a new variable or row · 3: a call · 4: anything else -/
def kind : Op → Nat
  | .move _ => 0
  | .assign _ => 0
  | .pick _ _ _ => 0
  | .build _ _ => 0
  | .binOp _ _ _ _ _ => 0
  | .unOp _ _ _ => 0
  | .convert _ _ _ => 0
  | .extract _ _ => 0
  | .buildSlice _ n _ => if n = 0 then 4 else 0
  | .load _ _ => 1
  | .fieldAddr _ _ _ => 1
  | .indexAddr _ _ _ => 1
  | .slice _ _ _ _ _ => 1
  | .alloc _ => 2
  | .call c => match c.callee with
    | .value (.func _) => 3
    | .builtin .len => 1
    | .builtin .max => 0
    | .builtin .min => 0
    | _ => 4
  | _ => 4
def indep (o1 o2 : AO) : Bool :=
  (match o1.dst with
    | some d => !(rdA o2).contains d && o2.dst != some d
    | none => true) &&
  (match o2.dst with
    | some d => !(rdA o1).contains d
    | none => true) &&
  (kind o1.op == 0 || kind o2.op == 0 || (kind o1.op ≤ 3 && kind o2.op ≤ 3))

/-- the memory that an address or a row leads to is the same -/
def MemAgree (s s' : AS) : AV → Prop
  | .ptr x _ => s'.v x = s.v x ∧ s'.f x = s.f x
  | .one (.row r _) => s'.r r = s.r r
  | .agg cs => ∀ r ver, Ce.row r ver ∈ cs → s'.r r = s.r r
  | .rel r _ _ => s'.r r = s.r r
  | _ => True

section
variable {s s' : AS}
theorem evs_agree : ∀ (xs : List Operand), (∀ x ∈ xs, s'.ev x = s.ev x) → evs s' xs = evs s xs
  | [], _ => rfl
  | x :: xs, h => by simp only [evs, h x (by simp), evs_agree xs fun y hy => h y (by simp [hy])]
theorem pairs_agree : ∀ (ps : List (Nat × Operand)), (∀ x ∈ ps.map (·.2), s'.ev x = s.ev x) → pairs s' ps = pairs s ps
  | [], _ => rfl
  | (i, x) :: ps, h => by simp only [pairs, h x (by simp), pairs_agree ps fun y hy => h y (by simp at hy ⊢; exact .inr hy)]
theorem acells_agree {a : AV} (h : MemAgree s s' a) : acells s' a = acells s a := by
  cases a with
  | ptr x off => simp only [acells, h.1]
  | rel r ver j => simp only [acells, show s'.r r = s.r r from h]
  | _ => rfl
theorem fldO_agree {a : AV} (h : MemAgree s s' a) (o : Option Nat) : fldO s' o a = fldO s o a := by
  cases a with
  | rel r ver j => cases o <;> simp only [fldO, show s'.r r = s.r r from h]
  | _ => cases o <;> rfl
theorem idxO_agree {a : AV} (h : MemAgree s s' a) (sz : Nat) (i : AV) : idxO s' sz a i = idxO s sz a i := by
  cases a with
  | one c =>
    cases c with
    | row r ver =>
      have e : s'.r r = s.r r := h
      unfold idxO
      split <;> simp_all
    | dt d =>
      unfold idxO
      split <;> simp_all
    | z =>
      unfold idxO
      split <;> simp_all
  | _ => rfl
theorem lenO_agree {a : AV} (h : MemAgree s s' a) : lenO s' a = lenO s a := by
  cases a with
  | one c =>
    cases c with
    | row r ver => simp only [lenO, show s'.r r = s.r r from h]
    | dt d => cases d <;> rfl
    | z => rfl
  | _ => rfl
theorem lenV_agree {a : AV} (h : MemAgree s s' a) : lenV s' a = lenV s a := by
  cases a with
  | one c =>
    cases c with
    | row r ver => simp only [lenV, show s'.r r = s.r r from h]
    | dt d => cases d <;> rfl
    | z => rfl
  | _ => rfl
theorem acutO_agree {a : AV} (h : MemAgree s s' a) (sz n : Nat) (lo hi mx : Option AV) : acutO s' sz n lo hi mx a = acutO s sz n lo hi mx a := by
  cases a with
  | ptr x off => simp only [acutO, h.1, h.2]
  | _ => rfl
theorem acutV_agree {a : AV} (h : MemAgree s s' a) (sz n : Nat) (lo hi : Option AV) : acutV s' sz n lo hi a = acutV s sz n lo hi a := by
  cases a with
  | ptr x off => simp only [acutV, h.1]
  | _ => rfl
theorem toDs_agree : ∀ (cs : List Ce), (∀ r ver, Ce.row r ver ∈ cs → s'.r r = s.r r) → toDs s' cs = toDs s cs
  | [], _ => rfl
  | c :: cs, h => by
    have e : toD s' c = toD s c := by
      cases c with
      | row r ver => simp only [toD, h r ver (by simp)]
      | _ => rfl
    simp only [toDs, e, toDs_agree cs fun r ver hm => h r ver (by simp [hm])]
theorem toRV_agree {a : AV} (h : MemAgree s s' a) : toRV s' a = toRV s a := by
  cases a with
  | one c =>
    cases c with
    | row r ver => simp only [toRV, toD, show s'.r r = s.r r from h]
    | _ => rfl
  | agg cs => simp only [toRV, toDs_agree cs h]
  | _ => rfl
theorem toRVs_agree : ∀ (as : List AV), (∀ a ∈ as, MemAgree s s' a) → toRVs s' as = toRVs s as
  | [], _ => rfl
  | a :: as, h => by simp only [toRVs, toRV_agree (h a (by simp)), toRVs_agree as fun b hb => h b (by simp [hb])]
theorem mem_evs : ∀ (xs : List Operand) (a : AV), a ∈ evs s xs → ∃ x ∈ xs, a = s.ev x
  | [], a, h => by simp [evs] at h
  | x :: xs, a, h => by
    simp only [evs, List.mem_cons] at h
    rcases h with rfl | h
    · exact ⟨x, by simp, rfl⟩
    · obtain ⟨y, hy, e⟩ := mem_evs xs a h
      exact ⟨y, by simp [hy], e⟩
end

/-- what an operation of the kinds 0 to 3 does -/
inductive Dl where
  | put (x : AV)
  | var (cs : List Ce)
def Dl.app (dst : Option Nat) (dl : Dl) (s : AS) : AS := match dl with
  | .put x => s.put dst x
  | .var cs => match dst with
    | some d => ((s.setv (d, s.g d) cs).bump d).set d (.ptr (d, s.g d) 0)
    | none => s

structure Agree (op : Op) (s s' : AS) : Prop where
  ev : ∀ x ∈ op.operands.toList, s'.ev x = s.ev x
  mem : kind op = 0 ∨ ∀ x ∈ op.operands.toList, MemAgree s s' (s.ev x)

theorem agree_op {P : Program} {op : Op} {dst : Option Nat} {s s' : AS} {rs : List RV} (h : Agree op s s') (hk : kind op ≤ 3) :
    (obl P op dst s' rs ↔ obl P op dst s rs) ∧ (obl P op dst s rs → ∃ dl : Dl, (kind op = 0 → ∃ x, dl = .put x) ∧ eff P op dst s rs = dl.app dst s ∧ eff P op dst s' rs = dl.app dst s') := by
  obtain ⟨hev, hmem⟩ := h
  cases op with
  | move x => exact ⟨Iff.rfl, fun _ => ⟨.put (s.ev x), fun _ => ⟨_, rfl⟩, rfl, by simp only [eff, Dl.app, hev x (by simp [Op.operands])]⟩⟩
  | assign x => exact ⟨Iff.rfl, fun _ => ⟨.put (s.ev x), fun _ => ⟨_, rfl⟩, rfl, by simp only [eff, Dl.app, hev x (by simp [Op.operands])]⟩⟩
  | pick c x y =>
    have e1 := hev c (by simp [Op.operands])
    have e2 := hev x (by simp [Op.operands])
    have e3 := hev y (by simp [Op.operands])
    exact ⟨by simp only [obl, e1], fun _ => ⟨.put _, fun _ => ⟨_, rfl⟩, rfl, by simp only [eff, Dl.app, e1, e2, e3]⟩⟩
  | alloc T =>
    refine ⟨Iff.rfl, fun hb => ?_⟩
    obtain ⟨cs, hz⟩ := Option.isSome_iff_exists.mp hb.2
    obtain ⟨d, hd⟩ := Option.isSome_iff_exists.mp hb.1
    exact ⟨.var cs, fun h0 => by simp [kind] at h0, by simp only [eff, hz, hd, Dl.app], by simp only [eff, hz, hd, Dl.app]⟩
  | build T parts =>
    have e := pairs_agree (s := s) (s' := s') parts.toList (fun x hx => hev x (by simpa [Op.operands] using hx))
    refine ⟨by simp only [obl, e], fun hb => ?_⟩
    simp only [obl] at hb
    split at hb
    · rename_i cs hz
      obtain ⟨cells, hf⟩ := Option.isSome_iff_exists.mp hb.2
      exact ⟨.put (.agg cells), fun _ => ⟨_, rfl⟩, by simp only [eff, hz, hf, Dl.app], by simp only [eff, hz, e, hf, Dl.app]⟩
    · exact hb.elim
  | buildSlice T n parts =>
    have hn : ¬ n = 0 := by intro h0; simp [kind, h0] at hk
    have e := pairs_agree (s := s) (s' := s') parts.toList (fun x hx => hev x (by simpa [Op.operands] using hx))
    have eb : ∀ sz zs, bslC s' sz n zs parts.toList = bslC s sz n zs parts.toList := fun sz zs => by simp only [bslC, e]
    refine ⟨by simp only [obl, eb], fun hb => ?_⟩
    simp only [obl] at hb
    split at hb
    · rename_i el he
      obtain ⟨h1, h2, h3, h4⟩ := hb
      rw [if_neg hn] at h4
      obtain ⟨d, hd⟩ := Option.isSome_iff_exists.mp h3
      obtain ⟨ds, hds⟩ := Option.isSome_iff_exists.mp h4.1
      exact ⟨.put (.one (.dt (.sl n ds))), fun _ => ⟨_, rfl⟩, by simp only [eff, he, hd, hn, if_false, hds, Dl.app, AS.put], by simp only [eff, he, hd, hn, if_false, eb, hds, Dl.app, AS.put]⟩
    · exact hb.elim
  | load T x =>
    have e := hev x (by simp [Op.operands])
    have em := acells_agree ((hmem.resolve_left (by simp [kind])) x (by simp [Op.operands]))
    exact ⟨by simp only [obl, e, em], fun _ => ⟨.put _, fun h0 => by simp [kind] at h0, rfl, by simp only [eff, Dl.app, e, em]⟩⟩
  | binOp op T x y T' =>
    have e1 := hev x (by simp [Op.operands])
    have e2 := hev y (by simp [Op.operands])
    exact ⟨by simp only [obl, e1, e2], fun _ => ⟨.put _, fun _ => ⟨_, rfl⟩, rfl, by simp only [eff, Dl.app, e1, e2]⟩⟩
  | unOp op T x =>
    have e1 := hev x (by simp [Op.operands])
    exact ⟨by simp only [obl, e1], fun _ => ⟨.put _, fun _ => ⟨_, rfl⟩, rfl, by simp only [eff, Dl.app, e1]⟩⟩
  | convert src T x =>
    have e1 := hev x (by simp [Op.operands])
    exact ⟨by simp only [obl, e1], fun _ => ⟨.put _, fun _ => ⟨_, rfl⟩, rfl, by simp only [eff, Dl.app, e1]⟩⟩
  | slice T x lo hi mx =>
    have e := hev x (by simp [Op.operands])
    have elo : lo.map s'.ev = lo.map s.ev := by cases lo <;> simp; exact hev _ (by simp [Op.operands])
    have ehi : hi.map s'.ev = hi.map s.ev := by cases hi <;> simp; exact hev _ (by simp [Op.operands])
    have emx : mx.map s'.ev = mx.map s.ev := by cases mx <;> simp; exact hev _ (by simp [Op.operands])
    have hm := (hmem.resolve_left (by simp [kind])) x (by simp [Op.operands])
    refine ⟨by simp only [obl, e, elo, ehi, emx, acutO_agree hm], fun hb => ?_⟩
    simp only [obl] at hb
    split at hb
    · rename_i el he
      exact ⟨.put _, fun h0 => by simp [kind] at h0, by simp only [eff, he, Dl.app]; rfl, by simp only [eff, he, Dl.app, e, elo, ehi]⟩
    · rename_i n el he ha
      exact ⟨.put _, fun h0 => by simp [kind] at h0, by simp only [eff, he, ha, Dl.app]; rfl, by simp only [eff, he, ha, Dl.app, e, elo, ehi, acutV_agree hm]⟩
    · exact hb.elim
  | fieldAddr T x f =>
    have e := hev x (by simp [Op.operands])
    have em := fldO_agree ((hmem.resolve_left (by simp [kind])) x (by simp [Op.operands]))
    exact ⟨by simp only [obl, e, em], fun _ => ⟨.put _, fun h0 => by simp [kind] at h0, rfl, by simp only [eff, Dl.app, e]⟩⟩
  | indexAddr T x i =>
    have e := hev x (by simp [Op.operands])
    have e2 := hev i (by simp [Op.operands])
    have em := idxO_agree ((hmem.resolve_left (by simp [kind])) x (by simp [Op.operands]))
    refine ⟨by simp only [obl, e, e2, em], fun hb => ?_⟩
    simp only [obl] at hb
    split at hb
    · rename_i el he
      exact ⟨.put _, fun h0 => by simp [kind] at h0, by simp only [eff, he, Dl.app]; rfl, by simp only [eff, he, Dl.app, e, e2]⟩
    · rename_i n el he ha
      exact ⟨.put _, fun h0 => by simp [kind] at h0, by simp only [eff, he, ha, Dl.app]; rfl, by simp only [eff, he, ha, Dl.app, e, e2]⟩
    · exact hb.elim
  | extract x j =>
    have e1 := hev x (by simp [Op.operands])
    exact ⟨by simp only [obl, e1], fun _ => ⟨.put _, fun _ => ⟨_, rfl⟩, rfl, by simp only [eff, Dl.app, e1]⟩⟩
  | call c =>
    obtain ⟨callee, args, Ts⟩ := c
    have hevs : ∀ x ∈ args.toList, s'.ev x = s.ev x := fun x hx => hev x (by
      have hx' : x ∈ args := by simpa using hx
      simp [Op.operands, Call.operands, hx'])
    have hmm : kind (.call ⟨callee, args, Ts⟩) = 0 ∨ ∀ x ∈ args.toList, MemAgree s s' (s.ev x) := hmem.imp id fun hm x hx => hm x (by
      have hx' : x ∈ args := by simpa using hx
      simp [Op.operands, Call.operands, hx'])
    have ee := evs_agree (s := s) (s' := s') args.toList hevs
    cases callee with
    | value f =>
      cases f with
      | func f =>
        have em := toRVs_agree (s := s) (s' := s') (evs s args.toList) (fun a ha => by
          obtain ⟨x, hx, e⟩ := mem_evs _ _ ha
          rw [e]; exact (hmm.resolve_left (by simp [kind])) x hx)
        exact ⟨by simp only [obl, ee, em], fun _ => ⟨.put (resAV rs), fun h0 => by simp [kind] at h0, rfl, rfl⟩⟩
      | _ => simp [kind] at hk
    | invoke r m => simp [kind] at hk
    | builtin b =>
      cases b with
      | len =>
        refine ⟨?_, fun hb => ?_⟩
        · simp only [obl]
          split
          · rename_i x T e1 e2
            have e := hevs x (by rw [e1]; simp)
            have em := lenO_agree ((hmm.resolve_left (by simp [kind])) x (by rw [e1]; simp))
            simp only [e, em]
          · exact Iff.rfl
        · simp only [obl] at hb
          split at hb
          · rename_i x T e1 e2
            have e := hevs x (by rw [e1]; simp)
            have em := lenV_agree ((hmm.resolve_left (by simp [kind])) x (by rw [e1]; simp))
            exact ⟨.put (lenV s (s.ev x)), fun h0 => by simp [kind] at h0, by simp only [eff, e1, Dl.app], by simp only [eff, e1, Dl.app, e, em]⟩
          · exact hb.elim
      | max =>
        refine ⟨?_, fun hb => ?_⟩
        · simp only [obl]
          split
          · rename_i x y e1
            simp only [hevs x (by rw [e1]; simp), hevs y (by rw [e1]; simp)]
          · exact Iff.rfl
        · simp only [obl] at hb
          split at hb
          · rename_i x y e1
            exact ⟨.put _, fun _ => ⟨_, rfl⟩, by simp only [eff, e1, Dl.app]; rfl, by simp only [eff, e1, Dl.app, hevs x (by rw [e1]; simp), hevs y (by rw [e1]; simp)]⟩
          · exact hb.elim
      | min =>
        refine ⟨?_, fun hb => ?_⟩
        · simp only [obl]
          split
          · rename_i x y e1
            simp only [hevs x (by rw [e1]; simp), hevs y (by rw [e1]; simp)]
          · exact Iff.rfl
        · simp only [obl] at hb
          split at hb
          · rename_i x y e1
            exact ⟨.put _, fun _ => ⟨_, rfl⟩, by simp only [eff, e1, Dl.app]; rfl, by simp only [eff, e1, Dl.app, hevs x (by rw [e1]; simp), hevs y (by rw [e1]; simp)]⟩
          · exact hb.elim
      | _ => simp [kind] at hk
  | _ => simp [kind] at hk
end Go.Proofs.Ythhaoojgfbofnaa.E
