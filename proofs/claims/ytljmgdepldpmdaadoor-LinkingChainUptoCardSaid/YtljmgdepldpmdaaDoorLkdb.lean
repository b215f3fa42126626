/- An abstract interpreter over data, and contracts of the program's functions, part 2; no condition. -/
import Derived.Deep.LoopGhost
import Derived.Laws.Bits64
import Derived.Laws.BitsLemmas
import Derived.WalkKit
import Derived.ProofKit
import Derived.OpenShut
import Derived.ShutString
import Derived.ChangeOld
import Derived.Below
import Derived.SizedLaws
import Derived.Carry
import Derived.Deep.Slices
import Derived.ChangeSame
import Derived.Test.YtljmgdepldpmdaaDoorProg
import Derived.KernelRfl
import Derived.Test.YtljmgdepldpmdaaDoorLkda
set_option linter.unusedSimpArgs false
set_option linter.unusedVariables false
namespace Go.Proofs.YtljmgdepldpmdaaDoor.E
open Go.RowKit

/-! ### calls that write, or that hand over a row of their own -/
def u32s (l : List Int) : List Ce := l.map fun n => .dt (.lit (.int .u32 n))
def u32v (l : List Int) : List Value := l.map fun n => .int .u32 n
/-- the result is a whole new row, which the caller may write -/
def OFun (P : Program) (f : Nat) (args : List RV) (l : List Int) : Prop := fok P f = true ∧
  ∀ (ok : Nat → Prop) (w : World) (vs : List Value), (∀ k, ok k → k < w.heap.size) → Fits (MR w ok) args vs →
    Calls P f vs.toArray w fun e w' => ∃ g c us T, e = .returned (.slice (some ⟨g, 0, none⟩) l.length c) ∧ l.length ≤ c ∧ w.heap.size ≤ g ∧ w'.heap[g]? = some (.cells us T (0, 0)) ∧ us.toList.take l.length = u32v l ∧ Below w.heap.size w w'
/-- the first argument is n cells from off on of a row l, which the call turns into l' -/
def WFun (P : Program) (f : Nat) (l : List Int) (off n : Nat) (args : List RV) (l' : List Int) (rs : List RV) : Prop := fok P f = true ∧
  ∀ (ok : Nat → Prop) (w : World) (g : Nat) (us : Array Value) (T : TypeId) (o c : Nat) (vs : List Value), (∀ k, ok k → k < w.heap.size) → ¬ ok g → w.heap[g]? = some (.cells us T (0, 0)) → us.toList.take l.length = u32v l → n ≤ c → (n ≠ 0 → o = off) → Fits (MR w ok) args vs →
    Calls P f (.slice (some ⟨g, o, none⟩) n c :: vs).toArray w fun e w' => ∃ v us' T', e = .returned v ∧ MRs w' (fun _ => False) rs v ∧ Fr g w w' ∧ w'.heap[g]? = some (.cells us' T' (0, 0)) ∧ us'.toList.take l'.length = u32v l'
def i64s (l : List Int) : List Dt := l.map fun n => Dt.lit (.int .i64 n)
/-- the results: a struct of a row of numbers and of a row of the call's own (so the caller may write it), and a number -/
def TFun (P : Program) (f : Nat) (args : List RV) (l0 l1 : List Int) (T : TypeId) (c : Int) : Prop := fok P f = true ∧
  ∀ (ok : Nat → Prop) (w : World) (vs : List Value), (∀ k, ok k → k < w.heap.size) → Fits (MR w ok) args vs →
    Calls P f vs.toArray w fun e w' => ∃ v0 v1 us, e = .returned (.tuple #[.agg #[v0, v1], .int .i64 c]) ∧ Rep w' (fun k => (ok k ∨ (w.heap.size ≤ k ∧ k < w'.heap.size)) ∧ v1.ownBlock ≠ some k) (.sl l0.length (i64s l0)) v0 ∧ w'.ownsRow w.heap.size T 1 v1 l1.length us ∧ Fits (Rep w' (fun _ => False)) (i64s l1) us ∧ Below w.heap.size w w'
def spec0 (P : Program) (dst : Option Nat) (op : Op) (s s' : AS) : Prop := match op with
  | .call ⟨.value (.func f), args, _⟩ =>
    (∃ d avs l, dst = some d ∧ toRVs s (evs s args.toList) = some avs ∧ OFun P f avs l ∧ s' = ((s.setv (d, s.g d) (u32s l)).bump d).set d (.sv (d, s.g d) 0 l.length)) ∨
    (∃ d avs l0 l1 T c, dst = some d ∧ toRVs s (evs s args.toList) = some avs ∧ TFun P f avs l0 l1 T c ∧ s' = ((s.setr (d, s.g d) ⟨T, 1, l1.length, i64s l1, 0, true⟩).bump d).set d (.pr [.dt (.sl l0.length (i64s l0)), .row (d, s.g d) 0] (.dt (.lit (.int .i64 c))))) ∨
    (∃ a0 xs x off n l avs l' rs, args.toList = a0 :: xs ∧ s.ev a0 = .sv x off n ∧ s.v x = some (u32s l) ∧ s.f x = false ∧ toRVs s (evs s xs) = some avs ∧ WFun P f l off n avs l' rs ∧ s' = (s.setv x (u32s l')).put dst (resAV rs)) ∨
    (∃ r avs rs, toRVs (s.freeze r) (evs (s.freeze r) args.toList) = some avs ∧ AFun P f avs rs ∧ s' = (s.freeze r).put dst (resAV rs))
  | op => specS P dst op s s'
def spec (P : Program) (o : AO) (s s' : AS) : Prop := match o.gd with
  | none => spec0 P o.dst o.op s s'
  | some (t, want) => asG want (s.t t) = some want ∧ spec0 P o.dst o.op s s'
/-- a list of operations, in the order of the text; b: with calls of these kinds -/
def aops (P : Program) (b : Bool) : List AO → (AS → Prop) → AS → Prop
  | [], Q, s => Q s
  | o :: os, Q, s => (∃ rs, obl' P o s rs ∧ aops P b os Q (eff' P o s rs)) ∨ (b = true ∧ ∃ s', spec P o s s' ∧ aops P b os Q s')
theorem dops_of {P : Program} {Q : AS → Prop} : ∀ (l : List AO) (s : AS), aops P false l Q s → dops P l Q s
  | [], _, h => h
  | _ :: os, s, h => by
    rcases h with ⟨rs, h1, h2⟩ | ⟨h, _⟩
    · exact ⟨rs, h1, dops_of os _ h2⟩
    · cases h

section
variable {ok0 : Nat → Prop} {w0 w w' : World} {X N : Nat} {vb : Nat × Nat → Nat} {rb : Nat × Nat → Value} {s s' : AS} {a : Act} {P : Program}
theorem u32s_len (l : List Int) : (u32s l).length = l.length := by simp [u32s]
theorem u32_fits {ok : Nat → Prop} (l : List Int) : Fits (MC w ok rb s) (u32s l) (u32v l) :=
  ⟨by simp [u32s, u32v], fun j u c hu hc => by
    simp only [u32s, u32v, List.getElem?_map] at hu hc
    cases hl : l[j]? with
    | none => rw [hl] at hu; simp at hu
    | some n => rw [hl] at hu hc; simp at hu hc; subst hu; subst hc; exact .lit _ rfl⟩
theorem u32_vals {ok : Nat → Prop} : ∀ {l : List Int} {us : List Value}, Fits (MC w ok rb s) (u32s l) us → us = u32v l
  | [], us, h => List.eq_nil_of_length_eq_zero h.1
  | n :: l, us, h => by
    obtain ⟨u, us', rfl, h1, h2⟩ := Fits.uncons (show Fits (MC w ok rb s) (.dt (.lit (.int .u32 n)) :: u32s l) us from h)
    have e1 : u = .int .u32 n := by cases h1; rfl
    rw [u32_vals h2, e1]; rfl
theorem u32v_one (l : List Int) : ∀ u ∈ u32v l, u.oneCell' = true := fun u hu => by
  obtain ⟨n, _, rfl⟩ := List.mem_map.1 hu
  rfl
theorem res_fits {rs : List RV} {v : Value} {ok : Nat → Prop} (hm : MRs w (fun _ => False) rs v) : MV w ok vb rb s (resAV rs) v := by
  have htoav : ∀ (r : RV) (u : Value), MR w (fun _ => False) r u → MV w ok vb rb s r.toAV u := fun r u hr => by
    have hr' : MR w ok r u := Ext.mr (fun k hk => hk.elim) hr
    cases r with
    | one d => exact ⟨hr', Rep.one hr'⟩
    | agg ds =>
      obtain ⟨us, e', hf'⟩ := hr'
      refine ⟨us, e', ⟨by simp [hf'.1], fun i v c hv hc => ?_⟩, fun v hv => ?_⟩
      · rw [List.getElem?_map] at hc
        cases hd' : ds[i]? with
        | none => rw [hd'] at hc; simp at hc
        | some d => rw [hd'] at hc; simp at hc; subst hc; exact hf'.2 i v d hv hd'
      · obtain ⟨i, hi⟩ := List.getElem?_of_mem hv
        have hlt : i < ds.length := by rw [← hf'.1]; exact (List.getElem?_eq_some_iff.1 hi).1
        exact (hf'.2 i v _ hi (List.getElem?_eq_getElem hlt)).one
  match rs, hm with
  | [r], hm => exact htoav r v hm
  | [], hm =>
    obtain ⟨us, e, hfu⟩ := hm
    exact ⟨us, e, hfu.imp fun r u hr => Ext.mr (fun k hk => hk.elim) hr⟩
  | r1 :: r2 :: rs, hm =>
    obtain ⟨us, e, hfu⟩ := hm
    exact ⟨us, e, hfu.imp fun r u hr => Ext.mr (fun k hk => hk.elim) hr⟩

theorem run_enter {o : Oper} {f : Nat} {args : Array Operand} {Ts : Array TypeId} (ho : o.op = .call { callee := .value (.func f), args := args, argTypes := Ts }) (hfok : fok P f = true) : (execOp a.eval o).run P w = .ok (.enter f (args.map a.eval)) w := by
  unfold fok at hfok
  split at hfok
  · rename_i fn hfn
    simp only [Bool.and_eq_true, bne_iff_ne, ne_eq] at hfok
    have hb : ¬ fn.body = none := by intro e; rw [e] at hfok; simp at hfok
    simp [execOp, ho, resolve, Act.eval, Deferred.ofValue, invoke, callFunc, hfn]
    rw [if_neg hfok.1, if_neg hb]
  · cases hfok

theorem good_ocall (h : Sat ok0 w0 X N vb rb s a w) {o : Oper} (hd : ∀ d, o.dst = some d → d < N) (f : Nat) (args : Array Operand) (Ts : Array TypeId) (ho : o.op = .call { callee := .value (.func f), args := args, argTypes := Ts }) (d : Nat) (avs : List RV) (l : List Int) (hdst : o.dst = some d) (ha : toRVs s (evs s args.toList) = some avs) (hf : OFun P f avs l) :
    Good P ok0 w0 X N o a w (((s.setv (d, s.g d) (u32s l)).bump d).set d (.sv (d, s.g d) 0 l.length)) := by
  intro K Q hK
  obtain ⟨hfok, hf⟩ := hf
  have hfit := h.toRVs ha
  unfold Oper.wp
  rw [run_enter ho hfok, Oper.upon_enter]
  have hcall := hf (okS ok0 w0.heap.size vb rb s w) w (args.toList.map a.eval) (fun k hk => hk.2.1) hfit
  have hargs : (args.toList.map a.eval).toArray = args.map a.eval := by rw [← Array.toList_map]
  rw [hargs] at hcall
  refine hcall.mono fun e w' ⟨g, c, us, T, he, hlc, hg, hh, hus, hb⟩ => ?_
  subst he
  have hn := h.newvarw hb g hg d (u32s l) us T hh (by rw [u32s_len, hus]; exact u32_fits l) (by rw [u32s_len, hus]; exact u32v_one l)
  have hn2 := hn.set d (hd d hdst) (.sv (d, s.g d) 0 l.length) (.slice (some ⟨g, 0, none⟩) l.length c) ⟨u32s l, 0, c, if_pos rfl, by simp, hlc, fun _ => rfl⟩
  rw [← hdst] at hn2
  exact hK _ _ _ _ hn2

theorem good_wcall (h : Sat ok0 w0 X N vb rb s a w) {o : Oper} (hd : ∀ d, o.dst = some d → d < N) (f : Nat) (args : Array Operand) (Ts : Array TypeId) (ho : o.op = .call { callee := .value (.func f), args := args, argTypes := Ts }) (a0 : Operand) (xs : List Operand) (x : Nat × Nat) (off n : Nat) (l : List Int) (avs : List RV) (l' : List Int) (rs : List RV)
    (hargs : args.toList = a0 :: xs) (h0 : s.ev a0 = .sv x off n) (hv : s.v x = some (u32s l)) (hlive : s.f x = false) (ha : toRVs s (evs s xs) = some avs) (hf : WFun P f l off n avs l' rs) :
    Good P ok0 w0 X N o a w ((s.setv x (u32s l')).put o.dst (resAV rs)) := by
  intro K Q hK
  obtain ⟨hfok, hf⟩ := hf
  have hfit := h.toRVs ha
  have hx := h.ev a0
  rw [h0] at hx
  obtain ⟨cs, o1, c, hy, ex, hnc, ho1⟩ := hx
  obtain ⟨_, us, T, hh, hfu, _⟩ := h.var x (u32s l) hv
  rw [u32s_len] at hfu
  unfold Oper.wp
  rw [run_enter ho hfok, Oper.upon_enter]
  have hcall := hf (okS ok0 w0.heap.size vb rb s w) w (vb x) us T o1 c (xs.map a.eval) (fun k hk => hk.2.1) (fun hk => hk.2.2.1 x _ hv hlive rfl) hh (u32_vals hfu) hnc ho1 hfit
  have hargs' : (.slice (some ⟨vb x, o1, none⟩) n c :: xs.map a.eval).toArray = args.map a.eval := by
    rw [← ex, show (a.eval a0 :: xs.map a.eval) = args.toList.map a.eval by rw [hargs]; rfl, ← Array.toList_map]
  rw [hargs'] at hcall
  refine hcall.mono fun e w' ⟨v, us', T', he, hm, hfr, hh', hus'⟩ => ?_
  subst he
  have hs := h.storew (w' := w') hv hlive ⟨hfr.os, hfr.tape, hfr.output, hfr.size, fun k hk hne => hfr.block k hk (fun e => hne (by rw [e]))⟩ (u32s l') us' T' hh' (by rw [u32s_len, hus']; exact u32_fits l') (by rw [u32s_len, hus']; exact u32v_one l')
  exact hK _ _ _ _ (hs.put o.dst hd _ _ (res_fits hm))

theorem own_one {w : World} {base : Nat} {T : TypeId} {n : Nat} {v : Value} {us : List Value} (h : w.ownsRow base T 1 v n us) : v.oneCell' = true := by
  rcases h.2 with ⟨e, _⟩ | ⟨g, cap, cur, e, _⟩ <;> rw [e] <;> rfl
theorem good_tcall (h : Sat ok0 w0 X N vb rb s a w) {o : Oper} (hd : ∀ d, o.dst = some d → d < N) (f : Nat) (args : Array Operand) (Ts : Array TypeId) (ho : o.op = .call { callee := .value (.func f), args := args, argTypes := Ts }) (d : Nat) (avs : List RV) (l0 l1 : List Int) (T : TypeId) (c : Int) (hdst : o.dst = some d) (ha : toRVs s (evs s args.toList) = some avs) (hf : TFun P f avs l0 l1 T c) :
    Good P ok0 w0 X N o a w (((s.setr (d, s.g d) ⟨T, 1, l1.length, i64s l1, 0, true⟩).bump d).set d (.pr [.dt (.sl l0.length (i64s l0)), .row (d, s.g d) 0] (.dt (.lit (.int .i64 c))))) := by
  intro K Q hK
  obtain ⟨hfok, hf⟩ := hf
  have hfit := h.toRVs ha
  unfold Oper.wp
  rw [run_enter ho hfok, Oper.upon_enter]
  have hcall := hf (okS ok0 w0.heap.size vb rb s w) w (args.toList.map a.eval) (fun k hk => hk.2.1) hfit
  have hargs : (args.toList.map a.eval).toArray = args.map a.eval := by rw [← Array.toList_map]
  rw [hargs] at hcall
  refine hcall.mono fun e w' ⟨v0, v1, us, he, hr0, ho1, hf1, hb⟩ => ?_
  subst he
  have hlt := ho1.lt
  have ho1' : w'.ownsRow w0.heap.size T 1 v1 l1.length us := by
    refine ⟨ho1.1, ?_⟩
    rcases ho1.2 with h1 | ⟨g, cap, cur, e1, e2, e3⟩
    · exact .inl h1
    · exact .inr ⟨g, cap, cur, e1, Nat.le_trans h.below.size e2, e3⟩
  have hn := h.newroww d hb ⟨T, 1, l1.length, i64s l1, 0, true⟩ v1 us ho1' (hf1.imp fun d u hd => hd.mono fun k hk => hk.elim) (fun k hk => (hlt k hk).1)
  have hrd : Rep w' (okS ok0 w0.heap.size vb (fun y => if y = (d, s.g d) then v1 else rb y) ((s.setr (d, s.g d) ⟨T, 1, l1.length, i64s l1, 0, true⟩).bump d) w') (.sl l0.length (i64s l0)) v0 := by
    refine hr0.mono fun k hk => ⟨?_, rfl⟩
    have hold : ∀ r row, s.r r = some row → r ≠ (d, s.g d) := fun r row hr e => by rw [e, (h.wf d (s.g d) (Nat.le_refl _)).2.1] at hr; cases hr
    have hsr : ∀ y, ((s.setr (d, s.g d) ⟨T, 1, l1.length, i64s l1, 0, true⟩).bump d).r y = if y = (d, s.g d) then some ⟨T, 1, l1.length, i64s l1, 0, true⟩ else s.r y := fun y => rfl
    have hnew : okS ok0 w0.heap.size vb rb s w' k := by
      rcases hk.1 with h1 | ⟨h1, h2⟩
      · exact okS_grow h1 hb.size
      · exact h.fresh h1 h2
    refine ⟨hnew.1, hnew.2.1, hnew.2.2.1, fun y row hy hl e => ?_⟩
    rw [hsr] at hy
    by_cases e1 : y = (d, s.g d)
    · simp only [e1, if_true] at e
      exact hk.2 e
    · rw [if_neg e1] at hy
      simp only [e1, if_false] at e
      exact hnew.2.2.2 y row hy hl e
  have hn2 := hn.set d (hd d hdst) (.pr [.dt (.sl l0.length (i64s l0)), .row (d, s.g d) 0] (.dt (.lit (.int .i64 c)))) (.tuple #[.agg #[v0, v1], .int .i64 c])
    ⟨[v0, v1], .int .i64 c, rfl, Fits.cons hrd (Fits.cons ⟨_, if_pos rfl, Nat.le_refl _, fun _ => by simp⟩ (Fits.nil _)), fun x hx => by
      simp at hx
      rcases hx with rfl | rfl
      · exact hr0.one
      · exact own_one ho1, .lit _ rfl, rfl⟩
  rw [← hdst] at hn2
  exact hK _ _ _ _ hn2

theorem spec_good (h : Sat ok0 w0 X N vb rb s a w) {o : Oper} (hd : ∀ d, o.dst = some d → d < N) (hb : spec0 P o.dst o.op s s') : Good P ok0 w0 X N o a w s' := by
  unfold spec0 at hb
  split at hb
  · rename_i f args Ts ho
    rcases hb with ⟨d, avs, l, h1, h2, h3, rfl⟩ | ⟨d, avs, l0, l1, T, c, h1, h2, h3, rfl⟩ | ⟨a0, xs, x, off, n, l, avs, l', rs, h1, h2, h3, h4, h5, h6, rfl⟩ | ⟨r, avs, rs, h1, h2, rfl⟩
    · exact good_ocall h hd f args Ts ho d avs l h1 h2 h3
    · exact good_tcall h hd f args Ts ho d avs l0 l1 T c h1 h2 h3
    · exact good_wcall h hd f args Ts ho a0 xs x off n l avs l' rs h1 h2 h3 h4 h5 h6
    · intro K Q hK
      exact op_good (h.freeze r) o hd rs (by rw [ho]; exact ⟨avs, h1, h2⟩) K Q (by rw [ho]; exact hK)
  · exact good_specS h hd hb

theorem spec_step (h : Sat ok0 w0 X N vb rb s a w) (ops : Array Oper) (i : Nat) (hi : i < ops.size) (hN : ∀ o ∈ ops, ∀ d, o.dst = some d → d < N) (hb : spec P (ao ops i) s s')
    {K : Act → World → Prop} {Q : Exit → Act → World → Prop} (hK : ∀ vb' rb' a' w', Sat ok0 w0 X N vb' rb' s' a' w' → K a' w') : wpOp P ops Q i K a w := by
  have ho : ops[i]? = some ops[i] := Array.getElem?_eq_getElem hi
  generalize ops[i] = o at ho
  have hmem : o ∈ ops := Array.mem_of_getElem? ho
  unfold wpOp
  rw [ho]
  simp only
  unfold ao at hb
  rw [ho] at hb
  simp only at hb
  cases hg : o.guard with
  | none =>
    rw [hg] at hb
    have hw : Region.wanted o (yielded ops a.tmps) = true := by simp [Region.wanted, hg]
    rw [if_pos hw]
    exact .inl (spec_good h (hN o hmem) hb K Q hK)
  | some p =>
    obtain ⟨j, want⟩ := p
    rw [hg] at hb
    simp only at hb
    cases ht : (ops[j]?).bind (·.dst) with
    | none => rw [ht] at hb; exact hb.elim
    | some t =>
      rw [ht] at hb
      obtain ⟨hbv, hb⟩ : asG want (s.t t) = some want ∧ spec0 P o.dst o.op s s' := hb
      have hy : yielded ops a.tmps j = some want := by simp [yielded, ht, asB_eval h (asG_want hbv)]
      have hw : Region.wanted o (yielded ops a.tmps) = true := by simp [Region.wanted, hg, hy]
      rw [if_pos hw]
      exact .inl (spec_good h (hN o hmem) hb K Q hK)

theorem aops_sound (ops : Array Oper) (hN : ∀ o ∈ ops, ∀ d, o.dst = some d → d < N) {b : Bool} {K : AS → Prop} {Q : Exit → Act → World → Prop} (hQ : ∀ vb rb s a w, Sat ok0 w0 X N vb rb s a w → K s → Q .normal a w) :
    ∀ (l : List Nat), (∀ i ∈ l, i < ops.size) → ∀ (vb : Nat × Nat → Nat) (rb : Nat × Nat → Value) (s : AS) (a : Act) (w : World), Sat ok0 w0 X N vb rb s a w → aops P b (l.map (ao ops)) K s → wpOps P ops Q l a w
  | [], _, vb, rb, s, a, w, h, hk => hQ vb rb s a w h hk
  | i :: l, hl, vb, rb, s, a, w, h, hk => by
    rw [wpOps_cons]
    rcases hk with ⟨rs, h1, h2⟩ | ⟨_, s', h1, h2⟩
    · exact step_sound h ops i (hl i (by simp)) hN rs h1 fun vb' rb' a' w' h' => aops_sound ops hN hQ l (fun j hj => hl j (by simp [hj])) vb' rb' _ a' w' h' h2
    · exact spec_step h ops i (hl i (by simp)) hN h1 fun vb' rb' a' w' h' => aops_sound ops hN hQ l (fun j hj => hl j (by simp [hj])) vb' rb' _ a' w' h' h2
end

/-! ### steps of the proof alone -/
inductive Gh where
  | frz (t : Nat)                                -- the row in a temporary is only read from now on
  | frzc (t i : Nat)                             -- the row in a cell of the variable at which a temporary points
  | frzv (t : Nat)                               -- the variable at which a temporary points
  | nilt (t : Nat) (e : TypeId) (sz : Nat)       -- nil, xs an empty row
  | nilv (t i k : Nat) (e : TypeId) (sz : Nat)   -- nil in a cell of the variable at which a temporary points, xs an empty row (k, ..)
def frzC (s : AS) : Option Ce → AS
  | some (.row r _) => s.freeze r
  | _ => s
def ghO (g : Gh) (s : AS) : Prop := match g with
  | .nilt t _ _ => match s.t t with
    | .one .z => True
    | _ => False
  | .nilv t i _ _ _ => match s.t t with
    | .ptr x _ => s.f x = false ∧ (match s.v x with
      | some cs => cs[i]? = some .z
      | none => False)
    | _ => False
  | _ => True
def ghE (g : Gh) (s : AS) : AS := match g with
  | .frz t => match s.t t with
    | .one (.row r _) => s.freeze r
    | _ => s
  | .frzc t i => match s.t t with
    | .ptr x _ => match s.v x with
      | some cs => frzC s cs[i]?
      | none => s
    | _ => s
  | .frzv t => match s.t t with
    | .ptr x _ => match s.v x with
      | some _ => s.freezev x
      | none => s
    | .sv x _ _ => match s.v x with
      | some _ => s.freezev x
      | none => s
    | _ => s
  | .nilt t e sz => ((s.setr (t, s.g t) ⟨e, sz, 0, [], 0, true⟩).bump t).set t (.one (.row (t, s.g t) 0))
  | .nilv t i k e sz => match s.t t with
    | .ptr x _ => match s.v x with
      | some cs => ((s.setr (k, s.g k) ⟨e, sz, 0, [], 0, true⟩).bump k).setv x (cs.set i (.row (k, s.g k) 0))
      | none => s
    | _ => s
def ghs : List Gh → (AS → Prop) → AS → Prop
  | [], Q, s => Q s
  | g :: gs, Q, s => ghO g s ∧ ghs gs Q (ghE g s)

/-! ### compact code -/
/-- the ways through a region that draws its order -/
inductive XT where
  | leaf
  | stuck
  | nil
  | br (o : AO) (t r : XT)
def xtree (ops : Array Oper) : Nat → Array Bool → XT
  | 0, L => if (Region.ready .any ops L).isEmpty then .leaf else .stuck
  | n + 1, L => if (Region.ready .any ops L).isEmpty then .leaf else (Region.ready .any ops L).foldr (fun i r => .br (ao ops i) (xtree ops n (L.setIfInBounds i true)) r) .nil
/-- an operation that is ready, and independent of all that is left and doesn't wait for it, may come first -/
def pickOK (ops : Array Oper) (L : Array Bool) (o : Nat) : Bool := (List.range ops.size).all fun j => L.getD j true || j == o || ((ops[j]?).map fun p => p.after.toList.any fun e => Region.binds .any e && e.on == o).getD false || indep (ao ops o) (ao ops j)
/-- the ways that can differ -/
def rtree (ops : Array Oper) : Nat → Array Bool → XT
  | 0, L => if (Region.ready .any ops L).isEmpty then .leaf else .stuck
  | n + 1, L => if (Region.ready .any ops L).isEmpty then .leaf else match (Region.ready .any ops L).find? (pickOK ops L) with
    | some i => .br (ao ops i) (rtree ops n (L.setIfInBounds i true)) .nil
    | none => (Region.ready .any ops L).foldr (fun i r => .br (ao ops i) (rtree ops n (L.setIfInBounds i true)) r) .nil
def xrun (P : Program) : XT → (AS → Prop) → AS → Prop
  | .leaf, Q, s => Q s
  | .stuck, _, _ => False
  | .nil, _, _ => True
  | .br o t r, Q, s => aops P false [o] (fun s' => xrun P t Q s') s ∧ xrun P r Q s
inductive AC where
  | skip
  | reg (l : List AO)
  | dreg (l : List AO)      -- a region that draws its order
  | xreg (t : XT)           -- such a region, way by way
  | gh (gs : List Gh)
  | seq (x y : AC)
  | cond (c : Operand) (x y : AC)
  | block (id : Nat) (x : AC)
  | loop (x : AC)
  | exit (id : Nat)
  | ret
  | bad

def regOK (N : Nat) (ops : Array Oper) (draw : Bool) : Bool := dstOK N ops && (!draw || drawOK ops)
def comp (N : Nat) : Code → AC
  | .skip => .skip
  | .region _ ops draw => if regOK N ops draw = true then (match draw with
    | true => .dreg ((List.range ops.size).map (ao ops))
    | false => .reg ((List.range ops.size).map (ao ops))) else if (draw && dstOK N ops && decide (ops.size ≤ 40)) = true then .xreg (rtree ops ops.size (Array.replicate ops.size false)) else .bad
  | .seq x y => .seq (comp N x) (comp N y)
  | .cond c x y => .cond c (comp N x) (comp N y)
  | .block id x => .block id (comp N x)
  | .loop x => .loop (comp N x)
  | .exit id => .exit id
  | .ret => .ret
  | _ => .bad
/-- code without the steps of the proof: a step stands ahead of something, in a sequence -/
def AC.bare : AC → AC
  | .seq (.gh _) y => y.bare
  | .seq x y => .seq x.bare y.bare
  | .cond c x y => .cond c x.bare y.bare
  | .block id x => .block id x.bare
  | .loop x => .loop x.bare
  | .gh _ => .gh []
  | c => c

section
variable {ok0 : Nat → Prop} {w0 w w' : World} {X N : Nat} {vb : Nat × Nat → Nat} {rb : Nat × Nat → Value} {s s' : AS} {a : Act} {P : Program}

/-- a temporary is seen xs another thing -/
theorem Sat.reval (h : Sat ok0 w0 X N vb rb s a w) (d : Nat) (x : AV) (hx : MV w (okS ok0 w0.heap.size vb rb s w) vb rb s x (a.tmps.getD d undef)) : Sat ok0 w0 X N vb rb (s.set d x) a w where
  below := h.below
  ok0lt := h.ok0lt
  wf := h.wf
  defers := h.defers
  size := h.size
  var := h.var
  row := h.row
  vv := h.vv
  vr := h.vr
  rr := h.rr
  pin := h.pin
  tmp := fun t => by
    have ht := h.tmp t
    show MV w (okS ok0 w0.heap.size vb rb s w) vb rb s (if t = d then x else s.t t) (a.tmps.getD t undef)
    by_cases e : t = d
    · rw [if_pos e, e]; exact hx
    · rw [if_neg e]; exact ht

theorem Sat.gh (h : Sat ok0 w0 X N vb rb s a w) (g : Gh) (hg : ghO g s) : ∃ rb', Sat ok0 w0 X N vb rb' (ghE g s) a w := by
  cases g with
  | frz t =>
    unfold ghE
    dsimp only
    split
    · exact ⟨rb, h.freeze _⟩
    · exact ⟨rb, h⟩
  | frzc t i =>
    unfold ghE
    dsimp only
    split
    · split
      · unfold frzC
        split
        · exact ⟨rb, h.freeze _⟩
        · exact ⟨rb, h⟩
      · exact ⟨rb, h⟩
    · exact ⟨rb, h⟩
  | frzv t =>
    unfold ghE
    dsimp only
    split
    · split
      · rename_i cs hx
        exact ⟨rb, h.freezev _ hx⟩
      · exact ⟨rb, h⟩
    · split
      · rename_i cs hx
        exact ⟨rb, h.freezev _ hx⟩
      · exact ⟨rb, h⟩
    · exact ⟨rb, h⟩
  | nilt t e sz =>
    simp only [ghO] at hg
    split at hg
    · rename_i ht
      have hv := h.tmp t
      rw [ht] at hv
      have hn := h.newrow (w' := w) t ⟨rfl, rfl, rfl, Nat.le_refl _, fun _ _ _ => rfl⟩ ⟨e, sz, 0, [], 0, true⟩ (.slice none 0 0) [] (World.ownsRow_nil w _ _ _) (Fits.nil _) (.inl rfl)
      refine ⟨_, hn.reval t _ ⟨⟨_, if_pos rfl, Nat.le_refl _, fun _ => ?_⟩, hv.2⟩⟩
      simp only [if_true]
      exact hv.1
    · exact hg.elim
  | nilv t i k e sz =>
    simp only [ghO] at hg
    split at hg
    · rename_i x off ht
      obtain ⟨hf, hg⟩ := hg
      split at hg
      · rename_i cs hx
        have hn := h.newrow (w' := w) k ⟨rfl, rfl, rfl, Nat.le_refl _, fun _ _ _ => rfl⟩ ⟨e, sz, 0, [], 0, true⟩ (.slice none 0 0) [] (World.ownsRow_nil w _ _ _) (Fits.nil _) (.inl rfl)
        have hx1 : ((s.setr (k, s.g k) ⟨e, sz, 0, [], 0, true⟩).bump k).v x = some cs := hx
        obtain ⟨_, us, T, hh, hfit, h1⟩ := hn.var x cs hx1
        have hlen : (cs.set i (.row (k, s.g k) 0)).length = cs.length := List.length_set
        have hst := hn.storew (w' := w) hx1 hf ⟨rfl, rfl, rfl, Nat.le_refl _, fun _ _ _ => rfl⟩ (cs.set i (.row (k, s.g k) 0)) us T hh (by
          rw [hlen]
          refine ⟨by rw [hlen]; exact hfit.1, fun j u y hu hy => ?_⟩
          rw [List.getElem?_set] at hy
          split at hy
          · rename_i e1
            split at hy
            · cases hy
              subst e1
              have hz := hfit.2 _ u .z hu hg
              refine ⟨_, if_pos rfl, Nat.le_refl _, fun _ => ?_⟩
              simp only [if_true]
              exact hz
            · cases hy
          · exact hfit.2 j u y hu hy) (by rw [hlen]; exact h1)
        refine ⟨fun y => if y = (k, s.g k) then .slice none 0 0 else rb y, ?_⟩
        unfold ghE
        simp only [ht, hx]
        exact hst
      · exact hg.elim
    · exact hg.elim
theorem Sat.ghs {Q : AS → Prop} : ∀ (gs : List Gh) {rb : Nat × Nat → Value} {s : AS}, Sat ok0 w0 X N vb rb s a w → ghs gs Q s → ∃ rb' s', Sat ok0 w0 X N vb rb' s' a w ∧ Q s'
  | [], rb, s, h, hq => ⟨rb, s, h, hq⟩
  | g :: gs, rb, s, h, hq => by
    obtain ⟨rb', h'⟩ := h.gh g hq.1
    exact Sat.ghs gs h' hq.2
end

/-! ### what holds behind code -/
inductive AEx where
  | normal
  | exit (id : Nat)
  | ret
def AEx.then (y : AS → Prop) (K : AEx → AS → Prop) : AEx → AS → Prop
  | .normal, s => y s
  | e, s => K e s
def AEx.blk (id : Nat) (K : AEx → AS → Prop) : AEx → AS → Prop
  | .exit i, s => if i = id then K .normal s else K (.exit i) s
  | e, s => K e s
def toEx : AEx → Exit
  | .normal => .normal
  | .exit id => .exit id
  | .ret => .ret

def awp (P : Program) : AC → (AEx → AS → Prop) → AS → Prop
  | .skip, K, s => K .normal s
  | .reg l, K, s => aops P true l (K .normal) s
  | .dreg l, K, s => aops P false l (K .normal) s
  | .xreg t, K, s => xrun P t (K .normal) s
  | .gh gs, K, s => ghs gs (K .normal) s
  | .seq x y, K, s => awp P x (AEx.then (awp P y K) K) s
  | .cond c x y, K, s => ∃ b, asB (s.ev c) = some b ∧ (b = true → awp P x K s) ∧ (b = false → awp P y K s)
  | .block id x, K, s => awp P x (AEx.blk id K) s
  | .loop x, K, s => ∃ (I : Nat → AS → Prop) (n : Nat), I n s ∧ ∀ n s, s.wf → I n s → awp P x (AEx.then (fun s' => ∃ n', n' < n ∧ I n' s') K) s
  | .exit id, K, s => K (.exit id) s
  | .ret, K, s => K .ret s
  | .bad, _, _ => False

section
variable {ok0 : Nat → Prop} {w0 w w' : World} {X N : Nat} {vb : Nat × Nat → Nat} {rb : Nat × Nat → Value} {s s' : AS} {a : Act} {P : Program}

/-- Q takes what K says -/
def Takes (ok0 : Nat → Prop) (w0 : World) (X N : Nat) (K : AEx → AS → Prop) (Q : Exit → Act → World → Prop) : Prop :=
  ∀ e vb rb s a w, Sat ok0 w0 X N vb rb s a w → K e s → Q (toEx e) a w

theorem xrun_mem (ops : Array Oper) {Q : AS → Prop} (f : Nat → XT) : ∀ (l : List Nat) (s : AS), xrun P (l.foldr (fun i r => .br (ao ops i) (f i) r) .nil) Q s → ∀ i ∈ l, ∃ rs, obl' P (ao ops i) s rs ∧ xrun P (f i) Q (eff' P (ao ops i) s rs)
  | [], _, _, _, hi => by simp at hi
  | j :: l, s, h, i, hi => by
    obtain ⟨h1, h2⟩ : aops P false [ao ops j] (fun s' => xrun P (f j) Q s') s ∧ xrun P (l.foldr (fun i r => .br (ao ops i) (f i) r) .nil) Q s := h
    rcases List.mem_cons.1 hi with rfl | hi
    · rcases h1 with ⟨rs, h3, h4⟩ | ⟨h3, _⟩
      · exact ⟨rs, h3, h4⟩
      · cases h3
    · exact xrun_mem ops f l s h2 i hi
theorem xrun_of (ops : Array Oper) {Q : AS → Prop} (f : Nat → XT) : ∀ (l : List Nat) (s : AS), (∀ i ∈ l, ∃ rs, obl' P (ao ops i) s rs ∧ xrun P (f i) Q (eff' P (ao ops i) s rs)) → xrun P (l.foldr (fun i r => .br (ao ops i) (f i) r) .nil) Q s
  | [], _, _ => trivial
  | j :: l, s, h => ⟨.inl (h j (by simp)), xrun_of ops f l s fun i hi => h i (by simp [hi])⟩
theorem ready_iff {ops : Array Oper} {L : Array Bool} {i : Nat} : i ∈ Region.ready .any ops L ↔ i < ops.size ∧ L.getD i true = false ∧ ∀ o, ops[i]? = some o → ∀ e ∈ o.after.toList, Region.binds .any e = true → L.getD e.on false = true := by
  unfold Region.ready
  simp only [List.mem_filter, List.mem_range, Bool.and_eq_true, Bool.not_eq_true']
  constructor
  · intro ⟨hlt, h1, h2⟩
    refine ⟨hlt, h1, fun o ho e he hb => ?_⟩
    rw [ho] at h2
    simp only [Option.map_some, Option.getD_some] at h2
    have := Array.all_eq_true_iff_forall_mem.1 h2 e (by simpa using he)
    simpa [hb] using this
  · intro ⟨hlt, h1, h2⟩
    refine ⟨hlt, h1, ?_⟩
    have ho : ops[i]? = some ops[i] := Array.getElem?_eq_getElem hlt
    rw [ho]
    simp only [Option.map_some, Option.getD_some]
    refine Array.all_eq_true_iff_forall_mem.2 fun e he => ?_
    cases hb : Region.binds .any e with
    | false => rfl
    | true => simpa [hb] using h2 _ ho e (by simpa using he) hb
theorem set_getD {L : Array Bool} {o i : Nat} {d : Bool} (h : i ≠ o) : (L.setIfInBounds o true).getD i d = L.getD i d := by
  simp only [Array.getD_eq_getD_getElem?, Array.getElem?_setIfInBounds]
  rw [if_neg (fun e => h e.symm)]
theorem ready_set {ops : Array Oper} {L : Array Bool} {i o : Nat} (hi : i ∈ Region.ready .any ops L) (h : i ≠ o) : i ∈ Region.ready .any ops (L.setIfInBounds o true) := by
  obtain ⟨h1, h2, h3⟩ := ready_iff.1 hi
  refine ready_iff.2 ⟨h1, by rw [set_getD h]; exact h2, fun p hp e he hb => ?_⟩
  have h4 := h3 p hp e he hb
  by_cases ho : e.on = o
  · rw [← ho]
    simp only [Array.getD_eq_getD_getElem?, Array.getElem?_setIfInBounds] at h4 ⊢
    split
    · split
      · rfl
      · rename_i hs
        rw [Array.getElem?_eq_none (by omega)] at h4
        simp at h4
    · exact h4
  · rw [set_getD ho]; exact h4
theorem pick_spec {ops : Array Oper} {L : Array Bool} {o j : Nat} (hp : pickOK ops L o = true) (hj : j ∈ Region.ready .any ops L) (hne : j ≠ o) (ho : L.getD o false = false) : indep (ao ops o) (ao ops j) = true := by
  obtain ⟨h1, h2, h3⟩ := ready_iff.1 hj
  have := List.all_eq_true.1 hp j (List.mem_range.2 h1)
  simp only [Bool.or_eq_true, beq_iff_eq] at this
  rcases this with ((h | h) | h) | h
  · rw [h2] at h; cases h
  · exact absurd h hne
  · exfalso
    have hop : ops[j]? = some ops[j] := Array.getElem?_eq_getElem h1
    rw [hop] at h
    simp only [Option.map_some, Option.getD_some, List.any_eq_true, Bool.and_eq_true, beq_iff_eq] at h
    obtain ⟨e, he, hb, hon⟩ := h
    have := h3 _ hop e he hb
    rw [hon, ho] at this
    cases this
  · exact h
theorem pick_set {ops : Array Oper} {L : Array Bool} {o i : Nat} (hp : pickOK ops L o = true) : pickOK ops (L.setIfInBounds i true) o = true := by
  refine List.all_eq_true.2 fun j hj => ?_
  have := List.all_eq_true.1 hp j hj
  simp only [Bool.or_eq_true] at this ⊢
  rcases this with ((h | h) | h) | h
  · by_cases e : j = i
    · subst e
      refine .inl (.inl (.inl ?_))
      simp only [Array.getD_eq_getD_getElem?, Array.getElem?_setIfInBounds] at h ⊢
      simp only [if_true]
      split <;> rfl
    · exact .inl (.inl (.inl (by rw [set_getD e]; exact h)))
  · exact .inl (.inl (.inr h))
  · exact .inl (.inr h)
  · exact .inr h
theorem getD_false {L : Array Bool} {i : Nat} (h : L.getD i true = false) : L.getD i false = false := by
  simp only [Array.getD_eq_getD_getElem?] at h ⊢
  cases hl : L[i]? with
  | none => rfl
  | some b => rw [hl] at h; simpa using h
/-- what may come first, stands for all ways -/
theorem first_sound (ops : Array Oper) (hN : ∀ o ∈ ops, ∀ d, o.dst = some d → d < N) {K : AS → Prop} (o : Nat) :
    ∀ (n : Nat) (L : Array Bool) (vb : Nat × Nat → Nat) (rb : Nat × Nat → Value) (s : AS) (a : Act) (w : World), Sat ok0 w0 X N vb rb s a w → o ∈ Region.ready .any ops L → pickOK ops L o = true →
      (∃ rs, obl' P (ao ops o) s rs ∧ xrun P (xtree ops n (L.setIfInBounds o true)) K (eff' P (ao ops o) s rs)) → xrun P (xtree ops (n + 1) L) K s := by
  intro n
  induction n with
  | zero =>
    intro L vb rb s a w h ho hp ⟨rs, h1, h2⟩
    have hne : ¬ (Region.ready .any ops L).isEmpty = true := fun e => by rw [List.isEmpty_iff.1 e] at ho; simp at ho
    unfold xtree
    rw [if_neg hne]
    refine xrun_of ops _ _ s fun i hi => ?_
    by_cases e : i = o
    · subst e; exact ⟨rs, h1, h2⟩
    · exfalso
      have := ready_set hi e
      unfold xtree at h2
      rw [if_neg (fun e => by rw [List.isEmpty_iff.1 e] at this; simp at this)] at h2
      exact h2
  | succ m ih =>
    intro L vb rb s a w h ho hp ⟨rs, h1, h2⟩
    have hne : ¬ (Region.ready .any ops L).isEmpty = true := fun e => by rw [List.isEmpty_iff.1 e] at ho; simp at ho
    unfold xtree
    rw [if_neg hne]
    refine xrun_of ops _ _ s fun i hi => ?_
    by_cases e : i = o
    · subst e; exact ⟨rs, h1, h2⟩
    · have hi' := ready_set hi e
      have h3 := h2
      unfold xtree at h3
      rw [if_neg (fun e => by rw [List.isEmpty_iff.1 e] at hi'; simp at hi')] at h3
      obtain ⟨ri, h4, h5⟩ := xrun_mem ops _ _ _ h3 i hi'
      have hind := pick_spec hp hi e (getD_false (ready_iff.1 ho).2.1)
      obtain ⟨x1, x2, x3⟩ := swap (P := P) h hind h1 h4
      obtain ⟨vb', rb', a', w', h'⟩ := live_step (P := P) h ops i (ready_iff.1 hi).1 hN ri x1
      refine ⟨ri, x1, ih (L.setIfInBounds i true) vb' rb' _ a' w' h' (ready_set ho (fun e' => e e'.symm)) (pick_set hp) ⟨rs, x2, ?_⟩⟩
      rw [x3, Array.setIfInBounds_comm _ _ e]
      exact h5
/-- the ways that can differ stand for all of them -/
theorem rtree_sound (ops : Array Oper) (hN : ∀ o ∈ ops, ∀ d, o.dst = some d → d < N) {K : AS → Prop} :
    ∀ (n : Nat) (L : Array Bool) (vb : Nat × Nat → Nat) (rb : Nat × Nat → Value) (s : AS) (a : Act) (w : World), Sat ok0 w0 X N vb rb s a w → xrun P (rtree ops n L) K s → xrun P (xtree ops n L) K s
  | 0, L, _, _, _, _, _, _, hk => hk
  | n + 1, L, vb, rb, s, a, w, h, hk => by
    unfold rtree at hk
    split at hk
    · rename_i hr
      unfold xtree
      rw [if_pos hr]
      exact hk
    · rename_i hr
      split at hk
      · rename_i i hf
        have hi := List.mem_of_find?_eq_some hf
        have hp := List.find?_some hf
        obtain ⟨h1, _⟩ := hk
        rcases h1 with ⟨rs, h2, h3⟩ | ⟨h2, _⟩
        · obtain ⟨vb', rb', a', w', h'⟩ := live_step (P := P) h ops i (ready_iff.1 hi).1 hN rs h2
          exact first_sound ops hN i n L vb rb s a w h hi hp ⟨rs, h2, rtree_sound ops hN n _ vb' rb' _ a' w' h' h3⟩
        · cases h2
      · unfold xtree
        rw [if_neg hr]
        refine xrun_of ops _ _ s fun i hi => ?_
        obtain ⟨rs, h2, h3⟩ := xrun_mem ops _ _ s hk i hi
        obtain ⟨vb', rb', a', w', h'⟩ := live_step (P := P) h ops i (ready_iff.1 hi).1 hN rs h2
        exact ⟨rs, h2, rtree_sound ops hN n _ vb' rb' _ a' w' h' h3⟩
theorem xsound (ops : Array Oper) (hN : ∀ o ∈ ops, ∀ d, o.dst = some d → d < N) {K : AS → Prop} {Q : Exit → Act → World → Prop} (hQ : ∀ vb rb s a w, Sat ok0 w0 X N vb rb s a w → K s → Q .normal a w) :
    ∀ (fuel : Nat) (L : Array Bool) (vb : Nat × Nat → Nat) (rb : Nat × Nat → Value) (s : AS) (a : Act) (w : World), Sat ok0 w0 X N vb rb s a w → xrun P (xtree ops fuel L) K s → wpAny P .any ops Q fuel L a w
  | 0, L, vb, rb, s, a, w, h, hk => by
    unfold xtree at hk
    split at hk
    · rename_i hr
      exact ⟨List.isEmpty_iff.1 hr, hQ vb rb s a w h hk⟩
    · exact hk.elim
  | fuel + 1, L, vb, rb, s, a, w, h, hk => by
    unfold xtree at hk
    split at hk
    · rename_i hr
      have hr' := List.isEmpty_iff.1 hr
      refine ⟨fun _ => hQ vb rb s a w h hk, fun i hi => ?_⟩
      rw [hr'] at hi; simp at hi
    · rename_i hr
      refine ⟨fun e => absurd (by rw [e]; rfl) hr, fun i hi => ?_⟩
      have hlt : i < ops.size := by
        have hi' := hi
        unfold Region.ready at hi'
        exact List.mem_range.1 (List.mem_filter.1 hi').1
      obtain ⟨rs, h1, h2⟩ := xrun_mem ops _ _ s hk i hi
      exact step_sound (P := P) h ops i hlt hN rs h1 fun vb' rb' a' w' h' => xsound ops hN hQ fuel _ vb' rb' _ a' w' h' h2
theorem awp_sound (hm : P.follows .mixedOrders = true) : ∀ (x : AC) (c : Code), x.bare = comp N c → ∀ {K : AEx → AS → Prop} {Q : Exit → Act → World → Prop}, Takes ok0 w0 X N K Q → ∀ {vb : Nat × Nat → Nat} {rb : Nat × Nat → Value} {s : AS} {a : Act} {w : World}, Sat ok0 w0 X N vb rb s a w → awp P x K s → c.wp P Q a w := by
  have reg : ∀ (l : List AO) (id : Nat) (ops : Array Oper) (draw : Bool), AC.reg l = comp N (.region id ops draw) → ∀ {K : AEx → AS → Prop} {Q : Exit → Act → World → Prop}, Takes ok0 w0 X N K Q → ∀ {vb : Nat × Nat → Nat} {rb : Nat × Nat → Value} {s : AS} {a : Act} {w : World}, Sat ok0 w0 X N vb rb s a w → awp P (.reg l) K s → (Code.region id ops draw).wp P Q a w := by
    intro l id ops draw e K Q hQ vb rb s a w h hk
    by_cases hr : regOK N ops draw = true
    · simp only [comp, hr, if_true] at e
      cases draw with
      | true => simp at e
      | false =>
        simp only [AC.reg.injEq] at e
        subst e
        have hk' : aops P true ((List.range ops.size).map (ao ops)) (K .normal) s := hk
        simp only [regOK, Bool.and_eq_true] at hr
        have hN := dstOK_spec hr.1
        exact wp_region (aops_sound (P := P) ops hN (fun vb rb s a w h hk => hQ .normal vb rb s a w h hk) _ (fun i hi => List.mem_range.1 hi) vb rb s a w h hk')
    · simp only [comp] at e
      rw [if_neg hr] at e
      split at e <;> cases e
  have dreg : ∀ (l : List AO) (id : Nat) (ops : Array Oper) (draw : Bool), AC.dreg l = comp N (.region id ops draw) → ∀ {K : AEx → AS → Prop} {Q : Exit → Act → World → Prop}, Takes ok0 w0 X N K Q → ∀ {vb : Nat × Nat → Nat} {rb : Nat × Nat → Value} {s : AS} {a : Act} {w : World}, Sat ok0 w0 X N vb rb s a w → awp P (.dreg l) K s → (Code.region id ops draw).wp P Q a w := by
    intro l id ops draw e K Q hQ vb rb s a w h hk
    by_cases hr : regOK N ops draw = true
    · simp only [comp, hr, if_true] at e
      cases draw with
      | false => simp at e
      | true =>
        simp only [AC.dreg.injEq] at e
        subst e
        have hk' : dops P ((List.range ops.size).map (ao ops)) (K .normal) s := dops_of _ _ hk
        simp only [regOK, Bool.and_eq_true, Bool.or_eq_true, Bool.not_eq_true'] at hr
        have hN := dstOK_spec hr.1
        have hD : drawOK ops = true := by simpa using hr.2
        refine wp_region_any hm (any_sound (P := P) ops hN hD (fun vb rb s a w h hk => hQ .normal vb rb s a w h hk) ops.size _ (by simp) ?_ ?_ vb rb s a _ (h.world ⟨rfl, rfl, rfl, Nat.le_refl _, fun _ _ => rfl⟩) ?_)
        · unfold remL
          exact Nat.le_trans (List.length_filter_le _ _) (by simp)
        · intro k o ho hk
          have : k < ops.size := (Array.getElem?_eq_some_iff.1 ho).1
          simp [Array.getD, this] at hk
        · have : remL ops.size (Array.replicate ops.size false) = List.range ops.size := by
            unfold remL
            apply List.filter_eq_self.2
            intro i hi
            have : i < ops.size := List.mem_range.1 hi
            simp [Array.getD, this]
          rw [this]; exact hk'
    · simp only [comp] at e
      rw [if_neg hr] at e
      split at e <;> cases e
  have notreg : ∀ {x : AC} {id : Nat} {ops : Array Oper} {draw : Bool}, x = comp N (.region id ops draw) → x = .bad ∨ (∃ t, x = .xreg t) ∨ ∃ l, x = .reg l ∨ x = .dreg l := by
    intro x id ops draw e
    by_cases hr : regOK N ops draw = true
    · simp only [comp, hr, if_true] at e
      cases draw with
      | true => exact .inr (.inr ⟨_, .inr e⟩)
      | false => exact .inr (.inr ⟨_, .inl e⟩)
    · simp only [comp] at e
      rw [if_neg hr] at e
      split at e
      · exact .inr (.inl ⟨_, e⟩)
      · exact .inl e
  intro x
  induction x with
  | skip =>
    intro c e K Q hQ vb rb s a w h hk
    cases c with
    | skip => exact wp_skip (hQ .normal _ _ _ _ _ h hk)
    | region => rcases notreg e with e | ⟨_, e⟩ | ⟨_, e | e⟩ <;> cases e
    | _ => cases e
  | reg l =>
    intro c e K Q hQ vb rb s a w h hk
    cases c with
    | region => exact reg l _ _ _ e hQ h hk
    | _ => cases e
  | dreg l =>
    intro c e K Q hQ vb rb s a w h hk
    cases c with
    | region => exact dreg l _ _ _ e hQ h hk
    | _ => cases e
  | xreg t =>
    intro c e K Q hQ vb rb s a w h hk
    cases c with
    | region id ops draw =>
      have e' : AC.xreg t = comp N (.region id ops draw) := e
      by_cases hr : regOK N ops draw = true
      · simp only [comp, hr, if_true] at e'
        cases draw <;> simp at e'
      · simp only [comp] at e'
        rw [if_neg hr] at e'
        · split at e'
          · rename_i hc
            simp only [Bool.and_eq_true] at hc
            obtain ⟨⟨rfl, hd⟩, _⟩ := hc
            cases e'
            exact wp_region_any hm (xsound (P := P) ops (dstOK_spec hd) (fun vb rb s a w h hk => hQ .normal vb rb s a w h hk) ops.size _ vb rb s a _ (h.world ⟨rfl, rfl, rfl, Nat.le_refl _, fun _ _ => rfl⟩) (rtree_sound (P := P) ops (dstOK_spec hd) _ _ vb rb s a _ h hk))
          · cases e'
    | _ => cases e
  | gh gs =>
    intro c e K Q hQ vb rb s a w h hk
    cases c with
    | region => rcases notreg e with e | ⟨_, e⟩ | ⟨_, e | e⟩ <;> cases e
    | _ => cases e
  | seq x y ihx ihy =>
    intro c e K Q hQ vb rb s a w h hk
    by_cases hx : ∃ gs, x = .gh gs
    · obtain ⟨gs, rfl⟩ := hx
      obtain ⟨rb', s', h', hk'⟩ := Sat.ghs gs h hk
      exact ihy c e hQ h' hk'
    · have e' : AC.seq x.bare y.bare = comp N c := by
        rw [← e]
        cases x <;> first | rfl | exact absurd ⟨_, rfl⟩ hx
      cases c with
      | seq c1 c2 =>
        simp only [comp, AC.seq.injEq] at e'
        refine wp_seq (ihx c1 e'.1 (K := AEx.then (awp P y K) K) ?_ h hk)
        intro e vb rb s a w h hk
        cases e with
        | normal => exact ihy c2 e'.2 hQ h hk
        | exit id => exact hQ (.exit id) _ _ _ _ _ h hk
        | ret => exact hQ .ret _ _ _ _ _ h hk
      | region => rcases notreg e' with e | ⟨_, e⟩ | ⟨_, e | e⟩ <;> cases e
      | _ => cases e'
  | cond k x y ihx ihy =>
    intro c e K Q hQ vb rb s a w h hk
    cases c with
    | cond k' c1 c2 =>
      simp only [comp, AC.bare, AC.cond.injEq] at e
      obtain ⟨rfl, e1, e2⟩ := e
      obtain ⟨b, hb, h1, h2⟩ := hk
      have hv := h.ev k
      have hc : a.eval k = .bool b := by
        unfold asB at hb
        split at hb
        · rename_i b' he
          cases hb
          rw [he] at hv
          exact lit_of hv
        · cases hb
      exact wp_cond_split hc (fun e => ihx c1 e1 hQ h (h1 e)) (fun e => ihy c2 e2 hQ h (h2 e))
    | region => rcases notreg e with e | ⟨_, e⟩ | ⟨_, e | e⟩ <;> cases e
    | _ => cases e
  | block id x ih =>
    intro c e K Q hQ vb rb s a w h hk
    cases c with
    | block id' c1 =>
      simp only [comp, AC.bare, AC.block.injEq] at e
      obtain ⟨rfl, e1⟩ := e
      refine wp_block (ih c1 e1 (K := AEx.blk id K) ?_ h hk)
      intro e vb rb s a w h hk
      cases e with
      | normal => exact hQ .normal _ _ _ _ _ h hk
      | exit i =>
        simp only [AEx.blk] at hk
        show (if i = id then _ else _)
        by_cases e : i = id
        · rw [if_pos e] at hk ⊢; exact hQ .normal _ _ _ _ _ h hk
        · rw [if_neg e] at hk ⊢; exact hQ (.exit i) _ _ _ _ _ h hk
      | ret => exact hQ .ret _ _ _ _ _ h hk
    | region => rcases notreg e with e | ⟨_, e⟩ | ⟨_, e | e⟩ <;> cases e
    | _ => cases e
  | loop x ih =>
    intro c e K Q hQ vb rb s a w h hk
    cases c with
    | loop c1 =>
      simp only [comp, AC.bare, AC.loop.injEq] at e
      obtain ⟨I, n, h0, hround⟩ := hk
      refine wp_loop_ghost (fun n a w => ∃ vb rb s, Sat ok0 w0 X N vb rb s a w ∧ I n s) n ⟨vb, rb, s, h, h0⟩ ?_
      intro n a w ⟨vb, rb, s, h, hi⟩
      refine ih c1 e (K := AEx.then (fun s' => ∃ n', n' < n ∧ I n' s') K) ?_ h (hround n s h.wf hi)
      intro e vb rb s a w h hk
      cases e with
      | normal => obtain ⟨n', hlt, hi'⟩ := hk; exact ⟨n', hlt, vb, rb, s, h, hi'⟩
      | exit id => exact hQ (.exit id) _ _ _ _ _ h hk
      | ret => exact hQ .ret _ _ _ _ _ h hk
    | region => rcases notreg e with e | ⟨_, e⟩ | ⟨_, e | e⟩ <;> cases e
    | _ => cases e
  | exit id =>
    intro c e K Q hQ vb rb s a w h hk
    cases c with
    | exit id' => cases e; exact wp_exit (hQ (.exit id) _ _ _ _ _ h hk)
    | region => rcases notreg e with e | ⟨_, e⟩ | ⟨_, e | e⟩ <;> cases e
    | _ => cases e
  | ret =>
    intro c e K Q hQ vb rb s a w h hk
    cases c with
    | ret => exact wp_ret (hQ .ret _ _ _ _ _ h hk)
    | region => rcases notreg e with e | ⟨_, e⟩ | ⟨_, e | e⟩ <;> cases e
    | _ => cases e
  | bad => exact fun c e K Q hQ vb rb s a w h hk => hk.elim
end

/-! ### functions -/
/-- what a result variable reads xs -/
def resR (P : Program) (s : AS) : ResultVar → RV → Prop
  | .tmp t, r => toRV s (s.t t) = some r
  | .cell t T, r => tok P T = true ∧ ldO (tagg P T) (tsz P T) (acells s (s.t t)) ∧ toRV s (ldV (tagg P T) (tsz P T) (acells s (s.t t))) = some r
def resRs (P : Program) (s : AS) : List ResultVar → List RV → Prop
  | [], [] => True
  | x :: xs, r :: rs => resR P s x r ∧ resRs P s xs rs
  | _, _ => False
def start (args : List RV) : AS := { t := fun n => match args[n]? with | some r => r.toAV | none => .no, v := fun _ => none, r := fun _ => none, g := fun _ => 0, f := fun _ => false }

/-- a function, xs the texts of the proofs write it -/
structure AF where
  n : Nat
  np : Nat
  res : List ResultVar
  body : AC
def fcomp (P : Program) (f : Nat) : AF := match P.funcs[f]? with
  | some fn => match fn.body with
    | some c => ⟨fn.ntmps, fn.params.size, fn.results.toList, comp fn.ntmps c⟩
    | none => ⟨0, 0, [], .bad⟩
  | none => ⟨0, 0, [], .bad⟩

/-- the end of a function -/
def fend (P : Program) (res : List ResultVar) (rs : List RV) : AEx → AS → Prop
  | .exit _, _ => False
  | _, s => ∃ gs, ghs gs (fun s => resRs P s res rs) s

section
variable {ok0 : Nat → Prop} {w0 w w' : World} {X N : Nat} {vb : Nat × Nat → Nat} {rb : Nat × Nat → Value} {s s' : AS} {a : Act} {P : Program}

theorem rv_av {ok ok' : Nat → Prop} (hk : ∀ k, ok k → ok' k) {r : RV} {u : Value} (h : MR w ok r u) : MV w ok' vb rb s r.toAV u := by
  have hr' : MR w ok' r u := Ext.mr (fun k h => ⟨hk k h, rfl⟩) h
  cases r with
  | one d => exact ⟨hr', Rep.one hr'⟩
  | agg ds =>
    obtain ⟨us, e', hf'⟩ := hr'
    refine ⟨us, e', ⟨by simp [hf'.1], fun i v c hv hc => ?_⟩, fun v hv => ?_⟩
    · rw [List.getElem?_map] at hc
      cases hd' : ds[i]? with
      | none => rw [hd'] at hc; simp at hc
      | some d => rw [hd'] at hc; simp at hc; subst hc; exact hf'.2 i v d hv hd'
    · obtain ⟨i, hi⟩ := List.getElem?_of_mem hv
      have hlt : i < ds.length := by rw [← hf'.1]; exact (List.getElem?_eq_some_iff.1 hi).1
      exact (hf'.2 i v _ hi (List.getElem?_eq_getElem hlt)).one
theorem args_av {ok ok' : Nat → Prop} (hk : ∀ k, ok k → ok' k) {args : List RV} {vs : List Value} (hf : Fits (MR w ok) args vs) (t : Nat) (u : Value) (hu : ∀ v, vs[t]? = some v → u = v) : MV w ok' vb rb s ((start args).t t) u := by
  show MV w ok' vb rb s (match args[t]? with | some r => r.toAV | none => .no) u
  cases ht : args[t]? with
  | none => trivial
  | some r =>
    obtain ⟨v, hv, hr⟩ := hf.at_ ht
    rw [hu v hv]
    exact rv_av hk hr

theorem Sat.start (ok0 : Nat → Prop) (w0 : World) (hk : ∀ k, ok0 k → k < w0.heap.size) (args : List RV) (vs : List Value) (hf : Fits (MR w0 ok0) args vs) (N : Nat) (hN : args.length ≤ N) (vb : Nat × Nat → Nat) (rb : Nat × Nat → Value) :
    Sat ok0 w0 w0.heap.size N vb rb (start args) { tmps := vs.toArray ++ Array.replicate (N - vs.toArray.size) undef, defers := [] } w0 where
  below := ⟨rfl, rfl, rfl, Nat.le_refl _, fun _ _ _ => rfl⟩
  ok0lt := hk
  wf := fun d k _ => ⟨rfl, rfl, rfl⟩
  defers := rfl
  size := by simp [hf.1]; omega
  var := fun x cs hx => by cases hx
  row := fun x row hx => by cases hx
  vv := fun x y cs cs' hx => by cases hx
  vr := fun x cs r row hx => by cases hx
  rr := fun x row y row' hx => by cases hx
  pin := fun h => by have := hk _ h; omega
  tmp := fun t => args_av (fun k h1 => ⟨.inl h1, hk k h1, fun x cs hx _ _ => (Option.some_ne_none _ hx.symm).elim, fun x row hx _ _ => (Option.some_ne_none _ hx.symm).elim⟩) hf t _ fun v hv => by
    have hlt : t < vs.length := (List.getElem?_eq_some_iff.1 hv).1
    rw [Array.getD_eq_getD_getElem?, Array.getElem?_append_left (by simpa using hlt)]
    simp [hv]

/-- the start of a function whose first argument is written -/
def startw (l : List Int) (off n : Nat) (args : List RV) : AS := { t := fun i => match i with | 0 => .sv (0, 0) off n | i + 1 => (E.start args).t i, v := fun y => if y = (0, 0) then some (u32s l) else none, r := fun _ => none, g := fun d => if d = 0 then 1 else 0, f := fun _ => false }
theorem Sat.startw (ok : Nat → Prop) (w0 : World) (hk : ∀ k, ok k → k < w0.heap.size) (g : Nat) (hng : ¬ ok g) (us : Array Value) (T : TypeId) (hh : w0.heap[g]? = some (.cells us T (0, 0))) (l : List Int) (hl : us.toList.take l.length = u32v l) (o off n c : Nat) (hnc : n ≤ c) (ho : n ≠ 0 → o = off) (args : List RV) (vs : List Value) (hf : Fits (MR w0 ok) args vs) (N : Nat) (hN : args.length + 1 ≤ N) (rb : Nat × Nat → Value) :
    Sat (fun k => ok k ∨ k = g) w0 g N (fun _ => g) rb (E.startw l off n args) { tmps := (.slice (some ⟨g, o, none⟩) n c :: vs).toArray ++ Array.replicate (N - (.slice (some ⟨g, o, none⟩) n c :: vs).toArray.size) undef, defers := [] } w0 where
  below := ⟨rfl, rfl, rfl, Nat.le_refl _, fun _ _ _ => rfl⟩
  ok0lt := fun k h => h.elim (hk k) fun e => by rw [e]; exact heap_lt hh
  wf := fun d k h => ⟨if_neg fun e => by
    cases e
    have : (1 : Nat) ≤ 0 := h
    omega, rfl, rfl⟩
  defers := rfl
  size := by simp [hf.1]; omega
  var := fun x cs hx => by
    have hx' : (if x = (0, 0) then some (u32s l) else none) = some cs := hx
    split at hx'
    · cases hx'
      exact ⟨.inr ⟨rfl, .inr rfl⟩, us, T, hh, by rw [u32s_len, hl]; exact u32_fits l, by rw [u32s_len, hl]; exact u32v_one l⟩
    · cases hx'
  row := fun x row hx => by cases hx
  vv := fun x y cs cs' hx hy _ => by
    have hx' : (if x = (0, 0) then some (u32s l) else none) = some cs := hx
    have hy' : (if y = (0, 0) then some (u32s l) else none) = some cs' := hy
    split at hx'
    · split at hy'
      · rename_i e1 e2; rw [e1, e2]
      · cases hy'
    · cases hx'
  vr := fun x cs r row hx hr => by cases hr
  rr := fun x row y row' hx => by cases hx
  pin := fun _ => ⟨rfl, rfl⟩
  tmp := fun t => by
    cases t with
    | zero =>
      refine ⟨u32s l, o, c, rfl, ?_, hnc, ho⟩
      rw [Array.getD_eq_getD_getElem?, Array.getElem?_append_left (by simp)]
      simp
    | succ t =>
      refine args_av (ok := ok) (fun k h1 => ⟨.inl (.inl h1), hk k h1, fun x cs hx _ e => hng (by rw [show g = k from e]; exact h1), fun x row hx _ _ => (Option.some_ne_none _ hx.symm).elim⟩) hf t _ fun v hv => ?_
      have hlt : t < vs.length := (List.getElem?_eq_some_iff.1 hv).1
      rw [Array.getD_eq_getD_getElem?, Array.getElem?_append_left (by simpa using hlt)]
      simp [hv]

theorem Sat.loadvar (h : Sat ok0 w0 X N vb rb s a w) (x : Nat) (T : TypeId) (ht : tok P T = true) (hb : ldO (tagg P T) (tsz P T) (E.acells s (s.t x))) :
    ∃ u, (do loadVar T (← asAddr (a.tmps.getD x undef)) : Sem Value).run P w = .ok u w ∧ MV w (okS ok0 w0.heap.size vb rb s w) vb rb s (ldV (tagg P T) (tsz P T) (E.acells s (s.t x))) u := by
  cases hc : E.acells s (s.t x) with
  | none => rw [hc] at hb; exact hb.elim
  | some cs =>
    rw [hc] at hb
    obtain ⟨ad, us, e, hf, h1, hcell⟩ := h.acells (h.tmp x) hc
    by_cases hg : tagg P T = true
    · simp only [ldO, hg, if_true] at hb
      have hl : (us.take (tsz P T)).length = tsz P T := by rw [List.length_take, hf.1]; omega
      have hrun : (loadCells ad (tsz P T)).run P w = .ok (us.take (tsz P T)).toArray w := by
        have := run_loadCells_list (P := P) w ad (us.take (tsz P T)) (fun j v hv => by
          rw [List.getElem?_take] at hv
          split at hv
          · exact hcell j v hv
          · cases hv)
        rw [hl] at this
        exact this
      refine ⟨.agg (us.take (tsz P T)).toArray, ?_, ?_⟩
      · simp [e, asAddr, loadVar, run_isAgg ht, hg, run_sizeOf' ht, hrun]
      · simp only [ldV, hg, if_true]
        exact ⟨_, rfl, hf.take _, fun y hy => h1 y (List.mem_of_mem_take hy)⟩
    · have hg' : tagg P T = false := by cases hq : tagg P T <;> simp_all
      simp only [ldO, hg', Bool.false_eq_true, if_false] at hb
      cases cs with
      | nil => simp at hb
      | cons c cs =>
        obtain ⟨u, us', rfl, hcu, _⟩ := hf.uncons
        have h0 := hcell 0 u rfl
        rw [show ad.add 0 = ad by unfold Addr.add; simp] at h0
        refine ⟨u, ?_, ?_⟩
        · simp [e, asAddr, loadVar, run_isAgg ht, hg', h0]
        · simp only [ldV, hg', Bool.false_eq_true, if_false]
          exact ⟨hcu, h1 u (by simp)⟩

def rdRes (a : Act) : ResultVar → Sem Value
  | .tmp t => pure (a.tmps.getD t undef)
  | .cell x T => do loadVar T (← asAddr (a.tmps.getD x undef))

theorem Sat.res (h : Sat ok0 w0 X N vb rb s a w) (x : ResultVar) (r : RV) (hr : resR P s x r) : ∃ u, (rdRes a x).run P w = .ok u w ∧ MR w (okS ok0 w0.heap.size vb rb s w) r u := by
  cases x with
  | tmp t => exact ⟨_, rfl, h.toRV (h.tmp t) hr⟩
  | cell x T =>
    obtain ⟨ht, hb, hr⟩ := hr
    obtain ⟨u, hu, hm⟩ := h.loadvar x T ht hb
    exact ⟨u, hu, h.toRV hm hr⟩

theorem Sat.ress (h : Sat ok0 w0 X N vb rb s a w) : ∀ (xs : List ResultVar) (rs : List RV), resRs P s xs rs → ∃ us : List Value, (xs.mapM (rdRes a)).run P w = .ok us w ∧ Fits (MR w (okS ok0 w0.heap.size vb rb s w)) rs us
  | [], [], _ => ⟨[], by simp, Fits.nil _⟩
  | x :: xs, r :: rs, hr => by
    obtain ⟨u, hu, hm⟩ := h.res x r hr.1
    obtain ⟨us, hus, hf⟩ := Sat.ress h xs rs hr.2
    exact ⟨u :: us, by simp [List.mapM_cons, hu, hus], Fits.cons hm hf⟩
  | [], _ :: _, hr => hr.elim
  | _ :: _, [], hr => hr.elim

theorem run_results (fn : Func) (a : Act) (us : List Value) (h : (fn.results.toList.mapM (rdRes a)).run P w = .ok us w) : (results fn a.tmps).run P w = .ok (if h : us.toArray.size = 1 then us.toArray[0] else .tuple us.toArray) w := by
  have e : results fn a.tmps = (do let vs ← fn.results.mapM (rdRes a); pure (if h : vs.size = 1 then vs[0] else .tuple vs)) := by
    unfold results
    congr 2
  rw [e, Array.mapM_eq_mapM_toList]
  simp [h]

/-- A FUNCTION, from its compact code -/
theorem afun_intro (hm : P.follows .mixedOrders = true) (f : Nat) (F : AF) (hF : fcomp P f = ⟨F.n, F.np, F.res, F.body.bare⟩) (hname : fok P f = true) (args rs : List RV) (hn : args.length = F.np) (hle : F.np ≤ F.n) (h : awp P F.body (fend P F.res rs) (start args)) : AFun P f args rs := by
  refine ⟨hname, fun ok w vs hok hf => ?_⟩
  unfold fcomp at hF
  split at hF
  · rename_i fn hfn
    split at hF
    · rename_i c hc
      simp only [AF.mk.injEq] at hF
      obtain ⟨h1, h2, h3, h4⟩ := hF
      refine calls_of_wp hfn hc ?_
      rw [h1] at *
      refine awp_sound (ok0 := ok) (w0 := w) (X := w.heap.size) (N := F.n) hm F.body c h4.symm (K := fend P F.res rs) ?_ (Sat.start ok w hok args vs hf F.n (by omega) (fun _ => 0) (fun _ => undef)) h
      intro e vb rb s a w' hs hk
      have key : (∃ gs, ghs gs (fun s => resRs P s F.res rs) s) → a.defers = [] ∧ ∃ v, (results fn a.tmps).run P w' = .ok v w' ∧ (∃ v', Ending.returned v = .returned v' ∧ MRs w' (fun k => ok k ∨ (w.heap.size ≤ k ∧ k < w'.heap.size)) rs v' ∧ Below w.heap.size w w') := fun ⟨gs, hg⟩ => by
        obtain ⟨rb', s', h', hr⟩ := Sat.ghs gs hs hg
        rw [← h3] at hr
        obtain ⟨us, hus, hfu⟩ := h'.ress _ _ hr
        refine ⟨h'.defers, _, run_results fn a us hus, _, rfl, ?_, h'.below.below (Nat.le_refl _)⟩
        have hfu' : Fits (MR w' (fun k => ok k ∨ (w.heap.size ≤ k ∧ k < w'.heap.size))) rs us := hfu.imp fun r u hr => Ext.mr (fun k hk => ⟨by
          rcases hk.1 with h1 | h1
          · exact .inl h1
          · exact .inr ⟨h1, hk.2.1⟩, rfl⟩) hr
        cases rs with
        | nil =>
          have : us = [] := List.eq_nil_of_length_eq_zero hfu'.1
          subst this
          exact ⟨[], rfl, hfu'⟩
        | cons r rs =>
          cases rs with
          | nil =>
            obtain ⟨u, us', rfl, hu, hr'⟩ := hfu'.uncons
            have : us' = [] := List.eq_nil_of_length_eq_zero hr'.1
            subst this
            exact hu
          | cons r2 rs =>
            have hl := hfu'.1
            rw [dif_neg (by simp at hl ⊢; omega)]
            exact ⟨us, rfl, hfu'⟩
      cases e with
      | normal => exact key hk
      | ret => exact key hk
      | exit id => exact hk.elim
    · rename_i hfn _ hc
      simp [fok, hfn, hc] at hname
  · rename_i hfn
    simp [fok, hfn] at hname

/-- the end of a function that hands over a row of its own -/
def fendO (res : List ResultVar) (l : List Int) : AEx → AS → Prop
  | .exit _, _ => False
  | _, s => ∃ t r ver row, res = [.tmp t] ∧ s.t t = .one (.row r ver) ∧ s.r r = some row ∧ row.ver = ver ∧ row.sz = 1 ∧ row.n = l.length ∧ row.cells = l.map (fun n => Dt.lit (.int .u32 n)) ∧ l ≠ []
theorem ofun_intro (hm : P.follows .mixedOrders = true) (f : Nat) (F : AF) (hF : fcomp P f = ⟨F.n, F.np, F.res, F.body.bare⟩) (hname : fok P f = true) (args : List RV) (l : List Int) (hn : args.length = F.np) (hle : F.np ≤ F.n) (h : awp P F.body (fendO F.res l) (start args)) : OFun P f args l := by
  refine ⟨hname, fun ok w vs hok hf => ?_⟩
  unfold fcomp at hF
  split at hF
  · rename_i fn hfn
    split at hF
    · rename_i c hc
      simp only [AF.mk.injEq] at hF
      obtain ⟨h1, h2, h3, h4⟩ := hF
      refine calls_of_wp hfn hc ?_
      rw [h1] at *
      refine awp_sound (ok0 := ok) (w0 := w) (X := w.heap.size) (N := F.n) hm F.body c h4.symm (K := fendO F.res l) ?_ (Sat.start ok w hok args vs hf F.n (by omega) (fun _ => 0) (fun _ => undef)) h
      intro e vb rb s a w' hs hk
      have key : (∃ t r ver row, F.res = [.tmp t] ∧ s.t t = .one (.row r ver) ∧ s.r r = some row ∧ row.ver = ver ∧ row.sz = 1 ∧ row.n = l.length ∧ row.cells = l.map (fun n => Dt.lit (.int .u32 n)) ∧ l ≠ []) → a.defers = [] ∧ ∃ v, (results fn a.tmps).run P w' = .ok v w' ∧ (∃ g c us T, Ending.returned v = .returned (.slice (some ⟨g, 0, none⟩) l.length c) ∧ l.length ≤ c ∧ w.heap.size ≤ g ∧ w'.heap[g]? = some (.cells us T (0, 0)) ∧ us.toList.take l.length = u32v l ∧ Below w.heap.size w w') := fun ⟨t, r, ver, row, k1, k2, k3, k4, k5, k6, k7, k8⟩ => by
        have ht := hs.tmp t
        rw [k2] at ht
        obtain ⟨⟨row', hr', _, hrb⟩, _⟩ := ht
        rw [k3] at hr'; cases hr'
        have hv := hrb k4
        obtain ⟨us, ho, hfu⟩ := hs.row r row k3
        have hus : us = u32v l := by
          rw [k7] at hfu
          exact u32_vals (w := w') (rb := rb) (s := s) (ok := okS ok w.heap.size vb rb s w') ⟨by simpa [u32s] using hfu.1, fun j u c hu hc => by
            simp only [u32s, List.getElem?_map] at hc
            cases hl : l[j]? with
            | none => rw [hl] at hc; simp at hc
            | some n =>
              rw [hl] at hc; simp at hc; subst hc
              exact hfu.2 j u _ hu (by simp [hl])⟩
        refine ⟨hs.defers, _, run_results fn a [a.tmps.getD t undef] (by rw [h3, k1]; simp [rdRes]), ?_⟩
        rcases ho.2 with ⟨_, hn0⟩ | ⟨g, cap, cur, hv2, hg, hh, hnc, _, _, htake⟩
        · exact absurd (List.eq_nil_of_length_eq_zero (by omega)) k8
        · refine ⟨g, cap, cur, row.e, ?_, by omega, hg, hh, ?_, hs.below.below (Nat.le_refl _)⟩
          · rw [k6] at hv2
            rw [dif_pos (by simp)]
            simp [hv, hv2]
          · rw [k5, Nat.mul_one, k6] at htake
            rw [htake, hus]
      cases e with
      | normal => exact key hk
      | ret => exact key hk
      | exit id => exact hk.elim
    · rename_i hfn _ hc
      simp [fok, hfn, hc] at hname
  · rename_i hfn
    simp [fok, hfn] at hname

def litR : RV → Bool
  | .one (.lit _) => true
  | _ => false
theorem litR_mr {ok ok' : Nat → Prop} {r : RV} {u : Value} (hl : litR r = true) (h : MR w ok r u) : MR w' ok' r u := by
  unfold litR at hl
  split at hl
  · cases h with
    | lit _ hv => exact .lit _ hv
  · cases hl
/-- the end of a function whose first argument is written -/
def fendW (P : Program) (res : List ResultVar) (l' : List Int) (rs : List RV) : AEx → AS → Prop
  | .exit _, _ => False
  | _, s => resRs P s res rs ∧ s.v (0, 0) = some (u32s l')
theorem wfun_intro (hm : P.follows .mixedOrders = true) (f : Nat) (F : AF) (hF : fcomp P f = ⟨F.n, F.np, F.res, F.body.bare⟩) (hname : fok P f = true) (l : List Int) (off n : Nat) (args : List RV) (l' : List Int) (rs : List RV) (hn : args.length + 1 = F.np) (hle : F.np ≤ F.n) (hrs : rs.all litR = true) (h : awp P F.body (fendW P F.res l' rs) (startw l off n args)) : WFun P f l off n args l' rs := by
  refine ⟨hname, fun ok w g us T o c0 vs hok hng hh hl hnc ho hf => ?_⟩
  unfold fcomp at hF
  split at hF
  · rename_i fn hfn
    split at hF
    · rename_i c hc
      simp only [AF.mk.injEq] at hF
      obtain ⟨h1, h2, h3, h4⟩ := hF
      refine calls_of_wp hfn hc ?_
      rw [h1] at *
      refine awp_sound (ok0 := fun k => ok k ∨ k = g) (w0 := w) (X := g) (N := F.n) hm F.body c h4.symm (K := fendW P F.res l' rs) ?_ (Sat.startw ok w hok g hng us T hh l hl o off n c0 hnc ho args vs hf F.n (by omega) (fun _ => undef)) h
      intro e vb rb s a w' hs hk
      have key : (resRs P s F.res rs ∧ s.v (0, 0) = some (u32s l')) → a.defers = [] ∧ ∃ v, (results fn a.tmps).run P w' = .ok v w' ∧ (∃ v' us' T', Ending.returned v = .returned v' ∧ MRs w' (fun _ => False) rs v' ∧ Fr g w w' ∧ w'.heap[g]? = some (.cells us' T' (0, 0)) ∧ us'.toList.take l'.length = u32v l') := fun ⟨hr, hv⟩ => by
        rw [← h3] at hr
        obtain ⟨vs', hus, hfu⟩ := hs.ress _ _ hr
        obtain ⟨hp, _⟩ := hs.pin (.inr rfl)
        obtain ⟨_, us', T', hh', hfu', _⟩ := hs.var (0, 0) _ hv
        rw [hp] at hh'
        rw [u32s_len] at hfu'
        refine ⟨hs.defers, _, run_results fn a vs' hus, _, us', T', rfl, ?_, hs.below, hh', u32_vals hfu'⟩
        have hfu2 : Fits (MR w' (fun _ => False)) rs vs' := ⟨hfu.1, fun j u r hu hr => litR_mr (List.all_eq_true.1 hrs r (List.mem_of_getElem? hr)) (hfu.2 j u r hu hr)⟩
        cases rs with
        | nil =>
          have : vs' = [] := List.eq_nil_of_length_eq_zero hfu2.1
          subst this
          exact ⟨[], rfl, hfu2⟩
        | cons r rs =>
          cases rs with
          | nil =>
            obtain ⟨u, us', rfl, hu, hr'⟩ := hfu2.uncons
            have : us' = [] := List.eq_nil_of_length_eq_zero hr'.1
            subst this
            exact hu
          | cons r2 rs =>
            have hl := hfu2.1
            rw [dif_neg (by simp at hl ⊢; omega)]
            exact ⟨vs', rfl, hfu2⟩
      cases e with
      | normal => exact key hk
      | ret => exact key hk
      | exit id => exact hk.elim
    · rename_i hfn _ hc
      simp [fok, hfn, hc] at hname
  · rename_i hfn
    simp [fok, hfn] at hname

end
end Go.Proofs.YtljmgdepldpmdaaDoor.E

set_option linter.unusedSimpArgs false
set_option linter.unusedVariables false
namespace Go.Proofs.YtljmgdepldpmdaaDoor.E
open Go.RowKit

section
variable {P : Program} {fl : Bool} {Q : AS → Prop} {K : AEx → AS → Prop} {s : AS} {os : List AO}

/-! ### looking things up -/
theorem ev_t (t : Nat) : s.ev (.tmp t) = s.t t := rfl
theorem ev_int (k : IntKind) (n : Int) : s.ev (.const (.int k n)) = .one (.dt (.lit (.int k n))) := rfl
theorem ev_bool (b : Bool) : s.ev (.const (.bool b)) = .one (.dt (.lit (.bool b))) := rfl
theorem ev_str (b : ByteArray) : s.ev (.const (.string b)) = .one (.dt (.lit (.string b))) := rfl
theorem ev_nil : s.ev (.const (.slice none 0 0)) = .one .z := rfl
theorem set_t (d n : Nat) (x : AV) : (s.set d x).t n = if n = d then x else s.t n := rfl
theorem set_v (d : Nat) (x : AV) : (s.set d x).v = s.v := rfl
theorem set_r (d : Nat) (x : AV) : (s.set d x).r = s.r := rfl
theorem set_g (d : Nat) (x : AV) : (s.set d x).g = s.g := rfl
theorem set_f (d : Nat) (x : AV) : (s.set d x).f = s.f := rfl
theorem setv_t (y : Nat × Nat) (cs : List Ce) : (s.setv y cs).t = s.t := rfl
theorem setv_v (y z : Nat × Nat) (cs : List Ce) : (s.setv y cs).v z = if z = y then some cs else s.v z := rfl
theorem setv_r (y : Nat × Nat) (cs : List Ce) : (s.setv y cs).r = s.r := rfl
theorem setv_g (y : Nat × Nat) (cs : List Ce) : (s.setv y cs).g = s.g := rfl
theorem setv_f (y : Nat × Nat) (cs : List Ce) : (s.setv y cs).f = s.f := rfl
theorem setr_t (y : Nat × Nat) (row : Row) : (s.setr y row).t = s.t := rfl
theorem setr_v (y : Nat × Nat) (row : Row) : (s.setr y row).v = s.v := rfl
theorem setr_r (y z : Nat × Nat) (row : Row) : (s.setr y row).r z = if z = y then some row else s.r z := rfl
theorem setr_g (y : Nat × Nat) (row : Row) : (s.setr y row).g = s.g := rfl
theorem setr_f (y : Nat × Nat) (row : Row) : (s.setr y row).f = s.f := rfl
theorem bump_t (d : Nat) : (s.bump d).t = s.t := rfl
theorem bump_v (d : Nat) : (s.bump d).v = s.v := rfl
theorem bump_r (d : Nat) : (s.bump d).r = s.r := rfl
theorem bump_g (d n : Nat) : (s.bump d).g n = if n = d then s.g n + 1 else s.g n := rfl
theorem bump_f (d : Nat) : (s.bump d).f = s.f := rfl
theorem frz_t (y : Nat × Nat) : (s.freeze y).t = s.t := rfl
theorem frz_v (y : Nat × Nat) : (s.freeze y).v = s.v := rfl
theorem frz_r (y z : Nat × Nat) : (s.freeze y).r z = if z = y then (s.r z).map (fun row => { row with live := false }) else s.r z := rfl
theorem frz_g (y : Nat × Nat) : (s.freeze y).g = s.g := rfl
theorem frz_f (y : Nat × Nat) : (s.freeze y).f = s.f := rfl
theorem frzv_t (y : Nat × Nat) : (s.freezev y).t = s.t := rfl
theorem frzv_v (y : Nat × Nat) : (s.freezev y).v = s.v := rfl
theorem frzv_r (y : Nat × Nat) : (s.freezev y).r = s.r := rfl
theorem frzv_g (y : Nat × Nat) : (s.freezev y).g = s.g := rfl
theorem frzv_f (y z : Nat × Nat) : (s.freezev y).f z = if z = y then true else s.f z := rfl
theorem put_some (d : Nat) (x : AV) : s.put (some d) x = s.set d x := rfl
theorem put_none (x : AV) : s.put none x = s := rfl
theorem start_t0 (r : RV) (rs : List RV) : (start (r :: rs)).t 0 = r.toAV := rfl
theorem start_t1 (r r1 : RV) (rs : List RV) : (start (r :: r1 :: rs)).t 1 = r1.toAV := rfl
theorem start_t2 (r r1 r2 : RV) (rs : List RV) : (start (r :: r1 :: r2 :: rs)).t 2 = r2.toAV := rfl
theorem start_t3 (r r1 r2 r3 : RV) (rs : List RV) : (start (r :: r1 :: r2 :: r3 :: rs)).t 3 = r3.toAV := rfl
theorem start_t4 (r r1 r2 r3 r4 : RV) (rs : List RV) : (start (r :: r1 :: r2 :: r3 :: r4 :: rs)).t 4 = r4.toAV := rfl
theorem start_v (rs : List RV) : (start rs).v = fun _ => none := rfl
theorem start_r (rs : List RV) : (start rs).r = fun _ => none := rfl
theorem start_g (rs : List RV) : (start rs).g = fun _ => 0 := rfl
theorem start_f (rs : List RV) : (start rs).f = fun _ => false := rfl
theorem startw_t0 (l : List Int) (off n : Nat) (rs : List RV) : (startw l off n rs).t 0 = .sv (0, 0) off n := rfl
theorem startw_t1 (l : List Int) (off n : Nat) (r : RV) (rs : List RV) : (startw l off n (r :: rs)).t 1 = r.toAV := rfl
theorem startw_t2 (l : List Int) (off n : Nat) (r r1 : RV) (rs : List RV) : (startw l off n (r :: r1 :: rs)).t 2 = r1.toAV := rfl
theorem startw_t3 (l : List Int) (off n : Nat) (r r1 r2 : RV) (rs : List RV) : (startw l off n (r :: r1 :: r2 :: rs)).t 3 = r2.toAV := rfl
theorem startw_v (l : List Int) (off n : Nat) (rs : List RV) (y : Nat × Nat) : (startw l off n rs).v y = if y = (0, 0) then some (u32s l) else none := rfl
theorem startw_r (l : List Int) (off n : Nat) (rs : List RV) : (startw l off n rs).r = fun _ => none := rfl
theorem startw_g (l : List Int) (off n : Nat) (rs : List RV) (d : Nat) : (startw l off n rs).g d = if d = 0 then 1 else 0 := rfl
theorem startw_f (l : List Int) (off n : Nat) (rs : List RV) : (startw l off n rs).f = fun _ => false := rfl
theorem rv_one (d : Dt) : RV.toAV (.one d) = .one (.dt d) := rfl
theorem rv_agg (ds : List Dt) : RV.toAV (.agg ds) = .agg (ds.map .dt) := rfl
theorem res_one (r : RV) : resAV [r] = r.toAV := rfl
theorem res_nil : resAV [] = .tup [] := rfl
theorem res_two (r r1 : RV) (rs : List RV) : resAV (r :: r1 :: rs) = .tup (r :: r1 :: rs) := rfl

/-! ### code -/
theorem w_skip : awp P .skip K s = K .normal s := rfl
theorem w_reg (l : List AO) : awp P (.reg l) K s = aops P true l (K .normal) s := rfl
theorem w_dreg (l : List AO) : awp P (.dreg l) K s = aops P false l (K .normal) s := rfl
theorem w_xreg (t : XT) : awp P (.xreg t) K s = xrun P t (K .normal) s := rfl
theorem x_leaf : xrun P .leaf Q s = Q s := rfl
theorem x_nil : xrun P .nil Q s = True := rfl
theorem x_br (o : AO) (t r : XT) : xrun P (.br o t r) Q s = (aops P false [o] (fun s' => xrun P t Q s') s ∧ xrun P r Q s) := rfl
theorem w_gh (gs : List Gh) : awp P (.gh gs) K s = ghs gs (K .normal) s := rfl
theorem w_seq (x y : AC) : awp P (.seq x y) K s = awp P x (AEx.then (awp P y K) K) s := rfl
theorem w_block (id : Nat) (x : AC) : awp P (.block id x) K s = awp P x (AEx.blk id K) s := rfl
theorem w_exit (id : Nat) : awp P (.exit id) K s = K (.exit id) s := rfl
theorem w_ret : awp P .ret K s = K .ret s := rfl
theorem t_n (y : AS → Prop) : AEx.then y K .normal s = y s := rfl
theorem t_e (y : AS → Prop) (id : Nat) : AEx.then y K (.exit id) s = K (.exit id) s := rfl
theorem t_r (y : AS → Prop) : AEx.then y K .ret s = K .ret s := rfl
theorem b_n (id : Nat) : AEx.blk id K .normal s = K .normal s := rfl
theorem b_e (id i : Nat) : AEx.blk id K (.exit i) s = if i = id then K .normal s else K (.exit i) s := rfl
theorem b_r (id : Nat) : AEx.blk id K .ret s = K .ret s := rfl
/-- a test whose outcome is not known yet -/
def condA (P : Program) (b : Option Bool) (x y : AC) (K : AEx → AS → Prop) (s : AS) : Prop := ∃ b', b = some b' ∧ (b' = true → awp P x K s) ∧ (b' = false → awp P y K s)
theorem w_cnd (c : Operand) (x y : AC) : awp P (.cond c x y) K s = condA P (asB (s.ev c)) x y K s := rfl
theorem c_t (x y : AC) : condA P (some true) x y K s = awp P x K s := by simp [condA]
theorem c_f (x y : AC) : condA P (some false) x y K s = awp P y K s := by simp [condA]
theorem c_split {x y : AC} {p : Prop} [Decidable p] (h1 : p → awp P x K s) (h2 : ¬p → awp P y K s) : condA P (some (decide p)) x y K s := ⟨_, rfl, fun e => h1 (of_decide_eq_true e), fun e => h2 (of_decide_eq_false e)⟩
theorem c_splitb {x y : AC} {b : Bool} (h1 : b = true → awp P x K s) (h2 : b = false → awp P y K s) : condA P (some b) x y K s := ⟨_, rfl, h1, h2⟩
theorem w_loop {x : AC} (I : Nat → AS → Prop) (n : Nat) (h0 : I n s) (h : ∀ n s, s.wf → I n s → awp P x (AEx.then (fun s' => ∃ n', n' < n ∧ I n' s') K) s) : awp P (.loop x) K s := ⟨I, n, h0, h⟩
theorem g_nil : ghs [] Q s = Q s := rfl
theorem g_cons (g : Gh) (gs : List Gh) : ghs (g :: gs) Q s = (ghO g s ∧ ghs gs Q (ghE g s)) := rfl

/-! ### operations -/
theorem ex_const {p : Prop} : (∃ _ : List RV, p) = p := propext ⟨fun ⟨_, h⟩ => h, fun h => ⟨[], h⟩⟩
theorem a_only {o : AO} (hs : ∀ s', ¬ spec P o s s') : aops P fl (o :: os) Q s = (∃ rs, obl' P o s rs ∧ aops P fl os Q (eff' P o s rs)) :=
  propext ⟨fun h => h.elim id fun ⟨_, s', h, _⟩ => (hs s' h).elim, .inl⟩
theorem a_of {o : AO} {A : Prop} {s' : AS} (h : ∀ rs, obl' P o s rs = A) (h' : ∀ rs, eff' P o s rs = s') (hs : ∀ s', ¬ spec P o s s' := by exact fun _ h => h) : aops P fl (o :: os) Q s = (A ∧ aops P fl os Q s') := by
  rw [a_only hs]
  simp only [h, h']
  exact ex_const
/-- an operation on strings: it waits for its rule -/
def sopA (P : Program) (fl : Bool) (o : AO) (os : List AO) (Q : AS → Prop) (s : AS) : Prop := aops P fl (o :: os) Q s
theorem a_nil : aops P fl [] Q s = Q s := rfl
theorem a_move (d : Option Nat) (x : Operand) : aops P fl (⟨d, .move x, none⟩ :: os) Q s = aops P fl os Q (s.put d (s.ev x)) := by
  refine (a_only (by intro _ h; exact h)).trans ?_
  show (∃ _ : List RV, True ∧ aops P fl os Q (s.put d (s.ev x))) = _
  rw [ex_const]; simp
theorem a_assign (d : Option Nat) (x : Operand) : aops P fl (⟨d, .assign x, none⟩ :: os) Q s = aops P fl os Q (s.put d (s.ev x)) := by
  refine (a_only (by intro _ h; exact h)).trans ?_
  show (∃ _ : List RV, True ∧ aops P fl os Q (s.put d (s.ev x))) = _
  rw [ex_const]; simp
theorem a_pick (d : Option Nat) (c x y : Operand) : aops P fl (⟨d, .pick c x y, none⟩ :: os) Q s = (pickO (s.ev c) ∧ aops P fl os Q (s.put d (pickV (s.ev c) (s.ev x) (s.ev y)))) := a_of (fun _ => rfl) (fun _ => rfl)
theorem a_alloc (d : Nat) (T : TypeId) : aops P fl (⟨some d, .alloc T, none⟩ :: os) Q s = (match zeros P T with
    | some cs => aops P fl os Q (((s.setv (d, s.g d) cs).bump d).set d (.ptr (d, s.g d) 0))
    | none => False) := by
  refine (a_only (by intro _ h; exact h)).trans ?_
  show (∃ rs : List RV, obl P (.alloc T) (some d) s rs ∧ aops P fl os Q (eff P (.alloc T) (some d) s rs)) = _
  simp only [obl, eff]
  rw [ex_const]
  cases zeros P T <;> simp
theorem a_box (d : Nat) (T : TypeId) (x : Operand) : aops P fl (⟨some d, .box T x, none⟩ :: os) Q s = (match cellsOf (s.ev x) with
    | some cs => aops P fl os Q (((s.setv (d, s.g d) cs).bump d).set d (.ptr (d, s.g d) 0))
    | none => False) := by
  refine (a_only (by intro _ h; exact h)).trans ?_
  show (∃ rs : List RV, obl P (.box T x) (some d) s rs ∧ aops P fl os Q (eff P (.box T x) (some d) s rs)) = _
  simp only [obl, eff]
  rw [ex_const]
  cases cellsOf (s.ev x) <;> simp
theorem a_build (d : Option Nat) (T : TypeId) (parts : Array (Nat × Operand)) : aops P fl (⟨d, .build T parts, none⟩ :: os) Q s = (match zeros P T with
    | some cs => (tplaces P T).isSome = true ∧ match fillA (tplace P T) cs (pairs s parts.toList) with
      | some cells => aops P fl os Q (s.put d (.agg cells))
      | none => False
    | none => False) := by
  refine (a_only (by intro _ h; exact h)).trans ?_
  show (∃ rs : List RV, obl P (.build T parts) d s rs ∧ aops P fl os Q (eff P (.build T parts) d s rs)) = _
  simp only [obl, eff]
  rw [ex_const]
  cases zeros P T with
  | none => simp
  | some cs =>
    simp only
    cases fillA (tplace P T) cs (pairs s parts.toList) <;> simp
theorem a_bsl (d : Nat) (T : TypeId) (n : Nat) (parts : Array (Nat × Operand)) : aops P fl (⟨some d, .buildSlice T n parts, none⟩ :: os) Q s = (match telem P T with
    | some e => (tok P e = true ∧ n * tsz P e ≤ 16777216 ∧ if n = 0 then parts.size = 0 ∧ aops P fl os Q (((s.setr (d, s.g d) ⟨e, tsz P e, 0, [], 0, true⟩).bump d).set d (.one (.row (d, s.g d) 0))) else
      match bslC s (tsz P e) n (zeros P e) parts.toList with
      | some ds => ((zeros P e).map List.length = some (tsz P e) ∧ 0 < tsz P e) ∧ aops P fl os Q (s.set d (.one (.dt (.sl n ds))))
      | none => False)
    | none => False) := by
  refine (a_only (by intro _ h; exact h)).trans ?_
  show (∃ rs : List RV, obl P (.buildSlice T n parts) (some d) s rs ∧ aops P fl os Q (eff P (.buildSlice T n parts) (some d) s rs)) = _
  simp only [obl, eff]
  rw [ex_const]
  cases telem P T with
  | none => simp
  | some e =>
    simp only
    by_cases hn : n = 0
    · simp [hn, and_assoc]
    · simp only [hn, if_false]
      cases bslC s (tsz P e) n (zeros P e) parts.toList <;> simp [and_assoc]
theorem a_load (d : Option Nat) (T : TypeId) (x : Operand) : aops P fl (⟨d, .load T x, none⟩ :: os) Q s = ((tok P T = true ∧ ldO (tagg P T) (tsz P T) (acells s (s.ev x))) ∧ aops P fl os Q (s.put d (ldV (tagg P T) (tsz P T) (acells s (s.ev x))))) := a_of (fun _ => rfl) (fun _ => rfl)
theorem a_store (d : Option Nat) (T : TypeId) (x y : Operand) : aops P fl (⟨d, .store T x y, none⟩ :: os) Q s = (tok P T = true ∧ match cellsOf (s.ev y) with
    | some cs => (cs.length = tsz P T ∧ stO s cs (s.ev x)) ∧ aops P fl os Q ((stS s cs (s.ev x)).put d .no)
    | none => False) := by
  refine (a_only (by intro _ h; exact h)).trans ?_
  show (∃ rs : List RV, obl P (.store T x y) d s rs ∧ aops P fl os Q (eff P (.store T x y) d s rs)) = _
  simp only [obl, eff]
  rw [ex_const]
  cases cellsOf (s.ev y) <;> simp [and_assoc]
theorem a_bin (d : Option Nat) (op : BinOp) (T T' : TypeId) (x y : Operand) : aops P fl (⟨d, .binOp op T x y T', none⟩ :: os) Q s = (binO (tbool P T) op (s.ev x) (s.ev y) ∧ aops P fl os Q (s.put d (binV op (s.ev x) (s.ev y)))) := a_of (fun _ => rfl) (fun _ => rfl)
theorem a_un (d : Option Nat) (op : UnOp) (T : TypeId) (x : Operand) : aops P fl (⟨d, .unOp op T x, none⟩ :: os) Q s = (unO op (s.ev x) ∧ aops P fl os Q (s.put d (unV op (s.ev x)))) := a_of (fun _ => rfl) (fun _ => rfl)
theorem a_six (d : Option Nat) (T : TypeId) (x i : Operand) : aops P fl (⟨d, .index T x i, none⟩ :: os) Q s = ((tstr P T = true ∧ sixO (s.ev x) (s.ev i)) ∧ aops P fl os Q (s.put d (sixV (s.ev x) (s.ev i)))) := a_of (fun _ => rfl) (fun _ => rfl)
theorem a_conv_0 (d : Option Nat) (T T' : TypeId) (x : Operand) (ht : tstr P T' = false) : aops P fl (⟨d, .convert T T' x, none⟩ :: os) Q s = (((P.underlying T).isSome = true ∧ cvO (tint P T') (s.ev x)) ∧ aops P fl os Q (s.put d (cvV (tint P T') (s.ev x)))) := a_of (fun _ => rfl) (fun _ => rfl) (fun _ ⟨_, _, _, _, h, _⟩ => by rw [ht] at h; cases h)
theorem a_conv (d : Option Nat) (T T' : TypeId) (x : Operand) : aops P fl (⟨d, .convert T T' x, none⟩ :: os) Q s = (match tstr P T' with
    | false => (((P.underlying T).isSome = true ∧ cvO (tint P T') (s.ev x)) ∧ aops P fl os Q (s.put d (cvV (tint P T') (s.ev x))))
    | true => sopA P fl ⟨d, .convert T T' x, none⟩ os Q s) := by
  cases ht : tstr P T' with
  | false => exact a_conv_0 d T T' x ht
  | true => rfl
theorem a_make (d : Nat) (T : TypeId) (l c : Operand) : aops P fl (⟨some d, .makeSlice T l c, none⟩ :: os) Q s = (match telem P T with
    | some e => (tok P e = true ∧ tsz P e = 1 ∧ mkO (tbytes P e) (zeros P e) (s.ev l) (s.ev c)) ∧ aops P fl os Q (mkS s d e (zeros P e) (s.ev l))
    | none => False) := by
  refine (a_only (by intro _ h; exact h)).trans ?_
  show (∃ rs : List RV, obl P (.makeSlice T l c) (some d) s rs ∧ aops P fl os Q (eff P (.makeSlice T l c) (some d) s rs)) = _
  simp only [obl, eff]
  rw [ex_const]
  cases telem P T <;> simp
theorem a_slice_0 (d : Option Nat) (T : TypeId) (x : Operand) (lo hi mx : Option Operand) (ht : tstr P T = false) : aops P fl (⟨d, .slice T x lo hi mx, none⟩ :: os) Q s = (match telem P T with
    | some e => (tok P e = true ∧ cutO (tsz P e) (lo.map s.ev) (hi.map s.ev) (mx.map s.ev) (s.ev x)) ∧ aops P fl os Q (s.put d (cutV (tsz P e) (lo.map s.ev) (hi.map s.ev) (s.ev x)))
    | none => match tarr P T with
      | some (n, e) => (tok P e = true ∧ acutO s (tsz P e) n (lo.map s.ev) (hi.map s.ev) (mx.map s.ev) (s.ev x)) ∧ aops P fl os Q (s.put d (acutV s (tsz P e) n (lo.map s.ev) (hi.map s.ev) (s.ev x)))
      | none => False) := by
  refine (a_only (by
    intro _ h
    cases mx with
    | some _ => exact h
    | none => obtain ⟨_, _, _, h, _⟩ := h; rw [ht] at h; cases h)).trans ?_
  show (∃ rs : List RV, obl P (.slice T x lo hi mx) d s rs ∧ aops P fl os Q (eff P (.slice T x lo hi mx) d s rs)) = _
  simp only [obl, eff]
  rw [ex_const]
  cases telem P T with
  | some e => rfl
  | none =>
    cases tarr P T with
    | none => simp
    | some ne => rfl
theorem a_slice (d : Option Nat) (T : TypeId) (x : Operand) (lo hi mx : Option Operand) : aops P fl (⟨d, .slice T x lo hi mx, none⟩ :: os) Q s = (match tstr P T with
    | false => (match telem P T with
    | some e => (tok P e = true ∧ cutO (tsz P e) (lo.map s.ev) (hi.map s.ev) (mx.map s.ev) (s.ev x)) ∧ aops P fl os Q (s.put d (cutV (tsz P e) (lo.map s.ev) (hi.map s.ev) (s.ev x)))
    | none => match tarr P T with
      | some (n, e) => (tok P e = true ∧ acutO s (tsz P e) n (lo.map s.ev) (hi.map s.ev) (mx.map s.ev) (s.ev x)) ∧ aops P fl os Q (s.put d (acutV s (tsz P e) n (lo.map s.ev) (hi.map s.ev) (s.ev x)))
      | none => False)
    | true => sopA P fl ⟨d, .slice T x lo hi mx, none⟩ os Q s) := by
  cases ht : tstr P T with
  | false => exact a_slice_0 d T x lo hi mx ht
  | true => rfl
theorem a_fld (d : Option Nat) (T : TypeId) (x : Operand) (f : Nat) : aops P fl (⟨d, .fieldAddr T x f, none⟩ :: os) Q s = (fldO s (foff P T f) (s.ev x) ∧ aops P fl os Q (s.put d (fldV (foff P T f) (s.ev x)))) := a_of (fun _ => rfl) (fun _ => rfl)
theorem a_idx (d : Option Nat) (T : TypeId) (x i : Operand) : aops P fl (⟨d, .indexAddr T x i, none⟩ :: os) Q s = (match telem P T with
    | some e => (tok P e = true ∧ idxO s (tsz P e) (s.ev x) (s.ev i)) ∧ aops P fl os Q (s.put d (idxV (tsz P e) (s.ev x) (s.ev i)))
    | none => match tarr P T with
      | some (n, e) => (tok P e = true ∧ arrO n (s.ev x) (s.ev i)) ∧ aops P fl os Q (s.put d (arrV (tsz P e) (s.ev x) (s.ev i)))
      | none => False) := by
  refine (a_only (by intro _ h; exact h)).trans ?_
  show (∃ rs : List RV, obl P (.indexAddr T x i) d s rs ∧ aops P fl os Q (eff P (.indexAddr T x i) d s rs)) = _
  simp only [obl, eff]
  rw [ex_const]
  cases telem P T with
  | some e => rfl
  | none =>
    cases tarr P T with
    | none => simp
    | some ne => rfl
theorem a_ext (d : Option Nat) (x : Operand) (j : Nat) : aops P fl (⟨d, .extract x j, none⟩ :: os) Q s = (extO (s.ev x) j ∧ aops P fl os Q (s.put d (extV (s.ev x) j))) := a_of (fun _ => rfl) (fun _ => rfl)
theorem a_len_0 (d : Option Nat) (x : Operand) (T : TypeId) (ht : tstr P T = false) : aops P fl (⟨d, .call ⟨.builtin .len, #[x], #[T]⟩, none⟩ :: os) Q s = (((telem P T).isSome = true ∧ lenO s (s.ev x)) ∧ aops P fl os Q (s.put d (lenV s (s.ev x)))) := a_of (fun _ => rfl) (fun _ => rfl) (fun _ ⟨_, h, _⟩ => by rw [ht] at h; cases h)
theorem a_len (d : Option Nat) (x : Operand) (T : TypeId) : aops P fl (⟨d, .call ⟨.builtin .len, #[x], #[T]⟩, none⟩ :: os) Q s = (match tstr P T with
    | false => (((telem P T).isSome = true ∧ lenO s (s.ev x)) ∧ aops P fl os Q (s.put d (lenV s (s.ev x))))
    | true => sopA P fl ⟨d, .call ⟨.builtin .len, #[x], #[T]⟩, none⟩ os Q s) := by
  cases ht : tstr P T with
  | false => exact a_len_0 d x T ht
  | true => rfl
theorem a_max (d : Option Nat) (x y : Operand) (Ts : Array TypeId) : aops P fl (⟨d, .call ⟨.builtin .max, #[x, y], Ts⟩, none⟩ :: os) Q s = (mxO (s.ev x) (s.ev y) ∧ aops P fl os Q (s.put d (mxV (fun x y => if y > x then y else x) (s.ev x) (s.ev y)))) := a_of (fun _ => rfl) (fun _ => rfl)
theorem a_min (d : Option Nat) (x y : Operand) (Ts : Array TypeId) : aops P fl (⟨d, .call ⟨.builtin .min, #[x, y], Ts⟩, none⟩ :: os) Q s = (mxO (s.ev x) (s.ev y) ∧ aops P fl os Q (s.put d (mxV (fun x y => if y < x then y else x) (s.ev x) (s.ev y)))) := a_of (fun _ => rfl) (fun _ => rfl)
theorem a_append_0 (d : Nat) (x y : Operand) (T : TypeId) (ht : tstr P T = false) : aops P fl (⟨some d, .call ⟨.builtin .append, #[x, y], #[T, T]⟩, none⟩ :: os) Q s = (match telem P T with
    | some e => (tok P e = true ∧ 0 < tsz P e ∧ (tzero P e).map List.length = some (tsz P e) ∧ appO s e (tsz P e) (tbytes P e) (srcD s (s.ev y)) (s.ev x)) ∧ aops P fl os Q (appS s d e (tsz P e) (srcD s (s.ev y)) (s.ev x))
    | none => False) := by
  refine (a_only (by intro _ h; obtain ⟨_, _, _, _, _, h, _⟩ := h; rw [ht] at h; cases h)).trans ?_
  show (∃ rs : List RV, (T = T ∧ match telem P T with
        | some e => (some d).isSome = true ∧ tok P e = true ∧ 0 < tsz P e ∧ (tzero P e).map List.length = some (tsz P e) ∧ appO s e (tsz P e) (tbytes P e) (srcD s (s.ev y)) (s.ev x)
        | none => False) ∧ aops P fl os Q (match telem P T with
        | some e => appS s d e (tsz P e) (srcD s (s.ev y)) (s.ev x)
        | none => s)) = _
  rw [ex_const]
  cases telem P T <;> simp
theorem a_append (d : Nat) (x y : Operand) (T : TypeId) : aops P fl (⟨some d, .call ⟨.builtin .append, #[x, y], #[T, T]⟩, none⟩ :: os) Q s = (match tstr P T with
    | false => (match telem P T with
    | some e => (tok P e = true ∧ 0 < tsz P e ∧ (tzero P e).map List.length = some (tsz P e) ∧ appO s e (tsz P e) (tbytes P e) (srcD s (s.ev y)) (s.ev x)) ∧ aops P fl os Q (appS s d e (tsz P e) (srcD s (s.ev y)) (s.ev x))
    | none => False)
    | true => sopA P fl ⟨some d, .call ⟨.builtin .append, #[x, y], #[T, T]⟩, none⟩ os Q s) := by
  cases ht : tstr P T with
  | false => exact a_append_0 d x y T ht
  | true => rfl
theorem a_copy (d : Option Nat) (x y : Operand) (T T' : TypeId) : aops P fl (⟨d, .call ⟨.builtin .copy, #[x, y], #[T, T']⟩, none⟩ :: os) Q s = ((match telem P T with
    | some e => tok P e = true ∧ tsz P e = 1 ∧ cpO s (srcD s (s.ev y)) (s.ev x)
    | none => False) ∧ aops P fl os Q (cpS s d (srcD s (s.ev y)) (s.ev x))) := a_of (fun _ => rfl) (fun _ => rfl)
theorem a_call {d : Option Nat} {f : Nat} {args : Array Operand} {Ts : Array TypeId} (avs rs : List RV) (h : AFun P f avs rs) (h1 : toRVs s (evs s args.toList) = some avs) (h2 : aops P fl os Q (s.put d (resAV rs))) :
    aops P fl (⟨d, .call ⟨.value (.func f), args, Ts⟩, none⟩ :: os) Q s := .inl ⟨rs, ⟨avs, h1, h⟩, h2⟩
theorem a_ocall {d : Nat} {f : Nat} {args : Array Operand} {Ts : Array TypeId} (avs : List RV) (l : List Int) (h : OFun P f avs l) (h1 : toRVs s (evs s args.toList) = some avs) (h2 : aops P true os Q (((s.setv (d, s.g d) (u32s l)).bump d).set d (.sv (d, s.g d) 0 l.length))) :
    aops P true (⟨some d, .call ⟨.value (.func f), args, Ts⟩, none⟩ :: os) Q s := .inr ⟨rfl, _, .inl ⟨d, avs, l, rfl, h1, h, rfl⟩, h2⟩
theorem a_sslice {d : Option Nat} {T : TypeId} {x : Operand} {lo hi : Option Operand} (b : ByteArray) (l h : Int) (h1 : tstr P T = true) (h2 : strOf (s.ev x) = some b) (h3 : bnd (lo.map s.ev) 0 = some l) (h4 : bnd (hi.map s.ev) b.size = some h) (h5 : 0 ≤ l ∧ l ≤ h ∧ h ≤ b.size) (h6 : aops P true os Q (s.put d (litV (.string (b.extract l.toNat h.toNat))))) :
    sopA P true ⟨d, .slice T x lo hi none, none⟩ os Q s := .inr ⟨rfl, _, ⟨b, l, h, h1, h2, h3, h4, h5.1, h5.2.1, h5.2.2, rfl⟩, h6⟩
theorem a_sconv {d : Option Nat} {T T' : TypeId} {x : Operand} (b : ByteArray) (e : TypeId) (h1 : telem P T = some e) (h2 : tint P e = some .u8) (h3 : tstr P T' = true) (h4 : srcD s (s.ev x) = some (b.size, strD b)) (h6 : aops P true os Q (s.put d (litV (.string b)))) :
    sopA P true ⟨d, .convert T T' x, none⟩ os Q s := .inr ⟨rfl, _, ⟨b, e, h1, h2, h3, h4, rfl⟩, h6⟩
theorem a_sapp {d : Nat} {T T' : TypeId} {x y : Operand} (b : ByteArray) (e : TypeId) (h1 : telem P T = some e) (h2 : tstr P T' = true) (h3 : tsz P e = 1 ∧ tbytes P e = 1 ∧ tzv P e = some (.int .u8 0)) (h4 : strOf (s.ev y) = some b) (h5 : appO s e 1 1 (some (b.size, strD b)) (s.ev x)) (h6 : aops P true os Q (appS s d e 1 (some (b.size, strD b)) (s.ev x))) :
    aops P true (⟨some d, .call ⟨.builtin .append, #[x, y], #[T, T']⟩, none⟩ :: os) Q s := .inr ⟨rfl, _, ⟨b, e, d, rfl, h1, h2, h3.1, h3.2.1, h3.2.2, h4, h5, rfl⟩, h6⟩
theorem a_wcall {d : Option Nat} {f : Nat} {a0 : Operand} {xs : List Operand} {Ts : Array TypeId} (x : Nat × Nat) (off n : Nat) (l : List Int) (avs : List RV) (l' : List Int) (rs : List RV) (h : WFun P f l off n avs l' rs) (h0 : s.ev a0 = .sv x off n) (hv : s.v x = some (u32s l)) (hf : s.f x = false) (h1 : toRVs s (evs s xs) = some avs) (h2 : aops P true os Q ((s.setv x (u32s l')).put d (resAV rs))) {args : Array Operand} (ha : args.toList = a0 :: xs) :
    aops P true (⟨d, .call ⟨.value (.func f), args, Ts⟩, none⟩ :: os) Q s := .inr ⟨rfl, _, .inr (.inr (.inl ⟨a0, xs, x, off, n, l, avs, l', rs, ha, h0, hv, hf, h1, h, rfl⟩)), h2⟩
/-- a call that takes a row of one's own, which is not written from now on -/
theorem a_fcall {d : Option Nat} {f : Nat} {args : Array Operand} {Ts : Array TypeId} (r : Nat × Nat) (avs rs : List RV) (h : AFun P f avs rs) (h1 : toRVs (s.freeze r) (evs (s.freeze r) args.toList) = some avs) (h2 : aops P true os Q ((s.freeze r).put d (resAV rs))) :
    aops P true (⟨d, .call ⟨.value (.func f), args, Ts⟩, none⟩ :: os) Q s := .inr ⟨rfl, _, .inr (.inr (.inr ⟨r, avs, rs, h1, h, rfl⟩)), h2⟩
theorem a_guard (d : Option Nat) (op : Op) (t : Nat) (want : Bool) : aops P fl (⟨d, op, some (t, want)⟩ :: os) Q s = (match asG want (s.t t) with
    | some b => if b = want then aops P fl (⟨d, op, none⟩ :: os) Q s else aops P fl os Q (s.put d .un)
    | none => False) := by
  show ((∃ rs : List RV, (match asG want (s.t t) with
      | some b => if b = want then obl P op d s rs else True
      | none => False) ∧ aops P fl os Q (match asG want (s.t t) with
      | some b => if b = want then eff P op d s rs else s.put d .un
      | none => s)) ∨ (fl = true ∧ ∃ s', (asG want (s.t t) = some want ∧ spec0 P d op s s') ∧ aops P fl os Q s')) = _
  cases asG want (s.t t) with
  | none => simp
  | some b =>
    simp only
    by_cases e : b = want
    · simp only [e, if_true, true_and]; rfl
    · simp [e]
def guardA (P : Program) (fl : Bool) (b : Option Bool) (want : Bool) (d : Option Nat) (op : Op) (os : List AO) (Q : AS → Prop) (s : AS) : Prop := match b with
  | some b => if b = want then aops P fl (⟨d, op, none⟩ :: os) Q s else aops P fl os Q (s.put d .un)
  | none => False
theorem a_grd (d : Option Nat) (op : Op) (t : Nat) (want : Bool) : aops P fl (⟨d, op, some (t, want)⟩ :: os) Q s = guardA P fl (asG want (s.t t)) want d op os Q s := a_guard d op t want
theorem g_tt (d : Option Nat) (op : Op) : guardA P fl (some true) true d op os Q s = aops P fl (⟨d, op, none⟩ :: os) Q s := rfl
theorem g_ff (d : Option Nat) (op : Op) : guardA P fl (some false) false d op os Q s = aops P fl (⟨d, op, none⟩ :: os) Q s := rfl
theorem g_tf (d : Option Nat) (op : Op) : guardA P fl (some true) false d op os Q s = aops P fl os Q (s.put d .un) := rfl
theorem g_ft (d : Option Nat) (op : Op) : guardA P fl (some false) true d op os Q s = aops P fl os Q (s.put d .un) := rfl
theorem g_split {p : Prop} [Decidable p] {want : Bool} {d : Option Nat} {op : Op} (h1 : p → guardA P fl (some true) want d op os Q s) (h2 : ¬p → guardA P fl (some false) want d op os Q s) : guardA P fl (some (decide p)) want d op os Q s := by
  by_cases h : p
  · rw [decide_eq_true h]; exact h1 h
  · rw [decide_eq_false h]; exact h2 h
end
end Go.Proofs.YtljmgdepldpmdaaDoor.E

set_option linter.unusedSimpArgs false
set_option linter.unusedVariables false
namespace Go.Proofs.YtljmgdepldpmdaaDoor.E
open Go.RowKit

def shl (k : IntKind) (x y : Int) : Int := k.wrap (x * 2 ^ (min y.toNat k.bits))
def shr (k : IntKind) (x y : Int) : Int := x.fdiv (2 ^ (min y.toNat k.bits))
section
variable {s : AS} {k k' : IntKind} {x y : Int} {tb b b' : Bool}

theorem src_sl (n : Nat) (cells : List Dt) : srcD s (.one (.dt (.sl n cells))) = some (n, cells) := rfl
theorem cd_nil : ceDs [] = some [] := rfl
theorem cd_cons (c : Ce) (cs : List Ce) : ceDs (c :: cs) = (match ceD c, ceDs cs with | some d, some ds => some (d :: ds) | _, _ => none) := rfl
theorem cd_dt (d : Dt) : ceD (.dt d) = some d := rfl
theorem cd_z : ceD .z = some (.sl 0 []) := rfl
theorem bsl_some (sz n : Nat) (cs : List Ce) (parts : List (Nat × Operand)) : bslC s sz n (some cs) parts = (match fillA (fun i => some (i * sz, sz)) ((List.replicate n cs).flatten) (pairs s parts) with | some cells => ceDs cells | none => none) := rfl
theorem o_add : binO tb .add (.one (.dt (.lit (.int k x)))) (.one (.dt (.lit (.int k' y)))) = (k = k') := rfl
theorem v_add : binV .add (.one (.dt (.lit (.int k x)))) (.one (.dt (.lit (.int k' y)))) = (.one (.dt (.lit (.int k (k.wrap (x + y)))))) := rfl
theorem o_sub : binO tb .sub (.one (.dt (.lit (.int k x)))) (.one (.dt (.lit (.int k' y)))) = (k = k') := rfl
theorem v_sub : binV .sub (.one (.dt (.lit (.int k x)))) (.one (.dt (.lit (.int k' y)))) = (.one (.dt (.lit (.int k (k.wrap (x - y)))))) := rfl
theorem o_mul : binO tb .mul (.one (.dt (.lit (.int k x)))) (.one (.dt (.lit (.int k' y)))) = (k = k') := rfl
theorem v_mul : binV .mul (.one (.dt (.lit (.int k x)))) (.one (.dt (.lit (.int k' y)))) = (.one (.dt (.lit (.int k (k.wrap (x * y)))))) := rfl
theorem o_quo : binO tb .quo (.one (.dt (.lit (.int k x)))) (.one (.dt (.lit (.int k' y)))) = (k = k' ∧ ¬ y = 0) := rfl
theorem v_quo : binV .quo (.one (.dt (.lit (.int k x)))) (.one (.dt (.lit (.int k' y)))) = (.one (.dt (.lit (.int k (k.wrap (x.tdiv y)))))) := rfl
theorem o_rem : binO tb .rem (.one (.dt (.lit (.int k x)))) (.one (.dt (.lit (.int k' y)))) = (k = k' ∧ ¬ y = 0) := rfl
theorem v_rem : binV .rem (.one (.dt (.lit (.int k x)))) (.one (.dt (.lit (.int k' y)))) = (.one (.dt (.lit (.int k (x.tmod y))))) := rfl
theorem o_and : binO tb .and (.one (.dt (.lit (.int k x)))) (.one (.dt (.lit (.int k' y)))) = (k = k') := rfl
theorem v_and : binV .and (.one (.dt (.lit (.int k x)))) (.one (.dt (.lit (.int k' y)))) = (.one (.dt (.lit (.int k (bits .and k x y))))) := rfl
theorem o_or : binO tb .or (.one (.dt (.lit (.int k x)))) (.one (.dt (.lit (.int k' y)))) = (k = k') := rfl
theorem v_or : binV .or (.one (.dt (.lit (.int k x)))) (.one (.dt (.lit (.int k' y)))) = (.one (.dt (.lit (.int k (bits .or k x y))))) := rfl
theorem o_shl : binO tb .shl (.one (.dt (.lit (.int k x)))) (.one (.dt (.lit (.int k' y)))) = (0 ≤ y) := rfl
theorem v_shl : binV .shl (.one (.dt (.lit (.int k x)))) (.one (.dt (.lit (.int k' y)))) = (.one (.dt (.lit (.int k (shl k x y))))) := rfl
theorem o_shr : binO tb .shr (.one (.dt (.lit (.int k x)))) (.one (.dt (.lit (.int k' y)))) = (0 ≤ y) := rfl
theorem v_shr : binV .shr (.one (.dt (.lit (.int k x)))) (.one (.dt (.lit (.int k' y)))) = (.one (.dt (.lit (.int k (shr k x y))))) := rfl
theorem o_eql : binO tb .eql (.one (.dt (.lit (.int k x)))) (.one (.dt (.lit (.int k' y)))) = (k = k') := rfl
theorem o_neq : binO tb .neq (.one (.dt (.lit (.int k x)))) (.one (.dt (.lit (.int k' y)))) = (k = k') := rfl
theorem v_eql : binV .eql (.one (.dt (.lit (.int k x)))) (.one (.dt (.lit (.int k' y)))) = (.one (.dt (.lit (.bool (decide (x = y)))))) := by
  show litV (.bool (x == y)) = _
  by_cases h : x = y <;> simp [h, litV]
theorem v_neq : binV .neq (.one (.dt (.lit (.int k x)))) (.one (.dt (.lit (.int k' y)))) = (.one (.dt (.lit (.bool (decide (¬ x = y)))))) := by
  show litV (.bool (x != y)) = _
  by_cases h : x = y <;> simp [h, litV]
theorem o_lss : binO tb .lss (.one (.dt (.lit (.int k x)))) (.one (.dt (.lit (.int k' y)))) = (k = k') := rfl
theorem v_lss : binV .lss (.one (.dt (.lit (.int k x)))) (.one (.dt (.lit (.int k' y)))) = (.one (.dt (.lit (.bool (decide (x < y)))))) := rfl
theorem o_leq : binO tb .leq (.one (.dt (.lit (.int k x)))) (.one (.dt (.lit (.int k' y)))) = (k = k') := rfl
theorem v_leq : binV .leq (.one (.dt (.lit (.int k x)))) (.one (.dt (.lit (.int k' y)))) = (.one (.dt (.lit (.bool (decide (x ≤ y)))))) := rfl
theorem o_gtr : binO tb .gtr (.one (.dt (.lit (.int k x)))) (.one (.dt (.lit (.int k' y)))) = (k = k') := rfl
theorem v_gtr : binV .gtr (.one (.dt (.lit (.int k x)))) (.one (.dt (.lit (.int k' y)))) = (.one (.dt (.lit (.bool (decide (y < x)))))) := rfl
theorem o_geq : binO tb .geq (.one (.dt (.lit (.int k x)))) (.one (.dt (.lit (.int k' y)))) = (k = k') := rfl
theorem v_geq : binV .geq (.one (.dt (.lit (.int k x)))) (.one (.dt (.lit (.int k' y)))) = (.one (.dt (.lit (.bool (decide (y ≤ x)))))) := rfl
theorem o_eqls (x y : ByteArray) : binO tb .eql (.one (.dt (.lit (.string x)))) (.one (.dt (.lit (.string y)))) = True := rfl
theorem o_neqs (x y : ByteArray) : binO tb .neq (.one (.dt (.lit (.string x)))) (.one (.dt (.lit (.string y)))) = True := rfl
theorem o_adds (x y : ByteArray) : binO tb .add (.one (.dt (.lit (.string x)))) (.one (.dt (.lit (.string y)))) = (x.size + y.size ≤ 9223372036854775807) := rfl
theorem v_eqls (x y : ByteArray) : binV .eql (.one (.dt (.lit (.string x)))) (.one (.dt (.lit (.string y)))) = (.one (.dt (.lit (.bool (x.toList == y.toList))))) := rfl
theorem v_neqs (x y : ByteArray) : binV .neq (.one (.dt (.lit (.string x)))) (.one (.dt (.lit (.string y)))) = (.one (.dt (.lit (.bool (!(x.toList == y.toList)))))) := rfl
theorem v_adds (x y : ByteArray) : binV .add (.one (.dt (.lit (.string x)))) (.one (.dt (.lit (.string y)))) = (.one (.dt (.lit (.string (x ++ y))))) := rfl
theorem o_eqlb : binO tb .eql (.one (.dt (.lit (.bool b)))) (.one (.dt (.lit (.bool b')))) = (tb = true) := rfl
theorem o_neqb : binO tb .neq (.one (.dt (.lit (.bool b)))) (.one (.dt (.lit (.bool b')))) = (tb = true) := rfl
theorem v_eqlb : binV .eql (.one (.dt (.lit (.bool b)))) (.one (.dt (.lit (.bool b')))) = (.one (.dt (.lit (.bool (b == b'))))) := rfl
theorem v_neqb : binV .neq (.one (.dt (.lit (.bool b)))) (.one (.dt (.lit (.bool b')))) = (.one (.dt (.lit (.bool (!(b == b')))))) := rfl
theorem o_pick : pickO (.one (.dt (.lit (.bool b)))) = True := rfl
theorem v_pick (u v : AV) : pickV (.one (.dt (.lit (.bool b)))) u v = if b = true then u else v := rfl
theorem o_not : unO .not (.one (.dt (.lit (.bool b)))) = True := rfl
theorem v_not {p : Prop} [Decidable p] : unV .not (.one (.dt (.lit (.bool (decide p))))) = (.one (.dt (.lit (.bool (decide (¬p)))))) := by
  show litV (.bool (!decide p)) = _
  by_cases h : p <;> simp [h, litV]
theorem v_nott : unV .not (.one (.dt (.lit (.bool true)))) = (.one (.dt (.lit (.bool false)))) := rfl
theorem v_notf : unV .not (.one (.dt (.lit (.bool false)))) = (.one (.dt (.lit (.bool true)))) := rfl
theorem o_neg : unO .neg (.one (.dt (.lit (.int k x)))) = True := rfl
theorem v_neg : unV .neg (.one (.dt (.lit (.int k x)))) = (.one (.dt (.lit (.int k (k.wrap (0 - x)))))) := rfl
theorem o_cv : cvO (some k') (.one (.dt (.lit (.int k x)))) = True := rfl
theorem v_cv : cvV (some k') (.one (.dt (.lit (.int k x)))) = (.one (.dt (.lit (.int k' (k'.wrap x))))) := rfl
theorem as_b : asB (.one (.dt (.lit (.bool b)))) = some b := rfl
theorem ag_b (want : Bool) : asG want (.one (.dt (.lit (.bool b)))) = some b := rfl
theorem ag_t : asG true .un = some false := rfl
theorem ag_f : asG false .un = some true := rfl
theorem cl_one (c : Ce) : cellsOf (.one c) = some [c] := rfl
theorem cl_agg (cs : List Ce) : cellsOf (.agg cs) = some cs := rfl
theorem ld_of (sz : Nat) (c : Ce) (cs : List Ce) : ldO false sz (some (c :: cs)) = True := by simp [ldO]
theorem ld_ot (sz : Nat) (cs : List Ce) : ldO true sz (some cs) = (sz ≤ cs.length) := rfl
theorem ld_vf (sz : Nat) (c : Ce) (cs : List Ce) : ldV false sz (some (c :: cs)) = .one c := rfl
theorem ld_vt (sz : Nat) (cs : List Ce) : ldV true sz (some cs) = .agg (cs.take sz) := rfl
theorem ac_ptr (y : Nat × Nat) (off : Nat) : acells s (.ptr y off) = (match s.v y with | some cs => some (cs.drop off) | none => none) := rfl
theorem ac_rel (r : Nat × Nat) (ver j : Nat) : acells s (.rel r ver j) = (match s.r r with | some row => if row.ver = ver then some ((row.cells.drop j).map .dt) else none | none => none) := rfl
theorem fo_ptr (o : Nat) (y : Nat × Nat) (off : Nat) : fldO s (some o) (.ptr y off) = True := rfl
theorem fo_el (o : Nat) (ds : List Dt) : fldO s (some o) (.el ds) = (o ≤ ds.length) := rfl
theorem fv_ptr (o : Nat) (y : Nat × Nat) (off : Nat) : fldV (some o) (.ptr y off) = .ptr y (off + o) := rfl
theorem fv_el (o : Nat) (ds : List Dt) : fldV (some o) (.el ds) = .el (ds.drop o) := rfl
theorem io_row (sz : Nat) (r : Nat × Nat) (ver : Nat) : idxO s sz (.one (.row r ver)) (.one (.dt (.lit (.int k x)))) = (match s.r r with | some row => row.ver = ver ∧ 0 ≤ x ∧ x < row.n | none => False) := rfl
theorem iv_row (sz : Nat) (r : Nat × Nat) (ver : Nat) : idxV sz (.one (.row r ver)) (.one (.dt (.lit (.int k x)))) = .rel r ver (x.toNat * sz) := rfl
theorem xo (rs : List RV) (j : Nat) : extO (.tup rs) j = (j < rs.length) := rfl
theorem xv (rs : List RV) (j : Nat) : extV (.tup rs) j = (match rs[j]? with | some r => r.toAV | none => .no) := rfl
theorem lo_z : lenO s (.one .z) = True := rfl
theorem lv_z : lenV s (.one .z) = (.one (.dt (.lit (.int .i64 0)))) := rfl
theorem lo_row (r : Nat × Nat) (ver : Nat) : lenO s (.one (.row r ver)) = (match s.r r with | some row => row.ver = ver | none => False) := rfl
theorem lv_row (r : Nat × Nat) (ver : Nat) : lenV s (.one (.row r ver)) = (match s.r r with | some row => (.one (.dt (.lit (.int .i64 row.n)))) | none => .no) := rfl
theorem mo : mxO (.one (.dt (.lit (.int k x)))) (.one (.dt (.lit (.int k' y)))) = (k = k') := rfl
theorem mv (f : Int → Int → Int) : mxV f (.one (.dt (.lit (.int k x)))) (.one (.dt (.lit (.int k' y)))) = (.one (.dt (.lit (.int k (f x y))))) := rfl
theorem st_ptr (cs : List Ce) (y : Nat × Nat) (off : Nat) : stO s cs (.ptr y off) = (match s.v y with | some cs0 => s.f y = false ∧ off + cs.length ≤ cs0.length | none => False) := rfl
theorem ss_ptr (cs : List Ce) (y : Nat × Nat) (off : Nat) : stS s cs (.ptr y off) = (match s.v y with | some cs0 => s.setv y (cs0.take off ++ cs ++ cs0.drop (off + cs.length)) | none => s) := rfl
theorem st_rel (d : Dt) (r : Nat × Nat) (ver j : Nat) : stO s [.dt d] (.rel r ver j) = (match s.r r with | some row => row.ver = ver ∧ row.live = true ∧ [Ce.dt d].length = 1 ∧ j < row.n * row.sz | none => False) := by
  simp only [stO, ceDs, ceD]
  cases s.r r <;> rfl
theorem ss_rel (d : Dt) (r : Nat × Nat) (ver j : Nat) : stS s [.dt d] (.rel r ver j) = (match s.r r with | some row => s.setr r { row with cells := row.cells.set j d } | none => s) := by
  simp only [stS, ceDs, ceD]
  cases s.r r <;> rfl
theorem td_dt (d : Dt) : toD s (.dt d) = some d := rfl
theorem td_z : toD s .z = some (.sl 0 []) := rfl
theorem td_row (r : Nat × Nat) (ver : Nat) : toD s (.row r ver) = (match s.r r with | some row => if row.ver = ver ∧ row.live = false then some (.sl row.n row.cells) else none | none => none) := rfl
theorem tds_nil : toDs s [] = some [] := rfl
theorem tds_cons (c : Ce) (cs : List Ce) : toDs s (c :: cs) = (match toD s c, toDs s cs with | some d, some ds => some (d :: ds) | _, _ => none) := rfl
theorem tr_one (c : Ce) : toRV s (.one c) = (toD s c).map .one := rfl
theorem tr_agg (cs : List Ce) : toRV s (.agg cs) = (toDs s cs).map .agg := rfl
theorem trs_nil : toRVs s [] = some [] := rfl
theorem trs_cons (u : AV) (us : List AV) : toRVs s (u :: us) = (match toRV s u, toRVs s us with | some r, some rs => some (r :: rs) | _, _ => none) := rfl
theorem ev_nil' : evs s [] = [] := rfl
theorem ev_cons (u : Operand) (us : List Operand) : evs s (u :: us) = s.ev u :: evs s us := rfl
theorem pr_nil : pairs s [] = [] := rfl
theorem pr_cons (i : Nat) (u : Operand) (us : List (Nat × Operand)) : pairs s ((i, u) :: us) = (i, s.ev u) :: pairs s us := rfl
theorem fl_nil (pl : Nat → Option (Nat × Nat)) (cells : List Ce) : fillA pl cells [] = some cells := rfl
theorem fl_cons (pl : Nat → Option (Nat × Nat)) (cells : List Ce) (i : Nat) (u : AV) (us : List (Nat × AV)) : fillA pl cells ((i, u) :: us) = (match pl i, cellsOf u with | some (off, size), some cs => if cs.length = size ∧ off + size ≤ cells.length then fillA pl (cells.take off ++ cs ++ cells.drop (off + size)) us else none | _, _ => none) := rfl
theorem cast0 : ((0 : Nat) : Int) = 0 := rfl
theorem ap_o (e : TypeId) (sz bytes m ver : Nat) (cells : List Dt) (r : Nat × Nat) : appO s e sz bytes (some (m, cells)) (.one (.row r ver)) = (match s.r r with | some row => row.ver = ver ∧ row.live = true ∧ row.e = e ∧ row.sz = sz ∧ cells.length = m * sz ∧ row.n + m ≤ 9223372036854775807 ∧ (row.n + m) * bytes ≤ 140737488355328 | none => False) := by
  simp only [appO]
  cases s.r r <;> rfl
theorem ap_s (d : Nat) (e : TypeId) (sz m ver : Nat) (cells : List Dt) (r : Nat × Nat) : appS s d e sz (some (m, cells)) (.one (.row r ver)) = (match s.r r with | some row => (s.setr r { row with n := row.n + m, cells := row.cells ++ cells, ver := ver + 1 }).set d (.one (.row r (ver + 1))) | none => s) := by
  simp only [appS]
  cases s.r r <;> rfl
theorem tn_p (i : Nat) : ((i : Int) + 1).toNat = i + 1 := by omega
theorem tn_m (i : Nat) : ((i : Int) - 1).toNat = i - 1 := by omega
theorem tn_a (i j : Nat) : ((i : Int) + (j : Int)).toNat = i + j := by omega
theorem castS (i : Nat) : ((i + 1 : Nat) : Int) = (i : Int) + 1 := rfl
theorem rs_nil (P : Program) : resRs P s [] [] = True := rfl
theorem rs_cons (P : Program) (u : ResultVar) (us : List ResultVar) (r : RV) (rs : List RV) : resRs P s (u :: us) (r :: rs) = (resR P s u r ∧ resRs P s us rs) := rfl
theorem rr_tmp (P : Program) (t : Nat) (r : RV) : resR P s (.tmp t) r = (toRV s (s.t t) = some r) := rfl
theorem rr_cell (P : Program) (t : Nat) (T : TypeId) (r : RV) : resR P s (.cell t T) r = (tok P T = true ∧ ldO (tagg P T) (tsz P T) (acells s (s.t t)) ∧ toRV s (ldV (tagg P T) (tsz P T) (acells s (s.t t))) = some r) := rfl
theorem f_ret (P : Program) (res : List ResultVar) (rs : List RV) (h : resRs P s res rs) : fend P res rs .ret s := ⟨[], h⟩
theorem f_retg (P : Program) (res : List ResultVar) (rs : List RV) (gs : List Gh) (h : ghs gs (fun s => resRs P s res rs) s) : fend P res rs .ret s := ⟨gs, h⟩
theorem gh_frz (t : Nat) : ghE (.frz t) s = (match s.t t with | .one (.row r _) => s.freeze r | _ => s) := rfl
theorem gh_frzc (t i : Nat) : ghE (.frzc t i) s = (match s.t t with | .ptr xx _ => (match s.v xx with | some cs => frzC s cs[i]? | none => s) | _ => s) := rfl
theorem gh_frzv (t : Nat) : ghE (.frzv t) s = (match s.t t with | .ptr xx _ => (match s.v xx with | some _ => s.freezev xx | none => s) | .sv xx _ _ => (match s.v xx with | some _ => s.freezev xx | none => s) | _ => s) := rfl
theorem io_sv (sz : Nat) (xx : Nat × Nat) (off n : Nat) : idxO s sz (.sv xx off n) (.one (.dt (.lit (.int k x)))) = (sz = 1 ∧ 0 ≤ x ∧ x < n) := rfl
theorem iv_sv (sz : Nat) (xx : Nat × Nat) (off n : Nat) : idxV sz (.sv xx off n) (.one (.dt (.lit (.int k x)))) = .ptr xx (off + x.toNat) := rfl
theorem lo_sv (xx : Nat × Nat) (off n : Nat) : lenO s (.sv xx off n) = True := rfl
theorem lv_sv (xx : Nat × Nat) (off n : Nat) : lenV s (.sv xx off n) = (.one (.dt (.lit (.int .i64 n)))) := rfl
theorem cs_a (xx : Nat × Nat) (off n : Nat) : cutO 1 none (some (.one (.dt (.lit (.int k x))))) none (.sv xx off n) = (0 ≤ x ∧ x ≤ n) := by
  simp [cutO, bnd]
theorem cs_b (xx : Nat × Nat) (off n : Nat) : cutO 1 (some (.one (.dt (.lit (.int k x))))) (some (.one (.dt (.lit (.int k' y))))) none (.sv xx off n) = (0 ≤ x ∧ x ≤ y ∧ y ≤ n) := by
  simp [cutO, bnd]
theorem cs_c (xx : Nat × Nat) (off n : Nat) : cutV 1 none (some (.one (.dt (.lit (.int k x))))) (.sv xx off n) = .sv xx off x.toNat := by
  simp [cutV, bnd]
theorem cs_d (xx : Nat × Nat) (off n : Nat) : cutV 1 (some (.one (.dt (.lit (.int k x))))) (some (.one (.dt (.lit (.int k' y))))) (.sv xx off n) = .sv xx (off + x.toNat) (y.toNat - x.toNat) := by
  simp [cutV, bnd]
theorem tr_sv (xx : Nat × Nat) (off n : Nat) : toRV s (.sv xx off n) = (match s.v xx with | some cs => if s.f xx = true ∧ off + n ≤ cs.length then (ceDs cs).map fun ds => .one (.sl n ((ds.drop off).take n)) else none | none => none) := rfl
theorem f_retw (P : Program) (res : List ResultVar) (l' : List Int) (rs : List RV) (h : resRs P s res rs ∧ s.v (0, 0) = some (u32s l')) : fendW P res l' rs .ret s := h
theorem f_nrmw (P : Program) (res : List ResultVar) (l' : List Int) (rs : List RV) (h : resRs P s res rs ∧ s.v (0, 0) = some (u32s l')) : fendW P res l' rs .normal s := h
theorem f_reto (res : List ResultVar) (l : List Int) (t : Nat) (r : Nat × Nat) (ver : Nat) (row : Row) (h0 : res = [.tmp t]) (h1 : s.t t = .one (.row r ver)) (h2 : s.r r = some row) (h3 : row.ver = ver ∧ row.sz = 1 ∧ row.n = l.length ∧ row.cells = l.map (fun n => Dt.lit (.int .u32 n)) ∧ l ≠ []) : fendO res l .ret s := ⟨t, r, ver, row, h0, h1, h2, h3⟩
theorem six_o (b : ByteArray) : sixO (.one (.dt (.lit (.string b)))) (.one (.dt (.lit (.int k x)))) = (0 ≤ x ∧ x < b.size) := rfl
theorem six_v (b : ByteArray) : sixV (.one (.dt (.lit (.string b)))) (.one (.dt (.lit (.int k x)))) = (.one (.dt (.lit (.int .u8 (sbyte b x))))) := rfl
theorem xo_pr (cs : List Ce) (c : Ce) (j : Nat) : extO (.pr cs c) j = (j < 2) := rfl
theorem xv_pr0 (cs : List Ce) (c : Ce) : extV (.pr cs c) 0 = .agg cs := rfl
theorem xv_pr1 (cs : List Ce) (c : Ce) : extV (.pr cs c) 1 = .one c := rfl
theorem so_str (b : ByteArray) : strOf (.one (.dt (.lit (.string b)))) = some b := rfl
theorem lit_v (v : Value) : litV v = .one (.dt (.lit v)) := rfl
theorem ap_z (e : TypeId) (sz bytes m : Nat) (cells : List Dt) : appO s e sz bytes (some (m, cells)) (.one .z) = (cells.length = m * sz ∧ m ≤ maxLen ∧ m * bytes ≤ 140737488355328) := rfl
theorem as_z (d : Nat) (e : TypeId) (sz m : Nat) (cells : List Dt) : appS s d e sz (some (m, cells)) (.one .z) = (((s.setr (d, s.g d) ⟨e, sz, m, cells, 0, true⟩).bump d)).set d (.one (.row (d, s.g d) 0)) := rfl
theorem gh_nilt (t : Nat) (e : TypeId) (sz : Nat) : ghE (.nilt t e sz) s = ((s.setr (t, s.g t) ⟨e, sz, 0, [], 0, true⟩).bump t).set t (.one (.row (t, s.g t) 0)) := rfl
theorem gh_nilv (t i k : Nat) (e : TypeId) (sz : Nat) : ghE (.nilv t i k e sz) s = (match s.t t with | .ptr xx _ => (match s.v xx with | some cs => ((s.setr (k, s.g k) ⟨e, sz, 0, [], 0, true⟩).bump k).setv xx (cs.set i (.row (k, s.g k) 0)) | none => s) | _ => s) := rfl
theorem go_nilv (t i k : Nat) (e : TypeId) (sz : Nat) : ghO (.nilv t i k e sz) s = (match s.t t with | .ptr xx _ => s.f xx = false ∧ (match s.v xx with | some cs => cs[i]? = some .z | none => False) | _ => False) := rfl
theorem frzC_row (r : Nat × Nat) (v : Nat) : frzC s (some (.row r v)) = s.freeze r := rfl
theorem frzC_z : frzC s (some .z) = s := rfl
theorem frzC_dt (d : Dt) : frzC s (some (.dt d)) = s := rfl
theorem go_frz (t : Nat) : ghO (.frz t) s = True := rfl
theorem go_frzc (t i : Nat) : ghO (.frzc t i) s = True := rfl
theorem go_frzv (t : Nat) : ghO (.frzv t) s = True := rfl
theorem go_nilt (t : Nat) (e : TypeId) (sz : Nat) : ghO (.nilt t e sz) s = (match s.t t with | .one .z => True | _ => False) := rfl
end

/-! ### numbers -/
theorem wi64 {n : Int} (h : -9223372036854775808 ≤ n) (h' : n < 9223372036854775808) : IntKind.i64.wrap n = n := by rw [IntKind.wrap_i64]; omega
theorem wu64 {n : Int} (h : 0 ≤ n) (h' : n < 18446744073709551616) : IntKind.u64.wrap n = n := by rw [IntKind.wrap_u64]; omega
theorem and_m32 {n : Int} (h : 0 ≤ n) (h' : n < 18446744073709551616) : bits .and .u64 n 4294967295 = n % 4294967296 := by
  have := bits_mask .u64 64 (by decide) (fun n h1 h2 => wu64 h1 (by simpa using h2)) 32 (by decide) n h (by simpa using h')
  simpa using this
theorem shr_32 (n : Int) : shr .u64 n 32 = n / 4294967296 := by
  unfold shr
  rw [show (2 : Int) ^ (min (Int.toNat 32) IntKind.u64.bits) = 4294967296 from rfl, Int.fdiv_eq_ediv_of_nonneg _ (by decide)]
theorem shl_32 {n : Int} (h : 0 ≤ n) (h' : n < 4294967296) : shl .u64 n 32 = n * 4294967296 := by
  unfold shl
  rw [show (2 : Int) ^ (min (Int.toNat 32) IntKind.u64.bits) = 4294967296 from rfl, wu64 (by omega) (by omega)]
theorem or_hi {r a : Int} (h : 0 ≤ r) (h1 : r < 4294967296) (h2 : 0 ≤ a) (h3 : a < 4294967296) : bits .or .u64 (r * 4294967296) a = r * 4294967296 + a := by
  have := bits_join .u64 64 (by decide) (fun n h1 h2 => wu64 h1 (by simpa using h2)) 32 (r * 4294967296) a (by omega) (by simp) (by simp; omega) h2 (by simpa using h3) (by simp; omega)
  exact this
theorem td_nn {x y : Int} (h : 0 ≤ x) : x.tdiv y = x / y := Int.tdiv_eq_ediv_of_nonneg h
theorem tm_nn {x y : Int} (h : 0 ≤ x) : x.tmod y = x % y := Int.tmod_eq_emod_of_nonneg h
theorem wu32 {n : Int} (h : 0 ≤ n) (h' : n < 4294967296) : IntKind.u32.wrap n = n := by rw [IntKind.wrap_u32]; omega

/-! ### rows of data -/
section
variable {α : Type}
/-- a row of things, each of which is some cells -/
def rowC (f : α → List Dt) (l : List α) : List Dt := l.flatMap f
def rowD (f : α → List Dt) (l : List α) : Dt := .sl l.length (rowC f l)
variable {f : α → List Dt} {sz : Nat}
theorem rowC_len (hf : ∀ x, (f x).length = sz) (l : List α) : (rowC f l).length = l.length * sz := by
  unfold rowC
  induction l with
  | nil => simp
  | cons x l ih => simp [ih, hf, Nat.add_mul]; omega
theorem rowC_drop (hf : ∀ x, (f x).length = sz) (l : List α) (i : Nat) : (rowC f l).drop (i * sz) = rowC f (l.drop i) := by
  unfold rowC
  induction l generalizing i with
  | nil => simp
  | cons x l ih =>
    cases i with
    | zero => simp
    | succ i =>
      have e : (i + 1) * sz = sz + i * sz := by rw [Nat.add_mul]; omega
      rw [List.flatMap_cons, e, ← hf x, List.drop_append, hf x]
      simp [ih, hf]
theorem rowC_take (hf : ∀ x, (f x).length = sz) (l : List α) (i : Nat) : (rowC f l).take (i * sz) = rowC f (l.take i) := by
  unfold rowC
  induction l generalizing i with
  | nil => simp
  | cons x l ih =>
    cases i with
    | zero => simp
    | succ i =>
      have e : (i + 1) * sz = (f x).length + i * sz := by rw [Nat.add_mul, hf]; omega
      rw [List.flatMap_cons, e, List.take_append, List.take_succ_cons, List.flatMap_cons]
      have : (f x).take ((f x).length + i * sz) = f x := List.take_of_length_le (by omega)
      rw [this, Nat.add_sub_cancel_left, ih]
theorem rowC_at (hf : ∀ x, (f x).length = sz) (l : List α) (d0 : α) (i : Nat) (h : i < l.length) : ((rowC f l).drop (i * sz)).take sz = f (l.getD i d0) := by
  rw [rowC_drop hf]
  have hd : l.drop i = l[i] :: l.drop (i + 1) := List.drop_eq_getElem_cons h
  rw [hd]
  unfold rowC
  rw [List.flatMap_cons, List.take_append]
  have : (f l[i]).take sz = f l[i] := List.take_of_length_le (by rw [hf]; omega)
  rw [this, hf, Nat.sub_self, List.take_zero, List.append_nil]
  simp [List.getD_eq_getElem?_getD, h]
theorem io_rowD {s : AS} {k : IntKind} {x : Int} (hf : ∀ x, (f x).length = sz) (hz : 0 < sz) (l : List α) : idxO s sz (.one (.dt (rowD f l))) (.one (.dt (.lit (.int k x)))) = (0 ≤ x ∧ x < l.length) := by
  show (0 ≤ x ∧ x < (l.length : Int) ∧ (rowC f l).length = l.length * sz ∧ 0 < sz) = _
  simp [rowC_len hf, hz]
theorem iv_rowD {k : IntKind} {x : Int} (hf : ∀ x, (f x).length = sz) (l : List α) (d0 : α) (h : 0 ≤ x) (h' : x < l.length) : idxV sz (.one (.dt (rowD f l))) (.one (.dt (.lit (.int k x)))) = .el (f (l.getD x.toNat d0)) := by
  show AV.el (((rowC f l).drop (x.toNat * sz)).take sz) = _
  rw [rowC_at hf l d0 _ (by omega)]
theorem rowD_of (l : List α) (n : Nat) (h : n = l.length) : Dt.sl n (rowC f l) = rowD f l := by rw [h]; rfl
/-- cuts of rows -/
def cutP (a b c : Option Int) (q : Prop) (n : Nat) : Prop := match a, b, c with
  | some i, some j, some m => (0 ≤ i ∧ i ≤ j ∧ j ≤ m ∧ m ≤ n) ∧ q
  | _, _, _ => False
theorem cp_some {i j m : Int} {q : Prop} {n : Nat} (h : 0 ≤ i) (h1 : i ≤ j) (h2 : j ≤ m) (h3 : m ≤ n) : cutP (some i) (some j) (some m) q n = q := by simp [cutP, h, h1, h2, h3]
def cutW (a b : Option Int) (l : List α) (f : α → List Dt) : AV := match a, b with
  | some i, some j => .one (.dt (.sl (j.toNat - i.toNat) (((rowC f l).take (j.toNat)).drop (i.toNat))))
  | _, _ => .no
theorem cut_p {lo hi mx : Option AV} (hf : ∀ x, (f x).length = 1) (l : List α) : cutO 1 lo hi mx (.one (.dt (rowD f l))) = cutP (bnd lo 0) (bnd hi l.length) (bnd mx l.length) (mx.isSome = true → hi.isSome = true) l.length := by
  show (match bnd lo 0, bnd hi l.length, bnd mx l.length with
    | some i, some j, some m => 0 ≤ i ∧ i ≤ j ∧ j ≤ m ∧ m ≤ (l.length : Int) ∧ (rowC f l).length = l.length * 1 ∧ (mx.isSome = true → hi.isSome = true)
    | _, _, _ => False) = _
  unfold cutP
  cases bnd lo 0 <;> cases bnd hi l.length <;> cases bnd mx l.length <;> simp [rowC_len hf, and_assoc]
theorem cut_w {lo hi : Option AV} (_hf : ∀ x, (f x).length = 1) (l : List α) : cutV 1 lo hi (.one (.dt (rowD f l))) = cutW (bnd lo 0) (bnd hi l.length) l f := by
  show (match bnd lo 0, bnd hi l.length with
    | some i, some j => AV.one (.dt (.sl (j.toNat - i.toNat) (((rowC f l).take (j.toNat * 1)).drop (i.toNat * 1))))
    | _, _ => .no) = _
  unfold cutW
  cases bnd lo 0 <;> cases bnd hi l.length <;> simp
theorem cut_y (hf : ∀ x, (f x).length = 1) (l : List α) {i j : Int} (h : 0 ≤ i) (h1 : i ≤ j) (h2 : j ≤ l.length) : cutW (some i) (some j) l f = .one (.dt (rowD f ((l.take j.toNat).drop i.toNat))) := by
  unfold cutW
  have e1 := rowC_take hf l j.toNat
  have e2 := rowC_drop hf (l.take j.toNat) i.toNat
  rw [Nat.mul_one] at e1 e2
  simp only [e1, e2]
  rw [rowD_of _ _ (by simp; omega)]
theorem bnd_n (d : Int) : bnd none d = some d := rfl
theorem bnd_s (k : IntKind) (i d : Int) : bnd (some (.one (.dt (.lit (.int k i))))) d = some i := rfl
end

/-- machine words -/
def u32c (n : Int) : List Dt := [.lit (.int .u32 n)]
def i64c (n : Int) : List Dt := [.lit (.int .i64 n)]
theorem u32c_len (n : Int) : (u32c n).length = 1 := rfl
theorem i64c_len (n : Int) : (i64c n).length = 1 := rfl
/-- a row of limbs, as data -/
def natD (l : List Int) : Dt := rowD u32c l
def natC (l : List Int) : List Dt := rowC u32c l
def natc (l : List Int) : List Dt := [natD l]
theorem natc_len (l : List Int) : (natc l).length = 1 := rfl
def intsD (l : List Int) : Dt := rowD i64c l
def intsC (l : List Int) : List Dt := rowC i64c l
def natsD (l : List (List Int)) : Dt := rowD natc l
def natsC (l : List (List Int)) : List Dt := rowC natc l
section
variable {s : AS} {k : IntKind} {x : Int}

theorem io_natD (l : List (Int)) (h : 0 ≤ x) (h' : x < l.length) : idxO s 1 (.one (.dt (natD l))) (.one (.dt (.lit (.int k x)))) = True := by
  rw [show natD l = rowD u32c l from rfl, io_rowD u32c_len (by decide) l]; simp [h, h']
theorem co_natD {lo hi mx : Option AV} (l : List (Int)) : cutO 1 lo hi mx (.one (.dt (natD l))) = cutP (bnd lo 0) (bnd hi l.length) (bnd mx l.length) (mx.isSome = true → hi.isSome = true) l.length := cut_p u32c_len l
theorem cv_natD {lo hi : Option AV} (l : List (Int)) : cutV 1 lo hi (.one (.dt (natD l))) = cutW (bnd lo 0) (bnd hi l.length) l u32c := cut_w u32c_len l
theorem cw_natD {i j : Int} (l : List (Int)) (h : 0 ≤ i) (h1 : i ≤ j) (h2 : j ≤ l.length) : cutW (some i) (some j) l u32c = .one (.dt (natD ((l.take j.toNat).drop i.toNat))) := cut_y u32c_len l h h1 h2
theorem iv_natD (l : List (Int)) (h : 0 ≤ x) (h' : x < l.length) : idxV 1 (.one (.dt (natD l))) (.one (.dt (.lit (.int k x)))) = .el (u32c (l.getD x.toNat 0)) := iv_rowD u32c_len l 0 h h'
theorem lo_natD (l : List (Int)) : lenO s (.one (.dt (natD l))) = True := rfl
theorem lv_natD (l : List (Int)) : lenV s (.one (.dt (natD l))) = (.one (.dt (.lit (.int .i64 l.length)))) := rfl
theorem of_natD (l : List (Int)) (n : Nat) (h : n = l.length) : Dt.sl n (natC l) = natD l := rowD_of l n h
theorem len_natC (l : List (Int)) : (natC l).length = l.length := by rw [show natC l = rowC u32c l from rfl, rowC_len u32c_len]; omega
theorem src_natD (l : List (Int)) : srcD s (.one (.dt (natD l))) = some (l.length, natC l) := rfl
theorem io_intsD (l : List (Int)) (h : 0 ≤ x) (h' : x < l.length) : idxO s 1 (.one (.dt (intsD l))) (.one (.dt (.lit (.int k x)))) = True := by
  rw [show intsD l = rowD i64c l from rfl, io_rowD i64c_len (by decide) l]; simp [h, h']
theorem co_intsD {lo hi mx : Option AV} (l : List (Int)) : cutO 1 lo hi mx (.one (.dt (intsD l))) = cutP (bnd lo 0) (bnd hi l.length) (bnd mx l.length) (mx.isSome = true → hi.isSome = true) l.length := cut_p i64c_len l
theorem cv_intsD {lo hi : Option AV} (l : List (Int)) : cutV 1 lo hi (.one (.dt (intsD l))) = cutW (bnd lo 0) (bnd hi l.length) l i64c := cut_w i64c_len l
theorem cw_intsD {i j : Int} (l : List (Int)) (h : 0 ≤ i) (h1 : i ≤ j) (h2 : j ≤ l.length) : cutW (some i) (some j) l i64c = .one (.dt (intsD ((l.take j.toNat).drop i.toNat))) := cut_y i64c_len l h h1 h2
theorem iv_intsD (l : List (Int)) (h : 0 ≤ x) (h' : x < l.length) : idxV 1 (.one (.dt (intsD l))) (.one (.dt (.lit (.int k x)))) = .el (i64c (l.getD x.toNat 0)) := iv_rowD i64c_len l 0 h h'
theorem lo_intsD (l : List (Int)) : lenO s (.one (.dt (intsD l))) = True := rfl
theorem lv_intsD (l : List (Int)) : lenV s (.one (.dt (intsD l))) = (.one (.dt (.lit (.int .i64 l.length)))) := rfl
theorem of_intsD (l : List (Int)) (n : Nat) (h : n = l.length) : Dt.sl n (intsC l) = intsD l := rowD_of l n h
theorem len_intsC (l : List (Int)) : (intsC l).length = l.length := by rw [show intsC l = rowC i64c l from rfl, rowC_len i64c_len]; omega
theorem src_intsD (l : List (Int)) : srcD s (.one (.dt (intsD l))) = some (l.length, intsC l) := rfl
theorem io_natsD (l : List (List Int)) (h : 0 ≤ x) (h' : x < l.length) : idxO s 1 (.one (.dt (natsD l))) (.one (.dt (.lit (.int k x)))) = True := by
  rw [show natsD l = rowD natc l from rfl, io_rowD natc_len (by decide) l]; simp [h, h']
theorem co_natsD {lo hi mx : Option AV} (l : List (List Int)) : cutO 1 lo hi mx (.one (.dt (natsD l))) = cutP (bnd lo 0) (bnd hi l.length) (bnd mx l.length) (mx.isSome = true → hi.isSome = true) l.length := cut_p natc_len l
theorem cv_natsD {lo hi : Option AV} (l : List (List Int)) : cutV 1 lo hi (.one (.dt (natsD l))) = cutW (bnd lo 0) (bnd hi l.length) l natc := cut_w natc_len l
theorem cw_natsD {i j : Int} (l : List (List Int)) (h : 0 ≤ i) (h1 : i ≤ j) (h2 : j ≤ l.length) : cutW (some i) (some j) l natc = .one (.dt (natsD ((l.take j.toNat).drop i.toNat))) := cut_y natc_len l h h1 h2
theorem iv_natsD (l : List (List Int)) (h : 0 ≤ x) (h' : x < l.length) : idxV 1 (.one (.dt (natsD l))) (.one (.dt (.lit (.int k x)))) = .el (natc (l.getD x.toNat [])) := iv_rowD natc_len l [] h h'
theorem lo_natsD (l : List (List Int)) : lenO s (.one (.dt (natsD l))) = True := rfl
theorem lv_natsD (l : List (List Int)) : lenV s (.one (.dt (natsD l))) = (.one (.dt (.lit (.int .i64 l.length)))) := rfl
theorem of_natsD (l : List (List Int)) (n : Nat) (h : n = l.length) : Dt.sl n (natsC l) = natsD l := rowD_of l n h
theorem len_natsC (l : List (List Int)) : (natsC l).length = l.length := by rw [show natsC l = rowC natc l from rfl, rowC_len natc_len]; omega
theorem src_natsD (l : List (List Int)) : srcD s (.one (.dt (natsD l))) = some (l.length, natsC l) := rfl

theorem ac_u32 (n : Int) : acells s (.el (u32c n)) = some [.dt (.lit (.int .u32 n))] := rfl
theorem ac_i64 (n : Int) : acells s (.el (i64c n)) = some [.dt (.lit (.int .i64 n))] := rfl
theorem ac_nat (l : List Int) : acells s (.el (natc l)) = some [.dt (natD l)] := rfl
end
theorem natC_map (l : List Int) : natC l = l.map fun n => .lit (.int .u32 n) := by
  unfold natC rowC u32c
  induction l with
  | nil => rfl
  | cons x l ih => simp only [List.flatMap_cons, ih]; rfl
theorem natC_set (l : List Int) (i : Nat) (x : Int) : (natC l).set i (.lit (.int .u32 x)) = natC (l.set i x) := by simp only [natC_map, List.map_set]
theorem natC_copy (a b : List Int) (i : Nat) : (natC a).take i ++ (natC b).drop i = natC (a.take i ++ b.drop i) := by simp only [natC_map, List.map_append, List.map_take, List.map_drop]
theorem natC_get (l : List Int) (i : Nat) (h : i < l.length) : ((natC l).drop i).map Ce.dt = .dt (.lit (.int .u32 (l.getD i 0))) :: ((natC l).drop (i + 1)).map Ce.dt := by
  simp only [natC_map, ← List.map_drop]
  rw [List.drop_eq_getElem_cons h, List.map_cons, List.map_cons]
  simp [List.getD_eq_getElem?_getD, h]
theorem lo_rel (sz : Nat) (l : List Int) (i : Nat) (h : i < l.length) : ldO false sz (some (((natC l).drop i).map Ce.dt)) = True := by rw [natC_get l i h]; simp [ldO]
theorem lv_rel (sz : Nat) (l : List Int) (i : Nat) (h : i < l.length) : ldV false sz (some (((natC l).drop i).map Ce.dt)) = .one (.dt (.lit (.int .u32 (l.getD i 0)))) := by rw [natC_get l i h]; rfl
theorem mk_o {b : Nat} {z : Dt} {n m : Int} {k k' : IntKind} (h : 0 ≤ n) (h0 : n ≤ m) (h' : (b : Int) * m ≤ 281474976710656) (h2 : m ≤ 9223372036854775807) : mkO b (some [.dt z]) (.one (.dt (.lit (.int k n)))) (.one (.dt (.lit (.int k' m)))) = True := by
  simp [mkO, h, h0, h', h2, ceDs, ceD]
theorem mk_s {s : AS} {k : IntKind} (d : Nat) (e : TypeId) (n : Int) : mkS s d e (some [.dt (.lit (.int .u32 0))]) (.one (.dt (.lit (.int k n)))) = ((s.setr (d, s.g d) ⟨e, 1, n.toNat, natC (List.replicate n.toNat 0), 0, true⟩).bump d).set d (.one (.row (d, s.g d) 0)) := by
  simp [mkS, ceDs, ceD, natC_map]
theorem cp_o {s : AS} (m ver : Nat) (cells : List Dt) (r : Nat × Nat) : cpO s (some (m, cells)) (.one (.row r ver)) = (match s.r r with | some row => row.ver = ver ∧ row.live = true ∧ row.sz = 1 ∧ cells.length = m | none => False) := by
  simp only [cpO]
  cases s.r r <;> rfl
theorem cp_s {s : AS} (d : Option Nat) (m ver : Nat) (cells : List Dt) (r : Nat × Nat) : cpS s d (some (m, cells)) (.one (.row r ver)) = (match s.r r with | some row => (s.setr r { row with cells := cells.take (min m row.n) ++ row.cells.drop (min m row.n) }).put d (litV (.int .i64 (min m row.n : Nat))) | none => s) := by
  simp only [cpS]
  cases s.r r <;> rfl
theorem natC_rep (n : Nat) : List.replicate n (Dt.lit (.int .u32 0)) = natC (List.replicate n 0) := by simp only [natC_map, List.map_replicate]
theorem intsC_map (l : List Int) : intsC l = l.map fun n => .lit (.int .i64 n) := by
  unfold intsC rowC i64c
  induction l with
  | nil => rfl
  | cons x l ih => simp only [List.flatMap_cons, ih]; rfl
theorem natC_app1 (l : List Int) (x : Int) : natC l ++ [.lit (.int .u32 x)] = natC (l ++ [x]) := by unfold natC rowC u32c; simp
theorem intsC_app1 (l : List Int) (x : Int) : intsC l ++ [.lit (.int .i64 x)] = intsC (l ++ [x]) := by unfold intsC rowC i64c; simp
theorem natsC_app1 (l : List (List Int)) (x : List Int) : natsC l ++ [natD x] = natsC (l ++ [x]) := by unfold natsC rowC natc; simp
theorem u32s_nat (l : List Int) : u32s l = (natC l).map Ce.dt := by simp only [u32s, natC_map, List.map_map]; rfl
theorem us_len (l : List Int) : (u32s l).length = l.length := by simp [u32s]
theorem us_ds (l : List Int) : ceDs (u32s l) = some (natC l) := by
  rw [u32s_nat]
  induction natC l with
  | nil => rfl
  | cons d ds ih => simp only [List.map_cons, ceDs, ceD, ih]
theorem us_lo (sz : Nat) (l : List Int) (i : Nat) (h : i < l.length) : ldO false sz (some ((u32s l).drop i)) = True := by rw [u32s_nat, ← List.map_drop]; exact lo_rel sz l i h
theorem us_lv (sz : Nat) (l : List Int) (i : Nat) (h : i < l.length) : ldV false sz (some ((u32s l).drop i)) = .one (.dt (.lit (.int .u32 (l.getD i 0)))) := by rw [u32s_nat, ← List.map_drop]; exact lv_rel sz l i h
theorem us_set (l : List Int) (i : Nat) (x : Int) (h : i < l.length) : (u32s l).take i ++ [.dt (.lit (.int .u32 x))] ++ (u32s l).drop (i + 1) = u32s (l.set i x) := by
  unfold u32s
  rw [List.map_set, List.set_eq_take_append_cons_drop, if_pos (by simpa using h)]
  simp
theorem us_cut (l : List Int) (o n : Nat) : ((natC l).drop o).take n = natC ((l.drop o).take n) := by simp only [natC_map, List.map_drop, List.map_take]
theorem natC_nil : natC [] = [] := rfl
theorem intsC_nil : intsC [] = [] := rfl
theorem intsC_set (l : List Int) (i : Nat) (x : Int) : (intsC l).set i (.lit (.int .i64 x)) = intsC (l.set i x) := by simp only [intsC_map, List.map_set]
theorem i64s_ints (l : List Int) : i64s l = intsC l := (intsC_map l).symm
theorem natsC_nil : natsC [] = [] := rfl
theorem W : (∀ {s : AS} (t : Nat), s.ev (.tmp t) = s.t t) ∧
  (∀ {s : AS} (k : IntKind) (n : Int), s.ev (.const (.int k n)) = .one (.dt (.lit (.int k n)))) ∧
  (∀ {s : AS} (b : Bool), s.ev (.const (.bool b)) = .one (.dt (.lit (.bool b)))) ∧
  (∀ {s : AS} (b : ByteArray), s.ev (.const (.string b)) = .one (.dt (.lit (.string b)))) ∧
  (∀ {s : AS}, s.ev (.const (.slice none 0 0)) = .one .z) ∧
  (∀ {s : AS} (d n : Nat) (x : AV), (s.set d x).t n = if n = d then x else s.t n) ∧
  (∀ {s : AS} (d : Nat) (x : AV), (s.set d x).v = s.v) ∧
  (∀ {s : AS} (d : Nat) (x : AV), (s.set d x).r = s.r) ∧
  (∀ {s : AS} (d : Nat) (x : AV), (s.set d x).g = s.g) ∧
  (∀ {s : AS} (d : Nat) (x : AV), (s.set d x).f = s.f) ∧
  (∀ {s : AS} (y : Nat × Nat) (cs : List Ce), (s.setv y cs).t = s.t) ∧
  (∀ {s : AS} (y z : Nat × Nat) (cs : List Ce), (s.setv y cs).v z = if z = y then some cs else s.v z) ∧
  (∀ {s : AS} (y : Nat × Nat) (cs : List Ce), (s.setv y cs).r = s.r) ∧
  (∀ {s : AS} (y : Nat × Nat) (cs : List Ce), (s.setv y cs).g = s.g) ∧
  (∀ {s : AS} (y : Nat × Nat) (cs : List Ce), (s.setv y cs).f = s.f) ∧
  (∀ {s : AS} (y : Nat × Nat) (row : Row), (s.setr y row).t = s.t) ∧
  (∀ {s : AS} (y : Nat × Nat) (row : Row), (s.setr y row).v = s.v) ∧
  (∀ {s : AS} (y z : Nat × Nat) (row : Row), (s.setr y row).r z = if z = y then some row else s.r z) ∧
  (∀ {s : AS} (y : Nat × Nat) (row : Row), (s.setr y row).g = s.g) ∧
  (∀ {s : AS} (y : Nat × Nat) (row : Row), (s.setr y row).f = s.f) ∧
  (∀ {s : AS} (d : Nat), (s.bump d).t = s.t) ∧
  (∀ {s : AS} (d : Nat), (s.bump d).v = s.v) ∧
  (∀ {s : AS} (d : Nat), (s.bump d).r = s.r) ∧
  (∀ {s : AS} (d n : Nat), (s.bump d).g n = if n = d then s.g n + 1 else s.g n) ∧
  (∀ {s : AS} (d : Nat), (s.bump d).f = s.f) ∧
  (∀ {s : AS} (y : Nat × Nat), (s.freeze y).t = s.t) ∧
  (∀ {s : AS} (y : Nat × Nat), (s.freeze y).v = s.v) ∧
  (∀ {s : AS} (y z : Nat × Nat), (s.freeze y).r z = if z = y then (s.r z).map (fun row => { row with live := false }) else s.r z) ∧
  (∀ {s : AS} (y : Nat × Nat), (s.freeze y).g = s.g) ∧
  (∀ {s : AS} (y : Nat × Nat), (s.freeze y).f = s.f) ∧
  (∀ {s : AS} (y : Nat × Nat), (s.freezev y).t = s.t) ∧
  (∀ {s : AS} (y : Nat × Nat), (s.freezev y).v = s.v) ∧
  (∀ {s : AS} (y : Nat × Nat), (s.freezev y).r = s.r) ∧
  (∀ {s : AS} (y : Nat × Nat), (s.freezev y).g = s.g) ∧
  (∀ {s : AS} (y z : Nat × Nat), (s.freezev y).f z = if z = y then true else s.f z) ∧
  (∀ {s : AS} (d : Nat) (x : AV), s.put (some d) x = s.set d x) ∧
  (∀ {s : AS} (x : AV), s.put none x = s) ∧
  (∀ (r : RV) (rs : List RV), (start (r :: rs)).t 0 = r.toAV) ∧
  (∀ (r r1 : RV) (rs : List RV), (start (r :: r1 :: rs)).t 1 = r1.toAV) ∧
  (∀ (r r1 r2 : RV) (rs : List RV), (start (r :: r1 :: r2 :: rs)).t 2 = r2.toAV) ∧
  (∀ (r r1 r2 r3 : RV) (rs : List RV), (start (r :: r1 :: r2 :: r3 :: rs)).t 3 = r3.toAV) ∧
  (∀ (r r1 r2 r3 r4 : RV) (rs : List RV), (start (r :: r1 :: r2 :: r3 :: r4 :: rs)).t 4 = r4.toAV) ∧
  (∀ (rs : List RV), (start rs).v = fun _ => none) ∧
  (∀ (rs : List RV), (start rs).r = fun _ => none) ∧
  (∀ (rs : List RV), (start rs).g = fun _ => 0) ∧
  (∀ (rs : List RV), (start rs).f = fun _ => false) ∧
  (∀ (l : List Int) (off n : Nat) (rs : List RV), (startw l off n rs).t 0 = .sv (0, 0) off n) ∧
  (∀ (l : List Int) (off n : Nat) (r : RV) (rs : List RV), (startw l off n (r :: rs)).t 1 = r.toAV) ∧
  (∀ (l : List Int) (off n : Nat) (r r1 : RV) (rs : List RV), (startw l off n (r :: r1 :: rs)).t 2 = r1.toAV) ∧
  (∀ (l : List Int) (off n : Nat) (r r1 r2 : RV) (rs : List RV), (startw l off n (r :: r1 :: r2 :: rs)).t 3 = r2.toAV) ∧
  (∀ (l : List Int) (off n : Nat) (rs : List RV) (y : Nat × Nat), (startw l off n rs).v y = if y = (0, 0) then some (u32s l) else none) ∧
  (∀ (l : List Int) (off n : Nat) (rs : List RV), (startw l off n rs).r = fun _ => none) ∧
  (∀ (l : List Int) (off n : Nat) (rs : List RV) (d : Nat), (startw l off n rs).g d = if d = 0 then 1 else 0) ∧
  (∀ (l : List Int) (off n : Nat) (rs : List RV), (startw l off n rs).f = fun _ => false) ∧
  (∀ (d : Dt), RV.toAV (.one d) = .one (.dt d)) ∧
  (∀ (ds : List Dt), RV.toAV (.agg ds) = .agg (ds.map .dt)) ∧
  (∀ (r : RV), resAV [r] = r.toAV) ∧
  (resAV [] = .tup []) ∧
  (∀ (r r1 : RV) (rs : List RV), resAV (r :: r1 :: rs) = .tup (r :: r1 :: rs)) ∧
  (∀ {P : Program} {K : AEx → AS → Prop} {s : AS}, awp P .skip K s = K .normal s) ∧
  (∀ {P : Program} {K : AEx → AS → Prop} {s : AS} (l : List AO), awp P (.reg l) K s = aops P true l (K .normal) s) ∧
  (∀ {P : Program} {K : AEx → AS → Prop} {s : AS} (l : List AO), awp P (.dreg l) K s = aops P false l (K .normal) s) ∧
  (∀ {P : Program} {K : AEx → AS → Prop} {s : AS} (t : XT), awp P (.xreg t) K s = xrun P t (K .normal) s) ∧
  (∀ {P : Program} {Q : AS → Prop} {s : AS}, xrun P .leaf Q s = Q s) ∧
  (∀ {P : Program} {Q : AS → Prop} {s : AS}, xrun P .nil Q s = True) ∧
  (∀ {P : Program} {Q : AS → Prop} {s : AS} (o : AO) (t r : XT), xrun P (.br o t r) Q s = (aops P false [o] (fun s' => xrun P t Q s') s ∧ xrun P r Q s)) ∧
  (∀ {P : Program} {K : AEx → AS → Prop} {s : AS} (gs : List Gh), awp P (.gh gs) K s = ghs gs (K .normal) s) ∧
  (∀ {P : Program} {K : AEx → AS → Prop} {s : AS} (x y : AC), awp P (.seq x y) K s = awp P x (AEx.then (awp P y K) K) s) ∧
  (∀ {P : Program} {K : AEx → AS → Prop} {s : AS} (id : Nat) (x : AC), awp P (.block id x) K s = awp P x (AEx.blk id K) s) ∧
  (∀ {P : Program} {K : AEx → AS → Prop} {s : AS} (id : Nat), awp P (.exit id) K s = K (.exit id) s) ∧
  (∀ {P : Program} {K : AEx → AS → Prop} {s : AS}, awp P .ret K s = K .ret s) ∧
  (∀ {K : AEx → AS → Prop} {s : AS} (y : AS → Prop), AEx.then y K .normal s = y s) ∧
  (∀ {K : AEx → AS → Prop} {s : AS} (y : AS → Prop) (id : Nat), AEx.then y K (.exit id) s = K (.exit id) s) ∧
  (∀ {K : AEx → AS → Prop} {s : AS} (y : AS → Prop), AEx.then y K .ret s = K .ret s) ∧
  (∀ {K : AEx → AS → Prop} {s : AS} (id : Nat), AEx.blk id K .normal s = K .normal s) ∧
  (∀ {K : AEx → AS → Prop} {s : AS} (id i : Nat), AEx.blk id K (.exit i) s = if i = id then K .normal s else K (.exit i) s) ∧
  (∀ {K : AEx → AS → Prop} {s : AS} (id : Nat), AEx.blk id K .ret s = K .ret s) ∧
  (∀ {P : Program} {K : AEx → AS → Prop} {s : AS} (c : Operand) (x y : AC), awp P (.cond c x y) K s = condA P (asB (s.ev c)) x y K s) ∧
  (∀ {P : Program} {K : AEx → AS → Prop} {s : AS} (x y : AC), condA P (some true) x y K s = awp P x K s) ∧
  (∀ {P : Program} {K : AEx → AS → Prop} {s : AS} (x y : AC), condA P (some false) x y K s = awp P y K s) ∧
  (∀ {Q : AS → Prop} {s : AS}, ghs [] Q s = Q s) ∧
  (∀ {Q : AS → Prop} {s : AS} (g : Gh) (gs : List Gh), ghs (g :: gs) Q s = (ghO g s ∧ ghs gs Q (ghE g s))) ∧
  (∀ {P : Program} {fl : Bool} {Q : AS → Prop} {s : AS}, aops P fl [] Q s = Q s) ∧
  (∀ {P : Program} {fl : Bool} {Q : AS → Prop} {s : AS} {os : List AO} (d : Option Nat) (x : Operand), aops P fl (⟨d, .move x, none⟩ :: os) Q s = aops P fl os Q (s.put d (s.ev x))) ∧
  (∀ {P : Program} {fl : Bool} {Q : AS → Prop} {s : AS} {os : List AO} (d : Option Nat) (x : Operand), aops P fl (⟨d, .assign x, none⟩ :: os) Q s = aops P fl os Q (s.put d (s.ev x))) ∧
  (∀ {P : Program} {fl : Bool} {Q : AS → Prop} {s : AS} {os : List AO} (d : Option Nat) (c x y : Operand), aops P fl (⟨d, .pick c x y, none⟩ :: os) Q s = (pickO (s.ev c) ∧ aops P fl os Q (s.put d (pickV (s.ev c) (s.ev x) (s.ev y))))) ∧
  (∀ {P : Program} {fl : Bool} {Q : AS → Prop} {s : AS} {os : List AO} (d : Nat) (T : TypeId), aops P fl (⟨some d, .alloc T, none⟩ :: os) Q s = (match zeros P T with
    | some cs => aops P fl os Q (((s.setv (d, s.g d) cs).bump d).set d (.ptr (d, s.g d) 0))
    | none => False)) ∧
  (∀ {P : Program} {fl : Bool} {Q : AS → Prop} {s : AS} {os : List AO} (d : Nat) (T : TypeId) (x : Operand), aops P fl (⟨some d, .box T x, none⟩ :: os) Q s = (match cellsOf (s.ev x) with
    | some cs => aops P fl os Q (((s.setv (d, s.g d) cs).bump d).set d (.ptr (d, s.g d) 0))
    | none => False)) ∧
  (∀ {P : Program} {fl : Bool} {Q : AS → Prop} {s : AS} {os : List AO} (d : Option Nat) (T : TypeId) (parts : Array (Nat × Operand)), aops P fl (⟨d, .build T parts, none⟩ :: os) Q s = (match zeros P T with
    | some cs => (tplaces P T).isSome = true ∧ match fillA (tplace P T) cs (pairs s parts.toList) with
      | some cells => aops P fl os Q (s.put d (.agg cells))
      | none => False
    | none => False)) ∧
  (∀ {P : Program} {fl : Bool} {Q : AS → Prop} {s : AS} {os : List AO} (d : Nat) (T : TypeId) (n : Nat) (parts : Array (Nat × Operand)), aops P fl (⟨some d, .buildSlice T n parts, none⟩ :: os) Q s = (match telem P T with
    | some e => (tok P e = true ∧ n * tsz P e ≤ 16777216 ∧ if n = 0 then parts.size = 0 ∧ aops P fl os Q (((s.setr (d, s.g d) ⟨e, tsz P e, 0, [], 0, true⟩).bump d).set d (.one (.row (d, s.g d) 0))) else
      match bslC s (tsz P e) n (zeros P e) parts.toList with
      | some ds => ((zeros P e).map List.length = some (tsz P e) ∧ 0 < tsz P e) ∧ aops P fl os Q (s.set d (.one (.dt (.sl n ds))))
      | none => False)
    | none => False)) ∧
  (∀ {P : Program} {fl : Bool} {Q : AS → Prop} {s : AS} {os : List AO} (d : Option Nat) (T : TypeId) (x : Operand), aops P fl (⟨d, .load T x, none⟩ :: os) Q s = ((tok P T = true ∧ ldO (tagg P T) (tsz P T) (acells s (s.ev x))) ∧ aops P fl os Q (s.put d (ldV (tagg P T) (tsz P T) (acells s (s.ev x)))))) ∧
  (∀ {P : Program} {fl : Bool} {Q : AS → Prop} {s : AS} {os : List AO} (d : Option Nat) (T : TypeId) (x y : Operand), aops P fl (⟨d, .store T x y, none⟩ :: os) Q s = (tok P T = true ∧ match cellsOf (s.ev y) with
    | some cs => (cs.length = tsz P T ∧ stO s cs (s.ev x)) ∧ aops P fl os Q ((stS s cs (s.ev x)).put d .no)
    | none => False)) ∧
  (∀ {P : Program} {fl : Bool} {Q : AS → Prop} {s : AS} {os : List AO} (d : Option Nat) (op : BinOp) (T T' : TypeId) (x y : Operand), aops P fl (⟨d, .binOp op T x y T', none⟩ :: os) Q s = (binO (tbool P T) op (s.ev x) (s.ev y) ∧ aops P fl os Q (s.put d (binV op (s.ev x) (s.ev y))))) ∧
  (∀ {P : Program} {fl : Bool} {Q : AS → Prop} {s : AS} {os : List AO} (d : Option Nat) (op : UnOp) (T : TypeId) (x : Operand), aops P fl (⟨d, .unOp op T x, none⟩ :: os) Q s = (unO op (s.ev x) ∧ aops P fl os Q (s.put d (unV op (s.ev x))))) ∧
  (∀ {P : Program} {fl : Bool} {Q : AS → Prop} {s : AS} {os : List AO} (d : Option Nat) (T : TypeId) (x i : Operand), aops P fl (⟨d, .index T x i, none⟩ :: os) Q s = ((tstr P T = true ∧ sixO (s.ev x) (s.ev i)) ∧ aops P fl os Q (s.put d (sixV (s.ev x) (s.ev i))))) ∧
  (∀ {P : Program} {fl : Bool} {Q : AS → Prop} {s : AS} {os : List AO} (d : Option Nat) (T T' : TypeId) (x : Operand), aops P fl (⟨d, .convert T T' x, none⟩ :: os) Q s = (match tstr P T' with
    | false => (((P.underlying T).isSome = true ∧ cvO (tint P T') (s.ev x)) ∧ aops P fl os Q (s.put d (cvV (tint P T') (s.ev x))))
    | true => sopA P fl ⟨d, .convert T T' x, none⟩ os Q s)) ∧
  (∀ {P : Program} {fl : Bool} {Q : AS → Prop} {s : AS} {os : List AO} (d : Nat) (T : TypeId) (l c : Operand), aops P fl (⟨some d, .makeSlice T l c, none⟩ :: os) Q s = (match telem P T with
    | some e => (tok P e = true ∧ tsz P e = 1 ∧ mkO (tbytes P e) (zeros P e) (s.ev l) (s.ev c)) ∧ aops P fl os Q (mkS s d e (zeros P e) (s.ev l))
    | none => False)) ∧
  (∀ {P : Program} {fl : Bool} {Q : AS → Prop} {s : AS} {os : List AO} (d : Option Nat) (T : TypeId) (x : Operand) (lo hi mx : Option Operand), aops P fl (⟨d, .slice T x lo hi mx, none⟩ :: os) Q s = (match tstr P T with
    | false => (match telem P T with
    | some e => (tok P e = true ∧ cutO (tsz P e) (lo.map s.ev) (hi.map s.ev) (mx.map s.ev) (s.ev x)) ∧ aops P fl os Q (s.put d (cutV (tsz P e) (lo.map s.ev) (hi.map s.ev) (s.ev x)))
    | none => match tarr P T with
      | some (n, e) => (tok P e = true ∧ acutO s (tsz P e) n (lo.map s.ev) (hi.map s.ev) (mx.map s.ev) (s.ev x)) ∧ aops P fl os Q (s.put d (acutV s (tsz P e) n (lo.map s.ev) (hi.map s.ev) (s.ev x)))
      | none => False)
    | true => sopA P fl ⟨d, .slice T x lo hi mx, none⟩ os Q s)) ∧
  (∀ {P : Program} {fl : Bool} {Q : AS → Prop} {s : AS} {os : List AO} (d : Option Nat) (T : TypeId) (x : Operand) (f : Nat), aops P fl (⟨d, .fieldAddr T x f, none⟩ :: os) Q s = (fldO s (foff P T f) (s.ev x) ∧ aops P fl os Q (s.put d (fldV (foff P T f) (s.ev x))))) ∧
  (∀ {P : Program} {fl : Bool} {Q : AS → Prop} {s : AS} {os : List AO} (d : Option Nat) (T : TypeId) (x i : Operand), aops P fl (⟨d, .indexAddr T x i, none⟩ :: os) Q s = (match telem P T with
    | some e => (tok P e = true ∧ idxO s (tsz P e) (s.ev x) (s.ev i)) ∧ aops P fl os Q (s.put d (idxV (tsz P e) (s.ev x) (s.ev i)))
    | none => match tarr P T with
      | some (n, e) => (tok P e = true ∧ arrO n (s.ev x) (s.ev i)) ∧ aops P fl os Q (s.put d (arrV (tsz P e) (s.ev x) (s.ev i)))
      | none => False)) ∧
  (∀ {P : Program} {fl : Bool} {Q : AS → Prop} {s : AS} {os : List AO} (d : Option Nat) (x : Operand) (j : Nat), aops P fl (⟨d, .extract x j, none⟩ :: os) Q s = (extO (s.ev x) j ∧ aops P fl os Q (s.put d (extV (s.ev x) j)))) ∧
  (∀ {P : Program} {fl : Bool} {Q : AS → Prop} {s : AS} {os : List AO} (d : Option Nat) (x : Operand) (T : TypeId), aops P fl (⟨d, .call ⟨.builtin .len, #[x], #[T]⟩, none⟩ :: os) Q s = (match tstr P T with
    | false => (((telem P T).isSome = true ∧ lenO s (s.ev x)) ∧ aops P fl os Q (s.put d (lenV s (s.ev x))))
    | true => sopA P fl ⟨d, .call ⟨.builtin .len, #[x], #[T]⟩, none⟩ os Q s)) ∧
  (∀ {P : Program} {fl : Bool} {Q : AS → Prop} {s : AS} {os : List AO} (d : Option Nat) (x y : Operand) (Ts : Array TypeId), aops P fl (⟨d, .call ⟨.builtin .max, #[x, y], Ts⟩, none⟩ :: os) Q s = (mxO (s.ev x) (s.ev y) ∧ aops P fl os Q (s.put d (mxV (fun x y => if y > x then y else x) (s.ev x) (s.ev y))))) ∧
  (∀ {P : Program} {fl : Bool} {Q : AS → Prop} {s : AS} {os : List AO} (d : Option Nat) (x y : Operand) (Ts : Array TypeId), aops P fl (⟨d, .call ⟨.builtin .min, #[x, y], Ts⟩, none⟩ :: os) Q s = (mxO (s.ev x) (s.ev y) ∧ aops P fl os Q (s.put d (mxV (fun x y => if y < x then y else x) (s.ev x) (s.ev y))))) ∧
  (∀ {P : Program} {fl : Bool} {Q : AS → Prop} {s : AS} {os : List AO} (d : Nat) (x y : Operand) (T : TypeId), aops P fl (⟨some d, .call ⟨.builtin .append, #[x, y], #[T, T]⟩, none⟩ :: os) Q s = (match tstr P T with
    | false => (match telem P T with
    | some e => (tok P e = true ∧ 0 < tsz P e ∧ (tzero P e).map List.length = some (tsz P e) ∧ appO s e (tsz P e) (tbytes P e) (srcD s (s.ev y)) (s.ev x)) ∧ aops P fl os Q (appS s d e (tsz P e) (srcD s (s.ev y)) (s.ev x))
    | none => False)
    | true => sopA P fl ⟨some d, .call ⟨.builtin .append, #[x, y], #[T, T]⟩, none⟩ os Q s)) ∧
  (∀ {P : Program} {fl : Bool} {Q : AS → Prop} {s : AS} {os : List AO} (d : Option Nat) (x y : Operand) (T T' : TypeId), aops P fl (⟨d, .call ⟨.builtin .copy, #[x, y], #[T, T']⟩, none⟩ :: os) Q s = ((match telem P T with
    | some e => tok P e = true ∧ tsz P e = 1 ∧ cpO s (srcD s (s.ev y)) (s.ev x)
    | none => False) ∧ aops P fl os Q (cpS s d (srcD s (s.ev y)) (s.ev x)))) ∧
  (∀ {P : Program} {fl : Bool} {Q : AS → Prop} {s : AS} {os : List AO} (d : Option Nat) (op : Op) (t : Nat) (want : Bool), aops P fl (⟨d, op, some (t, want)⟩ :: os) Q s = guardA P fl (asG want (s.t t)) want d op os Q s) ∧
  (∀ {P : Program} {fl : Bool} {Q : AS → Prop} {s : AS} {os : List AO} (d : Option Nat) (op : Op), guardA P fl (some true) true d op os Q s = aops P fl (⟨d, op, none⟩ :: os) Q s) ∧
  (∀ {P : Program} {fl : Bool} {Q : AS → Prop} {s : AS} {os : List AO} (d : Option Nat) (op : Op), guardA P fl (some false) false d op os Q s = aops P fl (⟨d, op, none⟩ :: os) Q s) ∧
  (∀ {P : Program} {fl : Bool} {Q : AS → Prop} {s : AS} {os : List AO} (d : Option Nat) (op : Op), guardA P fl (some true) false d op os Q s = aops P fl os Q (s.put d .un)) ∧
  (∀ {P : Program} {fl : Bool} {Q : AS → Prop} {s : AS} {os : List AO} (d : Option Nat) (op : Op), guardA P fl (some false) true d op os Q s = aops P fl os Q (s.put d .un)) :=
  ⟨@ev_t, @ev_int, @ev_bool, @ev_str, @ev_nil, @set_t, @set_v, @set_r, @set_g, @set_f, @setv_t, @setv_v, @setv_r, @setv_g, @setv_f, @setr_t, @setr_v, @setr_r, @setr_g, @setr_f, @bump_t, @bump_v, @bump_r, @bump_g, @bump_f, @frz_t, @frz_v, @frz_r, @frz_g, @frz_f, @frzv_t, @frzv_v, @frzv_r, @frzv_g, @frzv_f, @put_some, @put_none, @start_t0, @start_t1, @start_t2, @start_t3, @start_t4, @start_v, @start_r, @start_g, @start_f, @startw_t0, @startw_t1, @startw_t2, @startw_t3, @startw_v, @startw_r, @startw_g, @startw_f, @rv_one, @rv_agg, @res_one, @res_nil, @res_two, @w_skip, @w_reg, @w_dreg, @w_xreg, @x_leaf, @x_nil, @x_br, @w_gh, @w_seq, @w_block, @w_exit, @w_ret, @t_n, @t_e, @t_r, @b_n, @b_e, @b_r, @w_cnd, @c_t, @c_f, @g_nil, @g_cons, @a_nil, @a_move, @a_assign, @a_pick, @a_alloc, @a_box, @a_build, @a_bsl, @a_load, @a_store, @a_bin, @a_un, @a_six, @a_conv, @a_make, @a_slice, @a_fld, @a_idx, @a_ext, @a_len, @a_max, @a_min, @a_append, @a_copy, @a_grd, @g_tt, @g_ff, @g_tf, @g_ft⟩
theorem V : (∀ {s : AS} (n : Nat) (cells : List Dt), srcD s (.one (.dt (.sl n cells))) = some (n, cells)) ∧
  (ceDs [] = some []) ∧
  (∀ (c : Ce) (cs : List Ce), ceDs (c :: cs) = (match ceD c, ceDs cs with | some d, some ds => some (d :: ds) | _, _ => none)) ∧
  (∀ (d : Dt), ceD (.dt d) = some d) ∧
  (ceD .z = some (.sl 0 [])) ∧
  (∀ {s : AS} (sz n : Nat) (cs : List Ce) (parts : List (Nat × Operand)), bslC s sz n (some cs) parts = (match fillA (fun i => some (i * sz, sz)) ((List.replicate n cs).flatten) (pairs s parts) with | some cells => ceDs cells | none => none)) ∧
  (∀ {k : IntKind} {k' : IntKind} {x : Int} {y : Int} {tb : Bool}, binO tb .add (.one (.dt (.lit (.int k x)))) (.one (.dt (.lit (.int k' y)))) = (k = k')) ∧
  (∀ {k : IntKind} {k' : IntKind} {x : Int} {y : Int}, binV .add (.one (.dt (.lit (.int k x)))) (.one (.dt (.lit (.int k' y)))) = (.one (.dt (.lit (.int k (k.wrap (x + y))))))) ∧
  (∀ {k : IntKind} {k' : IntKind} {x : Int} {y : Int} {tb : Bool}, binO tb .sub (.one (.dt (.lit (.int k x)))) (.one (.dt (.lit (.int k' y)))) = (k = k')) ∧
  (∀ {k : IntKind} {k' : IntKind} {x : Int} {y : Int}, binV .sub (.one (.dt (.lit (.int k x)))) (.one (.dt (.lit (.int k' y)))) = (.one (.dt (.lit (.int k (k.wrap (x - y))))))) ∧
  (∀ {k : IntKind} {k' : IntKind} {x : Int} {y : Int} {tb : Bool}, binO tb .mul (.one (.dt (.lit (.int k x)))) (.one (.dt (.lit (.int k' y)))) = (k = k')) ∧
  (∀ {k : IntKind} {k' : IntKind} {x : Int} {y : Int}, binV .mul (.one (.dt (.lit (.int k x)))) (.one (.dt (.lit (.int k' y)))) = (.one (.dt (.lit (.int k (k.wrap (x * y))))))) ∧
  (∀ {k : IntKind} {k' : IntKind} {x : Int} {y : Int} {tb : Bool}, binO tb .quo (.one (.dt (.lit (.int k x)))) (.one (.dt (.lit (.int k' y)))) = (k = k' ∧ ¬ y = 0)) ∧
  (∀ {k : IntKind} {k' : IntKind} {x : Int} {y : Int}, binV .quo (.one (.dt (.lit (.int k x)))) (.one (.dt (.lit (.int k' y)))) = (.one (.dt (.lit (.int k (k.wrap (x.tdiv y))))))) ∧
  (∀ {k : IntKind} {k' : IntKind} {x : Int} {y : Int} {tb : Bool}, binO tb .rem (.one (.dt (.lit (.int k x)))) (.one (.dt (.lit (.int k' y)))) = (k = k' ∧ ¬ y = 0)) ∧
  (∀ {k : IntKind} {k' : IntKind} {x : Int} {y : Int}, binV .rem (.one (.dt (.lit (.int k x)))) (.one (.dt (.lit (.int k' y)))) = (.one (.dt (.lit (.int k (x.tmod y)))))) ∧
  (∀ {k : IntKind} {k' : IntKind} {x : Int} {y : Int} {tb : Bool}, binO tb .and (.one (.dt (.lit (.int k x)))) (.one (.dt (.lit (.int k' y)))) = (k = k')) ∧
  (∀ {k : IntKind} {k' : IntKind} {x : Int} {y : Int}, binV .and (.one (.dt (.lit (.int k x)))) (.one (.dt (.lit (.int k' y)))) = (.one (.dt (.lit (.int k (bits .and k x y)))))) ∧
  (∀ {k : IntKind} {k' : IntKind} {x : Int} {y : Int} {tb : Bool}, binO tb .or (.one (.dt (.lit (.int k x)))) (.one (.dt (.lit (.int k' y)))) = (k = k')) ∧
  (∀ {k : IntKind} {k' : IntKind} {x : Int} {y : Int}, binV .or (.one (.dt (.lit (.int k x)))) (.one (.dt (.lit (.int k' y)))) = (.one (.dt (.lit (.int k (bits .or k x y)))))) ∧
  (∀ {k : IntKind} {k' : IntKind} {x : Int} {y : Int} {tb : Bool}, binO tb .shl (.one (.dt (.lit (.int k x)))) (.one (.dt (.lit (.int k' y)))) = (0 ≤ y)) ∧
  (∀ {k : IntKind} {k' : IntKind} {x : Int} {y : Int}, binV .shl (.one (.dt (.lit (.int k x)))) (.one (.dt (.lit (.int k' y)))) = (.one (.dt (.lit (.int k (shl k x y)))))) ∧
  (∀ {k : IntKind} {k' : IntKind} {x : Int} {y : Int} {tb : Bool}, binO tb .shr (.one (.dt (.lit (.int k x)))) (.one (.dt (.lit (.int k' y)))) = (0 ≤ y)) ∧
  (∀ {k : IntKind} {k' : IntKind} {x : Int} {y : Int}, binV .shr (.one (.dt (.lit (.int k x)))) (.one (.dt (.lit (.int k' y)))) = (.one (.dt (.lit (.int k (shr k x y)))))) ∧
  (∀ {k : IntKind} {k' : IntKind} {x : Int} {y : Int} {tb : Bool}, binO tb .eql (.one (.dt (.lit (.int k x)))) (.one (.dt (.lit (.int k' y)))) = (k = k')) ∧
  (∀ {k : IntKind} {k' : IntKind} {x : Int} {y : Int} {tb : Bool}, binO tb .neq (.one (.dt (.lit (.int k x)))) (.one (.dt (.lit (.int k' y)))) = (k = k')) ∧
  (∀ {k : IntKind} {k' : IntKind} {x : Int} {y : Int}, binV .eql (.one (.dt (.lit (.int k x)))) (.one (.dt (.lit (.int k' y)))) = (.one (.dt (.lit (.bool (decide (x = y))))))) ∧
  (∀ {k : IntKind} {k' : IntKind} {x : Int} {y : Int}, binV .neq (.one (.dt (.lit (.int k x)))) (.one (.dt (.lit (.int k' y)))) = (.one (.dt (.lit (.bool (decide (¬ x = y))))))) ∧
  (∀ {k : IntKind} {k' : IntKind} {x : Int} {y : Int} {tb : Bool}, binO tb .lss (.one (.dt (.lit (.int k x)))) (.one (.dt (.lit (.int k' y)))) = (k = k')) ∧
  (∀ {k : IntKind} {k' : IntKind} {x : Int} {y : Int}, binV .lss (.one (.dt (.lit (.int k x)))) (.one (.dt (.lit (.int k' y)))) = (.one (.dt (.lit (.bool (decide (x < y))))))) ∧
  (∀ {k : IntKind} {k' : IntKind} {x : Int} {y : Int} {tb : Bool}, binO tb .leq (.one (.dt (.lit (.int k x)))) (.one (.dt (.lit (.int k' y)))) = (k = k')) ∧
  (∀ {k : IntKind} {k' : IntKind} {x : Int} {y : Int}, binV .leq (.one (.dt (.lit (.int k x)))) (.one (.dt (.lit (.int k' y)))) = (.one (.dt (.lit (.bool (decide (x ≤ y))))))) ∧
  (∀ {k : IntKind} {k' : IntKind} {x : Int} {y : Int} {tb : Bool}, binO tb .gtr (.one (.dt (.lit (.int k x)))) (.one (.dt (.lit (.int k' y)))) = (k = k')) ∧
  (∀ {k : IntKind} {k' : IntKind} {x : Int} {y : Int}, binV .gtr (.one (.dt (.lit (.int k x)))) (.one (.dt (.lit (.int k' y)))) = (.one (.dt (.lit (.bool (decide (y < x))))))) ∧
  (∀ {k : IntKind} {k' : IntKind} {x : Int} {y : Int} {tb : Bool}, binO tb .geq (.one (.dt (.lit (.int k x)))) (.one (.dt (.lit (.int k' y)))) = (k = k')) ∧
  (∀ {k : IntKind} {k' : IntKind} {x : Int} {y : Int}, binV .geq (.one (.dt (.lit (.int k x)))) (.one (.dt (.lit (.int k' y)))) = (.one (.dt (.lit (.bool (decide (y ≤ x))))))) ∧
  (∀ {tb : Bool} (x y : ByteArray), binO tb .eql (.one (.dt (.lit (.string x)))) (.one (.dt (.lit (.string y)))) = True) ∧
  (∀ {tb : Bool} (x y : ByteArray), binO tb .neq (.one (.dt (.lit (.string x)))) (.one (.dt (.lit (.string y)))) = True) ∧
  (∀ {tb : Bool} (x y : ByteArray), binO tb .add (.one (.dt (.lit (.string x)))) (.one (.dt (.lit (.string y)))) = (x.size + y.size ≤ 9223372036854775807)) ∧
  (∀ (x y : ByteArray), binV .eql (.one (.dt (.lit (.string x)))) (.one (.dt (.lit (.string y)))) = (.one (.dt (.lit (.bool (x.toList == y.toList)))))) ∧
  (∀ (x y : ByteArray), binV .neq (.one (.dt (.lit (.string x)))) (.one (.dt (.lit (.string y)))) = (.one (.dt (.lit (.bool (!(x.toList == y.toList))))))) ∧
  (∀ (x y : ByteArray), binV .add (.one (.dt (.lit (.string x)))) (.one (.dt (.lit (.string y)))) = (.one (.dt (.lit (.string (x ++ y)))))) ∧
  (∀ {tb : Bool} {b : Bool} {b' : Bool}, binO tb .eql (.one (.dt (.lit (.bool b)))) (.one (.dt (.lit (.bool b')))) = (tb = true)) ∧
  (∀ {tb : Bool} {b : Bool} {b' : Bool}, binO tb .neq (.one (.dt (.lit (.bool b)))) (.one (.dt (.lit (.bool b')))) = (tb = true)) ∧
  (∀ {b : Bool} {b' : Bool}, binV .eql (.one (.dt (.lit (.bool b)))) (.one (.dt (.lit (.bool b')))) = (.one (.dt (.lit (.bool (b == b')))))) ∧
  (∀ {b : Bool} {b' : Bool}, binV .neq (.one (.dt (.lit (.bool b)))) (.one (.dt (.lit (.bool b')))) = (.one (.dt (.lit (.bool (!(b == b'))))))) ∧
  (∀ {b : Bool}, pickO (.one (.dt (.lit (.bool b)))) = True) ∧
  (∀ {b : Bool} (u v : AV), pickV (.one (.dt (.lit (.bool b)))) u v = if b = true then u else v) ∧
  (∀ {b : Bool}, unO .not (.one (.dt (.lit (.bool b)))) = True) ∧
  (∀ {p : Prop} [Decidable p], unV .not (.one (.dt (.lit (.bool (decide p))))) = (.one (.dt (.lit (.bool (decide (¬p))))))) ∧
  (unV .not (.one (.dt (.lit (.bool true)))) = (.one (.dt (.lit (.bool false))))) ∧
  (unV .not (.one (.dt (.lit (.bool false)))) = (.one (.dt (.lit (.bool true))))) ∧
  (∀ {k : IntKind} {x : Int}, unO .neg (.one (.dt (.lit (.int k x)))) = True) ∧
  (∀ {k : IntKind} {x : Int}, unV .neg (.one (.dt (.lit (.int k x)))) = (.one (.dt (.lit (.int k (k.wrap (0 - x))))))) ∧
  (∀ {k : IntKind} {k' : IntKind} {x : Int}, cvO (some k') (.one (.dt (.lit (.int k x)))) = True) ∧
  (∀ {k : IntKind} {k' : IntKind} {x : Int}, cvV (some k') (.one (.dt (.lit (.int k x)))) = (.one (.dt (.lit (.int k' (k'.wrap x)))))) ∧
  (∀ {b : Bool}, asB (.one (.dt (.lit (.bool b)))) = some b) ∧
  (∀ {b : Bool} (want : Bool), asG want (.one (.dt (.lit (.bool b)))) = some b) ∧
  (asG true .un = some false) ∧
  (asG false .un = some true) ∧
  (∀ (c : Ce), cellsOf (.one c) = some [c]) ∧
  (∀ (cs : List Ce), cellsOf (.agg cs) = some cs) ∧
  (∀ (sz : Nat) (c : Ce) (cs : List Ce), ldO false sz (some (c :: cs)) = True) ∧
  (∀ (sz : Nat) (cs : List Ce), ldO true sz (some cs) = (sz ≤ cs.length)) ∧
  (∀ (sz : Nat) (c : Ce) (cs : List Ce), ldV false sz (some (c :: cs)) = .one c) ∧
  (∀ (sz : Nat) (cs : List Ce), ldV true sz (some cs) = .agg (cs.take sz)) ∧
  (∀ {s : AS} (y : Nat × Nat) (off : Nat), acells s (.ptr y off) = (match s.v y with | some cs => some (cs.drop off) | none => none)) ∧
  (∀ {s : AS} (r : Nat × Nat) (ver j : Nat), acells s (.rel r ver j) = (match s.r r with | some row => if row.ver = ver then some ((row.cells.drop j).map .dt) else none | none => none)) ∧
  (∀ {s : AS} (o : Nat) (y : Nat × Nat) (off : Nat), fldO s (some o) (.ptr y off) = True) ∧
  (∀ {s : AS} (o : Nat) (ds : List Dt), fldO s (some o) (.el ds) = (o ≤ ds.length)) ∧
  (∀ (o : Nat) (y : Nat × Nat) (off : Nat), fldV (some o) (.ptr y off) = .ptr y (off + o)) ∧
  (∀ (o : Nat) (ds : List Dt), fldV (some o) (.el ds) = .el (ds.drop o)) ∧
  (∀ {s : AS} {k : IntKind} {x : Int} (sz : Nat) (r : Nat × Nat) (ver : Nat), idxO s sz (.one (.row r ver)) (.one (.dt (.lit (.int k x)))) = (match s.r r with | some row => row.ver = ver ∧ 0 ≤ x ∧ x < row.n | none => False)) ∧
  (∀ {k : IntKind} {x : Int} (sz : Nat) (r : Nat × Nat) (ver : Nat), idxV sz (.one (.row r ver)) (.one (.dt (.lit (.int k x)))) = .rel r ver (x.toNat * sz)) ∧
  (∀ (rs : List RV) (j : Nat), extO (.tup rs) j = (j < rs.length)) ∧
  (∀ (rs : List RV) (j : Nat), extV (.tup rs) j = (match rs[j]? with | some r => r.toAV | none => .no)) ∧
  (∀ {s : AS}, lenO s (.one .z) = True) ∧
  (∀ {s : AS}, lenV s (.one .z) = (.one (.dt (.lit (.int .i64 0))))) ∧
  (∀ {s : AS} (r : Nat × Nat) (ver : Nat), lenO s (.one (.row r ver)) = (match s.r r with | some row => row.ver = ver | none => False)) ∧
  (∀ {s : AS} (r : Nat × Nat) (ver : Nat), lenV s (.one (.row r ver)) = (match s.r r with | some row => (.one (.dt (.lit (.int .i64 row.n)))) | none => .no)) ∧
  (∀ {k : IntKind} {k' : IntKind} {x : Int} {y : Int}, mxO (.one (.dt (.lit (.int k x)))) (.one (.dt (.lit (.int k' y)))) = (k = k')) ∧
  (∀ {k : IntKind} {k' : IntKind} {x : Int} {y : Int} (f : Int → Int → Int), mxV f (.one (.dt (.lit (.int k x)))) (.one (.dt (.lit (.int k' y)))) = (.one (.dt (.lit (.int k (f x y)))))) ∧
  (∀ {s : AS} (cs : List Ce) (y : Nat × Nat) (off : Nat), stO s cs (.ptr y off) = (match s.v y with | some cs0 => s.f y = false ∧ off + cs.length ≤ cs0.length | none => False)) ∧
  (∀ {s : AS} (cs : List Ce) (y : Nat × Nat) (off : Nat), stS s cs (.ptr y off) = (match s.v y with | some cs0 => s.setv y (cs0.take off ++ cs ++ cs0.drop (off + cs.length)) | none => s)) ∧
  (∀ {s : AS} (d : Dt) (r : Nat × Nat) (ver j : Nat), stO s [.dt d] (.rel r ver j) = (match s.r r with | some row => row.ver = ver ∧ row.live = true ∧ [Ce.dt d].length = 1 ∧ j < row.n * row.sz | none => False)) ∧
  (∀ {s : AS} (d : Dt) (r : Nat × Nat) (ver j : Nat), stS s [.dt d] (.rel r ver j) = (match s.r r with | some row => s.setr r { row with cells := row.cells.set j d } | none => s)) ∧
  (∀ {s : AS} (d : Dt), toD s (.dt d) = some d) ∧
  (∀ {s : AS}, toD s .z = some (.sl 0 [])) ∧
  (∀ {s : AS} (r : Nat × Nat) (ver : Nat), toD s (.row r ver) = (match s.r r with | some row => if row.ver = ver ∧ row.live = false then some (.sl row.n row.cells) else none | none => none)) ∧
  (∀ {s : AS}, toDs s [] = some []) ∧
  (∀ {s : AS} (c : Ce) (cs : List Ce), toDs s (c :: cs) = (match toD s c, toDs s cs with | some d, some ds => some (d :: ds) | _, _ => none)) ∧
  (∀ {s : AS} (c : Ce), toRV s (.one c) = (toD s c).map .one) ∧
  (∀ {s : AS} (cs : List Ce), toRV s (.agg cs) = (toDs s cs).map .agg) ∧
  (∀ {s : AS}, toRVs s [] = some []) ∧
  (∀ {s : AS} (u : AV) (us : List AV), toRVs s (u :: us) = (match toRV s u, toRVs s us with | some r, some rs => some (r :: rs) | _, _ => none)) ∧
  (∀ {s : AS}, evs s [] = []) ∧
  (∀ {s : AS} (u : Operand) (us : List Operand), evs s (u :: us) = s.ev u :: evs s us) ∧
  (∀ {s : AS}, pairs s [] = []) ∧
  (∀ {s : AS} (i : Nat) (u : Operand) (us : List (Nat × Operand)), pairs s ((i, u) :: us) = (i, s.ev u) :: pairs s us) ∧
  (∀ (pl : Nat → Option (Nat × Nat)) (cells : List Ce), fillA pl cells [] = some cells) ∧
  (∀ (pl : Nat → Option (Nat × Nat)) (cells : List Ce) (i : Nat) (u : AV) (us : List (Nat × AV)), fillA pl cells ((i, u) :: us) = (match pl i, cellsOf u with | some (off, size), some cs => if cs.length = size ∧ off + size ≤ cells.length then fillA pl (cells.take off ++ cs ++ cells.drop (off + size)) us else none | _, _ => none)) ∧
  (((0 : Nat) : Int) = 0) ∧
  (∀ {s : AS} (e : TypeId) (sz bytes m ver : Nat) (cells : List Dt) (r : Nat × Nat), appO s e sz bytes (some (m, cells)) (.one (.row r ver)) = (match s.r r with | some row => row.ver = ver ∧ row.live = true ∧ row.e = e ∧ row.sz = sz ∧ cells.length = m * sz ∧ row.n + m ≤ 9223372036854775807 ∧ (row.n + m) * bytes ≤ 140737488355328 | none => False)) ∧
  (∀ {s : AS} (d : Nat) (e : TypeId) (sz m ver : Nat) (cells : List Dt) (r : Nat × Nat), appS s d e sz (some (m, cells)) (.one (.row r ver)) = (match s.r r with | some row => (s.setr r { row with n := row.n + m, cells := row.cells ++ cells, ver := ver + 1 }).set d (.one (.row r (ver + 1))) | none => s)) ∧
  (∀ (i : Nat), ((i : Int) + 1).toNat = i + 1) ∧
  (∀ (i : Nat), ((i : Int) - 1).toNat = i - 1) ∧
  (∀ (i j : Nat), ((i : Int) + (j : Int)).toNat = i + j) ∧
  (∀ (i : Nat), ((i + 1 : Nat) : Int) = (i : Int) + 1) ∧
  (∀ {s : AS} (P : Program), resRs P s [] [] = True) ∧
  (∀ {s : AS} (P : Program) (u : ResultVar) (us : List ResultVar) (r : RV) (rs : List RV), resRs P s (u :: us) (r :: rs) = (resR P s u r ∧ resRs P s us rs)) ∧
  (∀ {s : AS} (P : Program) (t : Nat) (r : RV), resR P s (.tmp t) r = (toRV s (s.t t) = some r)) ∧
  (∀ {s : AS} (P : Program) (t : Nat) (T : TypeId) (r : RV), resR P s (.cell t T) r = (tok P T = true ∧ ldO (tagg P T) (tsz P T) (acells s (s.t t)) ∧ toRV s (ldV (tagg P T) (tsz P T) (acells s (s.t t))) = some r)) ∧
  (∀ {s : AS} (t : Nat), ghE (.frz t) s = (match s.t t with | .one (.row r _) => s.freeze r | _ => s)) ∧
  (∀ {s : AS} (t i : Nat), ghE (.frzc t i) s = (match s.t t with | .ptr xx _ => (match s.v xx with | some cs => frzC s cs[i]? | none => s) | _ => s)) ∧
  (∀ {s : AS} (t : Nat), ghE (.frzv t) s = (match s.t t with | .ptr xx _ => (match s.v xx with | some _ => s.freezev xx | none => s) | .sv xx _ _ => (match s.v xx with | some _ => s.freezev xx | none => s) | _ => s)) ∧
  (∀ {s : AS} {k : IntKind} {x : Int} (sz : Nat) (xx : Nat × Nat) (off n : Nat), idxO s sz (.sv xx off n) (.one (.dt (.lit (.int k x)))) = (sz = 1 ∧ 0 ≤ x ∧ x < n)) ∧
  (∀ {k : IntKind} {x : Int} (sz : Nat) (xx : Nat × Nat) (off n : Nat), idxV sz (.sv xx off n) (.one (.dt (.lit (.int k x)))) = .ptr xx (off + x.toNat)) ∧
  (∀ {s : AS} (xx : Nat × Nat) (off n : Nat), lenO s (.sv xx off n) = True) ∧
  (∀ {s : AS} (xx : Nat × Nat) (off n : Nat), lenV s (.sv xx off n) = (.one (.dt (.lit (.int .i64 n))))) ∧
  (∀ {k : IntKind} {x : Int} (xx : Nat × Nat) (off n : Nat), cutO 1 none (some (.one (.dt (.lit (.int k x))))) none (.sv xx off n) = (0 ≤ x ∧ x ≤ n)) ∧
  (∀ {k : IntKind} {k' : IntKind} {x : Int} {y : Int} (xx : Nat × Nat) (off n : Nat), cutO 1 (some (.one (.dt (.lit (.int k x))))) (some (.one (.dt (.lit (.int k' y))))) none (.sv xx off n) = (0 ≤ x ∧ x ≤ y ∧ y ≤ n)) ∧
  (∀ {k : IntKind} {x : Int} (xx : Nat × Nat) (off n : Nat), cutV 1 none (some (.one (.dt (.lit (.int k x))))) (.sv xx off n) = .sv xx off x.toNat) ∧
  (∀ {k : IntKind} {k' : IntKind} {x : Int} {y : Int} (xx : Nat × Nat) (off n : Nat), cutV 1 (some (.one (.dt (.lit (.int k x))))) (some (.one (.dt (.lit (.int k' y))))) (.sv xx off n) = .sv xx (off + x.toNat) (y.toNat - x.toNat)) ∧
  (∀ {s : AS} (xx : Nat × Nat) (off n : Nat), toRV s (.sv xx off n) = (match s.v xx with | some cs => if s.f xx = true ∧ off + n ≤ cs.length then (ceDs cs).map fun ds => .one (.sl n ((ds.drop off).take n)) else none | none => none)) ∧
  (∀ {k : IntKind} {x : Int} (b : ByteArray), sixO (.one (.dt (.lit (.string b)))) (.one (.dt (.lit (.int k x)))) = (0 ≤ x ∧ x < b.size)) ∧
  (∀ {k : IntKind} {x : Int} (b : ByteArray), sixV (.one (.dt (.lit (.string b)))) (.one (.dt (.lit (.int k x)))) = (.one (.dt (.lit (.int .u8 (sbyte b x)))))) ∧
  (∀ (cs : List Ce) (c : Ce) (j : Nat), extO (.pr cs c) j = (j < 2)) ∧
  (∀ (cs : List Ce) (c : Ce), extV (.pr cs c) 0 = .agg cs) ∧
  (∀ (cs : List Ce) (c : Ce), extV (.pr cs c) 1 = .one c) ∧
  (∀ (b : ByteArray), strOf (.one (.dt (.lit (.string b)))) = some b) ∧
  (∀ (v : Value), litV v = .one (.dt (.lit v))) ∧
  (∀ {s : AS} (e : TypeId) (sz bytes m : Nat) (cells : List Dt), appO s e sz bytes (some (m, cells)) (.one .z) = (cells.length = m * sz ∧ m ≤ maxLen ∧ m * bytes ≤ 140737488355328)) ∧
  (∀ {s : AS} (d : Nat) (e : TypeId) (sz m : Nat) (cells : List Dt), appS s d e sz (some (m, cells)) (.one .z) = (((s.setr (d, s.g d) ⟨e, sz, m, cells, 0, true⟩).bump d)).set d (.one (.row (d, s.g d) 0))) ∧
  (∀ {s : AS} (t : Nat) (e : TypeId) (sz : Nat), ghE (.nilt t e sz) s = ((s.setr (t, s.g t) ⟨e, sz, 0, [], 0, true⟩).bump t).set t (.one (.row (t, s.g t) 0))) ∧
  (∀ {s : AS} (t i k : Nat) (e : TypeId) (sz : Nat), ghE (.nilv t i k e sz) s = (match s.t t with | .ptr xx _ => (match s.v xx with | some cs => ((s.setr (k, s.g k) ⟨e, sz, 0, [], 0, true⟩).bump k).setv xx (cs.set i (.row (k, s.g k) 0)) | none => s) | _ => s)) ∧
  (∀ {s : AS} (t i k : Nat) (e : TypeId) (sz : Nat), ghO (.nilv t i k e sz) s = (match s.t t with | .ptr xx _ => s.f xx = false ∧ (match s.v xx with | some cs => cs[i]? = some .z | none => False) | _ => False)) ∧
  (∀ {s : AS} (r : Nat × Nat) (v : Nat), frzC s (some (.row r v)) = s.freeze r) ∧
  (∀ {s : AS}, frzC s (some .z) = s) ∧
  (∀ {s : AS} (d : Dt), frzC s (some (.dt d)) = s) ∧
  (∀ {s : AS} (t : Nat), ghO (.frz t) s = True) ∧
  (∀ {s : AS} (t i : Nat), ghO (.frzc t i) s = True) ∧
  (∀ {s : AS} (t : Nat), ghO (.frzv t) s = True) ∧
  (∀ {s : AS} (t : Nat) (e : TypeId) (sz : Nat), ghO (.nilt t e sz) s = (match s.t t with | .one .z => True | _ => False)) ∧
  (∀ {n : Int} (h : -9223372036854775808 ≤ n) (h' : n < 9223372036854775808), IntKind.i64.wrap n = n) ∧
  (∀ {n : Int} (h : 0 ≤ n) (h' : n < 18446744073709551616), IntKind.u64.wrap n = n) ∧
  (∀ {n : Int} (h : 0 ≤ n) (h' : n < 18446744073709551616), bits .and .u64 n 4294967295 = n % 4294967296) ∧
  (∀ (n : Int), shr .u64 n 32 = n / 4294967296) ∧
  (∀ {n : Int} (h : 0 ≤ n) (h' : n < 4294967296), shl .u64 n 32 = n * 4294967296) ∧
  (∀ {r a : Int} (h : 0 ≤ r) (h1 : r < 4294967296) (h2 : 0 ≤ a) (h3 : a < 4294967296), bits .or .u64 (r * 4294967296) a = r * 4294967296 + a) ∧
  (∀ {x y : Int} (h : 0 ≤ x), x.tdiv y = x / y) ∧
  (∀ {x y : Int} (h : 0 ≤ x), x.tmod y = x % y) ∧
  (∀ {n : Int} (h : 0 ≤ n) (h' : n < 4294967296), IntKind.u32.wrap n = n) ∧
  (∀ {i j m : Int} {q : Prop} {n : Nat} (h : 0 ≤ i) (h1 : i ≤ j) (h2 : j ≤ m) (h3 : m ≤ n), cutP (some i) (some j) (some m) q n = q) ∧
  (∀ (d : Int), bnd none d = some d) ∧
  (∀ (k : IntKind) (i d : Int), bnd (some (.one (.dt (.lit (.int k i))))) d = some i) ∧
  (∀ {s : AS} {k : IntKind} {x : Int} (l : List (Int)) (h : 0 ≤ x) (h' : x < l.length), idxO s 1 (.one (.dt (natD l))) (.one (.dt (.lit (.int k x)))) = True) ∧
  (∀ {lo hi mx : Option AV} (l : List (Int)), cutO 1 lo hi mx (.one (.dt (natD l))) = cutP (bnd lo 0) (bnd hi l.length) (bnd mx l.length) (mx.isSome = true → hi.isSome = true) l.length) ∧
  (∀ {lo hi : Option AV} (l : List (Int)), cutV 1 lo hi (.one (.dt (natD l))) = cutW (bnd lo 0) (bnd hi l.length) l u32c) ∧
  (∀ {i j : Int} (l : List (Int)) (h : 0 ≤ i) (h1 : i ≤ j) (h2 : j ≤ l.length), cutW (some i) (some j) l u32c = .one (.dt (natD ((l.take j.toNat).drop i.toNat)))) ∧
  (∀ {k : IntKind} {x : Int} (l : List (Int)) (h : 0 ≤ x) (h' : x < l.length), idxV 1 (.one (.dt (natD l))) (.one (.dt (.lit (.int k x)))) = .el (u32c (l.getD x.toNat 0))) ∧
  (∀ {s : AS} (l : List (Int)), lenO s (.one (.dt (natD l))) = True) ∧
  (∀ {s : AS} (l : List (Int)), lenV s (.one (.dt (natD l))) = (.one (.dt (.lit (.int .i64 l.length))))) ∧
  (∀ (l : List (Int)) (n : Nat) (h : n = l.length), Dt.sl n (natC l) = natD l) ∧
  (∀ (l : List (Int)), (natC l).length = l.length) ∧
  (∀ {s : AS} (l : List (Int)), srcD s (.one (.dt (natD l))) = some (l.length, natC l)) ∧
  (∀ {s : AS} {k : IntKind} {x : Int} (l : List (Int)) (h : 0 ≤ x) (h' : x < l.length), idxO s 1 (.one (.dt (intsD l))) (.one (.dt (.lit (.int k x)))) = True) ∧
  (∀ {lo hi mx : Option AV} (l : List (Int)), cutO 1 lo hi mx (.one (.dt (intsD l))) = cutP (bnd lo 0) (bnd hi l.length) (bnd mx l.length) (mx.isSome = true → hi.isSome = true) l.length) ∧
  (∀ {lo hi : Option AV} (l : List (Int)), cutV 1 lo hi (.one (.dt (intsD l))) = cutW (bnd lo 0) (bnd hi l.length) l i64c) ∧
  (∀ {i j : Int} (l : List (Int)) (h : 0 ≤ i) (h1 : i ≤ j) (h2 : j ≤ l.length), cutW (some i) (some j) l i64c = .one (.dt (intsD ((l.take j.toNat).drop i.toNat)))) ∧
  (∀ {k : IntKind} {x : Int} (l : List (Int)) (h : 0 ≤ x) (h' : x < l.length), idxV 1 (.one (.dt (intsD l))) (.one (.dt (.lit (.int k x)))) = .el (i64c (l.getD x.toNat 0))) ∧
  (∀ {s : AS} (l : List (Int)), lenO s (.one (.dt (intsD l))) = True) ∧
  (∀ {s : AS} (l : List (Int)), lenV s (.one (.dt (intsD l))) = (.one (.dt (.lit (.int .i64 l.length))))) ∧
  (∀ (l : List (Int)) (n : Nat) (h : n = l.length), Dt.sl n (intsC l) = intsD l) ∧
  (∀ (l : List (Int)), (intsC l).length = l.length) ∧
  (∀ {s : AS} (l : List (Int)), srcD s (.one (.dt (intsD l))) = some (l.length, intsC l)) ∧
  (∀ {s : AS} {k : IntKind} {x : Int} (l : List (List Int)) (h : 0 ≤ x) (h' : x < l.length), idxO s 1 (.one (.dt (natsD l))) (.one (.dt (.lit (.int k x)))) = True) ∧
  (∀ {lo hi mx : Option AV} (l : List (List Int)), cutO 1 lo hi mx (.one (.dt (natsD l))) = cutP (bnd lo 0) (bnd hi l.length) (bnd mx l.length) (mx.isSome = true → hi.isSome = true) l.length) ∧
  (∀ {lo hi : Option AV} (l : List (List Int)), cutV 1 lo hi (.one (.dt (natsD l))) = cutW (bnd lo 0) (bnd hi l.length) l natc) ∧
  (∀ {i j : Int} (l : List (List Int)) (h : 0 ≤ i) (h1 : i ≤ j) (h2 : j ≤ l.length), cutW (some i) (some j) l natc = .one (.dt (natsD ((l.take j.toNat).drop i.toNat)))) ∧
  (∀ {k : IntKind} {x : Int} (l : List (List Int)) (h : 0 ≤ x) (h' : x < l.length), idxV 1 (.one (.dt (natsD l))) (.one (.dt (.lit (.int k x)))) = .el (natc (l.getD x.toNat []))) ∧
  (∀ {s : AS} (l : List (List Int)), lenO s (.one (.dt (natsD l))) = True) ∧
  (∀ {s : AS} (l : List (List Int)), lenV s (.one (.dt (natsD l))) = (.one (.dt (.lit (.int .i64 l.length))))) ∧
  (∀ (l : List (List Int)) (n : Nat) (h : n = l.length), Dt.sl n (natsC l) = natsD l) ∧
  (∀ (l : List (List Int)), (natsC l).length = l.length) ∧
  (∀ {s : AS} (l : List (List Int)), srcD s (.one (.dt (natsD l))) = some (l.length, natsC l)) ∧
  (∀ {s : AS} (n : Int), acells s (.el (u32c n)) = some [.dt (.lit (.int .u32 n))]) ∧
  (∀ {s : AS} (n : Int), acells s (.el (i64c n)) = some [.dt (.lit (.int .i64 n))]) ∧
  (∀ {s : AS} (l : List Int), acells s (.el (natc l)) = some [.dt (natD l)]) ∧
  (∀ (l : List Int) (i : Nat) (x : Int), (natC l).set i (.lit (.int .u32 x)) = natC (l.set i x)) ∧
  (∀ (a b : List Int) (i : Nat), (natC a).take i ++ (natC b).drop i = natC (a.take i ++ b.drop i)) ∧
  (∀ (sz : Nat) (l : List Int) (i : Nat) (h : i < l.length), ldO false sz (some (((natC l).drop i).map Ce.dt)) = True) ∧
  (∀ (sz : Nat) (l : List Int) (i : Nat) (h : i < l.length), ldV false sz (some (((natC l).drop i).map Ce.dt)) = .one (.dt (.lit (.int .u32 (l.getD i 0))))) ∧
  (∀ {b : Nat} {z : Dt} {n m : Int} {k k' : IntKind} (h : 0 ≤ n) (h0 : n ≤ m) (h' : (b : Int) * m ≤ 281474976710656) (h2 : m ≤ 9223372036854775807), mkO b (some [.dt z]) (.one (.dt (.lit (.int k n)))) (.one (.dt (.lit (.int k' m)))) = True) ∧
  (∀ {s : AS} {k : IntKind} (d : Nat) (e : TypeId) (n : Int), mkS s d e (some [.dt (.lit (.int .u32 0))]) (.one (.dt (.lit (.int k n)))) = ((s.setr (d, s.g d) ⟨e, 1, n.toNat, natC (List.replicate n.toNat 0), 0, true⟩).bump d).set d (.one (.row (d, s.g d) 0))) ∧
  (∀ {s : AS} (m ver : Nat) (cells : List Dt) (r : Nat × Nat), cpO s (some (m, cells)) (.one (.row r ver)) = (match s.r r with | some row => row.ver = ver ∧ row.live = true ∧ row.sz = 1 ∧ cells.length = m | none => False)) ∧
  (∀ {s : AS} (d : Option Nat) (m ver : Nat) (cells : List Dt) (r : Nat × Nat), cpS s d (some (m, cells)) (.one (.row r ver)) = (match s.r r with | some row => (s.setr r { row with cells := cells.take (min m row.n) ++ row.cells.drop (min m row.n) }).put d (litV (.int .i64 (min m row.n : Nat))) | none => s)) ∧
  (∀ (n : Nat), List.replicate n (Dt.lit (.int .u32 0)) = natC (List.replicate n 0)) ∧
  (∀ (l : List Int) (x : Int), natC l ++ [.lit (.int .u32 x)] = natC (l ++ [x])) ∧
  (∀ (l : List Int) (x : Int), intsC l ++ [.lit (.int .i64 x)] = intsC (l ++ [x])) ∧
  (∀ (l : List (List Int)) (x : List Int), natsC l ++ [natD x] = natsC (l ++ [x])) ∧
  (∀ (l : List Int), (u32s l).length = l.length) ∧
  (∀ (l : List Int), ceDs (u32s l) = some (natC l)) ∧
  (∀ (sz : Nat) (l : List Int) (i : Nat) (h : i < l.length), ldO false sz (some ((u32s l).drop i)) = True) ∧
  (∀ (sz : Nat) (l : List Int) (i : Nat) (h : i < l.length), ldV false sz (some ((u32s l).drop i)) = .one (.dt (.lit (.int .u32 (l.getD i 0))))) ∧
  (∀ (l : List Int) (i : Nat) (x : Int) (h : i < l.length), (u32s l).take i ++ [.dt (.lit (.int .u32 x))] ++ (u32s l).drop (i + 1) = u32s (l.set i x)) ∧
  (∀ (l : List Int) (o n : Nat), ((natC l).drop o).take n = natC ((l.drop o).take n)) ∧
  (natC [] = []) ∧
  (intsC [] = []) ∧
  (∀ (l : List Int) (i : Nat) (x : Int), (intsC l).set i (.lit (.int .i64 x)) = intsC (l.set i x)) ∧
  (∀ (l : List Int), i64s l = intsC l) ∧
  (natsC [] = []) :=
  ⟨@src_sl, @cd_nil, @cd_cons, @cd_dt, @cd_z, @bsl_some, @o_add, @v_add, @o_sub, @v_sub, @o_mul, @v_mul, @o_quo, @v_quo, @o_rem, @v_rem, @o_and, @v_and, @o_or, @v_or, @o_shl, @v_shl, @o_shr, @v_shr, @o_eql, @o_neq, @v_eql, @v_neq, @o_lss, @v_lss, @o_leq, @v_leq, @o_gtr, @v_gtr, @o_geq, @v_geq, @o_eqls, @o_neqs, @o_adds, @v_eqls, @v_neqs, @v_adds, @o_eqlb, @o_neqb, @v_eqlb, @v_neqb, @o_pick, @v_pick, @o_not, @v_not, @v_nott, @v_notf, @o_neg, @v_neg, @o_cv, @v_cv, @as_b, @ag_b, @ag_t, @ag_f, @cl_one, @cl_agg, @ld_of, @ld_ot, @ld_vf, @ld_vt, @ac_ptr, @ac_rel, @fo_ptr, @fo_el, @fv_ptr, @fv_el, @io_row, @iv_row, @xo, @xv, @lo_z, @lv_z, @lo_row, @lv_row, @mo, @mv, @st_ptr, @ss_ptr, @st_rel, @ss_rel, @td_dt, @td_z, @td_row, @tds_nil, @tds_cons, @tr_one, @tr_agg, @trs_nil, @trs_cons, @ev_nil', @ev_cons, @pr_nil, @pr_cons, @fl_nil, @fl_cons, @cast0, @ap_o, @ap_s, @tn_p, @tn_m, @tn_a, @castS, @rs_nil, @rs_cons, @rr_tmp, @rr_cell, @gh_frz, @gh_frzc, @gh_frzv, @io_sv, @iv_sv, @lo_sv, @lv_sv, @cs_a, @cs_b, @cs_c, @cs_d, @tr_sv, @six_o, @six_v, @xo_pr, @xv_pr0, @xv_pr1, @so_str, @lit_v, @ap_z, @as_z, @gh_nilt, @gh_nilv, @go_nilv, @frzC_row, @frzC_z, @frzC_dt, @go_frz, @go_frzc, @go_frzv, @go_nilt, @wi64, @wu64, @and_m32, @shr_32, @shl_32, @or_hi, @td_nn, @tm_nn, @wu32, @cp_some, @bnd_n, @bnd_s, @io_natD, @co_natD, @cv_natD, @cw_natD, @iv_natD, @lo_natD, @lv_natD, @of_natD, @len_natC, @src_natD, @io_intsD, @co_intsD, @cv_intsD, @cw_intsD, @iv_intsD, @lo_intsD, @lv_intsD, @of_intsD, @len_intsC, @src_intsD, @io_natsD, @co_natsD, @cv_natsD, @cw_natsD, @iv_natsD, @lo_natsD, @lv_natsD, @of_natsD, @len_natsC, @src_natsD, @ac_u32, @ac_i64, @ac_nat, @natC_set, @natC_copy, @lo_rel, @lv_rel, @mk_o, @mk_s, @cp_o, @cp_s, @natC_rep, @natC_app1, @intsC_app1, @natsC_app1, @us_len, @us_ds, @us_lo, @us_lv, @us_set, @us_cut, @natC_nil, @intsC_nil, @intsC_set, @i64s_ints, @natsC_nil⟩
theorem CC : (∀ {α : Type} {a : α}, (some a).isSome = true) ∧
  (∀ (p : Prop), (True ∧ p) = p) ∧
  (∀ (p : Prop), (p ∧ True) = p) ∧
  (∀ (p : Prop), (p ∧ p) = p) ∧
  (∀ (p : Prop), (False ∧ p) = False) ∧
  (∀ (p : Prop), (p ∧ False) = False) ∧
  (∀ (h : Decidable True), @decide True h = true) ∧
  (∀ (h : Decidable False), @decide False h = false) ∧
  (∀ {α : Type} {h : Decidable True} (t e : α), (@ite α True h t e) = t) ∧
  (∀ {α : Type} {h : Decidable False} (t e : α), (@ite α False h t e) = e) ∧
  (∀ {h : Decidable True} (t e : Prop), (@ite Prop True h t e) = t) ∧
  (∀ {h : Decidable False} (t e : Prop), (@ite Prop False h t e) = e) ∧
  ((false = true) = False) ∧
  ((true = false) = False) ∧
  (∀ {α β : Type} (a : α) (f : α → β), (some a).map f = some (f a)) ∧
  (∀ {α β : Type} (f : α → β), (none : Option α).map f = none) ∧
  (∀ {α : Type} (a b : α), (some a = some b) = (a = b)) ∧
  (∀ {α : Type} (a : α), (a = a) = True) ∧
  (∀ (n : Nat), ((n : Int)).toNat = n) ∧
  (∀ {α : Type} {a : α} {xs : List α}, (a :: xs).length = xs.length + 1) ∧
  (∀ {α : Type}, ([] : List α).length = 0) ∧
  (∀ (n : Nat), 0 + n = n) ∧
  (∀ {α : Type} {i : Nat} {a : α} {xs : List α}, (a :: xs).take (i + 1) = a :: xs.take i) ∧
  (∀ {α : Type} {l : List α}, l.take 0 = []) ∧
  (∀ {α : Type} {i : Nat} {a : α} {xs : List α}, (a :: xs).drop (i + 1) = xs.drop i) ∧
  (∀ {α : Type} {l : List α}, l.drop 0 = l) ∧
  ((0 : Int).toNat = 0) ∧
  (∀ {α : Type} {a b : α} {l : List α}, (a :: l).set 0 b = b :: l) ∧
  (∀ {α : Type} {a b : α} {i : Nat} {l : List α}, (a :: l).set (i + 1) b = a :: l.set i b) ∧
  (∀ (p : Prop), (p → p) = True) ∧
  (∀ (p : Prop), (p → True) = True) ∧
  (∀ (p : Prop), (True → p) = p) ∧
  (∀ (p : Prop), (false = true → p) = True) ∧
  (∀ {α : Type} {n : Nat} {a : α}, List.replicate (n + 1) a = a :: List.replicate n a) ∧
  (∀ {α : Type} {a : α}, List.replicate 0 a = []) ∧
  (∀ {α : Type} {l : List α} {L : List (List α)}, (l :: L).flatten = l ++ L.flatten) ∧
  (∀ {α : Type}, ([] : List (List α)).flatten = []) ∧
  (∀ {α : Type} {a : α} {xs ys : List α}, a :: xs ++ ys = a :: (xs ++ ys)) ∧
  (∀ {α : Type} (xs : List α), [] ++ xs = xs) ∧
  (∀ {α : Type} (xs : List α), xs ++ [] = xs) ∧
  (∀ (n : Nat), 0 * n = 0) ∧
  (∀ (n : Nat), 1 * n = n) ∧
  (∀ (n : Nat), n * 1 = n) ∧
  (∀ {α : Type} (xs : List α), xs.toArray.toList = xs) ∧
  (∀ {α : Type} (xs : List α), xs.toArray.size = xs.length) ∧
  (∀ (a b : Int), a + b - b = a) ∧
  (∀ {α : Type} {l : List α}, l.take l.length = l) ∧
  (∀ {α : Type} {i : Nat} {l : List α}, (l.drop i).length = l.length - i) ∧
  (∀ {α β : Type} {f : α → β} {a : α} {l : List α}, (a :: l).map f = f a :: l.map f) ∧
  (∀ {α β : Type} {f : α → β}, ([] : List α).map f = []) ∧
  (∀ (p : Prop), (¬¬p) = p) ∧
  ((¬True) = False) ∧
  ((¬False) = True) ∧
  (∀ {α : Type} {xs : List α} {i : Nat} {a : α}, (xs.set i a).length = xs.length) ∧
  (∀ {α : Type} {n : Nat} {a : α}, (List.replicate n a).length = n) ∧
  (∀ {α : Type} {a : α} {l : List α}, (a :: l)[0]? = some a) ∧
  (∀ {α : Type} {a : α} {i : Nat} {l : List α}, (a :: l)[i + 1]? = l[i]?) ∧
  (∀ {α : Type} {d a : α} {l : List α}, (a :: l).getD 0 d = a) ∧
  (∀ {α β : Type} (a : α) (b : β) (c : α) (d : β), ((a, b) = (c, d)) = (a = c ∧ b = d)) := by
  refine ⟨?_, ?_, ?_, ?_, ?_, ?_, ?_, ?_, ?_, ?_, ?_, ?_, ?_, ?_, ?_, ?_, ?_, ?_, ?_, ?_, ?_, ?_, ?_, ?_, ?_, ?_, ?_, ?_, ?_, ?_, ?_, ?_, ?_, ?_, ?_, ?_, ?_, ?_, ?_, ?_, ?_, ?_, ?_, ?_, ?_, ?_, ?_, ?_, ?_, ?_, ?_, ?_, ?_, ?_, ?_, ?_, ?_, ?_, ?_⟩ <;> intros <;> first | rfl | (simp; done) | skip
theorem LL : (∀ {α : Type} {xs : List α} {i : Nat} {a : α}, (xs.set i a).length = xs.length) ∧
  (∀ {α : Type} {xs ys : List α}, (xs ++ ys).length = xs.length + ys.length) ∧
  (∀ {α : Type} {n : Nat} {a : α}, (List.replicate n a).length = n) ∧
  (∀ {α : Type} {i : Nat} {l : List α}, (l.take i).length = min i l.length) ∧
  (∀ {α : Type} {i : Nat} {l : List α}, (l.drop i).length = l.length - i) ∧
  (∀ {α : Type} {a : α} {xs : List α}, (a :: xs).length = xs.length + 1) ∧
  (∀ {α : Type}, ([] : List α).length = 0) ∧
  (∀ {α β : Type} {xs : List α} (f : α → β), (xs.map f).length = xs.length) := by
  refine ⟨?_, ?_, ?_, ?_, ?_, ?_, ?_, ?_⟩ <;> intros <;> first | rfl | (simp; done) | skip
end Go.Proofs.YtljmgdepldpmdaaDoor.E

set_option linter.unusedSimpArgs false
set_option linter.unusedVariables false
namespace Go.Proofs.YtljmgdepldpmdaaDoor.E
open Go.RowKit Go.ChangeShapes Go.WideShapes Go.Deep

section
variable {H : Type} {enc : TypeId × Value → H} {P : Program} {w : World} {base : Nat} {sp : Nat → Bool} {hd : Bool}

theorem cell_block {a : Addr} {j : Nat} {u : Value} (h : w.cell? (a.add j) = some u) : a.block < w.heap.size := by
  have e := block_of_add a j
  rcases Nat.lt_or_ge a.block w.heap.size with h1 | h1
  · exact h1
  · exfalso
    unfold World.cell? at h
    rw [e, Array.getElem?_eq_none h1] at h
    simp at h

end

/-- from a contract to the call: a function that gives one boolean -/
theorem calls_bool {P : Program} {f : Nat} {args : List RV} {b : Bool} (h : AFun P f args [.one (.lit (.bool b))]) (w : World) (vs : List Value) (hf : Fits (MR w (fun k => k < w.heap.size)) args vs) :
    Calls P f vs.toArray w fun e w' => e = .returned (.bool b) ∧ Below w.heap.size w w' := by
  refine (h.2 _ w vs (fun k hk => hk) hf).mono fun e w' ⟨v, he, hm, hb⟩ => ?_
  have : v = .bool b := by
    cases hm with
    | lit v hv => rfl
  rw [he, this]
  exact ⟨rfl, hb⟩
end Go.Proofs.YtljmgdepldpmdaaDoor.E

set_option linter.unusedSimpArgs false
set_option linter.unusedVariables false
namespace Go.Proofs.YtljmgdepldpmdaaDoor.Limbs
/-- the value of limbs of 32 bits, the least significant one first -/
def val : List Int → Int
  | [] => 0
  | x :: xs => x + 4294967296 * val xs
def Lim (l : List Int) : Prop := ∀ x, x ∈ l → 0 ≤ x ∧ x < 4294967296
def Nrm (l : List Int) : Prop := l.getLast? ≠ some 0
def bp (n : Nat) : Int := 4294967296 ^ n
theorem bp_zero : bp 0 = 1 := rfl
theorem bp_succ (n : Nat) : bp (n + 1) = 4294967296 * bp n := by unfold bp; rw [Int.pow_succ]; omega
theorem bp_add (m n : Nat) : bp (m + n) = bp m * bp n := by unfold bp; exact Int.pow_add ..
theorem bp_pos (n : Nat) : 0 < bp n := by unfold bp; exact Int.pow_pos (by omega)
theorem bp_le {m n : Nat} (h : m ≤ n) : bp m ≤ bp n := by
  obtain ⟨k, rfl⟩ := Nat.exists_eq_add_of_le h
  rw [bp_add]
  have h1 := bp_pos m
  have h2 := bp_pos k
  have := Int.mul_le_mul_of_nonneg_left (show (1 : Int) ≤ bp k by omega) (show 0 ≤ bp m by omega)
  omega
theorem Lim.nil : Lim [] := by intro x h; simp at h
theorem Lim.cons {x : Int} {l : List Int} (h0 : 0 ≤ x) (h1 : x < 4294967296) (h : Lim l) : Lim (x :: l) := by
  intro y hy
  rcases List.mem_cons.1 hy with rfl | hy
  · exact ⟨h0, h1⟩
  · exact h y hy
theorem Lim.head {x : Int} {l : List Int} (h : Lim (x :: l)) : 0 ≤ x ∧ x < 4294967296 := h x (by simp)
theorem Lim.tail {x : Int} {l : List Int} (h : Lim (x :: l)) : Lim l := fun y hy => h y (by simp [hy])
theorem Lim.append {a b : List Int} (ha : Lim a) (hb : Lim b) : Lim (a ++ b) := by
  intro y hy
  rcases List.mem_append.1 hy with h | h
  · exact ha y h
  · exact hb y h
theorem Lim.one {x : Int} (h0 : 0 ≤ x) (h1 : x < 4294967296) : Lim [x] := Lim.cons h0 h1 Lim.nil
theorem Lim.take {l : List Int} (h : Lim l) (n : Nat) : Lim (l.take n) := fun y hy => h y (List.mem_of_mem_take hy)
theorem Lim.drop {l : List Int} (h : Lim l) (n : Nat) : Lim (l.drop n) := fun y hy => h y (List.mem_of_mem_drop hy)
theorem Lim.set {l : List Int} (h : Lim l) (n : Nat) {x : Int} (h0 : 0 ≤ x) (h1 : x < 4294967296) : Lim (l.set n x) := by
  intro y hy
  rcases List.mem_or_eq_of_mem_set hy with h2 | rfl
  · exact h y h2
  · exact ⟨h0, h1⟩
theorem Lim.replicate (n : Nat) : Lim (List.replicate n 0) := by
  intro y hy
  rw [(List.mem_replicate.1 hy).2]
  omega
theorem val_nil : val [] = 0 := rfl
theorem val_cons (x : Int) (l : List Int) : val (x :: l) = x + 4294967296 * val l := rfl
theorem val_append (a b : List Int) : val (a ++ b) = val a + bp a.length * val b := by
  induction a with
  | nil => simp [val, bp_zero]
  | cons x l ih =>
    rw [List.cons_append, val_cons, ih, val_cons, List.length_cons, bp_succ, Int.mul_assoc]
    omega
theorem val_one (x : Int) : val [x] = x := by simp [val]
theorem val_snoc (l : List Int) (x : Int) : val (l ++ [x]) = val l + bp l.length * x := by rw [val_append, val_one]
theorem val_replicate (n : Nat) : val (List.replicate n 0) = 0 := by
  induction n with
  | zero => rfl
  | succ n ih => rw [List.replicate_succ, val_cons, ih]; rfl
theorem val_nonneg {l : List Int} (h : Lim l) : 0 ≤ val l := by
  induction l with
  | nil => simp [val]
  | cons x l ih =>
    have := ih h.tail
    have := h.head
    rw [val_cons]; omega
theorem val_lt {l : List Int} (h : Lim l) : val l < bp l.length := by
  induction l with
  | nil => simp [val, bp_zero]
  | cons x l ih =>
    have := ih h.tail
    have := h.head
    rw [val_cons, List.length_cons, bp_succ]; omega
theorem Nrm.nil : Nrm [] := by simp [Nrm]
theorem Nrm.tail {x y : Int} {l : List Int} (h : Nrm (x :: y :: l)) : Nrm (y :: l) := by
  unfold Nrm at h ⊢
  rwa [List.getLast?_cons_cons] at h
theorem val_pos_of_nrm {l : List Int} (hl : Lim l) (hn : Nrm l) (h : l ≠ []) : bp (l.length - 1) ≤ val l := by
  induction l with
  | nil => exact absurd rfl h
  | cons x l ih =>
    cases l with
    | nil =>
      have := hl.head
      have : x ≠ 0 := by intro e; subst e; simp [Nrm] at hn
      simp [bp_zero, val]; omega
    | cons y l =>
      have := ih hl.tail hn.tail (by simp)
      have h2 := hl.head
      rw [val_cons, show (x :: y :: l).length - 1 = ((y :: l).length - 1) + 1 by simp, bp_succ]
      omega
theorem val_pos {l : List Int} (hl : Lim l) (hn : Nrm l) (h : l ≠ []) : 0 < val l := by
  have := val_pos_of_nrm hl hn h
  have := bp_pos (l.length - 1)
  omega
theorem nrm_zero {l : List Int} (hl : Lim l) (hn : Nrm l) (h : val l = 0) : l = [] := by
  by_cases e : l = []
  · exact e
  · have := val_pos hl hn e; omega
/-- limbs in normal form are told by their value -/
theorem val_inj {a b : List Int} (ha : Lim a) (hb : Lim b) (na : Nrm a) (nb : Nrm b) (h : val a = val b) : a = b := by
  induction a generalizing b with
  | nil => exact (nrm_zero hb nb (by rw [← h]; rfl)).symm
  | cons x a ih =>
    cases b with
    | nil => exact nrm_zero ha na (by rw [h]; rfl)
    | cons y b =>
      have h1 := ha.head
      have h2 := hb.head
      rw [val_cons, val_cons] at h
      have e : x = y := by omega
      have e2 : val a = val b := by omega
      subst e
      have na' : Nrm a := by cases a with
        | nil => exact Nrm.nil
        | cons => exact na.tail
      have nb' : Nrm b := by cases b with
        | nil => exact Nrm.nil
        | cons => exact nb.tail
      rw [ih ha.tail hb.tail na' nb' e2]
theorem len_le_of_val {l : List Int} (hl : Lim l) (hn : Nrm l) {n : Nat} (h : val l < bp n) : l.length ≤ n := by
  by_cases e : l = []
  · subst e; simp
  · have h1 := val_pos_of_nrm hl hn e
    have h0 : 0 < l.length := List.length_pos_iff.2 e
    by_cases h2 : l.length ≤ n
    · exact h2
    · have := bp_le (show n ≤ l.length - 1 by omega)
      omega
theorem val_take_succ {l : List Int} {i : Nat} (h : i < l.length) : val (l.take (i + 1)) = val (l.take i) + bp i * l[i] := by
  rw [List.take_succ_eq_append_getElem h, val_snoc, List.length_take, Nat.min_eq_left (by omega)]
theorem val_split (l : List Int) (i : Nat) (h : i ≤ l.length) : val l = val (l.take i) + bp i * val (l.drop i) := by
  conv => lhs; rw [← List.take_append_drop i l]
  rw [val_append, List.length_take, Nat.min_eq_left h]
theorem val_drop {l : List Int} {i : Nat} (h : i < l.length) : val (l.drop i) = l[i] + 4294967296 * val (l.drop (i + 1)) := by
  rw [List.drop_eq_getElem_cons h, val_cons]
theorem val_set {l : List Int} {i : Nat} (h : i < l.length) (x : Int) : val (l.set i x) = val l + bp i * (x - l[i]) := by
  induction l generalizing i with
  | nil => simp at h
  | cons y l ih =>
    cases i with
    | zero => simp [val_cons, bp_zero]; omega
    | succ i =>
      simp only [List.set_cons_succ, val_cons, List.getElem_cons_succ]
      rw [ih (by simpa using h), bp_succ, Int.mul_add, Int.mul_assoc]
      omega

/-- the limbs of a natural number, in normal form -/
def nl (n : Nat) : List Int := if h : n = 0 then [] else ((n % 4294967296 : Nat) : Int) :: nl (n / 4294967296)
termination_by n
decreasing_by omega
theorem nl_zero : nl 0 = [] := by rw [nl]; rfl
theorem nl_pos {n : Nat} (h : n ≠ 0) : nl n = ((n % 4294967296 : Nat) : Int) :: nl (n / 4294967296) := by rw [nl]; rw [dif_neg h]
theorem nl_lim (n : Nat) : Lim (nl n) := by
  induction n using Nat.strongRecOn with
  | _ n ih =>
    by_cases h : n = 0
    · subst h; rw [nl_zero]; exact Lim.nil
    · rw [nl_pos h]
      exact Lim.cons (by omega) (by omega) (ih _ (by omega))
theorem val_nl (n : Nat) : val (nl n) = n := by
  induction n using Nat.strongRecOn with
  | _ n ih =>
    by_cases h : n = 0
    · subst h; rw [nl_zero]; rfl
    · rw [nl_pos h, val_cons, ih _ (by omega)]
      omega
theorem nl_nrm (n : Nat) : Nrm (nl n) := by
  induction n using Nat.strongRecOn with
  | _ n ih =>
    by_cases h : n = 0
    · subst h; rw [nl_zero]; exact Nrm.nil
    · rw [nl_pos h]
      by_cases h2 : n / 4294967296 = 0
      · rw [h2, nl_zero]; unfold Nrm; simp; omega
      · have := ih (n / 4294967296) (by omega)
        rw [nl_pos h2] at this ⊢
        unfold Nrm at this ⊢
        rwa [List.getLast?_cons_cons]
/-- the value as a natural number -/
def nv (l : List Int) : Nat := (val l).toNat
theorem nv_eq {l : List Int} (h : Lim l) : (nv l : Int) = val l := by unfold nv; have := val_nonneg h; omega
theorem nv_nl (n : Nat) : nv (nl n) = n := by unfold nv; rw [val_nl]; omega
theorem eq_nl {l : List Int} (h : Lim l) (hn : Nrm l) {n : Nat} (e : val l = n) : l = nl n := val_inj h (nl_lim _) hn (nl_nrm _) (by rw [val_nl, e])
theorem nl_eq_nil {n : Nat} : nl n = [] ↔ n = 0 := ⟨fun h => by rw [← nv_nl n, h]; rfl, fun h => by rw [h, nl_zero]⟩
theorem nl_len {n m : Nat} (h : n < 4294967296 ^ m) : (nl n).length ≤ m := by
  refine len_le_of_val (nl_lim n) (nl_nrm n) ?_
  rw [val_nl]; unfold bp
  have : ((4294967296 ^ m : Nat) : Int) = (4294967296 : Int) ^ m := by simp
  omega
theorem nv_lt {l : List Int} (h : Lim l) : nv l < 4294967296 ^ l.length := by
  have h1 := val_lt h
  rw [← nv_eq h] at h1; unfold bp at h1
  have : ((4294967296 ^ l.length : Nat) : Int) = (4294967296 : Int) ^ l.length := by simp
  omega
theorem nl_len_iff {n m : Nat} : (nl n).length ≤ m ↔ n < 4294967296 ^ m := by
  refine ⟨fun h => ?_, nl_len⟩
  have h1 := nv_lt (nl_lim n)
  rw [nv_nl] at h1
  exact Nat.lt_of_lt_of_le h1 (Nat.pow_le_pow_right (by omega) h)
/-- without the high limbs that are 0 -/
def tr (l : List Int) : List Int := nl (nv l)
theorem tr_of_take {l : List Int} (h : Lim l) {i : Nat} (hi : i ≤ l.length) (hz : val (l.drop i) = 0) (hn : Nrm (l.take i)) : l.take i = tr l := by
  refine eq_nl (h.take i) hn ?_
  rw [nv_eq h, val_split l i hi, hz]; omega
theorem nrm_take {l : List Int} {i : Nat} (h0 : 0 < i) (h : i ≤ l.length) (hx : ¬ l.getD (i - 1) 0 = 0) : Nrm (l.take i) := by
  unfold Nrm
  have hi1 : i - 1 < l.length := by omega
  rw [List.getLast?_eq_getElem?, List.length_take, Nat.min_eq_left h, List.getElem?_take, if_pos (by omega), List.getElem?_eq_getElem hi1]
  rw [List.getD_eq_getElem?_getD, List.getElem?_eq_getElem hi1] at hx
  intro e
  exact hx (by simpa using e)
theorem getD_eq {l : List Int} {i : Nat} (h : i < l.length) : l.getD i 0 = l[i] := by rw [List.getD_eq_getElem?_getD, List.getElem?_eq_getElem h]; rfl
theorem Lim.getD {l : List Int} (h : Lim l) (i : Nat) : 0 ≤ l.getD i 0 ∧ l.getD i 0 < 4294967296 := by
  by_cases hi : i < l.length
  · rw [getD_eq hi]; exact h _ (List.getElem_mem hi)
  · rw [List.getD_eq_getElem?_getD, List.getElem?_eq_none (by omega)]; simp
theorem val_take_getD {l : List Int} {i : Nat} (h : i < l.length) : val (l.take (i + 1)) = val (l.take i) + bp i * l.getD i 0 := by rw [val_take_succ h, getD_eq h]
theorem val_drop_getD {l : List Int} {i : Nat} (h : i < l.length) : val (l.drop i) = l.getD i 0 + 4294967296 * val (l.drop (i + 1)) := by rw [val_drop h, getD_eq h]
theorem lt_of_len {x y : List Int} (hx : Lim x) (hy : Lim y) (ny : Nrm y) (h : x.length < y.length) : val x < val y := by
  have h1 := val_lt hx
  have h2 := val_pos_of_nrm hy ny (by intro e; subst e; simp at h)
  have h3 := bp_le (show x.length ≤ y.length - 1 by omega)
  omega
theorem lt_of_at {x y : List Int} (hx : Lim x) (hy : Lim y) {i : Nat} (hi : i < x.length) (hi' : i < y.length) (hd : val (x.drop (i + 1)) = val (y.drop (i + 1))) (h : x.getD i 0 < y.getD i 0) : val x < val y := by
  rw [val_split x i (by omega), val_split y i (by omega), val_drop_getD hi, val_drop_getD hi', hd]
  have h1 := val_lt (hx.take i)
  rw [List.length_take, Nat.min_eq_left (by omega)] at h1
  have h2 := val_nonneg (hy.take i)
  have h3 : bp i * (x.getD i 0 + 4294967296 * val (y.drop (i + 1)) + 1) ≤ bp i * (y.getD i 0 + 4294967296 * val (y.drop (i + 1))) := Int.mul_le_mul_of_nonneg_left (by omega) (by have := bp_pos i; omega)
  rw [Int.mul_add, Int.mul_one] at h3
  omega
theorem nrm_of_val {l : List Int} (h : Lim l) (hv : l ≠ [] → bp (l.length - 1) ≤ val l) : Nrm l := by
  intro e
  by_cases h0 : l = []
  · subst h0; simp at e
  · have h1 := hv h0
    have h2 : l = l.dropLast ++ [0] := by
      have := List.dropLast_concat_getLast h0
      rw [List.getLast?_eq_some_getLast h0] at e
      have e2 : l.getLast h0 = 0 := Option.some.inj e
      rw [e2] at this; exact this.symm
    have h3 : val l = val l.dropLast := by
      conv => lhs; rw [h2]
      rw [val_append, val_one]; omega
    have h4 : Lim l.dropLast := fun x hx => h x ((List.dropLast_sublist l).subset hx)
    have h5 := val_lt h4
    rw [List.length_dropLast] at h5
    omega
theorem take_getD_over {l : List Int} {i : Nat} (h : l.length ≤ i) : l.take (i + 1) = l.take i := by rw [List.take_of_length_le (by omega), List.take_of_length_le h]
theorem Lim.snoc {l : List Int} (h : Lim l) {x : Int} (h0 : 0 ≤ x) (h1 : x < 4294967296) : Lim (l ++ [x]) := Lim.append h (Lim.one h0 h1)
theorem take_set_succ {l : List Int} {i : Nat} (h : i < l.length) (x : Int) : (l.set i x).take (i + 1) = l.take i ++ [x] := by
  rw [List.take_succ_eq_append_getElem (by simpa using h), List.getElem_set_self, List.take_set_of_le (Nat.le_refl i)]
theorem getD_set_ne {l : List Int} {i j : Nat} (h : i ≠ j) (x : Int) : (l.set i x).getD j 0 = l.getD j 0 := by simp only [List.getD_eq_getElem?_getD, List.getElem?_set_ne h]
theorem val_set_getD {l : List Int} {i : Nat} (h : i < l.length) (x : Int) : val (l.set i x) = val l + bp i * (x - l.getD i 0) := by rw [val_set h, getD_eq h]
theorem mul_bound {p q : Int} (h1 : 0 ≤ p) (h2 : p < 4294967296) (h3 : 0 ≤ q) (h4 : q < 4294967296) : 0 ≤ p * q ∧ p * q ≤ 18446744065119617025 := by
  refine ⟨Int.mul_nonneg h1 h3, ?_⟩
  have := Int.mul_le_mul (show p ≤ 4294967295 by omega) (show q ≤ 4294967295 by omega) h3 (by omega)
  omega
theorem getD_over {l : List Int} {i : Nat} (h : l.length ≤ i) : l.getD i 0 = 0 := by rw [List.getD_eq_getElem?_getD, List.getElem?_eq_none h]; rfl
theorem val_split' (l : List Int) (i : Nat) : val l = val (l.take i) + bp i * val (l.drop i) := by
  by_cases h : i ≤ l.length
  · exact val_split l i h
  · rw [List.take_of_length_le (by omega), List.drop_of_length_le (by omega), val_nil]; omega
theorem val_drop' (l : List Int) (i : Nat) : val (l.drop i) = l.getD i 0 + 4294967296 * val (l.drop (i + 1)) := by
  by_cases h : i < l.length
  · exact val_drop_getD h
  · rw [getD_over (by omega), List.drop_of_length_le (by omega), List.drop_of_length_le (by omega), val_nil]; omega
theorem val_take' (l : List Int) (i : Nat) : val (l.take (i + 1)) = val (l.take i) + bp i * l.getD i 0 := by
  by_cases h : i < l.length
  · exact val_take_getD h
  · rw [getD_over (by omega), List.take_of_length_le (by omega), List.take_of_length_le (by omega)]; omega
theorem val_take_lt {l : List Int} (h : Lim l) (i : Nat) : val (l.take i) < bp i := by
  have h1 := val_lt (h.take i)
  have h2 := bp_le (show (l.take i).length ≤ i by rw [List.length_take]; omega)
  omega
end Go.Proofs.YtljmgdepldpmdaaDoor.Limbs

namespace Go.Proofs.YtljmgdepldpmdaaDoor.E
open Go.RowKit
set_option maxRecDepth 100000 in
theorem TY : tok Tryd.prog 2 = true ∧
  tsz Tryd.prog 2 = 1 ∧
  tagg Tryd.prog 2 = false ∧
  telem Tryd.prog 2 = none ∧
  tarr Tryd.prog 2 = none ∧
  tbool Tryd.prog 2 = false ∧
  tbytes Tryd.prog 2 = 8 ∧
  tint Tryd.prog 2 = some IntKind.i64 ∧
  zeros Tryd.prog 2 = some [Ce.dt (Dt.lit (Value.int IntKind.i64 (0)))] ∧
  (tzero Tryd.prog 2).map List.length = some 1 ∧
  (Tryd.prog.underlying 2).isSome = true ∧
  tstr Tryd.prog 2 = false ∧
  tok Tryd.prog 3 = true ∧
  tsz Tryd.prog 3 = 1 ∧
  tagg Tryd.prog 3 = false ∧
  telem Tryd.prog 3 = none ∧
  tarr Tryd.prog 3 = none ∧
  tbool Tryd.prog 3 = false ∧
  tbytes Tryd.prog 3 = 8 ∧
  tint Tryd.prog 3 = some IntKind.i64 ∧
  zeros Tryd.prog 3 = some [Ce.dt (Dt.lit (Value.int IntKind.i64 (0)))] ∧
  (tzero Tryd.prog 3).map List.length = some 1 ∧
  (Tryd.prog.underlying 3).isSome = true ∧
  tstr Tryd.prog 3 = false ∧
  tok Tryd.prog 4 = true ∧
  tsz Tryd.prog 4 = 1 ∧
  tagg Tryd.prog 4 = false ∧
  telem Tryd.prog 4 = none ∧
  tarr Tryd.prog 4 = none ∧
  tbool Tryd.prog 4 = true ∧
  tbytes Tryd.prog 4 = 1 ∧
  tint Tryd.prog 4 = none ∧
  zeros Tryd.prog 4 = some [Ce.dt (Dt.lit (Value.bool false))] ∧
  (tzero Tryd.prog 4).map List.length = some 1 ∧
  (Tryd.prog.underlying 4).isSome = true ∧
  tstr Tryd.prog 4 = false ∧
  tok Tryd.prog 5 = true ∧
  tsz Tryd.prog 5 = 1 ∧
  tagg Tryd.prog 5 = false ∧
  telem Tryd.prog 5 = none ∧
  tarr Tryd.prog 5 = none ∧
  tbool Tryd.prog 5 = false ∧
  tbytes Tryd.prog 5 = 1 ∧
  tint Tryd.prog 5 = some IntKind.u8 ∧
  zeros Tryd.prog 5 = some [Ce.dt (Dt.lit (Value.int IntKind.u8 (0)))] ∧
  (tzero Tryd.prog 5).map List.length = some 1 ∧
  (Tryd.prog.underlying 5).isSome = true ∧
  tstr Tryd.prog 5 = false ∧
  tzv Tryd.prog 5 = some (Value.int IntKind.u8 (0)) ∧
  tok Tryd.prog 113 = true ∧
  tsz Tryd.prog 113 = 1 ∧
  tagg Tryd.prog 113 = false ∧
  telem Tryd.prog 113 = none ∧
  tarr Tryd.prog 113 = none ∧
  tbool Tryd.prog 113 = false ∧
  tbytes Tryd.prog 113 = 4 ∧
  tint Tryd.prog 113 = some IntKind.u32 ∧
  zeros Tryd.prog 113 = some [Ce.dt (Dt.lit (Value.int IntKind.u32 (0)))] ∧
  (tzero Tryd.prog 113).map List.length = some 1 ∧
  (Tryd.prog.underlying 113).isSome = true ∧
  tstr Tryd.prog 113 = false ∧
  tok Tryd.prog 99 = true ∧
  tsz Tryd.prog 99 = 1 ∧
  tagg Tryd.prog 99 = false ∧
  telem Tryd.prog 99 = none ∧
  tarr Tryd.prog 99 = none ∧
  tbool Tryd.prog 99 = false ∧
  tbytes Tryd.prog 99 = 8 ∧
  tint Tryd.prog 99 = some IntKind.u64 ∧
  zeros Tryd.prog 99 = some [Ce.dt (Dt.lit (Value.int IntKind.u64 (0)))] ∧
  (tzero Tryd.prog 99).map List.length = some 1 ∧
  (Tryd.prog.underlying 99).isSome = true ∧
  tstr Tryd.prog 99 = false ∧
  tok Tryd.prog 114 = true ∧
  tsz Tryd.prog 114 = 1 ∧
  tagg Tryd.prog 114 = false ∧
  telem Tryd.prog 114 = none ∧
  tarr Tryd.prog 114 = none ∧
  tbool Tryd.prog 114 = false ∧
  tbytes Tryd.prog 114 = 8 ∧
  tint Tryd.prog 114 = some IntKind.u64 ∧
  zeros Tryd.prog 114 = some [Ce.dt (Dt.lit (Value.int IntKind.u64 (0)))] ∧
  (tzero Tryd.prog 114).map List.length = some 1 ∧
  (Tryd.prog.underlying 114).isSome = true ∧
  tstr Tryd.prog 114 = false ∧
  tok Tryd.prog 9 = true ∧
  tsz Tryd.prog 9 = 1 ∧
  tagg Tryd.prog 9 = false ∧
  telem Tryd.prog 9 = none ∧
  tarr Tryd.prog 9 = none ∧
  tbool Tryd.prog 9 = false ∧
  tbytes Tryd.prog 9 = 16 ∧
  tint Tryd.prog 9 = none ∧
  zeros Tryd.prog 9 = some [Ce.dt (Dt.lit (Value.string { data := { toList := [] } }))] ∧
  (tzero Tryd.prog 9).map List.length = some 1 ∧
  (Tryd.prog.underlying 9).isSome = true ∧
  tstr Tryd.prog 9 = true ∧
  tok Tryd.prog 62 = true ∧
  tsz Tryd.prog 62 = 1 ∧
  tagg Tryd.prog 62 = false ∧
  telem Tryd.prog 62 = some 3 ∧
  tarr Tryd.prog 62 = none ∧
  tbool Tryd.prog 62 = false ∧
  tbytes Tryd.prog 62 = 24 ∧
  tint Tryd.prog 62 = none ∧
  zeros Tryd.prog 62 = some [Ce.z] ∧
  (tzero Tryd.prog 62).map List.length = some 1 ∧
  (Tryd.prog.underlying 62).isSome = true ∧
  tstr Tryd.prog 62 = false ∧
  tok Tryd.prog 120 = true ∧
  tsz Tryd.prog 120 = 1 ∧
  tagg Tryd.prog 120 = false ∧
  telem Tryd.prog 120 = some 5 ∧
  tarr Tryd.prog 120 = none ∧
  tbool Tryd.prog 120 = false ∧
  tbytes Tryd.prog 120 = 24 ∧
  tint Tryd.prog 120 = none ∧
  zeros Tryd.prog 120 = some [Ce.z] ∧
  (tzero Tryd.prog 120).map List.length = some 1 ∧
  (Tryd.prog.underlying 120).isSome = true ∧
  tstr Tryd.prog 120 = false ∧
  tok Tryd.prog 22 = true ∧
  tsz Tryd.prog 22 = 1 ∧
  tagg Tryd.prog 22 = false ∧
  telem Tryd.prog 22 = some 113 ∧
  tarr Tryd.prog 22 = none ∧
  tbool Tryd.prog 22 = false ∧
  tbytes Tryd.prog 22 = 24 ∧
  tint Tryd.prog 22 = none ∧
  zeros Tryd.prog 22 = some [Ce.z] ∧
  (tzero Tryd.prog 22).map List.length = some 1 ∧
  (Tryd.prog.underlying 22).isSome = true ∧
  tstr Tryd.prog 22 = false ∧
  tok Tryd.prog 57 = true ∧
  tsz Tryd.prog 57 = 1 ∧
  tagg Tryd.prog 57 = false ∧
  telem Tryd.prog 57 = none ∧
  tarr Tryd.prog 57 = none ∧
  tbool Tryd.prog 57 = false ∧
  tbytes Tryd.prog 57 = 8 ∧
  tint Tryd.prog 57 = some IntKind.i64 ∧
  zeros Tryd.prog 57 = some [Ce.dt (Dt.lit (Value.int IntKind.i64 (0)))] ∧
  (tzero Tryd.prog 57).map List.length = some 1 ∧
  (Tryd.prog.underlying 57).isSome = true ∧
  tstr Tryd.prog 57 = false ∧
  tok Tryd.prog 23 = true ∧
  tsz Tryd.prog 23 = 1 ∧
  tagg Tryd.prog 23 = false ∧
  telem Tryd.prog 23 = some 113 ∧
  tarr Tryd.prog 23 = none ∧
  tbool Tryd.prog 23 = false ∧
  tbytes Tryd.prog 23 = 24 ∧
  tint Tryd.prog 23 = none ∧
  zeros Tryd.prog 23 = some [Ce.z] ∧
  (tzero Tryd.prog 23).map List.length = some 1 ∧
  (Tryd.prog.underlying 23).isSome = true ∧
  tstr Tryd.prog 23 = false ∧
  tok Tryd.prog 25 = true ∧
  tsz Tryd.prog 25 = 2 ∧
  tagg Tryd.prog 25 = true ∧
  telem Tryd.prog 25 = none ∧
  tarr Tryd.prog 25 = none ∧
  tbool Tryd.prog 25 = false ∧
  tbytes Tryd.prog 25 = 32 ∧
  tint Tryd.prog 25 = none ∧
  zeros Tryd.prog 25 = some [Ce.dt (Dt.lit (Value.bool false)), Ce.z] ∧
  (tzero Tryd.prog 25).map List.length = some 2 ∧
  (Tryd.prog.underlying 25).isSome = true ∧
  (tplaces Tryd.prog 25).isSome = true ∧
  tstr Tryd.prog 25 = false ∧
  foff Tryd.prog 25 0 = some 0 ∧
  tplace Tryd.prog 25 0 = some (0, 1) ∧
  foff Tryd.prog 25 1 = some 1 ∧
  tplace Tryd.prog 25 1 = some (1, 1) ∧
  tok Tryd.prog 27 = true ∧
  tsz Tryd.prog 27 = 3 ∧
  tagg Tryd.prog 27 = true ∧
  telem Tryd.prog 27 = none ∧
  tarr Tryd.prog 27 = none ∧
  tbool Tryd.prog 27 = false ∧
  tbytes Tryd.prog 27 = 56 ∧
  tint Tryd.prog 27 = none ∧
  zeros Tryd.prog 27 = some [Ce.dt (Dt.lit (Value.bool false)), Ce.z, Ce.z] ∧
  (tzero Tryd.prog 27).map List.length = some 3 ∧
  (Tryd.prog.underlying 27).isSome = true ∧
  (tplaces Tryd.prog 27).isSome = true ∧
  tstr Tryd.prog 27 = false ∧
  foff Tryd.prog 27 0 = some 0 ∧
  tplace Tryd.prog 27 0 = some (0, 2) ∧
  foff Tryd.prog 27 1 = some 2 ∧
  tplace Tryd.prog 27 1 = some (2, 1) ∧
  tok Tryd.prog 50 = true ∧
  tsz Tryd.prog 50 = 1 ∧
  tagg Tryd.prog 50 = false ∧
  telem Tryd.prog 50 = some 27 ∧
  tarr Tryd.prog 50 = none ∧
  tbool Tryd.prog 50 = false ∧
  tbytes Tryd.prog 50 = 24 ∧
  tint Tryd.prog 50 = none ∧
  zeros Tryd.prog 50 = some [Ce.z] ∧
  (tzero Tryd.prog 50).map List.length = some 1 ∧
  (Tryd.prog.underlying 50).isSome = true ∧
  tstr Tryd.prog 50 = false ∧
  tok Tryd.prog 29 = true ∧
  tsz Tryd.prog 29 = 6 ∧
  tagg Tryd.prog 29 = true ∧
  telem Tryd.prog 29 = none ∧
  tarr Tryd.prog 29 = none ∧
  tbool Tryd.prog 29 = false ∧
  tbytes Tryd.prog 29 = 112 ∧
  tint Tryd.prog 29 = none ∧
  zeros Tryd.prog 29 = some [Ce.dt (Dt.lit (Value.bool false)), Ce.z, Ce.z, Ce.dt (Dt.lit (Value.bool false)), Ce.z, Ce.z] ∧
  (tzero Tryd.prog 29).map List.length = some 6 ∧
  (Tryd.prog.underlying 29).isSome = true ∧
  (tplaces Tryd.prog 29).isSome = true ∧
  tstr Tryd.prog 29 = false ∧
  foff Tryd.prog 29 0 = some 0 ∧
  tplace Tryd.prog 29 0 = some (0, 3) ∧
  foff Tryd.prog 29 1 = some 3 ∧
  tplace Tryd.prog 29 1 = some (3, 3) ∧
  tok Tryd.prog 82 = true ∧
  tsz Tryd.prog 82 = 12 ∧
  tagg Tryd.prog 82 = true ∧
  telem Tryd.prog 82 = none ∧
  tarr Tryd.prog 82 = some (4, 27) ∧
  tbool Tryd.prog 82 = false ∧
  tbytes Tryd.prog 82 = 224 ∧
  tint Tryd.prog 82 = none ∧
  zeros Tryd.prog 82 = some [Ce.dt (Dt.lit (Value.bool false)), Ce.z, Ce.z, Ce.dt (Dt.lit (Value.bool false)), Ce.z, Ce.z, Ce.dt (Dt.lit (Value.bool false)), Ce.z, Ce.z, Ce.dt (Dt.lit (Value.bool false)), Ce.z, Ce.z] ∧
  (tzero Tryd.prog 82).map List.length = some 12 ∧
  (Tryd.prog.underlying 82).isSome = true ∧
  (tplaces Tryd.prog 82).isSome = true ∧
  tstr Tryd.prog 82 = false ∧
  tplace Tryd.prog 82 0 = some (0, 3) ∧
  tplace Tryd.prog 82 1 = some (3, 3) ∧
  tplace Tryd.prog 82 2 = some (6, 3) ∧
  tplace Tryd.prog 82 3 = some (9, 3) ∧
  tplace Tryd.prog 82 4 = some (12, 3) ∧
  tplace Tryd.prog 82 5 = some (15, 3) ∧
  tok Tryd.prog 30 = true ∧
  tsz Tryd.prog 30 = 2 ∧
  tagg Tryd.prog 30 = true ∧
  telem Tryd.prog 30 = none ∧
  tarr Tryd.prog 30 = some (2, 5) ∧
  tbool Tryd.prog 30 = false ∧
  tbytes Tryd.prog 30 = 2 ∧
  tint Tryd.prog 30 = none ∧
  zeros Tryd.prog 30 = some [Ce.dt (Dt.lit (Value.int IntKind.u8 (0))), Ce.dt (Dt.lit (Value.int IntKind.u8 (0)))] ∧
  (tzero Tryd.prog 30).map List.length = some 2 ∧
  (Tryd.prog.underlying 30).isSome = true ∧
  (tplaces Tryd.prog 30).isSome = true ∧
  tstr Tryd.prog 30 = false ∧
  tplace Tryd.prog 30 0 = some (0, 1) ∧
  tplace Tryd.prog 30 1 = some (1, 1) ∧
  tplace Tryd.prog 30 2 = some (2, 1) ∧
  tplace Tryd.prog 30 3 = some (3, 1) ∧
  tplace Tryd.prog 30 4 = some (4, 1) ∧
  tplace Tryd.prog 30 5 = some (5, 1) ∧
  tok Tryd.prog 128 = true ∧
  tsz Tryd.prog 128 = 24 ∧
  tagg Tryd.prog 128 = true ∧
  telem Tryd.prog 128 = none ∧
  tarr Tryd.prog 128 = some (24, 5) ∧
  tbool Tryd.prog 128 = false ∧
  tbytes Tryd.prog 128 = 24 ∧
  tint Tryd.prog 128 = none ∧
  zeros Tryd.prog 128 = some [Ce.dt (Dt.lit (Value.int IntKind.u8 (0))), Ce.dt (Dt.lit (Value.int IntKind.u8 (0))), Ce.dt (Dt.lit (Value.int IntKind.u8 (0))), Ce.dt (Dt.lit (Value.int IntKind.u8 (0))), Ce.dt (Dt.lit (Value.int IntKind.u8 (0))), Ce.dt (Dt.lit (Value.int IntKind.u8 (0))), Ce.dt (Dt.lit (Value.int IntKind.u8 (0))), Ce.dt (Dt.lit (Value.int IntKind.u8 (0))), Ce.dt (Dt.lit (Value.int IntKind.u8 (0))), Ce.dt (Dt.lit (Value.int IntKind.u8 (0))), Ce.dt (Dt.lit (Value.int IntKind.u8 (0))), Ce.dt (Dt.lit (Value.int IntKind.u8 (0))), Ce.dt (Dt.lit (Value.int IntKind.u8 (0))), Ce.dt (Dt.lit (Value.int IntKind.u8 (0))), Ce.dt (Dt.lit (Value.int IntKind.u8 (0))), Ce.dt (Dt.lit (Value.int IntKind.u8 (0))), Ce.dt (Dt.lit (Value.int IntKind.u8 (0))), Ce.dt (Dt.lit (Value.int IntKind.u8 (0))), Ce.dt (Dt.lit (Value.int IntKind.u8 (0))), Ce.dt (Dt.lit (Value.int IntKind.u8 (0))), Ce.dt (Dt.lit (Value.int IntKind.u8 (0))), Ce.dt (Dt.lit (Value.int IntKind.u8 (0))), Ce.dt (Dt.lit (Value.int IntKind.u8 (0))), Ce.dt (Dt.lit (Value.int IntKind.u8 (0)))] ∧
  (tzero Tryd.prog 128).map List.length = some 24 ∧
  (Tryd.prog.underlying 128).isSome = true ∧
  (tplaces Tryd.prog 128).isSome = true ∧
  tstr Tryd.prog 128 = false ∧
  tplace Tryd.prog 128 0 = some (0, 1) ∧
  tplace Tryd.prog 128 1 = some (1, 1) ∧
  tplace Tryd.prog 128 2 = some (2, 1) ∧
  tplace Tryd.prog 128 3 = some (3, 1) ∧
  tplace Tryd.prog 128 4 = some (4, 1) ∧
  tplace Tryd.prog 128 5 = some (5, 1) ∧
  tok Tryd.prog 53 = true ∧
  tsz Tryd.prog 53 = 6 ∧
  tagg Tryd.prog 53 = true ∧
  telem Tryd.prog 53 = none ∧
  tarr Tryd.prog 53 = none ∧
  tbool Tryd.prog 53 = false ∧
  tbytes Tryd.prog 53 = 112 ∧
  tint Tryd.prog 53 = none ∧
  zeros Tryd.prog 53 = some [Ce.dt (Dt.lit (Value.bool false)), Ce.z, Ce.z, Ce.dt (Dt.lit (Value.bool false)), Ce.z, Ce.z] ∧
  (tzero Tryd.prog 53).map List.length = some 6 ∧
  (Tryd.prog.underlying 53).isSome = true ∧
  (tplaces Tryd.prog 53).isSome = true ∧
  tstr Tryd.prog 53 = false ∧
  foff Tryd.prog 53 0 = some 0 ∧
  tplace Tryd.prog 53 0 = some (0, 3) ∧
  foff Tryd.prog 53 1 = some 3 ∧
  tplace Tryd.prog 53 1 = some (3, 3) ∧
  tok Tryd.prog 70 = true ∧
  tsz Tryd.prog 70 = 1 ∧
  tagg Tryd.prog 70 = false ∧
  telem Tryd.prog 70 = some 53 ∧
  tarr Tryd.prog 70 = none ∧
  tbool Tryd.prog 70 = false ∧
  tbytes Tryd.prog 70 = 24 ∧
  tint Tryd.prog 70 = none ∧
  zeros Tryd.prog 70 = some [Ce.z] ∧
  (tzero Tryd.prog 70).map List.length = some 1 ∧
  (Tryd.prog.underlying 70).isSome = true ∧
  tstr Tryd.prog 70 = false :=
  ⟨by kernel_rfl, by kernel_rfl, by kernel_rfl, by kernel_rfl, by kernel_rfl, by kernel_rfl, by kernel_rfl, by kernel_rfl, by kernel_rfl, by kernel_rfl, by kernel_rfl, by kernel_rfl, by kernel_rfl, by kernel_rfl, by kernel_rfl, by kernel_rfl, by kernel_rfl, by kernel_rfl, by kernel_rfl, by kernel_rfl, by kernel_rfl, by kernel_rfl, by kernel_rfl, by kernel_rfl, by kernel_rfl, by kernel_rfl, by kernel_rfl, by kernel_rfl, by kernel_rfl, by kernel_rfl, by kernel_rfl, by kernel_rfl, by kernel_rfl, by kernel_rfl, by kernel_rfl, by kernel_rfl, by kernel_rfl, by kernel_rfl, by kernel_rfl, by kernel_rfl, by kernel_rfl, by kernel_rfl, by kernel_rfl, by kernel_rfl, by kernel_rfl, by kernel_rfl, by kernel_rfl, by kernel_rfl, by kernel_rfl, by kernel_rfl, by kernel_rfl, by kernel_rfl, by kernel_rfl, by kernel_rfl, by kernel_rfl, by kernel_rfl, by kernel_rfl, by kernel_rfl, by kernel_rfl, by kernel_rfl, by kernel_rfl, by kernel_rfl, by kernel_rfl, by kernel_rfl, by kernel_rfl, by kernel_rfl, by kernel_rfl, by kernel_rfl, by kernel_rfl, by kernel_rfl, by kernel_rfl, by kernel_rfl, by kernel_rfl, by kernel_rfl, by kernel_rfl, by kernel_rfl, by kernel_rfl, by kernel_rfl, by kernel_rfl, by kernel_rfl, by kernel_rfl, by kernel_rfl, by kernel_rfl, by kernel_rfl, by kernel_rfl, by kernel_rfl, by kernel_rfl, by kernel_rfl, by kernel_rfl, by kernel_rfl, by kernel_rfl, by kernel_rfl, by kernel_rfl, by kernel_rfl, by kernel_rfl, by kernel_rfl, by kernel_rfl, by kernel_rfl, by kernel_rfl, by kernel_rfl, by kernel_rfl, by kernel_rfl, by kernel_rfl, by kernel_rfl, by kernel_rfl, by kernel_rfl, by kernel_rfl, by kernel_rfl, by kernel_rfl, by kernel_rfl, by kernel_rfl, by kernel_rfl, by kernel_rfl, by kernel_rfl, by kernel_rfl, by kernel_rfl, by kernel_rfl, by kernel_rfl, by kernel_rfl, by kernel_rfl, by kernel_rfl, by kernel_rfl, by kernel_rfl, by kernel_rfl, by kernel_rfl, by kernel_rfl, by kernel_rfl, by kernel_rfl, by kernel_rfl, by kernel_rfl, by kernel_rfl, by kernel_rfl, by kernel_rfl, by kernel_rfl, by kernel_rfl, by kernel_rfl, by kernel_rfl, by kernel_rfl, by kernel_rfl, by kernel_rfl, by kernel_rfl, by kernel_rfl, by kernel_rfl, by kernel_rfl, by kernel_rfl, by kernel_rfl, by kernel_rfl, by kernel_rfl, by kernel_rfl, by kernel_rfl, by kernel_rfl, by kernel_rfl, by kernel_rfl, by kernel_rfl, by kernel_rfl, by kernel_rfl, by kernel_rfl, by kernel_rfl, by kernel_rfl, by kernel_rfl, by kernel_rfl, by kernel_rfl, by kernel_rfl, by kernel_rfl, by kernel_rfl, by kernel_rfl, by kernel_rfl, by kernel_rfl, by kernel_rfl, by kernel_rfl, by kernel_rfl, by kernel_rfl, by kernel_rfl, by kernel_rfl, by kernel_rfl, by kernel_rfl, by kernel_rfl, by kernel_rfl, by kernel_rfl, by kernel_rfl, by kernel_rfl, by kernel_rfl, by kernel_rfl, by kernel_rfl, by kernel_rfl, by kernel_rfl, by kernel_rfl, by kernel_rfl, by kernel_rfl, by kernel_rfl, by kernel_rfl, by kernel_rfl, by kernel_rfl, by kernel_rfl, by kernel_rfl, by kernel_rfl, by kernel_rfl, by kernel_rfl, by kernel_rfl, by kernel_rfl, by kernel_rfl, by kernel_rfl, by kernel_rfl, by kernel_rfl, by kernel_rfl, by kernel_rfl, by kernel_rfl, by kernel_rfl, by kernel_rfl, by kernel_rfl, by kernel_rfl, by kernel_rfl, by kernel_rfl, by kernel_rfl, by kernel_rfl, by kernel_rfl, by kernel_rfl, by kernel_rfl, by kernel_rfl, by kernel_rfl, by kernel_rfl, by kernel_rfl, by kernel_rfl, by kernel_rfl, by kernel_rfl, by kernel_rfl, by kernel_rfl, by kernel_rfl, by kernel_rfl, by kernel_rfl, by kernel_rfl, by kernel_rfl, by kernel_rfl, by kernel_rfl, by kernel_rfl, by kernel_rfl, by kernel_rfl, by kernel_rfl, by kernel_rfl, by kernel_rfl, by kernel_rfl, by kernel_rfl, by kernel_rfl, by kernel_rfl, by kernel_rfl, by kernel_rfl, by kernel_rfl, by kernel_rfl, by kernel_rfl, by kernel_rfl, by kernel_rfl, by kernel_rfl, by kernel_rfl, by kernel_rfl, by kernel_rfl, by kernel_rfl, by kernel_rfl, by kernel_rfl, by kernel_rfl, by kernel_rfl, by kernel_rfl, by kernel_rfl, by kernel_rfl, by kernel_rfl, by kernel_rfl, by kernel_rfl, by kernel_rfl, by kernel_rfl, by kernel_rfl, by kernel_rfl, by kernel_rfl, by kernel_rfl, by kernel_rfl, by kernel_rfl, by kernel_rfl, by kernel_rfl, by kernel_rfl, by kernel_rfl, by kernel_rfl, by kernel_rfl, by kernel_rfl, by kernel_rfl, by kernel_rfl, by kernel_rfl, by kernel_rfl, by kernel_rfl, by kernel_rfl, by kernel_rfl, by kernel_rfl, by kernel_rfl, by kernel_rfl, by kernel_rfl, by kernel_rfl, by kernel_rfl, by kernel_rfl, by kernel_rfl, by kernel_rfl, by kernel_rfl, by kernel_rfl, by kernel_rfl, by kernel_rfl, by kernel_rfl, by kernel_rfl, by kernel_rfl, by kernel_rfl, by kernel_rfl⟩
end Go.Proofs.YtljmgdepldpmdaaDoor.E

set_option linter.unusedSimpArgs false
set_option linter.unusedVariables false
set_option maxHeartbeats 2000000
namespace Go.Proofs.YtljmgdepldpmdaaDoor.E
open Go.RowKit Limbs
/-- examboard/nat.trim -/
def b82 : AF := ⟨22, 1, [.tmp 2],
  (.seq (.reg [
    ⟨some 2, .assign (.const (.slice none 0 0)), none⟩])
  (.seq (.reg [
    ⟨some 4, .move (.tmp 0), none⟩,
    ⟨some 5, .call ⟨(.builtin .len), #[(.tmp 4)], #[23]⟩, none⟩,
    ⟨some 3, .assign (.tmp 5), none⟩])
  (.seq (.block 0 (.loop (.seq (.seq (.reg [
    ⟨some 6, .move (.tmp 3), none⟩,
    ⟨some 7, .binOp .gtr 3 (.tmp 6) (.const (.int .i64 0)) 3, none⟩,
    ⟨some 8, .move (.tmp 7), none⟩,
    ⟨some 9, .move (.tmp 0), some (8, true)⟩,
    ⟨some 10, .move (.tmp 3), some (8, true)⟩,
    ⟨some 11, .binOp .sub 3 (.tmp 10) (.const (.int .i64 1)) 3, some (8, true)⟩,
    ⟨some 12, .indexAddr 23 (.tmp 9) (.tmp 11), some (8, true)⟩,
    ⟨some 13, .load 113 (.tmp 12), some (8, true)⟩,
    ⟨some 14, .binOp .eql 113 (.tmp 13) (.const (.int .u32 0)) 113, some (8, true)⟩,
    ⟨some 15, .pick (.tmp 8) (.tmp 14) (.const (.bool false)), none⟩])
  (.cond (.tmp 15)
    .skip
    (.exit 0)))
  (.block 1 (.reg [
    ⟨some 16, .move (.tmp 3), none⟩,
    ⟨some 17, .binOp .sub 3 (.tmp 16) (.const (.int .i64 1)) 3, none⟩,
    ⟨some 3, .assign (.tmp 17), none⟩])))))
  (.seq (.reg [
    ⟨some 18, .move (.tmp 0), none⟩,
    ⟨some 19, .move (.tmp 3), none⟩,
    ⟨some 20, .move (.tmp 3), none⟩,
    ⟨some 21, .slice 23 (.tmp 18) none (some (.tmp 19)) (some (.tmp 20)), none⟩,
    ⟨some 2, .assign (.tmp 21), none⟩])
  .ret))))⟩
theorem c82 : fcomp Tryd.prog 82 = ⟨b82.n, b82.np, b82.res, b82.body.bare⟩ := by kernel_rfl
theorem k82 : fok Tryd.prog 82 = true := by kernel_rfl
theorem mo_ : Tryd.prog.follows .mixedOrders = true := by kernel_rfl
theorem nat_trim (l : List Int) (hl : Lim l) (hb : l.length < 4611686018427387904) : AFun Tryd.prog 82 [.one (natD l)] [.one (natD (tr l))] := by
  refine afun_intro mo_ 82 b82 c82 k82 _ _ rfl (by decide) ?_
  unfold b82
  simp (maxSteps:=1000000) (disch:=first | omega | (simp only [LL];omega)) only [W,V,TY,CC,reduceIte,Nat.reduceEqDiff,Nat.reduceAdd,Nat.reduceLeDiff,Nat.reduceLT,Int.reduceLE,Int.reduceLT,Int.reduceAdd,Int.reduceSub,Int.reduceToNat,Nat.reduceMul]
  refine w_loop (fun n s => ∃ i : Nat, n = i ∧ s.t 0 = .one (.dt (natD l)) ∧ s.t 3 = .one (.dt (.lit (.int .i64 i))) ∧ i ≤ l.length ∧ val (l.drop i) = 0) l.length ⟨l.length, rfl, ?_, ?_, Nat.le_refl _, by simp [val]⟩ ?_
  · simp (maxSteps:=1000000) (disch:=first | omega | (simp only [LL];omega)) only [W,V,TY,CC,reduceIte,Nat.reduceEqDiff,Nat.reduceAdd,Nat.reduceLeDiff,Nat.reduceLT,Int.reduceLE,Int.reduceLT,Int.reduceAdd,Int.reduceSub,Int.reduceToNat,Nat.reduceMul]
  · simp (maxSteps:=1000000) (disch:=first | omega | (simp only [LL];omega)) only [W,V,TY,CC,reduceIte,Nat.reduceEqDiff,Nat.reduceAdd,Nat.reduceLeDiff,Nat.reduceLT,Int.reduceLE,Int.reduceLT,Int.reduceAdd,Int.reduceSub,Int.reduceToNat,Nat.reduceMul]
  intro n s _ ⟨i, e, h0, h3, hi, hz⟩
  simp (maxSteps:=1000000) (disch:=first | omega | (simp only [LL];omega)) only [W,V,TY,CC,reduceIte,Nat.reduceEqDiff,Nat.reduceAdd,Nat.reduceLeDiff,Nat.reduceLT,Int.reduceLE,Int.reduceLT,Int.reduceAdd,Int.reduceSub,Int.reduceToNat,Nat.reduceMul,h0,h3]
  refine g_split (fun hc => ?_) (fun hc => ?_)
  · simp (maxSteps:=1000000) (disch:=first | omega | (simp only [LL];omega)) only [W,V,TY,CC,reduceIte,Nat.reduceEqDiff,Nat.reduceAdd,Nat.reduceLeDiff,Nat.reduceLT,Int.reduceLE,Int.reduceLT,Int.reduceAdd,Int.reduceSub,Int.reduceToNat,Nat.reduceMul,h0,h3,hc]
    refine c_split (fun hx => ?_) (fun hx => ?_)
    · simp (maxSteps:=1000000) (disch:=first | omega | (simp only [LL];omega)) only [W,V,TY,CC,reduceIte,Nat.reduceEqDiff,Nat.reduceAdd,Nat.reduceLeDiff,Nat.reduceLT,Int.reduceLE,Int.reduceLT,Int.reduceAdd,Int.reduceSub,Int.reduceToNat,Nat.reduceMul,h0,h3]
      refine ⟨i - 1, by omega, i - 1, rfl, ?_⟩
      refine ⟨by rw [show (((i - 1 : Nat) : Int)) = i - 1 by omega], by omega, ?_⟩
      have hi1 : i - 1 < l.length := by omega
      rw [val_drop hi1, show i - 1 + 1 = i by omega, hz]
      rw [List.getD_eq_getElem?_getD, List.getElem?_eq_getElem hi1] at hx
      simp only [Option.getD_some] at hx
      omega
    · simp (maxSteps:=1000000) (disch:=first | omega | (simp only [LL];omega)) only [W,V,TY,CC,reduceIte,Nat.reduceEqDiff,Nat.reduceAdd,Nat.reduceLeDiff,Nat.reduceLT,Int.reduceLE,Int.reduceLT,Int.reduceAdd,Int.reduceSub,Int.reduceToNat,Nat.reduceMul,h0,h3]
      refine f_ret _ _ _ ?_
      simp (maxSteps:=1000000) (disch:=first | omega | (simp only [LL];omega)) only [W,V,TY,CC,reduceIte,Nat.reduceEqDiff,Nat.reduceAdd,Nat.reduceLeDiff,Nat.reduceLT,Int.reduceLE,Int.reduceLT,Int.reduceAdd,Int.reduceSub,Int.reduceToNat,Nat.reduceMul]
      rw [tr_of_take hl hi hz (nrm_take (by omega) hi hx)]
  · simp (maxSteps:=1000000) (disch:=first | omega | (simp only [LL];omega)) only [W,V,TY,CC,reduceIte,Nat.reduceEqDiff,Nat.reduceAdd,Nat.reduceLeDiff,Nat.reduceLT,Int.reduceLE,Int.reduceLT,Int.reduceAdd,Int.reduceSub,Int.reduceToNat,Nat.reduceMul,h0,h3,hc]
    refine f_ret _ _ _ ?_
    simp (maxSteps:=1000000) (disch:=first | omega | (simp only [LL];omega)) only [W,V,TY,CC,reduceIte,Nat.reduceEqDiff,Nat.reduceAdd,Nat.reduceLeDiff,Nat.reduceLT,Int.reduceLE,Int.reduceLT,Int.reduceAdd,Int.reduceSub,Int.reduceToNat,Nat.reduceMul]
    have : i = 0 := by omega
    subst this
    rw [tr_of_take hl hi hz (by simp [Nrm])]
end Go.Proofs.YtljmgdepldpmdaaDoor.E

set_option linter.unusedSimpArgs false
set_option linter.unusedVariables false
set_option maxHeartbeats 2000000
namespace Go.Proofs.YtljmgdepldpmdaaDoor.E
open Go.RowKit Limbs
/-- examboard/nat.Of -/
def b69 : AF := ⟨11, 1, [.tmp 2],
  (.seq (.reg [
    ⟨some 2, .assign (.const (.slice none 0 0)), none⟩])
  (.seq (.reg [
    ⟨some 3, .move (.tmp 0), none⟩,
    ⟨some 4, .binOp .and 99 (.tmp 3) (.const (.int .u64 4294967295)) 99, none⟩,
    ⟨some 5, .convert 99 113 (.tmp 4), none⟩,
    ⟨some 6, .move (.tmp 0), none⟩,
    ⟨some 7, .binOp .shr 99 (.tmp 6) (.const (.int .u64 32)) 114, none⟩,
    ⟨some 8, .convert 99 113 (.tmp 7), none⟩,
    ⟨some 9, .buildSlice 23 2 #[(0, (.tmp 5)), (1, (.tmp 8))], none⟩,
    ⟨some 10, .call ⟨(.value (.func 82)), #[(.tmp 9)], #[23]⟩, none⟩,
    ⟨some 2, .assign (.tmp 10), none⟩])
  .ret))⟩
theorem c69 : fcomp Tryd.prog 69 = ⟨b69.n, b69.np, b69.res, b69.body.bare⟩ := by kernel_rfl
theorem k69 : fok Tryd.prog 69 = true := by kernel_rfl
theorem nat_Of (n : Int) (h0 : 0 ≤ n) (h1 : n < 18446744073709551616) : AFun Tryd.prog 69 [.one (.lit (.int .u64 n))] [.one (natD (nl n.toNat))] := by
  refine afun_intro mo_ _ _ c69 k69 _ _ rfl (by decide) ?_
  unfold b69
  simp (maxSteps:=1000000) (disch:=first | omega | (simp only [LL];omega)) only [W,V,TY,CC,reduceIte,Nat.reduceEqDiff,Nat.reduceAdd,Nat.reduceLeDiff,Nat.reduceLT,Int.reduceLE,Int.reduceLT,Int.reduceAdd,Int.reduceSub,Int.reduceToNat,Nat.reduceMul]
  refine a_call _ _ (nat_trim [n % 4294967296, n / 4294967296] (Lim.cons (by omega) (by omega) (Lim.one (by omega) (by omega))) (by simp)) rfl ?_
  simp (maxSteps:=1000000) (disch:=first | omega | (simp only [LL];omega)) only [W,V,TY,CC,reduceIte,Nat.reduceEqDiff,Nat.reduceAdd,Nat.reduceLeDiff,Nat.reduceLT,Int.reduceLE,Int.reduceLT,Int.reduceAdd,Int.reduceSub,Int.reduceToNat,Nat.reduceMul]
  refine f_ret _ _ _ ?_
  simp (maxSteps:=1000000) (disch:=first | omega | (simp only [LL];omega)) only [W,V,TY,CC,reduceIte,Nat.reduceEqDiff,Nat.reduceAdd,Nat.reduceLeDiff,Nat.reduceLT,Int.reduceLE,Int.reduceLT,Int.reduceAdd,Int.reduceSub,Int.reduceToNat,Nat.reduceMul]
  rw [show tr [n % 4294967296, n / 4294967296] = nl n.toNat by unfold tr nv; simp only [val]; congr 1; omega]

end Go.Proofs.YtljmgdepldpmdaaDoor.E

set_option linter.unusedSimpArgs false
set_option linter.unusedVariables false
set_option maxHeartbeats 2000000
namespace Go.Proofs.YtljmgdepldpmdaaDoor.E
open Go.RowKit Limbs
end Go.Proofs.YtljmgdepldpmdaaDoor.E

set_option linter.unusedSimpArgs false
set_option linter.unusedVariables false
set_option maxHeartbeats 2000000
namespace Go.Proofs.YtljmgdepldpmdaaDoor.E
open Go.RowKit Limbs
end Go.Proofs.YtljmgdepldpmdaaDoor.E

set_option linter.unusedSimpArgs false
set_option linter.unusedVariables false
set_option maxHeartbeats 2000000
namespace Go.Proofs.YtljmgdepldpmdaaDoor.E
open Go.RowKit Limbs
end Go.Proofs.YtljmgdepldpmdaaDoor.E

set_option linter.unusedSimpArgs false
set_option linter.unusedVariables false
set_option maxHeartbeats 2000000
namespace Go.Proofs.YtljmgdepldpmdaaDoor.E
open Go.RowKit Limbs
theorem tr_lim (l : List Int) : Lim (tr l) := nl_lim _
theorem tr_len {l : List Int} (hl : Lim l) : (tr l).length ≤ l.length := nl_len (nv_lt hl)
theorem val_tr {l : List Int} (hl : Lim l) : val (tr l) = val l := by unfold tr; rw [val_nl, nv_eq hl]
theorem tr_nl (n : Nat) : tr (nl n) = nl n := by unfold tr; rw [nv_nl]
/-- examboard/nat.Norm -/
def b84 : AF := ⟨7, 1, [.tmp 2],
  (.seq (.reg [
    ⟨some 2, .assign (.const (.slice none 0 0)), none⟩])
  (.seq (.reg [
    ⟨some 3, .buildSlice 23 0 #[], none⟩,
    ⟨some 4, .move (.tmp 0), none⟩,
    ⟨some 5, .call ⟨(.value (.func 82)), #[(.tmp 4)], #[23]⟩, none⟩,
    ⟨some 6, .call ⟨(.builtin .append), #[(.tmp 3), (.tmp 5)], #[23, 23]⟩, none⟩,
    ⟨some 2, .assign (.tmp 6), none⟩])
  .ret))⟩
theorem c84 : fcomp Tryd.prog 84 = ⟨b84.n, b84.np, b84.res, b84.body.bare⟩ := by kernel_rfl
theorem k84 : fok Tryd.prog 84 = true := by kernel_rfl
theorem nat_Norm (l : List Int) (hl : Lim l) (hb : l.length < 17592186044416) : AFun Tryd.prog 84 [.one (natD l)] [.one (natD (tr l))] := by
  refine afun_intro mo_ _ _ c84 k84 _ _ rfl (by decide) ?_
  unfold b84
  simp (maxSteps:=1000000) (disch:=first | omega | (simp only [LL];omega)) only [W,V,TY,CC,reduceIte,Nat.reduceEqDiff,Nat.reduceAdd,Nat.reduceLeDiff,Nat.reduceLT,Int.reduceLE,Int.reduceLT,Int.reduceAdd,Int.reduceSub,Int.reduceToNat,Nat.reduceMul]
  refine a_call _ _ (nat_trim l hl (by omega)) rfl ?_
  have := tr_len hl
  simp (maxSteps:=1000000) (disch:=first | omega | (simp only [LL];omega)) only [W,V,TY,CC,reduceIte,Nat.reduceEqDiff,Nat.reduceAdd,Nat.reduceLeDiff,Nat.reduceLT,Int.reduceLE,Int.reduceLT,Int.reduceAdd,Int.reduceSub,Int.reduceToNat,Nat.reduceMul]
  refine ⟨⟨by omega, by omega⟩, f_retg _ _ _ [.frz 2] ?_⟩
  simp (maxSteps:=1000000) (disch:=first | omega | (simp only [LL];omega)) only [W,V,TY,CC,reduceIte,Nat.reduceEqDiff,Nat.reduceAdd,Nat.reduceLeDiff,Nat.reduceLT,Int.reduceLE,Int.reduceLT,Int.reduceAdd,Int.reduceSub,Int.reduceToNat,Nat.reduceMul]
/-- -1, 0 or 1 -/
def cmpZ (m n : Int) : Int := if m < n then -1 else if n < m then 1 else 0
/-- examboard/nat.Cmp -/
def b68 : AF := ⟨47, 2, [.tmp 4],
  (.seq (.reg [
    ⟨some 4, .assign (.const (.int .i64 0)), none⟩])
  (.seq (.reg [
    ⟨some 8, .move (.tmp 0), none⟩,
    ⟨some 9, .call ⟨(.value (.func 82)), #[(.tmp 8)], #[23]⟩, none⟩,
    ⟨some 10, .move (.tmp 1), none⟩,
    ⟨some 11, .call ⟨(.value (.func 82)), #[(.tmp 10)], #[23]⟩, none⟩,
    ⟨some 5, .assign (.tmp 9), none⟩,
    ⟨some 6, .assign (.tmp 11), none⟩])
  (.seq (.seq (.reg [
    ⟨some 12, .move (.tmp 5), none⟩,
    ⟨some 13, .call ⟨(.builtin .len), #[(.tmp 12)], #[23]⟩, none⟩,
    ⟨some 14, .move (.tmp 6), none⟩,
    ⟨some 15, .call ⟨(.builtin .len), #[(.tmp 14)], #[23]⟩, none⟩,
    ⟨some 16, .binOp .neq 3 (.tmp 13) (.tmp 15) 3, none⟩])
  (.cond (.tmp 16)
    (.seq (.seq (.reg [
      ⟨some 17, .move (.tmp 5), none⟩,
      ⟨some 18, .call ⟨(.builtin .len), #[(.tmp 17)], #[23]⟩, none⟩,
      ⟨some 19, .move (.tmp 6), none⟩,
      ⟨some 20, .call ⟨(.builtin .len), #[(.tmp 19)], #[23]⟩, none⟩,
      ⟨some 21, .binOp .lss 3 (.tmp 18) (.tmp 20) 3, none⟩])
    (.cond (.tmp 21)
      (.seq (.reg [
        ⟨some 4, .assign (.const (.int .i64 (-1))), none⟩])
      .ret)
      .skip))
    (.seq (.reg [
      ⟨some 4, .assign (.const (.int .i64 1)), none⟩])
    .ret))
    .skip))
  (.seq (.seq (.reg [
    ⟨some 22, .move (.tmp 5), none⟩,
    ⟨some 23, .call ⟨(.builtin .len), #[(.tmp 22)], #[23]⟩, none⟩,
    ⟨some 24, .binOp .sub 3 (.tmp 23) (.const (.int .i64 1)) 3, none⟩,
    ⟨some 7, .assign (.tmp 24), none⟩])
  (.block 0 (.loop (.seq (.seq (.reg [
    ⟨some 25, .move (.tmp 7), none⟩,
    ⟨some 26, .binOp .geq 3 (.tmp 25) (.const (.int .i64 0)) 3, none⟩])
  (.cond (.tmp 26)
    .skip
    (.exit 0)))
  (.seq (.block 1 (.seq (.seq (.dreg [
    ⟨some 29, .move (.tmp 5), none⟩,
    ⟨some 30, .move (.tmp 7), none⟩,
    ⟨some 31, .indexAddr 23 (.tmp 29) (.tmp 30), none⟩,
    ⟨some 32, .load 113 (.tmp 31), none⟩,
    ⟨some 33, .move (.tmp 6), none⟩,
    ⟨some 34, .move (.tmp 7), none⟩,
    ⟨some 35, .indexAddr 23 (.tmp 33) (.tmp 34), none⟩,
    ⟨some 36, .load 113 (.tmp 35), none⟩,
    ⟨some 37, .binOp .lss 113 (.tmp 32) (.tmp 36) 113, none⟩])
  (.cond (.tmp 37)
    (.seq (.reg [
      ⟨some 4, .assign (.const (.int .i64 (-1))), none⟩])
    .ret)
    .skip))
  (.seq (.dreg [
    ⟨some 38, .move (.tmp 5), none⟩,
    ⟨some 39, .move (.tmp 7), none⟩,
    ⟨some 40, .indexAddr 23 (.tmp 38) (.tmp 39), none⟩,
    ⟨some 41, .load 113 (.tmp 40), none⟩,
    ⟨some 42, .move (.tmp 6), none⟩,
    ⟨some 43, .move (.tmp 7), none⟩,
    ⟨some 44, .indexAddr 23 (.tmp 42) (.tmp 43), none⟩,
    ⟨some 45, .load 113 (.tmp 44), none⟩,
    ⟨some 46, .binOp .gtr 113 (.tmp 41) (.tmp 45) 113, none⟩])
  (.cond (.tmp 46)
    (.seq (.reg [
      ⟨some 4, .assign (.const (.int .i64 1)), none⟩])
    .ret)
    .skip))))
  (.reg [
    ⟨some 27, .move (.tmp 7), none⟩,
    ⟨some 28, .binOp .sub 3 (.tmp 27) (.const (.int .i64 1)) 3, none⟩,
    ⟨some 7, .assign (.tmp 28), none⟩]))))))
  (.seq (.reg [
    ⟨some 4, .assign (.const (.int .i64 0)), none⟩])
  .ret)))))⟩
theorem c68 : fcomp Tryd.prog 68 = ⟨b68.n, b68.np, b68.res, b68.body.bare⟩ := by kernel_rfl
theorem k68 : fok Tryd.prog 68 = true := by kernel_rfl
theorem nat_Cmp (a b : List Int) (ha : Lim a) (hb : Lim b) (la : a.length < 4611686018427387904) (lb : b.length < 4611686018427387904) : AFun Tryd.prog 68 [.one (natD a), .one (natD b)] [.one (.lit (.int .i64 (cmpZ (val a) (val b))))] := by
  refine afun_intro mo_ _ _ c68 k68 _ _ rfl (by decide) ?_
  unfold b68
  have h1 := tr_len ha
  have h2 := tr_len hb
  have n1 : Nrm (tr a) := nl_nrm _
  have n2 : Nrm (tr b) := nl_nrm _
  have l1 := tr_lim a
  have l2 := tr_lim b
  rw [← val_tr ha, ← val_tr hb]
  simp (maxSteps:=1000000) (disch:=first | omega | (simp only [LL];omega)) only [W,V,TY,CC,reduceIte,Nat.reduceEqDiff,Nat.reduceAdd,Nat.reduceLeDiff,Nat.reduceLT,Int.reduceLE,Int.reduceLT,Int.reduceAdd,Int.reduceSub,Int.reduceToNat,Nat.reduceMul]
  refine a_call _ _ (nat_trim a ha la) rfl ?_
  simp (maxSteps:=1000000) (disch:=first | omega | (simp only [LL];omega)) only [W,V,TY,CC,reduceIte,Nat.reduceEqDiff,Nat.reduceAdd,Nat.reduceLeDiff,Nat.reduceLT,Int.reduceLE,Int.reduceLT,Int.reduceAdd,Int.reduceSub,Int.reduceToNat,Nat.reduceMul]
  refine a_call _ _ (nat_trim b hb lb) rfl ?_
  simp (maxSteps:=1000000) (disch:=first | omega | (simp only [LL];omega)) only [W,V,TY,CC,reduceIte,Nat.reduceEqDiff,Nat.reduceAdd,Nat.reduceLeDiff,Nat.reduceLT,Int.reduceLE,Int.reduceLT,Int.reduceAdd,Int.reduceSub,Int.reduceToNat,Nat.reduceMul]
  generalize tr a = x at *
  generalize tr b = y at *
  refine c_split (fun hl => ?_) (fun hl => ?_)
  · simp (maxSteps:=1000000) (disch:=first | omega | (simp only [LL];omega)) only [W,V,TY,CC,reduceIte,Nat.reduceEqDiff,Nat.reduceAdd,Nat.reduceLeDiff,Nat.reduceLT,Int.reduceLE,Int.reduceLT,Int.reduceAdd,Int.reduceSub,Int.reduceToNat,Nat.reduceMul]
    refine c_split (fun hl2 => ?_) (fun hl2 => ?_)
    · simp (maxSteps:=1000000) (disch:=first | omega | (simp only [LL];omega)) only [W,V,TY,CC,reduceIte,Nat.reduceEqDiff,Nat.reduceAdd,Nat.reduceLeDiff,Nat.reduceLT,Int.reduceLE,Int.reduceLT,Int.reduceAdd,Int.reduceSub,Int.reduceToNat,Nat.reduceMul]
      refine f_ret _ _ _ ?_
      have := lt_of_len l1 l2 n2 (by omega)
      simp (maxSteps:=1000000) (disch:=first | omega | (simp only [LL];omega)) only [W,V,TY,CC,reduceIte,Nat.reduceEqDiff,Nat.reduceAdd,Nat.reduceLeDiff,Nat.reduceLT,Int.reduceLE,Int.reduceLT,Int.reduceAdd,Int.reduceSub,Int.reduceToNat,Nat.reduceMul,cmpZ,this]
    · simp (maxSteps:=1000000) (disch:=first | omega | (simp only [LL];omega)) only [W,V,TY,CC,reduceIte,Nat.reduceEqDiff,Nat.reduceAdd,Nat.reduceLeDiff,Nat.reduceLT,Int.reduceLE,Int.reduceLT,Int.reduceAdd,Int.reduceSub,Int.reduceToNat,Nat.reduceMul]
      refine f_ret _ _ _ ?_
      have := lt_of_len l2 l1 n1 (by omega)
      have h' : ¬ val x < val y := by omega
      simp (maxSteps:=1000000) (disch:=first | omega | (simp only [LL];omega)) only [W,V,TY,CC,reduceIte,Nat.reduceEqDiff,Nat.reduceAdd,Nat.reduceLeDiff,Nat.reduceLT,Int.reduceLE,Int.reduceLT,Int.reduceAdd,Int.reduceSub,Int.reduceToNat,Nat.reduceMul,cmpZ,this,h']
  · simp (maxSteps:=1000000) (disch:=first | omega | (simp only [LL];omega)) only [W,V,TY,CC,reduceIte,Nat.reduceEqDiff,Nat.reduceAdd,Nat.reduceLeDiff,Nat.reduceLT,Int.reduceLE,Int.reduceLT,Int.reduceAdd,Int.reduceSub,Int.reduceToNat,Nat.reduceMul]
    have hl' : x.length = y.length := by omega
    refine w_loop (fun n s => ∃ i : Nat, n = i ∧ s.t 5 = .one (.dt (natD x)) ∧ s.t 6 = .one (.dt (natD y)) ∧ s.t 7 = .one (.dt (.lit (.int .i64 (i - 1)))) ∧ i ≤ x.length ∧ val (x.drop i) = val (y.drop i)) x.length ⟨x.length, rfl, ?_, ?_, ?_, Nat.le_refl _, by rw [List.drop_of_length_le (Nat.le_refl _), List.drop_of_length_le (by omega)]⟩ ?_
    · simp (maxSteps:=1000000) (disch:=first | omega | (simp only [LL];omega)) only [W,V,TY,CC,reduceIte,Nat.reduceEqDiff,Nat.reduceAdd,Nat.reduceLeDiff,Nat.reduceLT,Int.reduceLE,Int.reduceLT,Int.reduceAdd,Int.reduceSub,Int.reduceToNat,Nat.reduceMul]
    · simp (maxSteps:=1000000) (disch:=first | omega | (simp only [LL];omega)) only [W,V,TY,CC,reduceIte,Nat.reduceEqDiff,Nat.reduceAdd,Nat.reduceLeDiff,Nat.reduceLT,Int.reduceLE,Int.reduceLT,Int.reduceAdd,Int.reduceSub,Int.reduceToNat,Nat.reduceMul]
    · simp (maxSteps:=1000000) (disch:=first | omega | (simp only [LL];omega)) only [W,V,TY,CC,reduceIte,Nat.reduceEqDiff,Nat.reduceAdd,Nat.reduceLeDiff,Nat.reduceLT,Int.reduceLE,Int.reduceLT,Int.reduceAdd,Int.reduceSub,Int.reduceToNat,Nat.reduceMul]
    intro n s _ ⟨i, e, t5, t6, t7, hi, hd⟩
    simp (maxSteps:=1000000) (disch:=first | omega | (simp only [LL];omega)) only [W,V,TY,CC,reduceIte,Nat.reduceEqDiff,Nat.reduceAdd,Nat.reduceLeDiff,Nat.reduceLT,Int.reduceLE,Int.reduceLT,Int.reduceAdd,Int.reduceSub,Int.reduceToNat,Nat.reduceMul,t5,t6,t7]
    refine c_split (fun hc => ?_) (fun hc => ?_)
    · simp (maxSteps:=1000000) (disch:=first | omega | (simp only [LL];omega)) only [W,V,TY,CC,reduceIte,Nat.reduceEqDiff,Nat.reduceAdd,Nat.reduceLeDiff,Nat.reduceLT,Int.reduceLE,Int.reduceLT,Int.reduceAdd,Int.reduceSub,Int.reduceToNat,Nat.reduceMul,t5,t6,t7]
      have e1 : i - 1 + 1 = i := by omega
      refine c_split (fun h3 => ?_) (fun h3 => ?_)
      · simp (maxSteps:=1000000) (disch:=first | omega | (simp only [LL];omega)) only [W,V,TY,CC,reduceIte,Nat.reduceEqDiff,Nat.reduceAdd,Nat.reduceLeDiff,Nat.reduceLT,Int.reduceLE,Int.reduceLT,Int.reduceAdd,Int.reduceSub,Int.reduceToNat,Nat.reduceMul,t5,t6,t7]
        refine f_ret _ _ _ ?_
        have := lt_of_at l1 l2 (i := i - 1) (by omega) (by omega) (by rw [e1]; exact hd) h3
        simp (maxSteps:=1000000) (disch:=first | omega | (simp only [LL];omega)) only [W,V,TY,CC,reduceIte,Nat.reduceEqDiff,Nat.reduceAdd,Nat.reduceLeDiff,Nat.reduceLT,Int.reduceLE,Int.reduceLT,Int.reduceAdd,Int.reduceSub,Int.reduceToNat,Nat.reduceMul,cmpZ,this]
      · simp (maxSteps:=1000000) (disch:=first | omega | (simp only [LL];omega)) only [W,V,TY,CC,reduceIte,Nat.reduceEqDiff,Nat.reduceAdd,Nat.reduceLeDiff,Nat.reduceLT,Int.reduceLE,Int.reduceLT,Int.reduceAdd,Int.reduceSub,Int.reduceToNat,Nat.reduceMul,t5,t6,t7]
        refine c_split (fun h4 => ?_) (fun h4 => ?_)
        · simp (maxSteps:=1000000) (disch:=first | omega | (simp only [LL];omega)) only [W,V,TY,CC,reduceIte,Nat.reduceEqDiff,Nat.reduceAdd,Nat.reduceLeDiff,Nat.reduceLT,Int.reduceLE,Int.reduceLT,Int.reduceAdd,Int.reduceSub,Int.reduceToNat,Nat.reduceMul,t5,t6,t7]
          refine f_ret _ _ _ ?_
          have := lt_of_at l2 l1 (i := i - 1) (by omega) (by omega) (by rw [e1]; exact hd.symm) h4
          have h' : ¬ val x < val y := by omega
          simp (maxSteps:=1000000) (disch:=first | omega | (simp only [LL];omega)) only [W,V,TY,CC,reduceIte,Nat.reduceEqDiff,Nat.reduceAdd,Nat.reduceLeDiff,Nat.reduceLT,Int.reduceLE,Int.reduceLT,Int.reduceAdd,Int.reduceSub,Int.reduceToNat,Nat.reduceMul,cmpZ,this,h']
        · simp (maxSteps:=1000000) (disch:=first | omega | (simp only [LL];omega)) only [W,V,TY,CC,reduceIte,Nat.reduceEqDiff,Nat.reduceAdd,Nat.reduceLeDiff,Nat.reduceLT,Int.reduceLE,Int.reduceLT,Int.reduceAdd,Int.reduceSub,Int.reduceToNat,Nat.reduceMul,t5,t6,t7]
          refine ⟨i - 1, by omega, i - 1, rfl, by rw [show ((i - 1 : Nat) : Int) = i - 1 by omega], by omega, ?_⟩
          rw [val_drop_getD (i := i - 1) (by omega), val_drop_getD (l := y) (i := i - 1) (by omega), e1, hd]
          omega
    · simp (maxSteps:=1000000) (disch:=first | omega | (simp only [LL];omega)) only [W,V,TY,CC,reduceIte,Nat.reduceEqDiff,Nat.reduceAdd,Nat.reduceLeDiff,Nat.reduceLT,Int.reduceLE,Int.reduceLT,Int.reduceAdd,Int.reduceSub,Int.reduceToNat,Nat.reduceMul,t5,t6,t7]
      refine f_ret _ _ _ ?_
      have h0 : i = 0 := by omega
      rw [h0, List.drop_zero, List.drop_zero] at hd
      have h' : ¬ val x < val y := by omega
      have h'' : ¬ val y < val x := by omega
      simp (maxSteps:=1000000) (disch:=first | omega | (simp only [LL];omega)) only [W,V,TY,CC,reduceIte,Nat.reduceEqDiff,Nat.reduceAdd,Nat.reduceLeDiff,Nat.reduceLT,Int.reduceLE,Int.reduceLT,Int.reduceAdd,Int.reduceSub,Int.reduceToNat,Nat.reduceMul,cmpZ,h', h'']
end Go.Proofs.YtljmgdepldpmdaaDoor.E

set_option linter.unusedSimpArgs false
set_option linter.unusedVariables false
set_option maxHeartbeats 2000000
namespace Go.Proofs.YtljmgdepldpmdaaDoor.E
open Go.RowKit Limbs
def b80_4 : AC :=
  (.seq (.reg [
    ⟨some 22, .move (.tmp 5), none⟩,
    ⟨some 23, .call ⟨(.builtin .len), #[(.tmp 22)], #[23]⟩, none⟩,
    ⟨some 24, .binOp .add 3 (.tmp 23) (.const (.int .i64 1)) 3, none⟩,
    ⟨some 25, .makeSlice 23 (.const (.int .i64 0)) (.tmp 24), none⟩,
    ⟨some 7, .assign (.tmp 25), none⟩])
  (.seq (.reg [
    ⟨some 8, .assign (.const (.int .u64 0)), none⟩])
  (.seq (.seq (.reg [
    ⟨some 26, .move (.tmp 5), none⟩,
    ⟨some 27, .call ⟨(.builtin .len), #[(.tmp 26)], #[23]⟩, none⟩,
    ⟨some 28, .move (.const (.int .i64 0)), none⟩])
  (.block 0 (.loop (.seq (.reg [
    ⟨some 29, .binOp .lss 3 (.tmp 28) (.tmp 27) 3, none⟩])
  (.seq (.cond (.tmp 29)
    .skip
    (.exit 0))
  (.seq (.block 1 (.seq (.reg [
    ⟨some 30, .move (.tmp 28), none⟩,
    ⟨some 31, .indexAddr 23 (.tmp 26) (.tmp 28), none⟩,
    ⟨some 32, .load 113 (.tmp 31), none⟩,
    ⟨some 9, .assign (.tmp 30), none⟩,
    ⟨some 10, .assign (.tmp 32), none⟩])
  (.seq (.reg [
    ⟨some 33, .move (.tmp 8), none⟩,
    ⟨some 34, .move (.tmp 10), none⟩,
    ⟨some 35, .convert 113 99 (.tmp 34), none⟩,
    ⟨some 36, .binOp .add 99 (.tmp 33) (.tmp 35) 99, none⟩,
    ⟨some 8, .assign (.tmp 36), none⟩])
  (.seq (.seq (.reg [
    ⟨some 37, .move (.tmp 9), none⟩,
    ⟨some 38, .move (.tmp 6), none⟩,
    ⟨some 39, .call ⟨(.builtin .len), #[(.tmp 38)], #[23]⟩, none⟩,
    ⟨some 40, .binOp .lss 3 (.tmp 37) (.tmp 39) 3, none⟩])
  (.cond (.tmp 40)
    (.reg [
      ⟨some 41, .move (.tmp 8), none⟩,
      ⟨some 42, .move (.tmp 6), none⟩,
      ⟨some 43, .move (.tmp 9), none⟩,
      ⟨some 44, .indexAddr 23 (.tmp 42) (.tmp 43), none⟩,
      ⟨some 45, .load 113 (.tmp 44), none⟩,
      ⟨some 46, .convert 113 99 (.tmp 45), none⟩,
      ⟨some 47, .binOp .add 99 (.tmp 41) (.tmp 46) 99, none⟩,
      ⟨some 8, .assign (.tmp 47), none⟩])
    .skip))
  (.seq (.reg [
    ⟨some 48, .move (.tmp 7), none⟩,
    ⟨some 49, .move (.tmp 8), none⟩,
    ⟨some 50, .binOp .and 99 (.tmp 49) (.const (.int .u64 4294967295)) 99, none⟩,
    ⟨some 51, .convert 99 113 (.tmp 50), none⟩,
    ⟨some 52, .buildSlice 23 1 #[(0, (.tmp 51))], none⟩,
    ⟨some 53, .call ⟨(.builtin .append), #[(.tmp 48), (.tmp 52)], #[23, 23]⟩, none⟩,
    ⟨some 7, .assign (.tmp 53), none⟩])
  (.reg [
    ⟨some 54, .move (.tmp 8), none⟩,
    ⟨some 55, .binOp .shr 99 (.tmp 54) (.const (.int .u64 32)) 114, none⟩,
    ⟨some 8, .assign (.tmp 55), none⟩]))))))
  (.reg [
    ⟨some 56, .binOp .add 3 (.tmp 28) (.const (.int .i64 1)) 3, none⟩,
    ⟨some 28, .move (.tmp 56), none⟩])))))))
  (.seq (.seq (.reg [
    ⟨some 57, .move (.tmp 8), none⟩,
    ⟨some 58, .binOp .gtr 99 (.tmp 57) (.const (.int .u64 0)) 99, none⟩])
  (.cond (.tmp 58)
    (.reg [
      ⟨some 59, .move (.tmp 7), none⟩,
      ⟨some 60, .move (.tmp 8), none⟩,
      ⟨some 61, .convert 99 113 (.tmp 60), none⟩,
      ⟨some 62, .buildSlice 23 1 #[(0, (.tmp 61))], none⟩,
      ⟨some 63, .call ⟨(.builtin .append), #[(.tmp 59), (.tmp 62)], #[23, 23]⟩, none⟩,
      ⟨some 7, .assign (.tmp 63), none⟩])
    .skip))
  (.seq (.reg [
    ⟨some 64, .move (.tmp 7), none⟩,
    ⟨some 4, .assign (.tmp 64), none⟩])
  .ret)))))
/-- examboard/nat.Add -/
def b80 : AF := ⟨65, 2, [.tmp 4],
  (.seq (.reg [
    ⟨some 4, .assign (.const (.slice none 0 0)), none⟩])
  (.seq (.reg [
    ⟨some 11, .move (.tmp 0), none⟩,
    ⟨some 12, .call ⟨(.value (.func 82)), #[(.tmp 11)], #[23]⟩, none⟩,
    ⟨some 13, .move (.tmp 1), none⟩,
    ⟨some 14, .call ⟨(.value (.func 82)), #[(.tmp 13)], #[23]⟩, none⟩,
    ⟨some 5, .assign (.tmp 12), none⟩,
    ⟨some 6, .assign (.tmp 14), none⟩])
  (.seq (.seq (.reg [
    ⟨some 15, .move (.tmp 5), none⟩,
    ⟨some 16, .call ⟨(.builtin .len), #[(.tmp 15)], #[23]⟩, none⟩,
    ⟨some 17, .move (.tmp 6), none⟩,
    ⟨some 18, .call ⟨(.builtin .len), #[(.tmp 17)], #[23]⟩, none⟩,
    ⟨some 19, .binOp .lss 3 (.tmp 16) (.tmp 18) 3, none⟩])
  (.cond (.tmp 19)
    (.reg [
      ⟨some 20, .move (.tmp 6), none⟩,
      ⟨some 21, .move (.tmp 5), none⟩,
      ⟨some 5, .assign (.tmp 20), none⟩,
      ⟨some 6, .assign (.tmp 21), none⟩])
    .skip))
  b80_4)))⟩
theorem c80 : fcomp Tryd.prog 80 = ⟨b80.n, b80.np, b80.res, b80.body.bare⟩ := by kernel_rfl
theorem k80 : fok Tryd.prog 80 = true := by kernel_rfl
theorem nat_Add_rest (X Y : List Int) (hX : Lim X) (hY : Lim Y) (nX : Nrm X) (hXY : Y.length ≤ X.length) (hl : X.length < 8796093022208) (m : Nat) (hm : (m : Int) = val X + val Y) (s : AS) (t5 : s.t 5 = .one (.dt (natD X))) (t6 : s.t 6 = .one (.dt (natD Y))) (g25 : s.g 25 = 0) :
    awp Tryd.prog b80_4 (fend Tryd.prog [.tmp 4] [.one (natD (nl m))]) s := by
  unfold b80_4
  simp (maxSteps:=1000000) (disch:=first | omega | (simp only [LL];omega)) only [W,V,TY,CC,reduceIte,Nat.reduceEqDiff,Nat.reduceAdd,Nat.reduceLeDiff,Nat.reduceLT,Int.reduceLE,Int.reduceLT,Int.reduceAdd,Int.reduceSub,Int.reduceToNat,Nat.reduceMul,t5,t6,g25]
  refine w_loop (fun n s => ∃ (i : Nat) (S : List Int) (c : Int), n + i = X.length ∧ s.t 6 = .one (.dt (natD Y)) ∧ s.t 26 = .one (.dt (natD X)) ∧ s.t 27 = .one (.dt (.lit (.int .i64 X.length))) ∧ s.t 28 = .one (.dt (.lit (.int .i64 i))) ∧ s.t 7 = .one (.row (25, 0) i) ∧ s.r (25, 0) = some ⟨113, 1, i, natC S, i, true⟩ ∧ s.t 8 = .one (.dt (.lit (.int .u64 c))) ∧ S.length = i ∧ Lim S ∧ 0 ≤ c ∧ c ≤ 1 ∧ val S + bp i * c = val (X.take i) + val (Y.take i)) X.length ⟨0, [], 0, rfl, ?_, ?_, ?_, ?_, ?_, ?_, ?_, rfl, Lim.nil, by omega, by omega, by simp [val]⟩ ?_
  · simp (maxSteps:=1000000) (disch:=first | omega | (simp only [LL];omega)) only [W,V,TY,CC,reduceIte,Nat.reduceEqDiff,Nat.reduceAdd,Nat.reduceLeDiff,Nat.reduceLT,Int.reduceLE,Int.reduceLT,Int.reduceAdd,Int.reduceSub,Int.reduceToNat,Nat.reduceMul,t5,t6,g25]
  · simp (maxSteps:=1000000) (disch:=first | omega | (simp only [LL];omega)) only [W,V,TY,CC,reduceIte,Nat.reduceEqDiff,Nat.reduceAdd,Nat.reduceLeDiff,Nat.reduceLT,Int.reduceLE,Int.reduceLT,Int.reduceAdd,Int.reduceSub,Int.reduceToNat,Nat.reduceMul,t5,t6,g25]
  · simp (maxSteps:=1000000) (disch:=first | omega | (simp only [LL];omega)) only [W,V,TY,CC,reduceIte,Nat.reduceEqDiff,Nat.reduceAdd,Nat.reduceLeDiff,Nat.reduceLT,Int.reduceLE,Int.reduceLT,Int.reduceAdd,Int.reduceSub,Int.reduceToNat,Nat.reduceMul,t5,t6,g25]
  · simp (maxSteps:=1000000) (disch:=first | omega | (simp only [LL];omega)) only [W,V,TY,CC,reduceIte,Nat.reduceEqDiff,Nat.reduceAdd,Nat.reduceLeDiff,Nat.reduceLT,Int.reduceLE,Int.reduceLT,Int.reduceAdd,Int.reduceSub,Int.reduceToNat,Nat.reduceMul,t5,t6,g25]
  · simp (maxSteps:=1000000) (disch:=first | omega | (simp only [LL];omega)) only [W,V,TY,CC,reduceIte,Nat.reduceEqDiff,Nat.reduceAdd,Nat.reduceLeDiff,Nat.reduceLT,Int.reduceLE,Int.reduceLT,Int.reduceAdd,Int.reduceSub,Int.reduceToNat,Nat.reduceMul,t5,t6,g25]
  · simp (maxSteps:=1000000) (disch:=first | omega | (simp only [LL];omega)) only [W,V,TY,CC,reduceIte,Nat.reduceEqDiff,Nat.reduceAdd,Nat.reduceLeDiff,Nat.reduceLT,Int.reduceLE,Int.reduceLT,Int.reduceAdd,Int.reduceSub,Int.reduceToNat,Nat.reduceMul,t5,t6,g25]
  · simp (maxSteps:=1000000) (disch:=first | omega | (simp only [LL];omega)) only [W,V,TY,CC,reduceIte,Nat.reduceEqDiff,Nat.reduceAdd,Nat.reduceLeDiff,Nat.reduceLT,Int.reduceLE,Int.reduceLT,Int.reduceAdd,Int.reduceSub,Int.reduceToNat,Nat.reduceMul,t5,t6,g25]
  clear t5 t6 g25
  intro n s _ ⟨i, S, c, e, t6, t26, t27, t28, t7, r7, t8, hS, lS, c0, c1, hv⟩
  simp (maxSteps:=1000000) (disch:=first | omega | (simp only [LL];omega)) only [W,V,TY,CC,reduceIte,Nat.reduceEqDiff,Nat.reduceAdd,Nat.reduceLeDiff,Nat.reduceLT,Int.reduceLE,Int.reduceLT,Int.reduceAdd,Int.reduceSub,Int.reduceToNat,Nat.reduceMul,t6,t26,t27,t28,t7,t8]
  refine c_split (fun hi => ?_) (fun hi => ?_)
  · have hx := hX.getD i
    have hy := hY.getD i
    simp (maxSteps:=1000000) (disch:=first | omega | (simp only [LL];omega)) only [W,V,TY,CC,reduceIte,Nat.reduceEqDiff,Nat.reduceAdd,Nat.reduceLeDiff,Nat.reduceLT,Int.reduceLE,Int.reduceLT,Int.reduceAdd,Int.reduceSub,Int.reduceToNat,Nat.reduceMul,t6,t26,t27,t28,t7,t8]
    refine c_split (fun hk => ?_) (fun hk => ?_)
    · simp (maxSteps:=1000000) (disch:=first | omega | (simp only [LL];omega)) only [W,V,TY,CC,reduceIte,Nat.reduceEqDiff,Nat.reduceAdd,Nat.reduceLeDiff,Nat.reduceLT,Int.reduceLE,Int.reduceLT,Int.reduceAdd,Int.reduceSub,Int.reduceToNat,Nat.reduceMul,t6,t26,t27,t28,t7,t8,r7]
      refine ⟨⟨by omega, by omega⟩, n - 1, by omega, i + 1, S ++ [(c + X.getD i 0 + Y.getD i 0) % 4294967296], (c + X.getD i 0 + Y.getD i 0) / 4294967296, by omega, rfl, rfl, rfl, rfl, by simp [hS], lS.snoc (by omega) (by omega), by omega, by omega, ?_⟩
      rw [val_snoc, hS, bp_succ, val_take_getD (show i < X.length by omega), val_take_getD (show i < Y.length by omega)]
      generalize X.getD i 0 = x at *
      generalize Y.getD i 0 = y at *
      have := Int.emod_add_mul_ediv (c + x + y) 4294967296
      grind
    · simp (maxSteps:=1000000) (disch:=first | omega | (simp only [LL];omega)) only [W,V,TY,CC,reduceIte,Nat.reduceEqDiff,Nat.reduceAdd,Nat.reduceLeDiff,Nat.reduceLT,Int.reduceLE,Int.reduceLT,Int.reduceAdd,Int.reduceSub,Int.reduceToNat,Nat.reduceMul,t6,t26,t27,t28,t7,t8,r7]
      refine ⟨⟨by omega, by omega⟩, n - 1, by omega, i + 1, S ++ [(c + X.getD i 0) % 4294967296], (c + X.getD i 0) / 4294967296, by omega, rfl, rfl, rfl, rfl, by simp [hS], lS.snoc (by omega) (by omega), by omega, by omega, ?_⟩
      rw [val_snoc, hS, bp_succ, val_take_getD (show i < X.length by omega), take_getD_over (show Y.length ≤ i by omega)]
      generalize X.getD i 0 = x at *
      have := Int.emod_add_mul_ediv (c + x) 4294967296
      grind
  · have hin : i = X.length := by omega
    rw [List.take_of_length_le (by omega), List.take_of_length_le (by omega)] at hv
    have hp : X ≠ [] → bp (X.length - 1) ≤ val X := fun h => val_pos_of_nrm hX nX h
    have hy := val_nonneg hY
    simp (maxSteps:=1000000) (disch:=first | omega | (simp only [LL];omega)) only [W,V,TY,CC,reduceIte,Nat.reduceEqDiff,Nat.reduceAdd,Nat.reduceLeDiff,Nat.reduceLT,Int.reduceLE,Int.reduceLT,Int.reduceAdd,Int.reduceSub,Int.reduceToNat,Nat.reduceMul,t6,t26,t27,t28,t7,t8]
    refine c_split (fun hc => ?_) (fun hc => ?_)
    · simp (maxSteps:=1000000) (disch:=first | omega | (simp only [LL];omega)) only [W,V,TY,CC,reduceIte,Nat.reduceEqDiff,Nat.reduceAdd,Nat.reduceLeDiff,Nat.reduceLT,Int.reduceLE,Int.reduceLT,Int.reduceAdd,Int.reduceSub,Int.reduceToNat,Nat.reduceMul,t6,t26,t27,t28,t7,t8,r7]
      refine ⟨⟨by omega, by omega⟩, f_retg _ _ _ [.frz 4] ?_⟩
      have hc1 : c = 1 := by omega
      subst hc1
      have hres : S ++ [1] = nl m := by
        refine eq_nl (lS.snoc (by omega) (by omega)) (by unfold Nrm; simp) ?_
        rw [val_snoc, hS, hm]; exact hv
      simp (maxSteps:=1000000) (disch:=first | omega | (simp only [LL];omega)) only [W,V,TY,CC,reduceIte,Nat.reduceEqDiff,Nat.reduceAdd,Nat.reduceLeDiff,Nat.reduceLT,Int.reduceLE,Int.reduceLT,Int.reduceAdd,Int.reduceSub,Int.reduceToNat,Nat.reduceMul,hS]
      rw [hres]
    · simp (maxSteps:=1000000) (disch:=first | omega | (simp only [LL];omega)) only [W,V,TY,CC,reduceIte,Nat.reduceEqDiff,Nat.reduceAdd,Nat.reduceLeDiff,Nat.reduceLT,Int.reduceLE,Int.reduceLT,Int.reduceAdd,Int.reduceSub,Int.reduceToNat,Nat.reduceMul,t6,t26,t27,t28,t7,t8,r7]
      refine f_retg _ _ _ [.frz 4] ?_
      have hc0 : c = 0 := by omega
      subst hc0
      have hv' : val S = val X + val Y := by omega
      have hres : S = nl m := by
        refine eq_nl lS (nrm_of_val lS fun h => ?_) (by rw [hm]; exact hv')
        have h2 : X ≠ [] := by
          intro e; rw [e] at hin
          have : S.length = 0 := by rw [hS, hin]; rfl
          exact h (List.eq_nil_of_length_eq_zero this)
        have := hp h2
        rw [hS, hin]; omega
      simp (maxSteps:=1000000) (disch:=first | omega | (simp only [LL];omega)) only [W,V,TY,CC,reduceIte,Nat.reduceEqDiff,Nat.reduceAdd,Nat.reduceLeDiff,Nat.reduceLT,Int.reduceLE,Int.reduceLT,Int.reduceAdd,Int.reduceSub,Int.reduceToNat,Nat.reduceMul,hS,r7]
      rw [hres]
theorem nat_Add (a b : List Int) (ha : Lim a) (hb : Lim b) (la : a.length < 8796093022208) (lb : b.length < 8796093022208) : AFun Tryd.prog 80 [.one (natD a), .one (natD b)] [.one (natD (nl (nv a + nv b)))] := by
  refine afun_intro mo_ _ _ c80 k80 _ _ rfl (by decide) ?_
  unfold b80
  have h1 := tr_len ha
  have h2 := tr_len hb
  have n1 : Nrm (tr a) := nl_nrm _
  have n2 : Nrm (tr b) := nl_nrm _
  have l1 := tr_lim a
  have l2 := tr_lim b
  have hm : ((nv a + nv b : Nat) : Int) = val (tr a) + val (tr b) := by rw [val_tr ha, val_tr hb, Int.natCast_add, nv_eq ha, nv_eq hb]
  simp (maxSteps:=1000000) (disch:=first | omega | (simp only [LL];omega)) only [W,V,TY,CC,reduceIte,Nat.reduceEqDiff,Nat.reduceAdd,Nat.reduceLeDiff,Nat.reduceLT,Int.reduceLE,Int.reduceLT,Int.reduceAdd,Int.reduceSub,Int.reduceToNat,Nat.reduceMul]
  refine a_call _ _ (nat_trim a ha (by omega)) rfl ?_
  simp (maxSteps:=1000000) (disch:=first | omega | (simp only [LL];omega)) only [W,V,TY,CC,reduceIte,Nat.reduceEqDiff,Nat.reduceAdd,Nat.reduceLeDiff,Nat.reduceLT,Int.reduceLE,Int.reduceLT,Int.reduceAdd,Int.reduceSub,Int.reduceToNat,Nat.reduceMul]
  refine a_call _ _ (nat_trim b hb (by omega)) rfl ?_
  simp (maxSteps:=1000000) (disch:=first | omega | (simp only [LL];omega)) only [W,V,TY,CC,reduceIte,Nat.reduceEqDiff,Nat.reduceAdd,Nat.reduceLeDiff,Nat.reduceLT,Int.reduceLE,Int.reduceLT,Int.reduceAdd,Int.reduceSub,Int.reduceToNat,Nat.reduceMul]
  generalize tr a = x at *
  generalize tr b = y at *
  refine c_split (fun hl => ?_) (fun hl => ?_)
  · simp (maxSteps:=1000000) (disch:=first | omega | (simp only [LL];omega)) only [W,V,TY,CC,reduceIte,Nat.reduceEqDiff,Nat.reduceAdd,Nat.reduceLeDiff,Nat.reduceLT,Int.reduceLE,Int.reduceLT,Int.reduceAdd,Int.reduceSub,Int.reduceToNat,Nat.reduceMul]
    refine nat_Add_rest y x l2 l1 n2 (by omega) (by omega) _ (by rw [hm, Int.add_comm]) _ ?_ ?_ ?_
    · simp (maxSteps:=1000000) (disch:=first | omega | (simp only [LL];omega)) only [W,V,TY,CC,reduceIte,Nat.reduceEqDiff,Nat.reduceAdd,Nat.reduceLeDiff,Nat.reduceLT,Int.reduceLE,Int.reduceLT,Int.reduceAdd,Int.reduceSub,Int.reduceToNat,Nat.reduceMul]
    · simp (maxSteps:=1000000) (disch:=first | omega | (simp only [LL];omega)) only [W,V,TY,CC,reduceIte,Nat.reduceEqDiff,Nat.reduceAdd,Nat.reduceLeDiff,Nat.reduceLT,Int.reduceLE,Int.reduceLT,Int.reduceAdd,Int.reduceSub,Int.reduceToNat,Nat.reduceMul]
    · simp (maxSteps:=1000000) (disch:=first | omega | (simp only [LL];omega)) only [W,V,TY,CC,reduceIte,Nat.reduceEqDiff,Nat.reduceAdd,Nat.reduceLeDiff,Nat.reduceLT,Int.reduceLE,Int.reduceLT,Int.reduceAdd,Int.reduceSub,Int.reduceToNat,Nat.reduceMul]
  · simp (maxSteps:=1000000) (disch:=first | omega | (simp only [LL];omega)) only [W,V,TY,CC,reduceIte,Nat.reduceEqDiff,Nat.reduceAdd,Nat.reduceLeDiff,Nat.reduceLT,Int.reduceLE,Int.reduceLT,Int.reduceAdd,Int.reduceSub,Int.reduceToNat,Nat.reduceMul]
    refine nat_Add_rest x y l1 l2 n1 (by omega) (by omega) _ hm _ ?_ ?_ ?_
    · simp (maxSteps:=1000000) (disch:=first | omega | (simp only [LL];omega)) only [W,V,TY,CC,reduceIte,Nat.reduceEqDiff,Nat.reduceAdd,Nat.reduceLeDiff,Nat.reduceLT,Int.reduceLE,Int.reduceLT,Int.reduceAdd,Int.reduceSub,Int.reduceToNat,Nat.reduceMul]
    · simp (maxSteps:=1000000) (disch:=first | omega | (simp only [LL];omega)) only [W,V,TY,CC,reduceIte,Nat.reduceEqDiff,Nat.reduceAdd,Nat.reduceLeDiff,Nat.reduceLT,Int.reduceLE,Int.reduceLT,Int.reduceAdd,Int.reduceSub,Int.reduceToNat,Nat.reduceMul]
    · simp (maxSteps:=1000000) (disch:=first | omega | (simp only [LL];omega)) only [W,V,TY,CC,reduceIte,Nat.reduceEqDiff,Nat.reduceAdd,Nat.reduceLeDiff,Nat.reduceLT,Int.reduceLE,Int.reduceLT,Int.reduceAdd,Int.reduceSub,Int.reduceToNat,Nat.reduceMul]
end Go.Proofs.YtljmgdepldpmdaaDoor.E

set_option linter.unusedSimpArgs false
set_option linter.unusedVariables false
set_option maxHeartbeats 2000000
namespace Go.Proofs.YtljmgdepldpmdaaDoor.E
open Go.RowKit Limbs
/-- what Sub gives -/
def subR (m n : Nat) : List RV := if n ≤ m then [.one (natD (nl (m - n))), .one (.lit (.bool true))] else [.one (natD []), .one (.lit (.bool false))]
/-- examboard/nat.Sub -/
def b81 : AF := ⟨61, 2, [.tmp 4, .tmp 5],
  (.seq (.reg [
    ⟨some 4, .assign (.const (.slice none 0 0)), none⟩,
    ⟨some 5, .assign (.const (.bool false)), none⟩])
  (.seq (.reg [
    ⟨some 14, .move (.tmp 0), none⟩,
    ⟨some 15, .call ⟨(.value (.func 82)), #[(.tmp 14)], #[23]⟩, none⟩,
    ⟨some 16, .move (.tmp 1), none⟩,
    ⟨some 17, .call ⟨(.value (.func 82)), #[(.tmp 16)], #[23]⟩, none⟩,
    ⟨some 6, .assign (.tmp 15), none⟩,
    ⟨some 7, .assign (.tmp 17), none⟩])
  (.seq (.seq (.reg [
    ⟨some 18, .move (.tmp 6), none⟩,
    ⟨some 19, .move (.tmp 7), none⟩,
    ⟨some 20, .call ⟨(.value (.func 68)), #[(.tmp 18), (.tmp 19)], #[23, 23]⟩, none⟩,
    ⟨some 21, .binOp .lss 3 (.tmp 20) (.const (.int .i64 0)) 3, none⟩])
  (.cond (.tmp 21)
    (.seq (.reg [
      ⟨some 4, .assign (.const (.slice none 0 0)), none⟩,
      ⟨some 5, .assign (.const (.bool false)), none⟩])
    .ret)
    .skip))
  (.seq (.reg [
    ⟨some 22, .move (.tmp 6), none⟩,
    ⟨some 23, .call ⟨(.builtin .len), #[(.tmp 22)], #[23]⟩, none⟩,
    ⟨some 24, .makeSlice 23 (.tmp 23) (.tmp 23), none⟩,
    ⟨some 8, .assign (.tmp 24), none⟩])
  (.seq (.reg [
    ⟨some 9, .assign (.const (.int .u64 0)), none⟩])
  (.seq (.seq (.reg [
    ⟨some 25, .move (.tmp 6), none⟩,
    ⟨some 26, .call ⟨(.builtin .len), #[(.tmp 25)], #[23]⟩, none⟩,
    ⟨some 27, .move (.const (.int .i64 0)), none⟩])
  (.block 0 (.loop (.seq (.reg [
    ⟨some 28, .binOp .lss 3 (.tmp 27) (.tmp 26) 3, none⟩])
  (.seq (.cond (.tmp 28)
    .skip
    (.exit 0))
  (.seq (.block 1 (.seq (.reg [
    ⟨some 29, .move (.tmp 27), none⟩,
    ⟨some 30, .indexAddr 23 (.tmp 25) (.tmp 27), none⟩,
    ⟨some 31, .load 113 (.tmp 30), none⟩,
    ⟨some 10, .assign (.tmp 29), none⟩,
    ⟨some 11, .assign (.tmp 31), none⟩])
  (.seq (.reg [
    ⟨some 32, .move (.tmp 9), none⟩,
    ⟨some 12, .assign (.tmp 32), none⟩])
  (.seq (.seq (.reg [
    ⟨some 33, .move (.tmp 10), none⟩,
    ⟨some 34, .move (.tmp 7), none⟩,
    ⟨some 35, .call ⟨(.builtin .len), #[(.tmp 34)], #[23]⟩, none⟩,
    ⟨some 36, .binOp .lss 3 (.tmp 33) (.tmp 35) 3, none⟩])
  (.cond (.tmp 36)
    (.reg [
      ⟨some 37, .move (.tmp 12), none⟩,
      ⟨some 38, .move (.tmp 7), none⟩,
      ⟨some 39, .move (.tmp 10), none⟩,
      ⟨some 40, .indexAddr 23 (.tmp 38) (.tmp 39), none⟩,
      ⟨some 41, .load 113 (.tmp 40), none⟩,
      ⟨some 42, .convert 113 99 (.tmp 41), none⟩,
      ⟨some 43, .binOp .add 99 (.tmp 37) (.tmp 42) 99, none⟩,
      ⟨some 12, .assign (.tmp 43), none⟩])
    .skip))
  (.seq (.reg [
    ⟨some 44, .move (.tmp 11), none⟩,
    ⟨some 45, .convert 113 99 (.tmp 44), none⟩,
    ⟨some 13, .assign (.tmp 45), none⟩])
  (.seq (.reg [
    ⟨some 9, .assign (.const (.int .u64 0)), none⟩])
  (.seq (.seq (.reg [
    ⟨some 46, .move (.tmp 13), none⟩,
    ⟨some 47, .move (.tmp 12), none⟩,
    ⟨some 48, .binOp .lss 99 (.tmp 46) (.tmp 47) 99, none⟩])
  (.cond (.tmp 48)
    (.seq (.reg [
      ⟨some 49, .move (.tmp 13), none⟩,
      ⟨some 50, .binOp .add 99 (.tmp 49) (.const (.int .u64 4294967296)) 99, none⟩,
      ⟨some 13, .assign (.tmp 50), none⟩])
    (.reg [
      ⟨some 9, .assign (.const (.int .u64 1)), none⟩]))
    .skip))
  (.reg [
    ⟨some 51, .move (.tmp 8), none⟩,
    ⟨some 52, .move (.tmp 10), none⟩,
    ⟨some 53, .move (.tmp 13), none⟩,
    ⟨some 54, .move (.tmp 12), none⟩,
    ⟨some 55, .binOp .sub 99 (.tmp 53) (.tmp 54) 99, none⟩,
    ⟨some 56, .convert 99 113 (.tmp 55), none⟩,
    ⟨some 57, .indexAddr 23 (.tmp 51) (.tmp 52), none⟩,
    ⟨none, .store 113 (.tmp 57) (.tmp 56), none⟩]))))))))
  (.reg [
    ⟨some 58, .binOp .add 3 (.tmp 27) (.const (.int .i64 1)) 3, none⟩,
    ⟨some 27, .move (.tmp 58), none⟩])))))))
  (.seq (.seq (.gh [.frz 8])
  (.reg [
    ⟨some 59, .move (.tmp 8), none⟩,
    ⟨some 60, .call ⟨(.value (.func 82)), #[(.tmp 59)], #[23]⟩, none⟩,
    ⟨some 4, .assign (.tmp 60), none⟩,
    ⟨some 5, .assign (.const (.bool true)), none⟩]))
  .ret)))))))⟩
theorem c81 : fcomp Tryd.prog 81 = ⟨b81.n, b81.np, b81.res, b81.body.bare⟩ := by kernel_rfl
theorem k81 : fok Tryd.prog 81 = true := by kernel_rfl
theorem nat_Sub (a b : List Int) (ha : Lim a) (hb : Lim b) (la : a.length < 8796093022208) (lb : b.length < 8796093022208) : AFun Tryd.prog 81 [.one (natD a), .one (natD b)] (subR (nv a) (nv b)) := by
  refine afun_intro mo_ _ _ c81 k81 _ _ rfl (by decide) ?_
  unfold b81
  have h1 := tr_len ha
  have h2 := tr_len hb
  have n1 : Nrm (tr a) := nl_nrm _
  have n2 : Nrm (tr b) := nl_nrm _
  have l1 := tr_lim a
  have l2 := tr_lim b
  have v1 := val_tr ha
  have v2 := val_tr hb
  have e1 := nv_eq ha
  have e2 := nv_eq hb
  simp (maxSteps:=1000000) (disch:=first | omega | (simp only [LL];omega)) only [W,V,TY,CC,reduceIte,Nat.reduceEqDiff,Nat.reduceAdd,Nat.reduceLeDiff,Nat.reduceLT,Int.reduceLE,Int.reduceLT,Int.reduceAdd,Int.reduceSub,Int.reduceToNat,Nat.reduceMul]
  refine a_call _ _ (nat_trim a ha (by omega)) rfl ?_
  simp (maxSteps:=1000000) (disch:=first | omega | (simp only [LL];omega)) only [W,V,TY,CC,reduceIte,Nat.reduceEqDiff,Nat.reduceAdd,Nat.reduceLeDiff,Nat.reduceLT,Int.reduceLE,Int.reduceLT,Int.reduceAdd,Int.reduceSub,Int.reduceToNat,Nat.reduceMul]
  refine a_call _ _ (nat_trim b hb (by omega)) rfl ?_
  simp (maxSteps:=1000000) (disch:=first | omega | (simp only [LL];omega)) only [W,V,TY,CC,reduceIte,Nat.reduceEqDiff,Nat.reduceAdd,Nat.reduceLeDiff,Nat.reduceLT,Int.reduceLE,Int.reduceLT,Int.reduceAdd,Int.reduceSub,Int.reduceToNat,Nat.reduceMul]
  generalize tr a = x at *
  generalize tr b = y at *
  refine a_call _ _ (nat_Cmp x y l1 l2 (by omega) (by omega)) rfl ?_
  simp (maxSteps:=1000000) (disch:=first | omega | (simp only [LL];omega)) only [W,V,TY,CC,reduceIte,Nat.reduceEqDiff,Nat.reduceAdd,Nat.reduceLeDiff,Nat.reduceLT,Int.reduceLE,Int.reduceLT,Int.reduceAdd,Int.reduceSub,Int.reduceToNat,Nat.reduceMul]
  refine c_split (fun hl => ?_) (fun hl => ?_)
  · have hlt : val x < val y := by
      unfold cmpZ at hl
      split at hl
      · assumption
      · split at hl <;> omega
    simp (maxSteps:=1000000) (disch:=first | omega | (simp only [LL];omega)) only [W,V,TY,CC,reduceIte,Nat.reduceEqDiff,Nat.reduceAdd,Nat.reduceLeDiff,Nat.reduceLT,Int.reduceLE,Int.reduceLT,Int.reduceAdd,Int.reduceSub,Int.reduceToNat,Nat.reduceMul]
    refine f_ret _ _ _ ?_
    unfold subR
    rw [if_neg (by omega)]
    simp (maxSteps:=1000000) (disch:=first | omega | (simp only [LL];omega)) only [W,V,TY,CC,reduceIte,Nat.reduceEqDiff,Nat.reduceAdd,Nat.reduceLeDiff,Nat.reduceLT,Int.reduceLE,Int.reduceLT,Int.reduceAdd,Int.reduceSub,Int.reduceToNat,Nat.reduceMul]
    rfl
  · have hge : val y ≤ val x := by
      unfold cmpZ at hl
      split at hl <;> omega
    have hyx : y.length ≤ x.length := by
      by_cases h : y.length ≤ x.length
      · exact h
      · have := lt_of_len l1 l2 n2 (by omega); omega
    simp (maxSteps:=1000000) (disch:=first | omega | (simp only [LL];omega)) only [W,V,TY,CC,reduceIte,Nat.reduceEqDiff,Nat.reduceAdd,Nat.reduceLeDiff,Nat.reduceLT,Int.reduceLE,Int.reduceLT,Int.reduceAdd,Int.reduceSub,Int.reduceToNat,Nat.reduceMul]
    refine w_loop (fun n s => ∃ (i : Nat) (D : List Int) (c : Int), n + i = x.length ∧ s.t 7 = .one (.dt (natD y)) ∧ s.t 25 = .one (.dt (natD x)) ∧ s.t 26 = .one (.dt (.lit (.int .i64 x.length))) ∧ s.t 27 = .one (.dt (.lit (.int .i64 i))) ∧ s.t 8 = .one (.row (24, 0) 0) ∧ s.r (24, 0) = some ⟨113, 1, x.length, natC D, 0, true⟩ ∧ s.t 9 = .one (.dt (.lit (.int .u64 c))) ∧ D.length = x.length ∧ Lim D ∧ 0 ≤ c ∧ c ≤ 1 ∧ val (D.take i) + val (y.take i) = val (x.take i) + bp i * c) x.length ⟨0, List.replicate x.length 0, 0, rfl, ?_, ?_, ?_, ?_, ?_, ?_, ?_, by simp, Lim.replicate _, by omega, by omega, by simp [val]⟩ ?_
    · simp (maxSteps:=1000000) (disch:=first | omega | (simp only [LL];omega)) only [W,V,TY,CC,reduceIte,Nat.reduceEqDiff,Nat.reduceAdd,Nat.reduceLeDiff,Nat.reduceLT,Int.reduceLE,Int.reduceLT,Int.reduceAdd,Int.reduceSub,Int.reduceToNat,Nat.reduceMul]
    · simp (maxSteps:=1000000) (disch:=first | omega | (simp only [LL];omega)) only [W,V,TY,CC,reduceIte,Nat.reduceEqDiff,Nat.reduceAdd,Nat.reduceLeDiff,Nat.reduceLT,Int.reduceLE,Int.reduceLT,Int.reduceAdd,Int.reduceSub,Int.reduceToNat,Nat.reduceMul]
    · simp (maxSteps:=1000000) (disch:=first | omega | (simp only [LL];omega)) only [W,V,TY,CC,reduceIte,Nat.reduceEqDiff,Nat.reduceAdd,Nat.reduceLeDiff,Nat.reduceLT,Int.reduceLE,Int.reduceLT,Int.reduceAdd,Int.reduceSub,Int.reduceToNat,Nat.reduceMul]
    · simp (maxSteps:=1000000) (disch:=first | omega | (simp only [LL];omega)) only [W,V,TY,CC,reduceIte,Nat.reduceEqDiff,Nat.reduceAdd,Nat.reduceLeDiff,Nat.reduceLT,Int.reduceLE,Int.reduceLT,Int.reduceAdd,Int.reduceSub,Int.reduceToNat,Nat.reduceMul]
    · simp (maxSteps:=1000000) (disch:=first | omega | (simp only [LL];omega)) only [W,V,TY,CC,reduceIte,Nat.reduceEqDiff,Nat.reduceAdd,Nat.reduceLeDiff,Nat.reduceLT,Int.reduceLE,Int.reduceLT,Int.reduceAdd,Int.reduceSub,Int.reduceToNat,Nat.reduceMul]
    · simp (maxSteps:=1000000) (disch:=first | omega | (simp only [LL];omega)) only [W,V,TY,CC,reduceIte,Nat.reduceEqDiff,Nat.reduceAdd,Nat.reduceLeDiff,Nat.reduceLT,Int.reduceLE,Int.reduceLT,Int.reduceAdd,Int.reduceSub,Int.reduceToNat,Nat.reduceMul]
    · simp (maxSteps:=1000000) (disch:=first | omega | (simp only [LL];omega)) only [W,V,TY,CC,reduceIte,Nat.reduceEqDiff,Nat.reduceAdd,Nat.reduceLeDiff,Nat.reduceLT,Int.reduceLE,Int.reduceLT,Int.reduceAdd,Int.reduceSub,Int.reduceToNat,Nat.reduceMul]
    intro n s _ ⟨i, D, c, e, t7, t25, t26, t27, t8, r8, t9, hD, lD, c0, c1, hv⟩
    simp (maxSteps:=1000000) (disch:=first | omega | (simp only [LL];omega)) only [W,V,TY,CC,reduceIte,Nat.reduceEqDiff,Nat.reduceAdd,Nat.reduceLeDiff,Nat.reduceLT,Int.reduceLE,Int.reduceLT,Int.reduceAdd,Int.reduceSub,Int.reduceToNat,Nat.reduceMul,t7,t25,t26,t27,t8,t9]
    refine c_split (fun hi => ?_) (fun hi => ?_)
    · have hx := l1.getD i
      have hy := l2.getD i
      have hb := bp_succ i
      simp (maxSteps:=1000000) (disch:=first | omega | (simp only [LL];omega)) only [W,V,TY,CC,reduceIte,Nat.reduceEqDiff,Nat.reduceAdd,Nat.reduceLeDiff,Nat.reduceLT,Int.reduceLE,Int.reduceLT,Int.reduceAdd,Int.reduceSub,Int.reduceToNat,Nat.reduceMul,t7,t25,t26,t27,t8,t9]
      refine c_split (fun hk => ?_) (fun hk => ?_)
      · simp (maxSteps:=1000000) (disch:=first | omega | (simp only [LL];omega)) only [W,V,TY,CC,reduceIte,Nat.reduceEqDiff,Nat.reduceAdd,Nat.reduceLeDiff,Nat.reduceLT,Int.reduceLE,Int.reduceLT,Int.reduceAdd,Int.reduceSub,Int.reduceToNat,Nat.reduceMul,t7,t25,t26,t27,t8,t9]
        refine c_split (fun hq => ?_) (fun hq => ?_)
        · simp (maxSteps:=1000000) (disch:=first | omega | (simp only [LL];omega)) only [W,V,TY,CC,reduceIte,Nat.reduceEqDiff,Nat.reduceAdd,Nat.reduceLeDiff,Nat.reduceLT,Int.reduceLE,Int.reduceLT,Int.reduceAdd,Int.reduceSub,Int.reduceToNat,Nat.reduceMul,t7,t25,t26,t27,t8,t9,r8]
          refine ⟨⟨by omega, by omega⟩, by omega, n - 1, by omega, i + 1, D.set i (x.getD i 0 + 4294967296 - (c + y.getD i 0)), 1, by omega, rfl, rfl, rfl, by simp [hD], lD.set i (by omega) (by omega), by omega, by omega, ?_⟩
          rw [take_set_succ (by omega), val_snoc, List.length_take, Nat.min_eq_left (by omega), hb, val_take_getD (show i < x.length by omega), val_take_getD (show i < y.length by omega)]
          grind
        · simp (maxSteps:=1000000) (disch:=first | omega | (simp only [LL];omega)) only [W,V,TY,CC,reduceIte,Nat.reduceEqDiff,Nat.reduceAdd,Nat.reduceLeDiff,Nat.reduceLT,Int.reduceLE,Int.reduceLT,Int.reduceAdd,Int.reduceSub,Int.reduceToNat,Nat.reduceMul,t7,t25,t26,t27,t8,t9,r8]
          refine ⟨⟨by omega, by omega⟩, by omega, n - 1, by omega, i + 1, D.set i (x.getD i 0 - (c + y.getD i 0)), 0, by omega, rfl, rfl, rfl, by simp [hD], lD.set i (by omega) (by omega), by omega, by omega, ?_⟩
          rw [take_set_succ (by omega), val_snoc, List.length_take, Nat.min_eq_left (by omega), hb, val_take_getD (show i < x.length by omega), val_take_getD (show i < y.length by omega)]
          grind
      · simp (maxSteps:=1000000) (disch:=first | omega | (simp only [LL];omega)) only [W,V,TY,CC,reduceIte,Nat.reduceEqDiff,Nat.reduceAdd,Nat.reduceLeDiff,Nat.reduceLT,Int.reduceLE,Int.reduceLT,Int.reduceAdd,Int.reduceSub,Int.reduceToNat,Nat.reduceMul,t7,t25,t26,t27,t8,t9]
        refine c_split (fun hq => ?_) (fun hq => ?_)
        · simp (maxSteps:=1000000) (disch:=first | omega | (simp only [LL];omega)) only [W,V,TY,CC,reduceIte,Nat.reduceEqDiff,Nat.reduceAdd,Nat.reduceLeDiff,Nat.reduceLT,Int.reduceLE,Int.reduceLT,Int.reduceAdd,Int.reduceSub,Int.reduceToNat,Nat.reduceMul,t7,t25,t26,t27,t8,t9,r8]
          refine ⟨⟨by omega, by omega⟩, by omega, n - 1, by omega, i + 1, D.set i (x.getD i 0 + 4294967296 - c), 1, by omega, rfl, rfl, rfl, by simp [hD], lD.set i (by omega) (by omega), by omega, by omega, ?_⟩
          rw [take_set_succ (by omega), val_snoc, List.length_take, Nat.min_eq_left (by omega), hb, val_take_getD (show i < x.length by omega), take_getD_over (show y.length ≤ i by omega)]
          grind
        · simp (maxSteps:=1000000) (disch:=first | omega | (simp only [LL];omega)) only [W,V,TY,CC,reduceIte,Nat.reduceEqDiff,Nat.reduceAdd,Nat.reduceLeDiff,Nat.reduceLT,Int.reduceLE,Int.reduceLT,Int.reduceAdd,Int.reduceSub,Int.reduceToNat,Nat.reduceMul,t7,t25,t26,t27,t8,t9,r8]
          refine ⟨⟨by omega, by omega⟩, by omega, n - 1, by omega, i + 1, D.set i (x.getD i 0 - c), 0, by omega, rfl, rfl, rfl, by simp [hD], lD.set i (by omega) (by omega), by omega, by omega, ?_⟩
          rw [take_set_succ (by omega), val_snoc, List.length_take, Nat.min_eq_left (by omega), hb, val_take_getD (show i < x.length by omega), take_getD_over (show y.length ≤ i by omega)]
          grind
    · simp (maxSteps:=1000000) (disch:=first | omega | (simp only [LL];omega)) only [W,V,TY,CC,reduceIte,Nat.reduceEqDiff,Nat.reduceAdd,Nat.reduceLeDiff,Nat.reduceLT,Int.reduceLE,Int.reduceLT,Int.reduceAdd,Int.reduceSub,Int.reduceToNat,Nat.reduceMul,t7,t25,t26,t27,t8,t9,r8]
      rw [List.take_of_length_le (by omega), List.take_of_length_le (by omega), List.take_of_length_le (by omega)] at hv
      have hvd := val_lt lD
      rw [hD, show x.length = i by omega] at hvd
      have hc0 : c = 0 := by
        by_cases h : c = 0
        · exact h
        · have : c = 1 := by omega
          subst this
          omega
      subst hc0
      refine a_call _ _ (nat_trim D lD (by omega)) (by simp (maxSteps:=1000000) (disch:=first | omega | (simp only [LL];omega)) only [W,V,TY,CC,reduceIte,Nat.reduceEqDiff,Nat.reduceAdd,Nat.reduceLeDiff,Nat.reduceLT,Int.reduceLE,Int.reduceLT,Int.reduceAdd,Int.reduceSub,Int.reduceToNat,Nat.reduceMul,t7,t25,t26,t27,t8,t9,r8]) ?_
      simp (maxSteps:=1000000) (disch:=first | omega | (simp only [LL];omega)) only [W,V,TY,CC,reduceIte,Nat.reduceEqDiff,Nat.reduceAdd,Nat.reduceLeDiff,Nat.reduceLT,Int.reduceLE,Int.reduceLT,Int.reduceAdd,Int.reduceSub,Int.reduceToNat,Nat.reduceMul]
      refine f_ret _ _ _ ?_
      unfold subR
      rw [if_pos (by omega)]
      have hres : tr D = nl (nv a - nv b) := by unfold tr; congr 1; have := nv_eq lD; omega
      simp (maxSteps:=1000000) (disch:=first | omega | (simp only [LL];omega)) only [W,V,TY,CC,reduceIte,Nat.reduceEqDiff,Nat.reduceAdd,Nat.reduceLeDiff,Nat.reduceLT,Int.reduceLE,Int.reduceLT,Int.reduceAdd,Int.reduceSub,Int.reduceToNat,Nat.reduceMul,hres]
end Go.Proofs.YtljmgdepldpmdaaDoor.E
