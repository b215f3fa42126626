/- Code, and functions, over abstract states; no condition. -/
import Derived.Test.YthhaoojgfbofnaaEng14
import Derived.Deep.LoopGhost
set_option linter.unusedSimpArgs false
set_option linter.unusedVariables false
namespace Go.Proofs.Ythhaoojgfbofnaa.E
open Go.RowKit

/-! ### steps of the proof alone -/
inductive Gh where
  | frz (t : Nat)                                -- the row in a temporary is only read from now on
  | frzc (t i : Nat)                             -- the row in a cell of the variable at which a temporary points
  | frzv (t : Nat)                               -- the variable at which a temporary points
  | nilt (t : Nat) (e : TypeId) (sz : Nat)       -- nil, as an empty row
def frzC (s : AS) : Option Ce → AS
  | some (.row r _) => s.freeze r
  | _ => s
def ghO (g : Gh) (s : AS) : Prop := match g with
  | .nilt t _ _ => match s.t t with
    | .one .z => True
    | _ => False
  | _ => True
def ghE (g : Gh) (s : AS) : AS := match g with
  | .frz t => match s.t t with
    | .one (.row r _) => s.freeze r
    | _ => s
  | .frzc t i => match s.t t with
    | .ptr x _ => match s.v x with
      | some cs => frzC s cs[i]?
      | none => s
    | _ => s
  | .frzv t => match s.t t with
    | .ptr x _ => match s.v x with
      | some _ => s.freezev x
      | none => s
    | _ => s
  | .nilt t e sz => ((s.setr (t, s.g t) ⟨e, sz, 0, [], 0, true⟩).bump t).set t (.one (.row (t, s.g t) 0))
def ghs : List Gh → (AS → Prop) → AS → Prop
  | [], Q, s => Q s
  | g :: gs, Q, s => ghO g s ∧ ghs gs Q (ghE g s)

/-! ### compact code -/
inductive AC where
  | skip
  | reg (l : List AO)
  | gh (gs : List Gh)
  | seq (x y : AC)
  | cond (c : Operand) (x y : AC)
  | block (id : Nat) (x : AC)
  | loop (x : AC)
  | exit (id : Nat)
  | ret
  | bad

def regOK (N : Nat) (ops : Array Oper) (draw : Bool) : Bool := dstOK N ops && (!draw || drawOK ops)
def comp (N : Nat) : Code → AC
  | .skip => .skip
  | .region _ ops draw => if regOK N ops draw = true then .reg ((List.range ops.size).map (ao ops)) else .bad
  | .seq x y => .seq (comp N x) (comp N y)
  | .cond c x y => .cond c (comp N x) (comp N y)
  | .block id x => .block id (comp N x)
  | .loop x => .loop (comp N x)
  | .exit id => .exit id
  | .ret => .ret
  | _ => .bad
/-- code without the steps of the proof: a step stands ahead of something, in a sequence -/
def AC.bare : AC → AC
  | .seq (.gh _) y => y.bare
  | .seq x y => .seq x.bare y.bare
  | .cond c x y => .cond c x.bare y.bare
  | .block id x => .block id x.bare
  | .loop x => .loop x.bare
  | .gh _ => .gh []
  | c => c

section
variable {ok0 : Nat → Prop} {w0 w w' : World} {N : Nat} {vb : Nat × Nat → Nat} {rb : Nat × Nat → Value} {s s' : AS} {a : Act} {P : Program}

/-- a temporary is seen as another thing -/
theorem Sat.reval (h : Sat ok0 w0 N vb rb s a w) (d : Nat) (x : AV) (hx : MV w (okS ok0 w0.heap.size vb rb s w) vb rb s x (a.tmps.getD d undef)) : Sat ok0 w0 N vb rb (s.set d x) a w where
  below := h.below
  ok0lt := h.ok0lt
  wf := h.wf
  defers := h.defers
  size := h.size
  var := h.var
  row := h.row
  vv := h.vv
  vr := h.vr
  rr := h.rr
  tmp := fun t => by
    have ht := h.tmp t
    show MV w (okS ok0 w0.heap.size vb rb s w) vb rb s (if t = d then x else s.t t) (a.tmps.getD t undef)
    by_cases e : t = d
    · rw [if_pos e, e]; exact hx
    · rw [if_neg e]; exact ht

theorem Sat.gh (h : Sat ok0 w0 N vb rb s a w) (g : Gh) (hg : ghO g s) : ∃ rb', Sat ok0 w0 N vb rb' (ghE g s) a w := by
  cases g with
  | frz t =>
    unfold ghE
    dsimp only
    split
    · exact ⟨rb, h.freeze _⟩
    · exact ⟨rb, h⟩
  | frzc t i =>
    unfold ghE
    dsimp only
    split
    · split
      · unfold frzC
        split
        · exact ⟨rb, h.freeze _⟩
        · exact ⟨rb, h⟩
      · exact ⟨rb, h⟩
    · exact ⟨rb, h⟩
  | frzv t =>
    unfold ghE
    dsimp only
    split
    · split
      · rename_i cs hx
        exact ⟨rb, h.freezev _ hx⟩
      · exact ⟨rb, h⟩
    · exact ⟨rb, h⟩
  | nilt t e sz =>
    simp only [ghO] at hg
    split at hg
    · rename_i ht
      have hv := h.tmp t
      rw [ht] at hv
      have hn := h.newrow (w' := w) t ⟨rfl, rfl, rfl, Nat.le_refl _, fun _ _ _ => rfl⟩ ⟨e, sz, 0, [], 0, true⟩ (.slice none 0 0) [] (World.ownsRow_nil w _ _ _) (Fits.nil _) (.inl rfl)
      refine ⟨_, hn.reval t _ ⟨⟨_, if_pos rfl, Nat.le_refl _, fun _ => ?_⟩, hv.2⟩⟩
      simp only [if_true]
      exact hv.1
    · exact hg.elim
theorem Sat.ghs {Q : AS → Prop} : ∀ (gs : List Gh) {rb : Nat × Nat → Value} {s : AS}, Sat ok0 w0 N vb rb s a w → ghs gs Q s → ∃ rb' s', Sat ok0 w0 N vb rb' s' a w ∧ Q s'
  | [], rb, s, h, hq => ⟨rb, s, h, hq⟩
  | g :: gs, rb, s, h, hq => by
    obtain ⟨rb', h'⟩ := h.gh g hq.1
    exact Sat.ghs gs h' hq.2
end

/-! ### what holds behind code -/
inductive AEx where
  | normal
  | exit (id : Nat)
  | ret
def AEx.then (y : AS → Prop) (K : AEx → AS → Prop) : AEx → AS → Prop
  | .normal, s => y s
  | e, s => K e s
def AEx.blk (id : Nat) (K : AEx → AS → Prop) : AEx → AS → Prop
  | .exit i, s => if i = id then K .normal s else K (.exit i) s
  | e, s => K e s
def toEx : AEx → Exit
  | .normal => .normal
  | .exit id => .exit id
  | .ret => .ret

def awp (P : Program) : AC → (AEx → AS → Prop) → AS → Prop
  | .skip, K, s => K .normal s
  | .reg l, K, s => aops P l (K .normal) s
  | .gh gs, K, s => ghs gs (K .normal) s
  | .seq x y, K, s => awp P x (AEx.then (awp P y K) K) s
  | .cond c x y, K, s => ∃ b, asB (s.ev c) = some b ∧ (b = true → awp P x K s) ∧ (b = false → awp P y K s)
  | .block id x, K, s => awp P x (AEx.blk id K) s
  | .loop x, K, s => ∃ (I : Nat → AS → Prop) (n : Nat), I n s ∧ ∀ n s, s.wf → I n s → awp P x (AEx.then (fun s' => ∃ n', n' < n ∧ I n' s') K) s
  | .exit id, K, s => K (.exit id) s
  | .ret, K, s => K .ret s
  | .bad, _, _ => False

section
variable {ok0 : Nat → Prop} {w0 w w' : World} {N : Nat} {vb : Nat × Nat → Nat} {rb : Nat × Nat → Value} {s s' : AS} {a : Act} {P : Program}

/-- Q takes what K says -/
def Takes (ok0 : Nat → Prop) (w0 : World) (N : Nat) (K : AEx → AS → Prop) (Q : Exit → Act → World → Prop) : Prop :=
  ∀ e vb rb s a w, Sat ok0 w0 N vb rb s a w → K e s → Q (toEx e) a w

theorem awp_sound (hm : P.follows .mixedOrders = true) : ∀ (x : AC) (c : Code), x.bare = comp N c → ∀ {K : AEx → AS → Prop} {Q : Exit → Act → World → Prop}, Takes ok0 w0 N K Q → ∀ {vb : Nat × Nat → Nat} {rb : Nat × Nat → Value} {s : AS} {a : Act} {w : World}, Sat ok0 w0 N vb rb s a w → awp P x K s → c.wp P Q a w := by
  have reg : ∀ (l : List AO) (id : Nat) (ops : Array Oper) (draw : Bool), AC.reg l = comp N (.region id ops draw) → ∀ {K : AEx → AS → Prop} {Q : Exit → Act → World → Prop}, Takes ok0 w0 N K Q → ∀ {vb : Nat × Nat → Nat} {rb : Nat × Nat → Value} {s : AS} {a : Act} {w : World}, Sat ok0 w0 N vb rb s a w → awp P (.reg l) K s → (Code.region id ops draw).wp P Q a w := by
    intro l id ops draw e K Q hQ vb rb s a w h hk
    by_cases hr : regOK N ops draw = true
    · simp only [comp, hr, if_true, AC.reg.injEq] at e
      subst e
      have hk' : aops P ((List.range ops.size).map (ao ops)) (K .normal) s := hk
      simp only [regOK, Bool.and_eq_true, Bool.or_eq_true, Bool.not_eq_true'] at hr
      have hN := dstOK_spec hr.1
      cases draw with
      | false => exact wp_region (ops_sound (P := P) ops hN (fun vb rb s a w h hk => hQ .normal vb rb s a w h hk) _ (fun i hi => List.mem_range.1 hi) vb rb s a w h hk')
      | true =>
        have hD : drawOK ops = true := by simpa using hr.2
        refine wp_region_any hm (any_sound (P := P) ops hN hD (fun vb rb s a w h hk => hQ .normal vb rb s a w h hk) ops.size _ (by simp) ?_ ?_ vb rb s a _ (h.world ⟨rfl, rfl, rfl, Nat.le_refl _, fun _ _ => rfl⟩) ?_)
        · unfold remL
          exact Nat.le_trans (List.length_filter_le _ _) (by simp)
        · intro k o ho hk
          have : k < ops.size := (Array.getElem?_eq_some_iff.1 ho).1
          simp [Array.getD, this] at hk
        · have : remL ops.size (Array.replicate ops.size false) = List.range ops.size := by
            unfold remL
            apply List.filter_eq_self.2
            intro i hi
            have : i < ops.size := List.mem_range.1 hi
            simp [Array.getD, this]
          rw [this]; exact hk'
    · simp only [comp, hr] at e
      cases e
  have notreg : ∀ {x : AC} {id : Nat} {ops : Array Oper} {draw : Bool}, x = comp N (.region id ops draw) → x = .bad ∨ ∃ l, x = .reg l := by
    intro x id ops draw e
    by_cases hr : regOK N ops draw = true
    · simp only [comp, hr, if_true] at e; exact .inr ⟨_, e⟩
    · simp only [comp, hr] at e; exact .inl e
  intro x
  induction x with
  | skip =>
    intro c e K Q hQ vb rb s a w h hk
    cases c with
    | skip => exact wp_skip (hQ .normal _ _ _ _ _ h hk)
    | region => rcases notreg e with e | ⟨_, e⟩ <;> cases e
    | _ => cases e
  | reg l =>
    intro c e K Q hQ vb rb s a w h hk
    cases c with
    | region => exact reg l _ _ _ e hQ h hk
    | _ => cases e
  | gh gs =>
    intro c e K Q hQ vb rb s a w h hk
    cases c with
    | region => rcases notreg e with e | ⟨_, e⟩ <;> cases e
    | _ => cases e
  | seq x y ihx ihy =>
    intro c e K Q hQ vb rb s a w h hk
    by_cases hx : ∃ gs, x = .gh gs
    · obtain ⟨gs, rfl⟩ := hx
      obtain ⟨rb', s', h', hk'⟩ := Sat.ghs gs h hk
      exact ihy c e hQ h' hk'
    · have e' : AC.seq x.bare y.bare = comp N c := by
        rw [← e]
        cases x <;> first | rfl | exact absurd ⟨_, rfl⟩ hx
      cases c with
      | seq c1 c2 =>
        simp only [comp, AC.seq.injEq] at e'
        refine wp_seq (ihx c1 e'.1 (K := AEx.then (awp P y K) K) ?_ h hk)
        intro e vb rb s a w h hk
        cases e with
        | normal => exact ihy c2 e'.2 hQ h hk
        | exit id => exact hQ (.exit id) _ _ _ _ _ h hk
        | ret => exact hQ .ret _ _ _ _ _ h hk
      | region => rcases notreg e' with e | ⟨_, e⟩ <;> cases e
      | _ => cases e'
  | cond k x y ihx ihy =>
    intro c e K Q hQ vb rb s a w h hk
    cases c with
    | cond k' c1 c2 =>
      simp only [comp, AC.bare, AC.cond.injEq] at e
      obtain ⟨rfl, e1, e2⟩ := e
      obtain ⟨b, hb, h1, h2⟩ := hk
      have hv := h.ev k
      have hc : a.eval k = .bool b := by
        unfold asB at hb
        split at hb
        · rename_i b' he
          cases hb
          rw [he] at hv
          exact lit_of hv
        · cases hb
      exact wp_cond_split hc (fun e => ihx c1 e1 hQ h (h1 e)) (fun e => ihy c2 e2 hQ h (h2 e))
    | region => rcases notreg e with e | ⟨_, e⟩ <;> cases e
    | _ => cases e
  | block id x ih =>
    intro c e K Q hQ vb rb s a w h hk
    cases c with
    | block id' c1 =>
      simp only [comp, AC.bare, AC.block.injEq] at e
      obtain ⟨rfl, e1⟩ := e
      refine wp_block (ih c1 e1 (K := AEx.blk id K) ?_ h hk)
      intro e vb rb s a w h hk
      cases e with
      | normal => exact hQ .normal _ _ _ _ _ h hk
      | exit i =>
        simp only [AEx.blk] at hk
        show (if i = id then _ else _)
        by_cases e : i = id
        · rw [if_pos e] at hk ⊢; exact hQ .normal _ _ _ _ _ h hk
        · rw [if_neg e] at hk ⊢; exact hQ (.exit i) _ _ _ _ _ h hk
      | ret => exact hQ .ret _ _ _ _ _ h hk
    | region => rcases notreg e with e | ⟨_, e⟩ <;> cases e
    | _ => cases e
  | loop x ih =>
    intro c e K Q hQ vb rb s a w h hk
    cases c with
    | loop c1 =>
      simp only [comp, AC.bare, AC.loop.injEq] at e
      obtain ⟨I, n, h0, hround⟩ := hk
      refine wp_loop_ghost (fun n a w => ∃ vb rb s, Sat ok0 w0 N vb rb s a w ∧ I n s) n ⟨vb, rb, s, h, h0⟩ ?_
      intro n a w ⟨vb, rb, s, h, hi⟩
      refine ih c1 e (K := AEx.then (fun s' => ∃ n', n' < n ∧ I n' s') K) ?_ h (hround n s h.wf hi)
      intro e vb rb s a w h hk
      cases e with
      | normal => obtain ⟨n', hlt, hi'⟩ := hk; exact ⟨n', hlt, vb, rb, s, h, hi'⟩
      | exit id => exact hQ (.exit id) _ _ _ _ _ h hk
      | ret => exact hQ .ret _ _ _ _ _ h hk
    | region => rcases notreg e with e | ⟨_, e⟩ <;> cases e
    | _ => cases e
  | exit id =>
    intro c e K Q hQ vb rb s a w h hk
    cases c with
    | exit id' => cases e; exact wp_exit (hQ (.exit id) _ _ _ _ _ h hk)
    | region => rcases notreg e with e | ⟨_, e⟩ <;> cases e
    | _ => cases e
  | ret =>
    intro c e K Q hQ vb rb s a w h hk
    cases c with
    | ret => exact wp_ret (hQ .ret _ _ _ _ _ h hk)
    | region => rcases notreg e with e | ⟨_, e⟩ <;> cases e
    | _ => cases e
  | bad => exact fun c e K Q hQ vb rb s a w h hk => hk.elim
end

/-! ### functions -/
/-- what a result variable reads as -/
def resR (P : Program) (s : AS) : ResultVar → RV → Prop
  | .tmp t, r => toRV s (s.t t) = some r
  | .cell t T, r => tok P T = true ∧ ldO (tagg P T) (tsz P T) (acells s (s.t t)) ∧ toRV s (ldV (tagg P T) (tsz P T) (acells s (s.t t))) = some r
def resRs (P : Program) (s : AS) : List ResultVar → List RV → Prop
  | [], [] => True
  | x :: xs, r :: rs => resR P s x r ∧ resRs P s xs rs
  | _, _ => False
def start (args : List RV) : AS := { t := fun n => match args[n]? with | some r => r.toAV | none => .no, v := fun _ => none, r := fun _ => none, g := fun _ => 0, f := fun _ => false }

/-- a function, as the texts of the proofs write it -/
structure AF where
  n : Nat
  np : Nat
  res : List ResultVar
  body : AC
def fcomp (P : Program) (f : Nat) : AF := match P.funcs[f]? with
  | some fn => match fn.body with
    | some c => ⟨fn.ntmps, fn.params.size, fn.results.toList, comp fn.ntmps c⟩
    | none => ⟨0, 0, [], .bad⟩
  | none => ⟨0, 0, [], .bad⟩

/-- the end of a function -/
def fend (P : Program) (res : List ResultVar) (rs : List RV) : AEx → AS → Prop
  | .exit _, _ => False
  | _, s => ∃ gs, ghs gs (fun s => resRs P s res rs) s

section
variable {ok0 : Nat → Prop} {w0 w w' : World} {N : Nat} {vb : Nat × Nat → Nat} {rb : Nat × Nat → Value} {s s' : AS} {a : Act} {P : Program}

theorem mr_av {args : List RV} (hk : ∀ k, ok0 k → k < w0.heap.size) {r : RV} {u : Value} (h : MR w0 ok0 r u) : MV w0 (okS ok0 w0.heap.size vb rb (start args) w0) vb rb (start args) r.toAV u := by
  have hk' : ∀ k, ok0 k → okS ok0 w0.heap.size vb rb (start args) w0 k ∧ w0.heap[k]? = w0.heap[k]? := fun k h1 => ⟨⟨.inl h1, hk k h1, fun x cs hx _ _ => (Option.some_ne_none _ hx.symm).elim, fun x row hx _ _ => (Option.some_ne_none _ hx.symm).elim⟩, rfl⟩
  have hr' := Ext.mr hk' h
  cases r with
  | one d => exact ⟨hr', Rep.one hr'⟩
  | agg ds =>
    obtain ⟨us, e', hf'⟩ := hr'
    refine ⟨us, e', ⟨by simp [hf'.1], fun i v c hv hc => ?_⟩, fun v hv => ?_⟩
    · rw [List.getElem?_map] at hc
      cases hd' : ds[i]? with
      | none => rw [hd'] at hc; simp at hc
      | some d => rw [hd'] at hc; simp at hc; subst hc; exact hf'.2 i v d hv hd'
    · obtain ⟨i, hi⟩ := List.getElem?_of_mem hv
      have hlt : i < ds.length := by rw [← hf'.1]; exact (List.getElem?_eq_some_iff.1 hi).1
      exact (hf'.2 i v _ hi (List.getElem?_eq_getElem hlt)).one

theorem Sat.start (ok0 : Nat → Prop) (w0 : World) (hk : ∀ k, ok0 k → k < w0.heap.size) (args : List RV) (vs : List Value) (hf : Fits (MR w0 ok0) args vs) (N : Nat) (hN : args.length ≤ N) (vb : Nat × Nat → Nat) (rb : Nat × Nat → Value) :
    Sat ok0 w0 N vb rb (start args) { tmps := vs.toArray ++ Array.replicate (N - vs.toArray.size) undef, defers := [] } w0 where
  below := ⟨rfl, rfl, rfl, Nat.le_refl _, fun _ _ => rfl⟩
  ok0lt := hk
  wf := fun d k _ => ⟨rfl, rfl, rfl⟩
  defers := rfl
  size := by simp [hf.1]; omega
  var := fun x cs hx => by cases hx
  row := fun x row hx => by cases hx
  vv := fun x y cs cs' hx => by cases hx
  vr := fun x cs r row hx => by cases hx
  rr := fun x row y row' hx => by cases hx
  tmp := fun t => by
    show MV w0 _ vb rb _ (match args[t]? with | some r => r.toAV | none => .no) _
    cases ht : args[t]? with
    | none => trivial
    | some r =>
      obtain ⟨u, hu, hr⟩ := hf.at_ ht
      have hlt : t < vs.length := (List.getElem?_eq_some_iff.1 hu).1
      have : (vs.toArray ++ Array.replicate (N - vs.toArray.size) undef).getD t undef = u := by
        rw [Array.getD_eq_getD_getElem?, Array.getElem?_append_left (by simpa using hlt)]
        simp [hu]
      show MV w0 _ vb rb _ r.toAV ((vs.toArray ++ Array.replicate (N - vs.toArray.size) undef).getD t undef)
      rw [this]
      exact mr_av hk hr

theorem Sat.loadvar (h : Sat ok0 w0 N vb rb s a w) (x : Nat) (T : TypeId) (ht : tok P T = true) (hb : ldO (tagg P T) (tsz P T) (E.acells s (s.t x))) :
    ∃ u, (do loadVar T (← asAddr (a.tmps.getD x undef)) : Sem Value).run P w = .ok u w ∧ MV w (okS ok0 w0.heap.size vb rb s w) vb rb s (ldV (tagg P T) (tsz P T) (E.acells s (s.t x))) u := by
  cases hc : E.acells s (s.t x) with
  | none => rw [hc] at hb; exact hb.elim
  | some cs =>
    rw [hc] at hb
    obtain ⟨ad, us, e, hf, h1, hcell⟩ := h.acells (h.tmp x) hc
    by_cases hg : tagg P T = true
    · simp only [ldO, hg, if_true] at hb
      have hl : (us.take (tsz P T)).length = tsz P T := by rw [List.length_take, hf.1]; omega
      have hrun : (loadCells ad (tsz P T)).run P w = .ok (us.take (tsz P T)).toArray w := by
        have := run_loadCells_list (P := P) w ad (us.take (tsz P T)) (fun j v hv => by
          rw [List.getElem?_take] at hv
          split at hv
          · exact hcell j v hv
          · cases hv)
        rw [hl] at this
        exact this
      refine ⟨.agg (us.take (tsz P T)).toArray, ?_, ?_⟩
      · simp [e, asAddr, loadVar, run_isAgg ht, hg, run_sizeOf' ht, hrun]
      · simp only [ldV, hg, if_true]
        exact ⟨_, rfl, hf.take _, fun y hy => h1 y (List.mem_of_mem_take hy)⟩
    · have hg' : tagg P T = false := by cases hq : tagg P T <;> simp_all
      simp only [ldO, hg', Bool.false_eq_true, if_false] at hb
      cases cs with
      | nil => simp at hb
      | cons c cs =>
        obtain ⟨u, us', rfl, hcu, _⟩ := hf.uncons
        have h0 := hcell 0 u rfl
        rw [show ad.add 0 = ad by unfold Addr.add; simp] at h0
        refine ⟨u, ?_, ?_⟩
        · simp [e, asAddr, loadVar, run_isAgg ht, hg', h0]
        · simp only [ldV, hg', Bool.false_eq_true, if_false]
          exact ⟨hcu, h1 u (by simp)⟩

def rdRes (a : Act) : ResultVar → Sem Value
  | .tmp t => pure (a.tmps.getD t undef)
  | .cell x T => do loadVar T (← asAddr (a.tmps.getD x undef))

theorem Sat.res (h : Sat ok0 w0 N vb rb s a w) (x : ResultVar) (r : RV) (hr : resR P s x r) : ∃ u, (rdRes a x).run P w = .ok u w ∧ MR w (okS ok0 w0.heap.size vb rb s w) r u := by
  cases x with
  | tmp t => exact ⟨_, rfl, h.toRV (h.tmp t) hr⟩
  | cell x T =>
    obtain ⟨ht, hb, hr⟩ := hr
    obtain ⟨u, hu, hm⟩ := h.loadvar x T ht hb
    exact ⟨u, hu, h.toRV hm hr⟩

theorem Sat.ress (h : Sat ok0 w0 N vb rb s a w) : ∀ (xs : List ResultVar) (rs : List RV), resRs P s xs rs → ∃ us : List Value, (xs.mapM (rdRes a)).run P w = .ok us w ∧ Fits (MR w (okS ok0 w0.heap.size vb rb s w)) rs us
  | [], [], _ => ⟨[], by simp, Fits.nil _⟩
  | x :: xs, r :: rs, hr => by
    obtain ⟨u, hu, hm⟩ := h.res x r hr.1
    obtain ⟨us, hus, hf⟩ := Sat.ress h xs rs hr.2
    exact ⟨u :: us, by simp [List.mapM_cons, hu, hus], Fits.cons hm hf⟩
  | [], _ :: _, hr => hr.elim
  | _ :: _, [], hr => hr.elim

theorem run_results (fn : Func) (a : Act) (us : List Value) (h : (fn.results.toList.mapM (rdRes a)).run P w = .ok us w) : (results fn a.tmps).run P w = .ok (if h : us.toArray.size = 1 then us.toArray[0] else .tuple us.toArray) w := by
  have e : results fn a.tmps = (do let vs ← fn.results.mapM (rdRes a); pure (if h : vs.size = 1 then vs[0] else .tuple vs)) := by
    unfold results
    congr 2
  rw [e, Array.mapM_eq_mapM_toList]
  simp [h]

/-- A FUNCTION, from its compact code -/
theorem afun_intro (hm : P.follows .mixedOrders = true) (f : Nat) (F : AF) (hF : fcomp P f = ⟨F.n, F.np, F.res, F.body.bare⟩) (hname : fok P f = true) (args rs : List RV) (hn : args.length = F.np) (hle : F.np ≤ F.n) (h : awp P F.body (fend P F.res rs) (start args)) : AFun P f args rs := by
  refine ⟨hname, fun ok w vs hok hf => ?_⟩
  unfold fcomp at hF
  split at hF
  · rename_i fn hfn
    split at hF
    · rename_i c hc
      simp only [AF.mk.injEq] at hF
      obtain ⟨h1, h2, h3, h4⟩ := hF
      refine calls_of_wp hfn hc ?_
      rw [h1] at *
      refine awp_sound (ok0 := ok) (w0 := w) (N := F.n) hm F.body c h4.symm (K := fend P F.res rs) ?_ (Sat.start ok w hok args vs hf F.n (by omega) (fun _ => 0) (fun _ => undef)) h
      intro e vb rb s a w' hs hk
      have key : (∃ gs, ghs gs (fun s => resRs P s F.res rs) s) → a.defers = [] ∧ ∃ v, (results fn a.tmps).run P w' = .ok v w' ∧ (∃ v', Ending.returned v = .returned v' ∧ MRs w' (fun k => ok k ∨ (w.heap.size ≤ k ∧ k < w'.heap.size)) rs v' ∧ Below w.heap.size w w') := fun ⟨gs, hg⟩ => by
        obtain ⟨rb', s', h', hr⟩ := Sat.ghs gs hs hg
        rw [← h3] at hr
        obtain ⟨us, hus, hfu⟩ := h'.ress _ _ hr
        refine ⟨h'.defers, _, run_results fn a us hus, _, rfl, ?_, h'.below⟩
        have hfu' : Fits (MR w' (fun k => ok k ∨ (w.heap.size ≤ k ∧ k < w'.heap.size))) rs us := hfu.imp fun r u hr => Ext.mr (fun k hk => ⟨by
          rcases hk.1 with h1 | h1
          · exact .inl h1
          · exact .inr ⟨h1, hk.2.1⟩, rfl⟩) hr
        cases rs with
        | nil =>
          have : us = [] := List.eq_nil_of_length_eq_zero hfu'.1
          subst this
          exact ⟨[], rfl, hfu'⟩
        | cons r rs =>
          cases rs with
          | nil =>
            obtain ⟨u, us', rfl, hu, hr'⟩ := hfu'.uncons
            have : us' = [] := List.eq_nil_of_length_eq_zero hr'.1
            subst this
            exact hu
          | cons r2 rs =>
            have hl := hfu'.1
            rw [dif_neg (by simp at hl ⊢; omega)]
            exact ⟨us, rfl, hfu'⟩
      cases e with
      | normal => exact key hk
      | ret => exact key hk
      | exit id => exact hk.elim
    · rename_i hfn _ hc
      simp [fok, hfn, hc] at hname
  · rename_i hfn
    simp [fok, hfn] at hname
end
end Go.Proofs.Ythhaoojgfbofnaa.E
