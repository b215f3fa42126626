/- An abstract interpreter over data, and contracts of the program's functions, part 2; no condition. -/
import Derived.Laws.Bits64
import Derived.Laws.BitsLemmas
import Derived.WalkKit
import Derived.ProofKit
import Derived.OpenShut
import Derived.ShutString
import Derived.ChangeOld
import Derived.Below
import Derived.SizedLaws
import Derived.Carry
import Derived.Deep.Slices
import Derived.ChangeSame
import Derived.Test.YteegehbighoplaaDoorProg
import Derived.KernelRfl
import Derived.Test.YteegehbighoplaaDoorNta
set_option linter.unusedSimpArgs false
set_option linter.unusedVariables false
namespace Go.Proofs.YteegehbighoplaaDoor.E
open Go.RowKit

section
variable {P : Program} {fl : Bool} {Q : AS → Prop} {K : AEx → AS → Prop} {s : AS} {os : List AO}

/-! ### looking things up -/
theorem ev_t (t : Nat) : s.ev (.tmp t) = s.t t := rfl
theorem ev_int (k : IntKind) (n : Int) : s.ev (.const (.int k n)) = .one (.dt (.lit (.int k n))) := rfl
theorem ev_bool (b : Bool) : s.ev (.const (.bool b)) = .one (.dt (.lit (.bool b))) := rfl
theorem ev_str (b : ByteArray) : s.ev (.const (.string b)) = .one (.dt (.lit (.string b))) := rfl
theorem ev_nil : s.ev (.const (.slice none 0 0)) = .one .z := rfl
theorem set_t (d n : Nat) (x : AV) : (s.set d x).t n = if n = d then x else s.t n := rfl
theorem set_v (d : Nat) (x : AV) : (s.set d x).v = s.v := rfl
theorem set_r (d : Nat) (x : AV) : (s.set d x).r = s.r := rfl
theorem set_g (d : Nat) (x : AV) : (s.set d x).g = s.g := rfl
theorem set_f (d : Nat) (x : AV) : (s.set d x).f = s.f := rfl
theorem setv_t (y : Nat × Nat) (cs : List Ce) : (s.setv y cs).t = s.t := rfl
theorem setv_v (y z : Nat × Nat) (cs : List Ce) : (s.setv y cs).v z = if z = y then some cs else s.v z := rfl
theorem setv_r (y : Nat × Nat) (cs : List Ce) : (s.setv y cs).r = s.r := rfl
theorem setv_g (y : Nat × Nat) (cs : List Ce) : (s.setv y cs).g = s.g := rfl
theorem setv_f (y : Nat × Nat) (cs : List Ce) : (s.setv y cs).f = s.f := rfl
theorem setr_t (y : Nat × Nat) (row : Row) : (s.setr y row).t = s.t := rfl
theorem setr_v (y : Nat × Nat) (row : Row) : (s.setr y row).v = s.v := rfl
theorem setr_r (y z : Nat × Nat) (row : Row) : (s.setr y row).r z = if z = y then some row else s.r z := rfl
theorem setr_g (y : Nat × Nat) (row : Row) : (s.setr y row).g = s.g := rfl
theorem setr_f (y : Nat × Nat) (row : Row) : (s.setr y row).f = s.f := rfl
theorem bump_t (d : Nat) : (s.bump d).t = s.t := rfl
theorem bump_v (d : Nat) : (s.bump d).v = s.v := rfl
theorem bump_r (d : Nat) : (s.bump d).r = s.r := rfl
theorem bump_g (d n : Nat) : (s.bump d).g n = if n = d then s.g n + 1 else s.g n := rfl
theorem bump_f (d : Nat) : (s.bump d).f = s.f := rfl
theorem frz_t (y : Nat × Nat) : (s.freeze y).t = s.t := rfl
theorem frz_v (y : Nat × Nat) : (s.freeze y).v = s.v := rfl
theorem frz_r (y z : Nat × Nat) : (s.freeze y).r z = if z = y then (s.r z).map (fun row => { row with live := false }) else s.r z := rfl
theorem frz_g (y : Nat × Nat) : (s.freeze y).g = s.g := rfl
theorem frz_f (y : Nat × Nat) : (s.freeze y).f = s.f := rfl
theorem frzv_t (y : Nat × Nat) : (s.freezev y).t = s.t := rfl
theorem frzv_v (y : Nat × Nat) : (s.freezev y).v = s.v := rfl
theorem frzv_r (y : Nat × Nat) : (s.freezev y).r = s.r := rfl
theorem frzv_g (y : Nat × Nat) : (s.freezev y).g = s.g := rfl
theorem frzv_f (y z : Nat × Nat) : (s.freezev y).f z = if z = y then true else s.f z := rfl
theorem put_some (d : Nat) (x : AV) : s.put (some d) x = s.set d x := rfl
theorem put_none (x : AV) : s.put none x = s := rfl
theorem start_t0 (r : RV) (rs : List RV) : (start (r :: rs)).t 0 = r.toAV := rfl
theorem start_t1 (r r1 : RV) (rs : List RV) : (start (r :: r1 :: rs)).t 1 = r1.toAV := rfl
theorem start_t2 (r r1 r2 : RV) (rs : List RV) : (start (r :: r1 :: r2 :: rs)).t 2 = r2.toAV := rfl
theorem start_t3 (r r1 r2 r3 : RV) (rs : List RV) : (start (r :: r1 :: r2 :: r3 :: rs)).t 3 = r3.toAV := rfl
theorem start_t4 (r r1 r2 r3 r4 : RV) (rs : List RV) : (start (r :: r1 :: r2 :: r3 :: r4 :: rs)).t 4 = r4.toAV := rfl
theorem start_v (rs : List RV) : (start rs).v = fun _ => none := rfl
theorem start_r (rs : List RV) : (start rs).r = fun _ => none := rfl
theorem start_g (rs : List RV) : (start rs).g = fun _ => 0 := rfl
theorem start_f (rs : List RV) : (start rs).f = fun _ => false := rfl
theorem startw_t0 (l : List Int) (off n : Nat) (rs : List RV) : (startw l off n rs).t 0 = .sv (0, 0) off n := rfl
theorem startw_t1 (l : List Int) (off n : Nat) (r : RV) (rs : List RV) : (startw l off n (r :: rs)).t 1 = r.toAV := rfl
theorem startw_t2 (l : List Int) (off n : Nat) (r r1 : RV) (rs : List RV) : (startw l off n (r :: r1 :: rs)).t 2 = r1.toAV := rfl
theorem startw_t3 (l : List Int) (off n : Nat) (r r1 r2 : RV) (rs : List RV) : (startw l off n (r :: r1 :: r2 :: rs)).t 3 = r2.toAV := rfl
theorem startw_v (l : List Int) (off n : Nat) (rs : List RV) (y : Nat × Nat) : (startw l off n rs).v y = if y = (0, 0) then some (u32s l) else none := rfl
theorem startw_r (l : List Int) (off n : Nat) (rs : List RV) : (startw l off n rs).r = fun _ => none := rfl
theorem startw_g (l : List Int) (off n : Nat) (rs : List RV) (d : Nat) : (startw l off n rs).g d = if d = 0 then 1 else 0 := rfl
theorem startw_f (l : List Int) (off n : Nat) (rs : List RV) : (startw l off n rs).f = fun _ => false := rfl
theorem rv_one (d : Dt) : RV.toAV (.one d) = .one (.dt d) := rfl
theorem rv_agg (ds : List Dt) : RV.toAV (.agg ds) = .agg (ds.map .dt) := rfl
theorem res_one (r : RV) : resAV [r] = r.toAV := rfl
theorem res_nil : resAV [] = .tup [] := rfl
theorem res_two (r r1 : RV) (rs : List RV) : resAV (r :: r1 :: rs) = .tup (r :: r1 :: rs) := rfl

/-! ### code -/
theorem w_skip : awp P .skip K s = K .normal s := rfl
theorem w_reg (l : List AO) : awp P (.reg l) K s = aops P true l (K .normal) s := rfl
theorem w_dreg (l : List AO) : awp P (.dreg l) K s = aops P false l (K .normal) s := rfl
theorem w_gh (gs : List Gh) : awp P (.gh gs) K s = ghs gs (K .normal) s := rfl
theorem w_seq (x y : AC) : awp P (.seq x y) K s = awp P x (AEx.then (awp P y K) K) s := rfl
theorem w_block (id : Nat) (x : AC) : awp P (.block id x) K s = awp P x (AEx.blk id K) s := rfl
theorem w_exit (id : Nat) : awp P (.exit id) K s = K (.exit id) s := rfl
theorem w_ret : awp P .ret K s = K .ret s := rfl
theorem t_n (y : AS → Prop) : AEx.then y K .normal s = y s := rfl
theorem t_e (y : AS → Prop) (id : Nat) : AEx.then y K (.exit id) s = K (.exit id) s := rfl
theorem t_r (y : AS → Prop) : AEx.then y K .ret s = K .ret s := rfl
theorem b_n (id : Nat) : AEx.blk id K .normal s = K .normal s := rfl
theorem b_e (id i : Nat) : AEx.blk id K (.exit i) s = if i = id then K .normal s else K (.exit i) s := rfl
theorem b_r (id : Nat) : AEx.blk id K .ret s = K .ret s := rfl
/-- a test whose outcome is not known yet -/
def condA (P : Program) (b : Option Bool) (x y : AC) (K : AEx → AS → Prop) (s : AS) : Prop := ∃ b', b = some b' ∧ (b' = true → awp P x K s) ∧ (b' = false → awp P y K s)
theorem w_cnd (c : Operand) (x y : AC) : awp P (.cond c x y) K s = condA P (asB (s.ev c)) x y K s := rfl
theorem c_t (x y : AC) : condA P (some true) x y K s = awp P x K s := by simp [condA]
theorem c_f (x y : AC) : condA P (some false) x y K s = awp P y K s := by simp [condA]
theorem c_split {x y : AC} {p : Prop} [Decidable p] (h1 : p → awp P x K s) (h2 : ¬p → awp P y K s) : condA P (some (decide p)) x y K s := ⟨_, rfl, fun e => h1 (of_decide_eq_true e), fun e => h2 (of_decide_eq_false e)⟩
theorem c_splitb {x y : AC} {b : Bool} (h1 : b = true → awp P x K s) (h2 : b = false → awp P y K s) : condA P (some b) x y K s := ⟨_, rfl, h1, h2⟩
theorem w_loop {x : AC} (I : Nat → AS → Prop) (n : Nat) (h0 : I n s) (h : ∀ n s, s.wf → I n s → awp P x (AEx.then (fun s' => ∃ n', n' < n ∧ I n' s') K) s) : awp P (.loop x) K s := ⟨I, n, h0, h⟩
theorem g_nil : ghs [] Q s = Q s := rfl
theorem g_cons (g : Gh) (gs : List Gh) : ghs (g :: gs) Q s = (ghO g s ∧ ghs gs Q (ghE g s)) := rfl

/-! ### operations -/
theorem ex_const {p : Prop} : (∃ _ : List RV, p) = p := propext ⟨fun ⟨_, h⟩ => h, fun h => ⟨[], h⟩⟩
theorem a_only {o : AO} (hs : ∀ s', ¬ spec P o s s') : aops P fl (o :: os) Q s = (∃ rs, obl' P o s rs ∧ aops P fl os Q (eff' P o s rs)) :=
  propext ⟨fun h => h.elim id fun ⟨_, s', h, _⟩ => (hs s' h).elim, .inl⟩
theorem a_of {o : AO} {A : Prop} {s' : AS} (h : ∀ rs, obl' P o s rs = A) (h' : ∀ rs, eff' P o s rs = s') (hs : ∀ s', ¬ spec P o s s' := by exact fun _ h => h) : aops P fl (o :: os) Q s = (A ∧ aops P fl os Q s') := by
  rw [a_only hs]
  simp only [h, h']
  exact ex_const
/-- an operation on strings: it waits for its rule -/
def sopA (P : Program) (fl : Bool) (o : AO) (os : List AO) (Q : AS → Prop) (s : AS) : Prop := aops P fl (o :: os) Q s
theorem a_nil : aops P fl [] Q s = Q s := rfl
theorem a_move (d : Option Nat) (x : Operand) : aops P fl (⟨d, .move x, none⟩ :: os) Q s = aops P fl os Q (s.put d (s.ev x)) := by
  refine (a_only (by intro _ h; exact h)).trans ?_
  show (∃ _ : List RV, True ∧ aops P fl os Q (s.put d (s.ev x))) = _
  rw [ex_const]; simp
theorem a_assign (d : Option Nat) (x : Operand) : aops P fl (⟨d, .assign x, none⟩ :: os) Q s = aops P fl os Q (s.put d (s.ev x)) := by
  refine (a_only (by intro _ h; exact h)).trans ?_
  show (∃ _ : List RV, True ∧ aops P fl os Q (s.put d (s.ev x))) = _
  rw [ex_const]; simp
theorem a_pick (d : Option Nat) (c x y : Operand) : aops P fl (⟨d, .pick c x y, none⟩ :: os) Q s = (pickO (s.ev c) ∧ aops P fl os Q (s.put d (pickV (s.ev c) (s.ev x) (s.ev y)))) := a_of (fun _ => rfl) (fun _ => rfl)
theorem a_alloc (d : Nat) (T : TypeId) : aops P fl (⟨some d, .alloc T, none⟩ :: os) Q s = (match zeros P T with
    | some cs => aops P fl os Q (((s.setv (d, s.g d) cs).bump d).set d (.ptr (d, s.g d) 0))
    | none => False) := by
  refine (a_only (by intro _ h; exact h)).trans ?_
  show (∃ rs : List RV, obl P (.alloc T) (some d) s rs ∧ aops P fl os Q (eff P (.alloc T) (some d) s rs)) = _
  simp only [obl, eff]
  rw [ex_const]
  cases zeros P T <;> simp
theorem a_box (d : Nat) (T : TypeId) (x : Operand) : aops P fl (⟨some d, .box T x, none⟩ :: os) Q s = (match cellsOf (s.ev x) with
    | some cs => aops P fl os Q (((s.setv (d, s.g d) cs).bump d).set d (.ptr (d, s.g d) 0))
    | none => False) := by
  refine (a_only (by intro _ h; exact h)).trans ?_
  show (∃ rs : List RV, obl P (.box T x) (some d) s rs ∧ aops P fl os Q (eff P (.box T x) (some d) s rs)) = _
  simp only [obl, eff]
  rw [ex_const]
  cases cellsOf (s.ev x) <;> simp
theorem a_build (d : Option Nat) (T : TypeId) (parts : Array (Nat × Operand)) : aops P fl (⟨d, .build T parts, none⟩ :: os) Q s = (match zeros P T with
    | some cs => (tplaces P T).isSome = true ∧ match fillA (tplace P T) cs (pairs s parts.toList) with
      | some cells => aops P fl os Q (s.put d (.agg cells))
      | none => False
    | none => False) := by
  refine (a_only (by intro _ h; exact h)).trans ?_
  show (∃ rs : List RV, obl P (.build T parts) d s rs ∧ aops P fl os Q (eff P (.build T parts) d s rs)) = _
  simp only [obl, eff]
  rw [ex_const]
  cases zeros P T with
  | none => simp
  | some cs =>
    simp only
    cases fillA (tplace P T) cs (pairs s parts.toList) <;> simp
theorem a_bsl (d : Nat) (T : TypeId) (n : Nat) (parts : Array (Nat × Operand)) : aops P fl (⟨some d, .buildSlice T n parts, none⟩ :: os) Q s = (match telem P T with
    | some e => (tok P e = true ∧ n * tsz P e ≤ 16777216 ∧ if n = 0 then parts.size = 0 ∧ aops P fl os Q (((s.setr (d, s.g d) ⟨e, tsz P e, 0, [], 0, true⟩).bump d).set d (.one (.row (d, s.g d) 0))) else
      match bslC s (tsz P e) n (zeros P e) parts.toList with
      | some ds => ((zeros P e).map List.length = some (tsz P e) ∧ 0 < tsz P e) ∧ aops P fl os Q (s.set d (.one (.dt (.sl n ds))))
      | none => False)
    | none => False) := by
  refine (a_only (by intro _ h; exact h)).trans ?_
  show (∃ rs : List RV, obl P (.buildSlice T n parts) (some d) s rs ∧ aops P fl os Q (eff P (.buildSlice T n parts) (some d) s rs)) = _
  simp only [obl, eff]
  rw [ex_const]
  cases telem P T with
  | none => simp
  | some e =>
    simp only
    by_cases hn : n = 0
    · simp [hn, and_assoc]
    · simp only [hn, if_false]
      cases bslC s (tsz P e) n (zeros P e) parts.toList <;> simp [and_assoc]
theorem a_load (d : Option Nat) (T : TypeId) (x : Operand) : aops P fl (⟨d, .load T x, none⟩ :: os) Q s = ((tok P T = true ∧ ldO (tagg P T) (tsz P T) (acells s (s.ev x))) ∧ aops P fl os Q (s.put d (ldV (tagg P T) (tsz P T) (acells s (s.ev x))))) := a_of (fun _ => rfl) (fun _ => rfl)
theorem a_store (d : Option Nat) (T : TypeId) (x y : Operand) : aops P fl (⟨d, .store T x y, none⟩ :: os) Q s = (tok P T = true ∧ match cellsOf (s.ev y) with
    | some cs => (cs.length = tsz P T ∧ stO s cs (s.ev x)) ∧ aops P fl os Q ((stS s cs (s.ev x)).put d .no)
    | none => False) := by
  refine (a_only (by intro _ h; exact h)).trans ?_
  show (∃ rs : List RV, obl P (.store T x y) d s rs ∧ aops P fl os Q (eff P (.store T x y) d s rs)) = _
  simp only [obl, eff]
  rw [ex_const]
  cases cellsOf (s.ev y) <;> simp [and_assoc]
theorem a_bin (d : Option Nat) (op : BinOp) (T T' : TypeId) (x y : Operand) : aops P fl (⟨d, .binOp op T x y T', none⟩ :: os) Q s = (binO (tbool P T) op (s.ev x) (s.ev y) ∧ aops P fl os Q (s.put d (binV op (s.ev x) (s.ev y)))) := a_of (fun _ => rfl) (fun _ => rfl)
theorem a_un (d : Option Nat) (op : UnOp) (T : TypeId) (x : Operand) : aops P fl (⟨d, .unOp op T x, none⟩ :: os) Q s = (unO op (s.ev x) ∧ aops P fl os Q (s.put d (unV op (s.ev x)))) := a_of (fun _ => rfl) (fun _ => rfl)
theorem a_six (d : Option Nat) (T : TypeId) (x i : Operand) : aops P fl (⟨d, .index T x i, none⟩ :: os) Q s = ((tstr P T = true ∧ sixO (s.ev x) (s.ev i)) ∧ aops P fl os Q (s.put d (sixV (s.ev x) (s.ev i)))) := a_of (fun _ => rfl) (fun _ => rfl)
theorem a_conv_0 (d : Option Nat) (T T' : TypeId) (x : Operand) (ht : tstr P T' = false) : aops P fl (⟨d, .convert T T' x, none⟩ :: os) Q s = (((P.underlying T).isSome = true ∧ cvO (tint P T') (s.ev x)) ∧ aops P fl os Q (s.put d (cvV (tint P T') (s.ev x)))) := a_of (fun _ => rfl) (fun _ => rfl) (fun _ ⟨_, _, _, _, h, _⟩ => by rw [ht] at h; cases h)
theorem a_conv (d : Option Nat) (T T' : TypeId) (x : Operand) : aops P fl (⟨d, .convert T T' x, none⟩ :: os) Q s = (match tstr P T' with
    | false => (((P.underlying T).isSome = true ∧ cvO (tint P T') (s.ev x)) ∧ aops P fl os Q (s.put d (cvV (tint P T') (s.ev x))))
    | true => sopA P fl ⟨d, .convert T T' x, none⟩ os Q s) := by
  cases ht : tstr P T' with
  | false => exact a_conv_0 d T T' x ht
  | true => rfl
theorem a_make (d : Nat) (T : TypeId) (l c : Operand) : aops P fl (⟨some d, .makeSlice T l c, none⟩ :: os) Q s = (match telem P T with
    | some e => (tok P e = true ∧ tsz P e = 1 ∧ mkO (tbytes P e) (zeros P e) (s.ev l) (s.ev c)) ∧ aops P fl os Q (mkS s d e (zeros P e) (s.ev l))
    | none => False) := by
  refine (a_only (by intro _ h; exact h)).trans ?_
  show (∃ rs : List RV, obl P (.makeSlice T l c) (some d) s rs ∧ aops P fl os Q (eff P (.makeSlice T l c) (some d) s rs)) = _
  simp only [obl, eff]
  rw [ex_const]
  cases telem P T <;> simp
theorem a_slice_0 (d : Option Nat) (T : TypeId) (x : Operand) (lo hi mx : Option Operand) (ht : tstr P T = false) : aops P fl (⟨d, .slice T x lo hi mx, none⟩ :: os) Q s = (match telem P T with
    | some e => (tok P e = true ∧ cutO (tsz P e) (lo.map s.ev) (hi.map s.ev) (mx.map s.ev) (s.ev x)) ∧ aops P fl os Q (s.put d (cutV (tsz P e) (lo.map s.ev) (hi.map s.ev) (s.ev x)))
    | none => match tarr P T with
      | some (n, e) => (tok P e = true ∧ acutO s (tsz P e) n (lo.map s.ev) (hi.map s.ev) (mx.map s.ev) (s.ev x)) ∧ aops P fl os Q (s.put d (acutV s (tsz P e) n (lo.map s.ev) (hi.map s.ev) (s.ev x)))
      | none => False) := by
  refine (a_only (by
    intro _ h
    cases mx with
    | some _ => exact h
    | none => obtain ⟨_, _, _, h, _⟩ := h; rw [ht] at h; cases h)).trans ?_
  show (∃ rs : List RV, obl P (.slice T x lo hi mx) d s rs ∧ aops P fl os Q (eff P (.slice T x lo hi mx) d s rs)) = _
  simp only [obl, eff]
  rw [ex_const]
  cases telem P T with
  | some e => rfl
  | none =>
    cases tarr P T with
    | none => simp
    | some ne => rfl
theorem a_slice (d : Option Nat) (T : TypeId) (x : Operand) (lo hi mx : Option Operand) : aops P fl (⟨d, .slice T x lo hi mx, none⟩ :: os) Q s = (match tstr P T with
    | false => (match telem P T with
    | some e => (tok P e = true ∧ cutO (tsz P e) (lo.map s.ev) (hi.map s.ev) (mx.map s.ev) (s.ev x)) ∧ aops P fl os Q (s.put d (cutV (tsz P e) (lo.map s.ev) (hi.map s.ev) (s.ev x)))
    | none => match tarr P T with
      | some (n, e) => (tok P e = true ∧ acutO s (tsz P e) n (lo.map s.ev) (hi.map s.ev) (mx.map s.ev) (s.ev x)) ∧ aops P fl os Q (s.put d (acutV s (tsz P e) n (lo.map s.ev) (hi.map s.ev) (s.ev x)))
      | none => False)
    | true => sopA P fl ⟨d, .slice T x lo hi mx, none⟩ os Q s) := by
  cases ht : tstr P T with
  | false => exact a_slice_0 d T x lo hi mx ht
  | true => rfl
theorem a_fld (d : Option Nat) (T : TypeId) (x : Operand) (f : Nat) : aops P fl (⟨d, .fieldAddr T x f, none⟩ :: os) Q s = (fldO s (foff P T f) (s.ev x) ∧ aops P fl os Q (s.put d (fldV (foff P T f) (s.ev x)))) := a_of (fun _ => rfl) (fun _ => rfl)
theorem a_idx (d : Option Nat) (T : TypeId) (x i : Operand) : aops P fl (⟨d, .indexAddr T x i, none⟩ :: os) Q s = (match telem P T with
    | some e => (tok P e = true ∧ idxO s (tsz P e) (s.ev x) (s.ev i)) ∧ aops P fl os Q (s.put d (idxV (tsz P e) (s.ev x) (s.ev i)))
    | none => match tarr P T with
      | some (n, e) => (tok P e = true ∧ arrO n (s.ev x) (s.ev i)) ∧ aops P fl os Q (s.put d (arrV (tsz P e) (s.ev x) (s.ev i)))
      | none => False) := by
  refine (a_only (by intro _ h; exact h)).trans ?_
  show (∃ rs : List RV, obl P (.indexAddr T x i) d s rs ∧ aops P fl os Q (eff P (.indexAddr T x i) d s rs)) = _
  simp only [obl, eff]
  rw [ex_const]
  cases telem P T with
  | some e => rfl
  | none =>
    cases tarr P T with
    | none => simp
    | some ne => rfl
theorem a_ext (d : Option Nat) (x : Operand) (j : Nat) : aops P fl (⟨d, .extract x j, none⟩ :: os) Q s = (extO (s.ev x) j ∧ aops P fl os Q (s.put d (extV (s.ev x) j))) := a_of (fun _ => rfl) (fun _ => rfl)
theorem a_len_0 (d : Option Nat) (x : Operand) (T : TypeId) (ht : tstr P T = false) : aops P fl (⟨d, .call ⟨.builtin .len, #[x], #[T]⟩, none⟩ :: os) Q s = (((telem P T).isSome = true ∧ lenO s (s.ev x)) ∧ aops P fl os Q (s.put d (lenV s (s.ev x)))) := a_of (fun _ => rfl) (fun _ => rfl) (fun _ ⟨_, h, _⟩ => by rw [ht] at h; cases h)
theorem a_len (d : Option Nat) (x : Operand) (T : TypeId) : aops P fl (⟨d, .call ⟨.builtin .len, #[x], #[T]⟩, none⟩ :: os) Q s = (match tstr P T with
    | false => (((telem P T).isSome = true ∧ lenO s (s.ev x)) ∧ aops P fl os Q (s.put d (lenV s (s.ev x))))
    | true => sopA P fl ⟨d, .call ⟨.builtin .len, #[x], #[T]⟩, none⟩ os Q s) := by
  cases ht : tstr P T with
  | false => exact a_len_0 d x T ht
  | true => rfl
theorem a_max (d : Option Nat) (x y : Operand) (Ts : Array TypeId) : aops P fl (⟨d, .call ⟨.builtin .max, #[x, y], Ts⟩, none⟩ :: os) Q s = (mxO (s.ev x) (s.ev y) ∧ aops P fl os Q (s.put d (mxV (fun x y => if y > x then y else x) (s.ev x) (s.ev y)))) := a_of (fun _ => rfl) (fun _ => rfl)
theorem a_min (d : Option Nat) (x y : Operand) (Ts : Array TypeId) : aops P fl (⟨d, .call ⟨.builtin .min, #[x, y], Ts⟩, none⟩ :: os) Q s = (mxO (s.ev x) (s.ev y) ∧ aops P fl os Q (s.put d (mxV (fun x y => if y < x then y else x) (s.ev x) (s.ev y)))) := a_of (fun _ => rfl) (fun _ => rfl)
theorem a_append_0 (d : Nat) (x y : Operand) (T : TypeId) (ht : tstr P T = false) : aops P fl (⟨some d, .call ⟨.builtin .append, #[x, y], #[T, T]⟩, none⟩ :: os) Q s = (match telem P T with
    | some e => (tok P e = true ∧ 0 < tsz P e ∧ (tzero P e).map List.length = some (tsz P e) ∧ appO s e (tsz P e) (tbytes P e) (srcD s (s.ev y)) (s.ev x)) ∧ aops P fl os Q (appS s d e (tsz P e) (srcD s (s.ev y)) (s.ev x))
    | none => False) := by
  refine (a_only (by intro _ h; obtain ⟨_, _, _, _, _, h, _⟩ := h; rw [ht] at h; cases h)).trans ?_
  show (∃ rs : List RV, (T = T ∧ match telem P T with
        | some e => (some d).isSome = true ∧ tok P e = true ∧ 0 < tsz P e ∧ (tzero P e).map List.length = some (tsz P e) ∧ appO s e (tsz P e) (tbytes P e) (srcD s (s.ev y)) (s.ev x)
        | none => False) ∧ aops P fl os Q (match telem P T with
        | some e => appS s d e (tsz P e) (srcD s (s.ev y)) (s.ev x)
        | none => s)) = _
  rw [ex_const]
  cases telem P T <;> simp
theorem a_append (d : Nat) (x y : Operand) (T : TypeId) : aops P fl (⟨some d, .call ⟨.builtin .append, #[x, y], #[T, T]⟩, none⟩ :: os) Q s = (match tstr P T with
    | false => (match telem P T with
    | some e => (tok P e = true ∧ 0 < tsz P e ∧ (tzero P e).map List.length = some (tsz P e) ∧ appO s e (tsz P e) (tbytes P e) (srcD s (s.ev y)) (s.ev x)) ∧ aops P fl os Q (appS s d e (tsz P e) (srcD s (s.ev y)) (s.ev x))
    | none => False)
    | true => sopA P fl ⟨some d, .call ⟨.builtin .append, #[x, y], #[T, T]⟩, none⟩ os Q s) := by
  cases ht : tstr P T with
  | false => exact a_append_0 d x y T ht
  | true => rfl
theorem a_copy (d : Option Nat) (x y : Operand) (T T' : TypeId) : aops P fl (⟨d, .call ⟨.builtin .copy, #[x, y], #[T, T']⟩, none⟩ :: os) Q s = ((match telem P T with
    | some e => tok P e = true ∧ tsz P e = 1 ∧ cpO s (srcD s (s.ev y)) (s.ev x)
    | none => False) ∧ aops P fl os Q (cpS s d (srcD s (s.ev y)) (s.ev x))) := a_of (fun _ => rfl) (fun _ => rfl)
theorem a_call {d : Option Nat} {f : Nat} {args : Array Operand} {Ts : Array TypeId} (avs rs : List RV) (h : AFun P f avs rs) (h1 : toRVs s (evs s args.toList) = some avs) (h2 : aops P fl os Q (s.put d (resAV rs))) :
    aops P fl (⟨d, .call ⟨.value (.func f), args, Ts⟩, none⟩ :: os) Q s := .inl ⟨rs, ⟨avs, h1, h⟩, h2⟩
theorem a_ocall {d : Nat} {f : Nat} {args : Array Operand} {Ts : Array TypeId} (avs : List RV) (l : List Int) (h : OFun P f avs l) (h1 : toRVs s (evs s args.toList) = some avs) (h2 : aops P true os Q (((s.setv (d, s.g d) (u32s l)).bump d).set d (.sv (d, s.g d) 0 l.length))) :
    aops P true (⟨some d, .call ⟨.value (.func f), args, Ts⟩, none⟩ :: os) Q s := .inr ⟨rfl, _, .inl ⟨d, avs, l, rfl, h1, h, rfl⟩, h2⟩
theorem a_sslice {d : Option Nat} {T : TypeId} {x : Operand} {lo hi : Option Operand} (b : ByteArray) (l h : Int) (h1 : tstr P T = true) (h2 : strOf (s.ev x) = some b) (h3 : bnd (lo.map s.ev) 0 = some l) (h4 : bnd (hi.map s.ev) b.size = some h) (h5 : 0 ≤ l ∧ l ≤ h ∧ h ≤ b.size) (h6 : aops P true os Q (s.put d (litV (.string (b.extract l.toNat h.toNat))))) :
    sopA P true ⟨d, .slice T x lo hi none, none⟩ os Q s := .inr ⟨rfl, _, ⟨b, l, h, h1, h2, h3, h4, h5.1, h5.2.1, h5.2.2, rfl⟩, h6⟩
theorem a_sconv {d : Option Nat} {T T' : TypeId} {x : Operand} (b : ByteArray) (e : TypeId) (h1 : telem P T = some e) (h2 : tint P e = some .u8) (h3 : tstr P T' = true) (h4 : srcD s (s.ev x) = some (b.size, strD b)) (h6 : aops P true os Q (s.put d (litV (.string b)))) :
    sopA P true ⟨d, .convert T T' x, none⟩ os Q s := .inr ⟨rfl, _, ⟨b, e, h1, h2, h3, h4, rfl⟩, h6⟩
theorem a_sapp {d : Nat} {T T' : TypeId} {x y : Operand} (b : ByteArray) (e : TypeId) (h1 : telem P T = some e) (h2 : tstr P T' = true) (h3 : tsz P e = 1 ∧ tbytes P e = 1 ∧ tzv P e = some (.int .u8 0)) (h4 : strOf (s.ev y) = some b) (h5 : appO s e 1 1 (some (b.size, strD b)) (s.ev x)) (h6 : aops P true os Q (appS s d e 1 (some (b.size, strD b)) (s.ev x))) :
    aops P true (⟨some d, .call ⟨.builtin .append, #[x, y], #[T, T']⟩, none⟩ :: os) Q s := .inr ⟨rfl, _, ⟨b, e, d, rfl, h1, h2, h3.1, h3.2.1, h3.2.2, h4, h5, rfl⟩, h6⟩
theorem a_wcall {d : Option Nat} {f : Nat} {a0 : Operand} {xs : List Operand} {Ts : Array TypeId} (x : Nat × Nat) (off n : Nat) (l : List Int) (avs : List RV) (l' : List Int) (rs : List RV) (h : WFun P f l off n avs l' rs) (h0 : s.ev a0 = .sv x off n) (hv : s.v x = some (u32s l)) (hf : s.f x = false) (h1 : toRVs s (evs s xs) = some avs) (h2 : aops P true os Q ((s.setv x (u32s l')).put d (resAV rs))) {args : Array Operand} (ha : args.toList = a0 :: xs) :
    aops P true (⟨d, .call ⟨.value (.func f), args, Ts⟩, none⟩ :: os) Q s := .inr ⟨rfl, _, .inr (.inr ⟨a0, xs, x, off, n, l, avs, l', rs, ha, h0, hv, hf, h1, h, rfl⟩), h2⟩
theorem a_guard (d : Option Nat) (op : Op) (t : Nat) (want : Bool) : aops P fl (⟨d, op, some (t, want)⟩ :: os) Q s = (match asB (s.t t) with
    | some b => if b = want then aops P fl (⟨d, op, none⟩ :: os) Q s else aops P fl os Q (s.put d .no)
    | none => False) := by
  show ((∃ rs : List RV, (match asB (s.t t) with
      | some b => if b = want then obl P op d s rs else True
      | none => False) ∧ aops P fl os Q (match asB (s.t t) with
      | some b => if b = want then eff P op d s rs else s.put d .no
      | none => s)) ∨ (fl = true ∧ ∃ s', (asB (s.t t) = some want ∧ spec0 P d op s s') ∧ aops P fl os Q s')) = _
  cases asB (s.t t) with
  | none => simp
  | some b =>
    simp only
    by_cases e : b = want
    · simp only [e, if_true, true_and]; rfl
    · simp [e]
def guardA (P : Program) (fl : Bool) (b : Option Bool) (want : Bool) (d : Option Nat) (op : Op) (os : List AO) (Q : AS → Prop) (s : AS) : Prop := match b with
  | some b => if b = want then aops P fl (⟨d, op, none⟩ :: os) Q s else aops P fl os Q (s.put d .no)
  | none => False
theorem a_grd (d : Option Nat) (op : Op) (t : Nat) (want : Bool) : aops P fl (⟨d, op, some (t, want)⟩ :: os) Q s = guardA P fl (asB (s.t t)) want d op os Q s := a_guard d op t want
theorem g_tt (d : Option Nat) (op : Op) : guardA P fl (some true) true d op os Q s = aops P fl (⟨d, op, none⟩ :: os) Q s := rfl
theorem g_ff (d : Option Nat) (op : Op) : guardA P fl (some false) false d op os Q s = aops P fl (⟨d, op, none⟩ :: os) Q s := rfl
theorem g_tf (d : Option Nat) (op : Op) : guardA P fl (some true) false d op os Q s = aops P fl os Q (s.put d .no) := rfl
theorem g_ft (d : Option Nat) (op : Op) : guardA P fl (some false) true d op os Q s = aops P fl os Q (s.put d .no) := rfl
theorem g_split {p : Prop} [Decidable p] {want : Bool} {d : Option Nat} {op : Op} (h1 : p → guardA P fl (some true) want d op os Q s) (h2 : ¬p → guardA P fl (some false) want d op os Q s) : guardA P fl (some (decide p)) want d op os Q s := by
  by_cases h : p
  · rw [decide_eq_true h]; exact h1 h
  · rw [decide_eq_false h]; exact h2 h
end
end Go.Proofs.YteegehbighoplaaDoor.E

set_option linter.unusedSimpArgs false
set_option linter.unusedVariables false
namespace Go.Proofs.YteegehbighoplaaDoor.E
open Go.RowKit

def shl (k : IntKind) (x y : Int) : Int := k.wrap (x * 2 ^ (min y.toNat k.bits))
def shr (k : IntKind) (x y : Int) : Int := x.fdiv (2 ^ (min y.toNat k.bits))
section
variable {s : AS} {k k' : IntKind} {x y : Int} {tb b b' : Bool}

theorem src_sl (n : Nat) (cells : List Dt) : srcD s (.one (.dt (.sl n cells))) = some (n, cells) := rfl
theorem cd_nil : ceDs [] = some [] := rfl
theorem cd_cons (c : Ce) (cs : List Ce) : ceDs (c :: cs) = (match ceD c, ceDs cs with | some d, some ds => some (d :: ds) | _, _ => none) := rfl
theorem cd_dt (d : Dt) : ceD (.dt d) = some d := rfl
theorem cd_z : ceD .z = some (.sl 0 []) := rfl
theorem bsl_some (sz n : Nat) (cs : List Ce) (parts : List (Nat × Operand)) : bslC s sz n (some cs) parts = (match fillA (fun i => some (i * sz, sz)) ((List.replicate n cs).flatten) (pairs s parts) with | some cells => ceDs cells | none => none) := rfl
theorem o_add : binO tb .add (.one (.dt (.lit (.int k x)))) (.one (.dt (.lit (.int k' y)))) = (k = k') := rfl
theorem v_add : binV .add (.one (.dt (.lit (.int k x)))) (.one (.dt (.lit (.int k' y)))) = (.one (.dt (.lit (.int k (k.wrap (x + y)))))) := rfl
theorem o_sub : binO tb .sub (.one (.dt (.lit (.int k x)))) (.one (.dt (.lit (.int k' y)))) = (k = k') := rfl
theorem v_sub : binV .sub (.one (.dt (.lit (.int k x)))) (.one (.dt (.lit (.int k' y)))) = (.one (.dt (.lit (.int k (k.wrap (x - y)))))) := rfl
theorem o_mul : binO tb .mul (.one (.dt (.lit (.int k x)))) (.one (.dt (.lit (.int k' y)))) = (k = k') := rfl
theorem v_mul : binV .mul (.one (.dt (.lit (.int k x)))) (.one (.dt (.lit (.int k' y)))) = (.one (.dt (.lit (.int k (k.wrap (x * y)))))) := rfl
theorem o_quo : binO tb .quo (.one (.dt (.lit (.int k x)))) (.one (.dt (.lit (.int k' y)))) = (k = k' ∧ ¬ y = 0) := rfl
theorem v_quo : binV .quo (.one (.dt (.lit (.int k x)))) (.one (.dt (.lit (.int k' y)))) = (.one (.dt (.lit (.int k (k.wrap (x.tdiv y)))))) := rfl
theorem o_rem : binO tb .rem (.one (.dt (.lit (.int k x)))) (.one (.dt (.lit (.int k' y)))) = (k = k' ∧ ¬ y = 0) := rfl
theorem v_rem : binV .rem (.one (.dt (.lit (.int k x)))) (.one (.dt (.lit (.int k' y)))) = (.one (.dt (.lit (.int k (x.tmod y))))) := rfl
theorem o_and : binO tb .and (.one (.dt (.lit (.int k x)))) (.one (.dt (.lit (.int k' y)))) = (k = k') := rfl
theorem v_and : binV .and (.one (.dt (.lit (.int k x)))) (.one (.dt (.lit (.int k' y)))) = (.one (.dt (.lit (.int k (bits .and k x y))))) := rfl
theorem o_or : binO tb .or (.one (.dt (.lit (.int k x)))) (.one (.dt (.lit (.int k' y)))) = (k = k') := rfl
theorem v_or : binV .or (.one (.dt (.lit (.int k x)))) (.one (.dt (.lit (.int k' y)))) = (.one (.dt (.lit (.int k (bits .or k x y))))) := rfl
theorem o_shl : binO tb .shl (.one (.dt (.lit (.int k x)))) (.one (.dt (.lit (.int k' y)))) = (0 ≤ y) := rfl
theorem v_shl : binV .shl (.one (.dt (.lit (.int k x)))) (.one (.dt (.lit (.int k' y)))) = (.one (.dt (.lit (.int k (shl k x y))))) := rfl
theorem o_shr : binO tb .shr (.one (.dt (.lit (.int k x)))) (.one (.dt (.lit (.int k' y)))) = (0 ≤ y) := rfl
theorem v_shr : binV .shr (.one (.dt (.lit (.int k x)))) (.one (.dt (.lit (.int k' y)))) = (.one (.dt (.lit (.int k (shr k x y))))) := rfl
theorem o_eql : binO tb .eql (.one (.dt (.lit (.int k x)))) (.one (.dt (.lit (.int k' y)))) = (k = k') := rfl
theorem o_neq : binO tb .neq (.one (.dt (.lit (.int k x)))) (.one (.dt (.lit (.int k' y)))) = (k = k') := rfl
theorem v_eql : binV .eql (.one (.dt (.lit (.int k x)))) (.one (.dt (.lit (.int k' y)))) = (.one (.dt (.lit (.bool (decide (x = y)))))) := by
  show litV (.bool (x == y)) = _
  by_cases h : x = y <;> simp [h, litV]
theorem v_neq : binV .neq (.one (.dt (.lit (.int k x)))) (.one (.dt (.lit (.int k' y)))) = (.one (.dt (.lit (.bool (decide (¬ x = y)))))) := by
  show litV (.bool (x != y)) = _
  by_cases h : x = y <;> simp [h, litV]
theorem o_lss : binO tb .lss (.one (.dt (.lit (.int k x)))) (.one (.dt (.lit (.int k' y)))) = (k = k') := rfl
theorem v_lss : binV .lss (.one (.dt (.lit (.int k x)))) (.one (.dt (.lit (.int k' y)))) = (.one (.dt (.lit (.bool (decide (x < y)))))) := rfl
theorem o_leq : binO tb .leq (.one (.dt (.lit (.int k x)))) (.one (.dt (.lit (.int k' y)))) = (k = k') := rfl
theorem v_leq : binV .leq (.one (.dt (.lit (.int k x)))) (.one (.dt (.lit (.int k' y)))) = (.one (.dt (.lit (.bool (decide (x ≤ y)))))) := rfl
theorem o_gtr : binO tb .gtr (.one (.dt (.lit (.int k x)))) (.one (.dt (.lit (.int k' y)))) = (k = k') := rfl
theorem v_gtr : binV .gtr (.one (.dt (.lit (.int k x)))) (.one (.dt (.lit (.int k' y)))) = (.one (.dt (.lit (.bool (decide (y < x)))))) := rfl
theorem o_geq : binO tb .geq (.one (.dt (.lit (.int k x)))) (.one (.dt (.lit (.int k' y)))) = (k = k') := rfl
theorem v_geq : binV .geq (.one (.dt (.lit (.int k x)))) (.one (.dt (.lit (.int k' y)))) = (.one (.dt (.lit (.bool (decide (y ≤ x)))))) := rfl
theorem o_eqls (x y : ByteArray) : binO tb .eql (.one (.dt (.lit (.string x)))) (.one (.dt (.lit (.string y)))) = True := rfl
theorem o_neqs (x y : ByteArray) : binO tb .neq (.one (.dt (.lit (.string x)))) (.one (.dt (.lit (.string y)))) = True := rfl
theorem o_adds (x y : ByteArray) : binO tb .add (.one (.dt (.lit (.string x)))) (.one (.dt (.lit (.string y)))) = (x.size + y.size ≤ 9223372036854775807) := rfl
theorem v_eqls (x y : ByteArray) : binV .eql (.one (.dt (.lit (.string x)))) (.one (.dt (.lit (.string y)))) = (.one (.dt (.lit (.bool (x.toList == y.toList))))) := rfl
theorem v_neqs (x y : ByteArray) : binV .neq (.one (.dt (.lit (.string x)))) (.one (.dt (.lit (.string y)))) = (.one (.dt (.lit (.bool (!(x.toList == y.toList)))))) := rfl
theorem v_adds (x y : ByteArray) : binV .add (.one (.dt (.lit (.string x)))) (.one (.dt (.lit (.string y)))) = (.one (.dt (.lit (.string (x ++ y))))) := rfl
theorem o_eqlb : binO tb .eql (.one (.dt (.lit (.bool b)))) (.one (.dt (.lit (.bool b')))) = (tb = true) := rfl
theorem o_neqb : binO tb .neq (.one (.dt (.lit (.bool b)))) (.one (.dt (.lit (.bool b')))) = (tb = true) := rfl
theorem v_eqlb : binV .eql (.one (.dt (.lit (.bool b)))) (.one (.dt (.lit (.bool b')))) = (.one (.dt (.lit (.bool (b == b'))))) := rfl
theorem v_neqb : binV .neq (.one (.dt (.lit (.bool b)))) (.one (.dt (.lit (.bool b')))) = (.one (.dt (.lit (.bool (!(b == b')))))) := rfl
theorem o_pick : pickO (.one (.dt (.lit (.bool b)))) = True := rfl
theorem v_pick (u v : AV) : pickV (.one (.dt (.lit (.bool b)))) u v = if b = true then u else v := rfl
theorem o_not : unO .not (.one (.dt (.lit (.bool b)))) = True := rfl
theorem v_not {p : Prop} [Decidable p] : unV .not (.one (.dt (.lit (.bool (decide p))))) = (.one (.dt (.lit (.bool (decide (¬p)))))) := by
  show litV (.bool (!decide p)) = _
  by_cases h : p <;> simp [h, litV]
theorem v_nott : unV .not (.one (.dt (.lit (.bool true)))) = (.one (.dt (.lit (.bool false)))) := rfl
theorem v_notf : unV .not (.one (.dt (.lit (.bool false)))) = (.one (.dt (.lit (.bool true)))) := rfl
theorem o_neg : unO .neg (.one (.dt (.lit (.int k x)))) = True := rfl
theorem v_neg : unV .neg (.one (.dt (.lit (.int k x)))) = (.one (.dt (.lit (.int k (k.wrap (0 - x)))))) := rfl
theorem o_cv : cvO (some k') (.one (.dt (.lit (.int k x)))) = True := rfl
theorem v_cv : cvV (some k') (.one (.dt (.lit (.int k x)))) = (.one (.dt (.lit (.int k' (k'.wrap x))))) := rfl
theorem as_b : asB (.one (.dt (.lit (.bool b)))) = some b := rfl
theorem cl_one (c : Ce) : cellsOf (.one c) = some [c] := rfl
theorem cl_agg (cs : List Ce) : cellsOf (.agg cs) = some cs := rfl
theorem ld_of (sz : Nat) (c : Ce) (cs : List Ce) : ldO false sz (some (c :: cs)) = True := by simp [ldO]
theorem ld_ot (sz : Nat) (cs : List Ce) : ldO true sz (some cs) = (sz ≤ cs.length) := rfl
theorem ld_vf (sz : Nat) (c : Ce) (cs : List Ce) : ldV false sz (some (c :: cs)) = .one c := rfl
theorem ld_vt (sz : Nat) (cs : List Ce) : ldV true sz (some cs) = .agg (cs.take sz) := rfl
theorem ac_ptr (y : Nat × Nat) (off : Nat) : acells s (.ptr y off) = (match s.v y with | some cs => some (cs.drop off) | none => none) := rfl
theorem ac_rel (r : Nat × Nat) (ver j : Nat) : acells s (.rel r ver j) = (match s.r r with | some row => if row.ver = ver then some ((row.cells.drop j).map .dt) else none | none => none) := rfl
theorem fo_ptr (o : Nat) (y : Nat × Nat) (off : Nat) : fldO s (some o) (.ptr y off) = True := rfl
theorem fo_el (o : Nat) (ds : List Dt) : fldO s (some o) (.el ds) = (o ≤ ds.length) := rfl
theorem fv_ptr (o : Nat) (y : Nat × Nat) (off : Nat) : fldV (some o) (.ptr y off) = .ptr y (off + o) := rfl
theorem fv_el (o : Nat) (ds : List Dt) : fldV (some o) (.el ds) = .el (ds.drop o) := rfl
theorem io_row (sz : Nat) (r : Nat × Nat) (ver : Nat) : idxO s sz (.one (.row r ver)) (.one (.dt (.lit (.int k x)))) = (match s.r r with | some row => row.ver = ver ∧ 0 ≤ x ∧ x < row.n | none => False) := rfl
theorem iv_row (sz : Nat) (r : Nat × Nat) (ver : Nat) : idxV sz (.one (.row r ver)) (.one (.dt (.lit (.int k x)))) = .rel r ver (x.toNat * sz) := rfl
theorem xo (rs : List RV) (j : Nat) : extO (.tup rs) j = (j < rs.length) := rfl
theorem xv (rs : List RV) (j : Nat) : extV (.tup rs) j = (match rs[j]? with | some r => r.toAV | none => .no) := rfl
theorem lo_z : lenO s (.one .z) = True := rfl
theorem lv_z : lenV s (.one .z) = (.one (.dt (.lit (.int .i64 0)))) := rfl
theorem lo_row (r : Nat × Nat) (ver : Nat) : lenO s (.one (.row r ver)) = (match s.r r with | some row => row.ver = ver | none => False) := rfl
theorem lv_row (r : Nat × Nat) (ver : Nat) : lenV s (.one (.row r ver)) = (match s.r r with | some row => (.one (.dt (.lit (.int .i64 row.n)))) | none => .no) := rfl
theorem mo : mxO (.one (.dt (.lit (.int k x)))) (.one (.dt (.lit (.int k' y)))) = (k = k') := rfl
theorem mv (f : Int → Int → Int) : mxV f (.one (.dt (.lit (.int k x)))) (.one (.dt (.lit (.int k' y)))) = (.one (.dt (.lit (.int k (f x y))))) := rfl
theorem st_ptr (cs : List Ce) (y : Nat × Nat) (off : Nat) : stO s cs (.ptr y off) = (match s.v y with | some cs0 => s.f y = false ∧ off + cs.length ≤ cs0.length | none => False) := rfl
theorem ss_ptr (cs : List Ce) (y : Nat × Nat) (off : Nat) : stS s cs (.ptr y off) = (match s.v y with | some cs0 => s.setv y (cs0.take off ++ cs ++ cs0.drop (off + cs.length)) | none => s) := rfl
theorem st_rel (d : Dt) (r : Nat × Nat) (ver j : Nat) : stO s [.dt d] (.rel r ver j) = (match s.r r with | some row => row.ver = ver ∧ row.live = true ∧ [Ce.dt d].length = 1 ∧ j < row.n * row.sz | none => False) := by
  simp only [stO, ceDs, ceD]
  cases s.r r <;> rfl
theorem ss_rel (d : Dt) (r : Nat × Nat) (ver j : Nat) : stS s [.dt d] (.rel r ver j) = (match s.r r with | some row => s.setr r { row with cells := row.cells.set j d } | none => s) := by
  simp only [stS, ceDs, ceD]
  cases s.r r <;> rfl
theorem td_dt (d : Dt) : toD s (.dt d) = some d := rfl
theorem td_z : toD s .z = some (.sl 0 []) := rfl
theorem td_row (r : Nat × Nat) (ver : Nat) : toD s (.row r ver) = (match s.r r with | some row => if row.ver = ver ∧ row.live = false then some (.sl row.n row.cells) else none | none => none) := rfl
theorem tds_nil : toDs s [] = some [] := rfl
theorem tds_cons (c : Ce) (cs : List Ce) : toDs s (c :: cs) = (match toD s c, toDs s cs with | some d, some ds => some (d :: ds) | _, _ => none) := rfl
theorem tr_one (c : Ce) : toRV s (.one c) = (toD s c).map .one := rfl
theorem tr_agg (cs : List Ce) : toRV s (.agg cs) = (toDs s cs).map .agg := rfl
theorem trs_nil : toRVs s [] = some [] := rfl
theorem trs_cons (u : AV) (us : List AV) : toRVs s (u :: us) = (match toRV s u, toRVs s us with | some r, some rs => some (r :: rs) | _, _ => none) := rfl
theorem ev_nil' : evs s [] = [] := rfl
theorem ev_cons (u : Operand) (us : List Operand) : evs s (u :: us) = s.ev u :: evs s us := rfl
theorem pr_nil : pairs s [] = [] := rfl
theorem pr_cons (i : Nat) (u : Operand) (us : List (Nat × Operand)) : pairs s ((i, u) :: us) = (i, s.ev u) :: pairs s us := rfl
theorem fl_nil (pl : Nat → Option (Nat × Nat)) (cells : List Ce) : fillA pl cells [] = some cells := rfl
theorem fl_cons (pl : Nat → Option (Nat × Nat)) (cells : List Ce) (i : Nat) (u : AV) (us : List (Nat × AV)) : fillA pl cells ((i, u) :: us) = (match pl i, cellsOf u with | some (off, size), some cs => if cs.length = size ∧ off + size ≤ cells.length then fillA pl (cells.take off ++ cs ++ cells.drop (off + size)) us else none | _, _ => none) := rfl
theorem cast0 : ((0 : Nat) : Int) = 0 := rfl
theorem ap_o (e : TypeId) (sz bytes m ver : Nat) (cells : List Dt) (r : Nat × Nat) : appO s e sz bytes (some (m, cells)) (.one (.row r ver)) = (match s.r r with | some row => row.ver = ver ∧ row.live = true ∧ row.e = e ∧ row.sz = sz ∧ cells.length = m * sz ∧ row.n + m ≤ 9223372036854775807 ∧ (row.n + m) * bytes ≤ 140737488355328 | none => False) := by
  simp only [appO]
  cases s.r r <;> rfl
theorem ap_s (d : Nat) (e : TypeId) (sz m ver : Nat) (cells : List Dt) (r : Nat × Nat) : appS s d e sz (some (m, cells)) (.one (.row r ver)) = (match s.r r with | some row => (s.setr r { row with n := row.n + m, cells := row.cells ++ cells, ver := ver + 1 }).set d (.one (.row r (ver + 1))) | none => s) := by
  simp only [appS]
  cases s.r r <;> rfl
theorem tn_p (i : Nat) : ((i : Int) + 1).toNat = i + 1 := by omega
theorem tn_m (i : Nat) : ((i : Int) - 1).toNat = i - 1 := by omega
theorem tn_a (i j : Nat) : ((i : Int) + (j : Int)).toNat = i + j := by omega
theorem castS (i : Nat) : ((i + 1 : Nat) : Int) = (i : Int) + 1 := rfl
theorem rs_nil (P : Program) : resRs P s [] [] = True := rfl
theorem rs_cons (P : Program) (u : ResultVar) (us : List ResultVar) (r : RV) (rs : List RV) : resRs P s (u :: us) (r :: rs) = (resR P s u r ∧ resRs P s us rs) := rfl
theorem rr_tmp (P : Program) (t : Nat) (r : RV) : resR P s (.tmp t) r = (toRV s (s.t t) = some r) := rfl
theorem rr_cell (P : Program) (t : Nat) (T : TypeId) (r : RV) : resR P s (.cell t T) r = (tok P T = true ∧ ldO (tagg P T) (tsz P T) (acells s (s.t t)) ∧ toRV s (ldV (tagg P T) (tsz P T) (acells s (s.t t))) = some r) := rfl
theorem f_ret (P : Program) (res : List ResultVar) (rs : List RV) (h : resRs P s res rs) : fend P res rs .ret s := ⟨[], h⟩
theorem f_retg (P : Program) (res : List ResultVar) (rs : List RV) (gs : List Gh) (h : ghs gs (fun s => resRs P s res rs) s) : fend P res rs .ret s := ⟨gs, h⟩
theorem gh_frz (t : Nat) : ghE (.frz t) s = (match s.t t with | .one (.row r _) => s.freeze r | _ => s) := rfl
theorem gh_frzc (t i : Nat) : ghE (.frzc t i) s = (match s.t t with | .ptr xx _ => (match s.v xx with | some cs => frzC s cs[i]? | none => s) | _ => s) := rfl
theorem gh_frzv (t : Nat) : ghE (.frzv t) s = (match s.t t with | .ptr xx _ => (match s.v xx with | some _ => s.freezev xx | none => s) | .sv xx _ _ => (match s.v xx with | some _ => s.freezev xx | none => s) | _ => s) := rfl
theorem io_sv (sz : Nat) (xx : Nat × Nat) (off n : Nat) : idxO s sz (.sv xx off n) (.one (.dt (.lit (.int k x)))) = (sz = 1 ∧ 0 ≤ x ∧ x < n) := rfl
theorem iv_sv (sz : Nat) (xx : Nat × Nat) (off n : Nat) : idxV sz (.sv xx off n) (.one (.dt (.lit (.int k x)))) = .ptr xx (off + x.toNat) := rfl
theorem lo_sv (xx : Nat × Nat) (off n : Nat) : lenO s (.sv xx off n) = True := rfl
theorem lv_sv (xx : Nat × Nat) (off n : Nat) : lenV s (.sv xx off n) = (.one (.dt (.lit (.int .i64 n)))) := rfl
theorem cs_a (xx : Nat × Nat) (off n : Nat) : cutO 1 none (some (.one (.dt (.lit (.int k x))))) none (.sv xx off n) = (0 ≤ x ∧ x ≤ n) := by
  simp [cutO, bnd]
theorem cs_b (xx : Nat × Nat) (off n : Nat) : cutO 1 (some (.one (.dt (.lit (.int k x))))) (some (.one (.dt (.lit (.int k' y))))) none (.sv xx off n) = (0 ≤ x ∧ x ≤ y ∧ y ≤ n) := by
  simp [cutO, bnd]
theorem cs_c (xx : Nat × Nat) (off n : Nat) : cutV 1 none (some (.one (.dt (.lit (.int k x))))) (.sv xx off n) = .sv xx off x.toNat := by
  simp [cutV, bnd]
theorem cs_d (xx : Nat × Nat) (off n : Nat) : cutV 1 (some (.one (.dt (.lit (.int k x))))) (some (.one (.dt (.lit (.int k' y))))) (.sv xx off n) = .sv xx (off + x.toNat) (y.toNat - x.toNat) := by
  simp [cutV, bnd]
theorem tr_sv (xx : Nat × Nat) (off n : Nat) : toRV s (.sv xx off n) = (match s.v xx with | some cs => if s.f xx = true ∧ off + n ≤ cs.length then (ceDs cs).map fun ds => .one (.sl n ((ds.drop off).take n)) else none | none => none) := rfl
theorem f_retw (P : Program) (res : List ResultVar) (l' : List Int) (rs : List RV) (h : resRs P s res rs ∧ s.v (0, 0) = some (u32s l')) : fendW P res l' rs .ret s := h
theorem f_nrmw (P : Program) (res : List ResultVar) (l' : List Int) (rs : List RV) (h : resRs P s res rs ∧ s.v (0, 0) = some (u32s l')) : fendW P res l' rs .normal s := h
theorem f_reto (res : List ResultVar) (l : List Int) (t : Nat) (r : Nat × Nat) (ver : Nat) (row : Row) (h0 : res = [.tmp t]) (h1 : s.t t = .one (.row r ver)) (h2 : s.r r = some row) (h3 : row.ver = ver ∧ row.sz = 1 ∧ row.n = l.length ∧ row.cells = l.map (fun n => Dt.lit (.int .u32 n)) ∧ l ≠ []) : fendO res l .ret s := ⟨t, r, ver, row, h0, h1, h2, h3⟩
theorem six_o (b : ByteArray) : sixO (.one (.dt (.lit (.string b)))) (.one (.dt (.lit (.int k x)))) = (0 ≤ x ∧ x < b.size) := rfl
theorem six_v (b : ByteArray) : sixV (.one (.dt (.lit (.string b)))) (.one (.dt (.lit (.int k x)))) = (.one (.dt (.lit (.int .u8 (sbyte b x))))) := rfl
theorem xo_pr (cs : List Ce) (c : Ce) (j : Nat) : extO (.pr cs c) j = (j < 2) := rfl
theorem xv_pr0 (cs : List Ce) (c : Ce) : extV (.pr cs c) 0 = .agg cs := rfl
theorem xv_pr1 (cs : List Ce) (c : Ce) : extV (.pr cs c) 1 = .one c := rfl
theorem so_str (b : ByteArray) : strOf (.one (.dt (.lit (.string b)))) = some b := rfl
theorem lit_v (v : Value) : litV v = .one (.dt (.lit v)) := rfl
theorem gh_nilt (t : Nat) (e : TypeId) (sz : Nat) : ghE (.nilt t e sz) s = ((s.setr (t, s.g t) ⟨e, sz, 0, [], 0, true⟩).bump t).set t (.one (.row (t, s.g t) 0)) := rfl
theorem gh_nilv (t i k : Nat) (e : TypeId) (sz : Nat) : ghE (.nilv t i k e sz) s = (match s.t t with | .ptr xx _ => (match s.v xx with | some cs => ((s.setr (k, s.g k) ⟨e, sz, 0, [], 0, true⟩).bump k).setv xx (cs.set i (.row (k, s.g k) 0)) | none => s) | _ => s) := rfl
theorem go_nilv (t i k : Nat) (e : TypeId) (sz : Nat) : ghO (.nilv t i k e sz) s = (match s.t t with | .ptr xx _ => s.f xx = false ∧ (match s.v xx with | some cs => cs[i]? = some .z | none => False) | _ => False) := rfl
theorem frzC_row (r : Nat × Nat) (v : Nat) : frzC s (some (.row r v)) = s.freeze r := rfl
theorem frzC_z : frzC s (some .z) = s := rfl
theorem frzC_dt (d : Dt) : frzC s (some (.dt d)) = s := rfl
theorem go_frz (t : Nat) : ghO (.frz t) s = True := rfl
theorem go_frzc (t i : Nat) : ghO (.frzc t i) s = True := rfl
theorem go_frzv (t : Nat) : ghO (.frzv t) s = True := rfl
theorem go_nilt (t : Nat) (e : TypeId) (sz : Nat) : ghO (.nilt t e sz) s = (match s.t t with | .one .z => True | _ => False) := rfl
end

/-! ### numbers -/
theorem wi64 {n : Int} (h : -9223372036854775808 ≤ n) (h' : n < 9223372036854775808) : IntKind.i64.wrap n = n := by rw [IntKind.wrap_i64]; omega
theorem wu64 {n : Int} (h : 0 ≤ n) (h' : n < 18446744073709551616) : IntKind.u64.wrap n = n := by rw [IntKind.wrap_u64]; omega
theorem and_m32 {n : Int} (h : 0 ≤ n) (h' : n < 18446744073709551616) : bits .and .u64 n 4294967295 = n % 4294967296 := by
  have := bits_mask .u64 64 (by decide) (fun n h1 h2 => wu64 h1 (by simpa using h2)) 32 (by decide) n h (by simpa using h')
  simpa using this
theorem shr_32 (n : Int) : shr .u64 n 32 = n / 4294967296 := by
  unfold shr
  rw [show (2 : Int) ^ (min (Int.toNat 32) IntKind.u64.bits) = 4294967296 from rfl, Int.fdiv_eq_ediv_of_nonneg _ (by decide)]
theorem shl_32 {n : Int} (h : 0 ≤ n) (h' : n < 4294967296) : shl .u64 n 32 = n * 4294967296 := by
  unfold shl
  rw [show (2 : Int) ^ (min (Int.toNat 32) IntKind.u64.bits) = 4294967296 from rfl, wu64 (by omega) (by omega)]
theorem or_hi {r a : Int} (h : 0 ≤ r) (h1 : r < 4294967296) (h2 : 0 ≤ a) (h3 : a < 4294967296) : bits .or .u64 (r * 4294967296) a = r * 4294967296 + a := by
  have := bits_join .u64 64 (by decide) (fun n h1 h2 => wu64 h1 (by simpa using h2)) 32 (r * 4294967296) a (by omega) (by simp) (by simp; omega) h2 (by simpa using h3) (by simp; omega)
  exact this
theorem td_nn {x y : Int} (h : 0 ≤ x) : x.tdiv y = x / y := Int.tdiv_eq_ediv_of_nonneg h
theorem tm_nn {x y : Int} (h : 0 ≤ x) : x.tmod y = x % y := Int.tmod_eq_emod_of_nonneg h
theorem wu32 {n : Int} (h : 0 ≤ n) (h' : n < 4294967296) : IntKind.u32.wrap n = n := by rw [IntKind.wrap_u32]; omega

/-! ### rows of data -/
section
variable {α : Type}
/-- a row of things, each of which is some cells -/
def rowC (f : α → List Dt) (l : List α) : List Dt := l.flatMap f
def rowD (f : α → List Dt) (l : List α) : Dt := .sl l.length (rowC f l)
variable {f : α → List Dt} {sz : Nat}
theorem rowC_len (hf : ∀ x, (f x).length = sz) (l : List α) : (rowC f l).length = l.length * sz := by
  unfold rowC
  induction l with
  | nil => simp
  | cons x l ih => simp [ih, hf, Nat.add_mul]; omega
theorem rowC_drop (hf : ∀ x, (f x).length = sz) (l : List α) (i : Nat) : (rowC f l).drop (i * sz) = rowC f (l.drop i) := by
  unfold rowC
  induction l generalizing i with
  | nil => simp
  | cons x l ih =>
    cases i with
    | zero => simp
    | succ i =>
      have e : (i + 1) * sz = sz + i * sz := by rw [Nat.add_mul]; omega
      rw [List.flatMap_cons, e, ← hf x, List.drop_append, hf x]
      simp [ih, hf]
theorem rowC_take (hf : ∀ x, (f x).length = sz) (l : List α) (i : Nat) : (rowC f l).take (i * sz) = rowC f (l.take i) := by
  unfold rowC
  induction l generalizing i with
  | nil => simp
  | cons x l ih =>
    cases i with
    | zero => simp
    | succ i =>
      have e : (i + 1) * sz = (f x).length + i * sz := by rw [Nat.add_mul, hf]; omega
      rw [List.flatMap_cons, e, List.take_append, List.take_succ_cons, List.flatMap_cons]
      have : (f x).take ((f x).length + i * sz) = f x := List.take_of_length_le (by omega)
      rw [this, Nat.add_sub_cancel_left, ih]
theorem rowC_at (hf : ∀ x, (f x).length = sz) (l : List α) (d0 : α) (i : Nat) (h : i < l.length) : ((rowC f l).drop (i * sz)).take sz = f (l.getD i d0) := by
  rw [rowC_drop hf]
  have hd : l.drop i = l[i] :: l.drop (i + 1) := List.drop_eq_getElem_cons h
  rw [hd]
  unfold rowC
  rw [List.flatMap_cons, List.take_append]
  have : (f l[i]).take sz = f l[i] := List.take_of_length_le (by rw [hf]; omega)
  rw [this, hf, Nat.sub_self, List.take_zero, List.append_nil]
  simp [List.getD_eq_getElem?_getD, h]
theorem io_rowD {s : AS} {k : IntKind} {x : Int} (hf : ∀ x, (f x).length = sz) (hz : 0 < sz) (l : List α) : idxO s sz (.one (.dt (rowD f l))) (.one (.dt (.lit (.int k x)))) = (0 ≤ x ∧ x < l.length) := by
  show (0 ≤ x ∧ x < (l.length : Int) ∧ (rowC f l).length = l.length * sz ∧ 0 < sz) = _
  simp [rowC_len hf, hz]
theorem iv_rowD {k : IntKind} {x : Int} (hf : ∀ x, (f x).length = sz) (l : List α) (d0 : α) (h : 0 ≤ x) (h' : x < l.length) : idxV sz (.one (.dt (rowD f l))) (.one (.dt (.lit (.int k x)))) = .el (f (l.getD x.toNat d0)) := by
  show AV.el (((rowC f l).drop (x.toNat * sz)).take sz) = _
  rw [rowC_at hf l d0 _ (by omega)]
theorem rowD_of (l : List α) (n : Nat) (h : n = l.length) : Dt.sl n (rowC f l) = rowD f l := by rw [h]; rfl
/-- cuts of rows -/
def cutP (a b c : Option Int) (q : Prop) (n : Nat) : Prop := match a, b, c with
  | some i, some j, some m => (0 ≤ i ∧ i ≤ j ∧ j ≤ m ∧ m ≤ n) ∧ q
  | _, _, _ => False
theorem cp_some {i j m : Int} {q : Prop} {n : Nat} (h : 0 ≤ i) (h1 : i ≤ j) (h2 : j ≤ m) (h3 : m ≤ n) : cutP (some i) (some j) (some m) q n = q := by simp [cutP, h, h1, h2, h3]
def cutW (a b : Option Int) (l : List α) (f : α → List Dt) : AV := match a, b with
  | some i, some j => .one (.dt (.sl (j.toNat - i.toNat) (((rowC f l).take (j.toNat)).drop (i.toNat))))
  | _, _ => .no
theorem cut_p {lo hi mx : Option AV} (hf : ∀ x, (f x).length = 1) (l : List α) : cutO 1 lo hi mx (.one (.dt (rowD f l))) = cutP (bnd lo 0) (bnd hi l.length) (bnd mx l.length) (mx.isSome = true → hi.isSome = true) l.length := by
  show (match bnd lo 0, bnd hi l.length, bnd mx l.length with
    | some i, some j, some m => 0 ≤ i ∧ i ≤ j ∧ j ≤ m ∧ m ≤ (l.length : Int) ∧ (rowC f l).length = l.length * 1 ∧ (mx.isSome = true → hi.isSome = true)
    | _, _, _ => False) = _
  unfold cutP
  cases bnd lo 0 <;> cases bnd hi l.length <;> cases bnd mx l.length <;> simp [rowC_len hf, and_assoc]
theorem cut_w {lo hi : Option AV} (_hf : ∀ x, (f x).length = 1) (l : List α) : cutV 1 lo hi (.one (.dt (rowD f l))) = cutW (bnd lo 0) (bnd hi l.length) l f := by
  show (match bnd lo 0, bnd hi l.length with
    | some i, some j => AV.one (.dt (.sl (j.toNat - i.toNat) (((rowC f l).take (j.toNat * 1)).drop (i.toNat * 1))))
    | _, _ => .no) = _
  unfold cutW
  cases bnd lo 0 <;> cases bnd hi l.length <;> simp
theorem cut_y (hf : ∀ x, (f x).length = 1) (l : List α) {i j : Int} (h : 0 ≤ i) (h1 : i ≤ j) (h2 : j ≤ l.length) : cutW (some i) (some j) l f = .one (.dt (rowD f ((l.take j.toNat).drop i.toNat))) := by
  unfold cutW
  have e1 := rowC_take hf l j.toNat
  have e2 := rowC_drop hf (l.take j.toNat) i.toNat
  rw [Nat.mul_one] at e1 e2
  simp only [e1, e2]
  rw [rowD_of _ _ (by simp; omega)]
theorem bnd_n (d : Int) : bnd none d = some d := rfl
theorem bnd_s (k : IntKind) (i d : Int) : bnd (some (.one (.dt (.lit (.int k i))))) d = some i := rfl
end

/-- machine words -/
def u32c (n : Int) : List Dt := [.lit (.int .u32 n)]
def i64c (n : Int) : List Dt := [.lit (.int .i64 n)]
theorem u32c_len (n : Int) : (u32c n).length = 1 := rfl
theorem i64c_len (n : Int) : (i64c n).length = 1 := rfl
/-- a row of limbs, as data -/
def natD (l : List Int) : Dt := rowD u32c l
def natC (l : List Int) : List Dt := rowC u32c l
def natc (l : List Int) : List Dt := [natD l]
theorem natc_len (l : List Int) : (natc l).length = 1 := rfl
def intsD (l : List Int) : Dt := rowD i64c l
def intsC (l : List Int) : List Dt := rowC i64c l
def natsD (l : List (List Int)) : Dt := rowD natc l
def natsC (l : List (List Int)) : List Dt := rowC natc l
section
variable {s : AS} {k : IntKind} {x : Int}

theorem io_natD (l : List (Int)) (h : 0 ≤ x) (h' : x < l.length) : idxO s 1 (.one (.dt (natD l))) (.one (.dt (.lit (.int k x)))) = True := by
  rw [show natD l = rowD u32c l from rfl, io_rowD u32c_len (by decide) l]; simp [h, h']
theorem co_natD {lo hi mx : Option AV} (l : List (Int)) : cutO 1 lo hi mx (.one (.dt (natD l))) = cutP (bnd lo 0) (bnd hi l.length) (bnd mx l.length) (mx.isSome = true → hi.isSome = true) l.length := cut_p u32c_len l
theorem cv_natD {lo hi : Option AV} (l : List (Int)) : cutV 1 lo hi (.one (.dt (natD l))) = cutW (bnd lo 0) (bnd hi l.length) l u32c := cut_w u32c_len l
theorem cw_natD {i j : Int} (l : List (Int)) (h : 0 ≤ i) (h1 : i ≤ j) (h2 : j ≤ l.length) : cutW (some i) (some j) l u32c = .one (.dt (natD ((l.take j.toNat).drop i.toNat))) := cut_y u32c_len l h h1 h2
theorem iv_natD (l : List (Int)) (h : 0 ≤ x) (h' : x < l.length) : idxV 1 (.one (.dt (natD l))) (.one (.dt (.lit (.int k x)))) = .el (u32c (l.getD x.toNat 0)) := iv_rowD u32c_len l 0 h h'
theorem lo_natD (l : List (Int)) : lenO s (.one (.dt (natD l))) = True := rfl
theorem lv_natD (l : List (Int)) : lenV s (.one (.dt (natD l))) = (.one (.dt (.lit (.int .i64 l.length)))) := rfl
theorem of_natD (l : List (Int)) (n : Nat) (h : n = l.length) : Dt.sl n (natC l) = natD l := rowD_of l n h
theorem len_natC (l : List (Int)) : (natC l).length = l.length := by rw [show natC l = rowC u32c l from rfl, rowC_len u32c_len]; omega
theorem src_natD (l : List (Int)) : srcD s (.one (.dt (natD l))) = some (l.length, natC l) := rfl
theorem io_intsD (l : List (Int)) (h : 0 ≤ x) (h' : x < l.length) : idxO s 1 (.one (.dt (intsD l))) (.one (.dt (.lit (.int k x)))) = True := by
  rw [show intsD l = rowD i64c l from rfl, io_rowD i64c_len (by decide) l]; simp [h, h']
theorem co_intsD {lo hi mx : Option AV} (l : List (Int)) : cutO 1 lo hi mx (.one (.dt (intsD l))) = cutP (bnd lo 0) (bnd hi l.length) (bnd mx l.length) (mx.isSome = true → hi.isSome = true) l.length := cut_p i64c_len l
theorem cv_intsD {lo hi : Option AV} (l : List (Int)) : cutV 1 lo hi (.one (.dt (intsD l))) = cutW (bnd lo 0) (bnd hi l.length) l i64c := cut_w i64c_len l
theorem cw_intsD {i j : Int} (l : List (Int)) (h : 0 ≤ i) (h1 : i ≤ j) (h2 : j ≤ l.length) : cutW (some i) (some j) l i64c = .one (.dt (intsD ((l.take j.toNat).drop i.toNat))) := cut_y i64c_len l h h1 h2
theorem iv_intsD (l : List (Int)) (h : 0 ≤ x) (h' : x < l.length) : idxV 1 (.one (.dt (intsD l))) (.one (.dt (.lit (.int k x)))) = .el (i64c (l.getD x.toNat 0)) := iv_rowD i64c_len l 0 h h'
theorem lo_intsD (l : List (Int)) : lenO s (.one (.dt (intsD l))) = True := rfl
theorem lv_intsD (l : List (Int)) : lenV s (.one (.dt (intsD l))) = (.one (.dt (.lit (.int .i64 l.length)))) := rfl
theorem of_intsD (l : List (Int)) (n : Nat) (h : n = l.length) : Dt.sl n (intsC l) = intsD l := rowD_of l n h
theorem len_intsC (l : List (Int)) : (intsC l).length = l.length := by rw [show intsC l = rowC i64c l from rfl, rowC_len i64c_len]; omega
theorem src_intsD (l : List (Int)) : srcD s (.one (.dt (intsD l))) = some (l.length, intsC l) := rfl
theorem io_natsD (l : List (List Int)) (h : 0 ≤ x) (h' : x < l.length) : idxO s 1 (.one (.dt (natsD l))) (.one (.dt (.lit (.int k x)))) = True := by
  rw [show natsD l = rowD natc l from rfl, io_rowD natc_len (by decide) l]; simp [h, h']
theorem co_natsD {lo hi mx : Option AV} (l : List (List Int)) : cutO 1 lo hi mx (.one (.dt (natsD l))) = cutP (bnd lo 0) (bnd hi l.length) (bnd mx l.length) (mx.isSome = true → hi.isSome = true) l.length := cut_p natc_len l
theorem cv_natsD {lo hi : Option AV} (l : List (List Int)) : cutV 1 lo hi (.one (.dt (natsD l))) = cutW (bnd lo 0) (bnd hi l.length) l natc := cut_w natc_len l
theorem cw_natsD {i j : Int} (l : List (List Int)) (h : 0 ≤ i) (h1 : i ≤ j) (h2 : j ≤ l.length) : cutW (some i) (some j) l natc = .one (.dt (natsD ((l.take j.toNat).drop i.toNat))) := cut_y natc_len l h h1 h2
theorem iv_natsD (l : List (List Int)) (h : 0 ≤ x) (h' : x < l.length) : idxV 1 (.one (.dt (natsD l))) (.one (.dt (.lit (.int k x)))) = .el (natc (l.getD x.toNat [])) := iv_rowD natc_len l [] h h'
theorem lo_natsD (l : List (List Int)) : lenO s (.one (.dt (natsD l))) = True := rfl
theorem lv_natsD (l : List (List Int)) : lenV s (.one (.dt (natsD l))) = (.one (.dt (.lit (.int .i64 l.length)))) := rfl
theorem of_natsD (l : List (List Int)) (n : Nat) (h : n = l.length) : Dt.sl n (natsC l) = natsD l := rowD_of l n h
theorem len_natsC (l : List (List Int)) : (natsC l).length = l.length := by rw [show natsC l = rowC natc l from rfl, rowC_len natc_len]; omega
theorem src_natsD (l : List (List Int)) : srcD s (.one (.dt (natsD l))) = some (l.length, natsC l) := rfl

theorem ac_u32 (n : Int) : acells s (.el (u32c n)) = some [.dt (.lit (.int .u32 n))] := rfl
theorem ac_i64 (n : Int) : acells s (.el (i64c n)) = some [.dt (.lit (.int .i64 n))] := rfl
theorem ac_nat (l : List Int) : acells s (.el (natc l)) = some [.dt (natD l)] := rfl
end
theorem natC_map (l : List Int) : natC l = l.map fun n => .lit (.int .u32 n) := by
  unfold natC rowC u32c
  induction l with
  | nil => rfl
  | cons x l ih => simp only [List.flatMap_cons, ih]; rfl
theorem natC_set (l : List Int) (i : Nat) (x : Int) : (natC l).set i (.lit (.int .u32 x)) = natC (l.set i x) := by simp only [natC_map, List.map_set]
theorem natC_copy (a b : List Int) (i : Nat) : (natC a).take i ++ (natC b).drop i = natC (a.take i ++ b.drop i) := by simp only [natC_map, List.map_append, List.map_take, List.map_drop]
theorem natC_get (l : List Int) (i : Nat) (h : i < l.length) : ((natC l).drop i).map Ce.dt = .dt (.lit (.int .u32 (l.getD i 0))) :: ((natC l).drop (i + 1)).map Ce.dt := by
  simp only [natC_map, ← List.map_drop]
  rw [List.drop_eq_getElem_cons h, List.map_cons, List.map_cons]
  simp [List.getD_eq_getElem?_getD, h]
theorem lo_rel (sz : Nat) (l : List Int) (i : Nat) (h : i < l.length) : ldO false sz (some (((natC l).drop i).map Ce.dt)) = True := by rw [natC_get l i h]; simp [ldO]
theorem lv_rel (sz : Nat) (l : List Int) (i : Nat) (h : i < l.length) : ldV false sz (some (((natC l).drop i).map Ce.dt)) = .one (.dt (.lit (.int .u32 (l.getD i 0)))) := by rw [natC_get l i h]; rfl
theorem mk_o {b : Nat} {z : Dt} {n m : Int} {k k' : IntKind} (h : 0 ≤ n) (h0 : n ≤ m) (h' : (b : Int) * m ≤ 281474976710656) (h2 : m ≤ 9223372036854775807) : mkO b (some [.dt z]) (.one (.dt (.lit (.int k n)))) (.one (.dt (.lit (.int k' m)))) = True := by
  simp [mkO, h, h0, h', h2, ceDs, ceD]
theorem mk_s {s : AS} {k : IntKind} (d : Nat) (e : TypeId) (n : Int) : mkS s d e (some [.dt (.lit (.int .u32 0))]) (.one (.dt (.lit (.int k n)))) = ((s.setr (d, s.g d) ⟨e, 1, n.toNat, natC (List.replicate n.toNat 0), 0, true⟩).bump d).set d (.one (.row (d, s.g d) 0)) := by
  simp [mkS, ceDs, ceD, natC_map]
theorem cp_o {s : AS} (m ver : Nat) (cells : List Dt) (r : Nat × Nat) : cpO s (some (m, cells)) (.one (.row r ver)) = (match s.r r with | some row => row.ver = ver ∧ row.live = true ∧ row.sz = 1 ∧ cells.length = m | none => False) := by
  simp only [cpO]
  cases s.r r <;> rfl
theorem cp_s {s : AS} (d : Option Nat) (m ver : Nat) (cells : List Dt) (r : Nat × Nat) : cpS s d (some (m, cells)) (.one (.row r ver)) = (match s.r r with | some row => (s.setr r { row with cells := cells.take (min m row.n) ++ row.cells.drop (min m row.n) }).put d (litV (.int .i64 (min m row.n : Nat))) | none => s) := by
  simp only [cpS]
  cases s.r r <;> rfl
theorem natC_rep (n : Nat) : List.replicate n (Dt.lit (.int .u32 0)) = natC (List.replicate n 0) := by simp only [natC_map, List.map_replicate]
theorem intsC_map (l : List Int) : intsC l = l.map fun n => .lit (.int .i64 n) := by
  unfold intsC rowC i64c
  induction l with
  | nil => rfl
  | cons x l ih => simp only [List.flatMap_cons, ih]; rfl
theorem natC_app1 (l : List Int) (x : Int) : natC l ++ [.lit (.int .u32 x)] = natC (l ++ [x]) := by unfold natC rowC u32c; simp
theorem intsC_app1 (l : List Int) (x : Int) : intsC l ++ [.lit (.int .i64 x)] = intsC (l ++ [x]) := by unfold intsC rowC i64c; simp
theorem natsC_app1 (l : List (List Int)) (x : List Int) : natsC l ++ [natD x] = natsC (l ++ [x]) := by unfold natsC rowC natc; simp
theorem u32s_nat (l : List Int) : u32s l = (natC l).map Ce.dt := by simp only [u32s, natC_map, List.map_map]; rfl
theorem us_len (l : List Int) : (u32s l).length = l.length := by simp [u32s]
theorem us_ds (l : List Int) : ceDs (u32s l) = some (natC l) := by
  rw [u32s_nat]
  induction natC l with
  | nil => rfl
  | cons d ds ih => simp only [List.map_cons, ceDs, ceD, ih]
theorem us_lo (sz : Nat) (l : List Int) (i : Nat) (h : i < l.length) : ldO false sz (some ((u32s l).drop i)) = True := by rw [u32s_nat, ← List.map_drop]; exact lo_rel sz l i h
theorem us_lv (sz : Nat) (l : List Int) (i : Nat) (h : i < l.length) : ldV false sz (some ((u32s l).drop i)) = .one (.dt (.lit (.int .u32 (l.getD i 0)))) := by rw [u32s_nat, ← List.map_drop]; exact lv_rel sz l i h
theorem us_set (l : List Int) (i : Nat) (x : Int) (h : i < l.length) : (u32s l).take i ++ [.dt (.lit (.int .u32 x))] ++ (u32s l).drop (i + 1) = u32s (l.set i x) := by
  unfold u32s
  rw [List.map_set, List.set_eq_take_append_cons_drop, if_pos (by simpa using h)]
  simp
theorem us_cut (l : List Int) (o n : Nat) : ((natC l).drop o).take n = natC ((l.drop o).take n) := by simp only [natC_map, List.map_drop, List.map_take]
theorem natC_nil : natC [] = [] := rfl
theorem intsC_nil : intsC [] = [] := rfl
theorem intsC_set (l : List Int) (i : Nat) (x : Int) : (intsC l).set i (.lit (.int .i64 x)) = intsC (l.set i x) := by simp only [intsC_map, List.map_set]
theorem i64s_ints (l : List Int) : i64s l = intsC l := (intsC_map l).symm
theorem natsC_nil : natsC [] = [] := rfl
theorem W : (∀ {s : AS} (t : Nat), s.ev (.tmp t) = s.t t) ∧
  (∀ {s : AS} (k : IntKind) (n : Int), s.ev (.const (.int k n)) = .one (.dt (.lit (.int k n)))) ∧
  (∀ {s : AS} (b : Bool), s.ev (.const (.bool b)) = .one (.dt (.lit (.bool b)))) ∧
  (∀ {s : AS} (b : ByteArray), s.ev (.const (.string b)) = .one (.dt (.lit (.string b)))) ∧
  (∀ {s : AS}, s.ev (.const (.slice none 0 0)) = .one .z) ∧
  (∀ {s : AS} (d n : Nat) (x : AV), (s.set d x).t n = if n = d then x else s.t n) ∧
  (∀ {s : AS} (d : Nat) (x : AV), (s.set d x).v = s.v) ∧
  (∀ {s : AS} (d : Nat) (x : AV), (s.set d x).r = s.r) ∧
  (∀ {s : AS} (d : Nat) (x : AV), (s.set d x).g = s.g) ∧
  (∀ {s : AS} (d : Nat) (x : AV), (s.set d x).f = s.f) ∧
  (∀ {s : AS} (y : Nat × Nat) (cs : List Ce), (s.setv y cs).t = s.t) ∧
  (∀ {s : AS} (y z : Nat × Nat) (cs : List Ce), (s.setv y cs).v z = if z = y then some cs else s.v z) ∧
  (∀ {s : AS} (y : Nat × Nat) (cs : List Ce), (s.setv y cs).r = s.r) ∧
  (∀ {s : AS} (y : Nat × Nat) (cs : List Ce), (s.setv y cs).g = s.g) ∧
  (∀ {s : AS} (y : Nat × Nat) (cs : List Ce), (s.setv y cs).f = s.f) ∧
  (∀ {s : AS} (y : Nat × Nat) (row : Row), (s.setr y row).t = s.t) ∧
  (∀ {s : AS} (y : Nat × Nat) (row : Row), (s.setr y row).v = s.v) ∧
  (∀ {s : AS} (y z : Nat × Nat) (row : Row), (s.setr y row).r z = if z = y then some row else s.r z) ∧
  (∀ {s : AS} (y : Nat × Nat) (row : Row), (s.setr y row).g = s.g) ∧
  (∀ {s : AS} (y : Nat × Nat) (row : Row), (s.setr y row).f = s.f) ∧
  (∀ {s : AS} (d : Nat), (s.bump d).t = s.t) ∧
  (∀ {s : AS} (d : Nat), (s.bump d).v = s.v) ∧
  (∀ {s : AS} (d : Nat), (s.bump d).r = s.r) ∧
  (∀ {s : AS} (d n : Nat), (s.bump d).g n = if n = d then s.g n + 1 else s.g n) ∧
  (∀ {s : AS} (d : Nat), (s.bump d).f = s.f) ∧
  (∀ {s : AS} (y : Nat × Nat), (s.freeze y).t = s.t) ∧
  (∀ {s : AS} (y : Nat × Nat), (s.freeze y).v = s.v) ∧
  (∀ {s : AS} (y z : Nat × Nat), (s.freeze y).r z = if z = y then (s.r z).map (fun row => { row with live := false }) else s.r z) ∧
  (∀ {s : AS} (y : Nat × Nat), (s.freeze y).g = s.g) ∧
  (∀ {s : AS} (y : Nat × Nat), (s.freeze y).f = s.f) ∧
  (∀ {s : AS} (y : Nat × Nat), (s.freezev y).t = s.t) ∧
  (∀ {s : AS} (y : Nat × Nat), (s.freezev y).v = s.v) ∧
  (∀ {s : AS} (y : Nat × Nat), (s.freezev y).r = s.r) ∧
  (∀ {s : AS} (y : Nat × Nat), (s.freezev y).g = s.g) ∧
  (∀ {s : AS} (y z : Nat × Nat), (s.freezev y).f z = if z = y then true else s.f z) ∧
  (∀ {s : AS} (d : Nat) (x : AV), s.put (some d) x = s.set d x) ∧
  (∀ {s : AS} (x : AV), s.put none x = s) ∧
  (∀ (r : RV) (rs : List RV), (start (r :: rs)).t 0 = r.toAV) ∧
  (∀ (r r1 : RV) (rs : List RV), (start (r :: r1 :: rs)).t 1 = r1.toAV) ∧
  (∀ (r r1 r2 : RV) (rs : List RV), (start (r :: r1 :: r2 :: rs)).t 2 = r2.toAV) ∧
  (∀ (r r1 r2 r3 : RV) (rs : List RV), (start (r :: r1 :: r2 :: r3 :: rs)).t 3 = r3.toAV) ∧
  (∀ (r r1 r2 r3 r4 : RV) (rs : List RV), (start (r :: r1 :: r2 :: r3 :: r4 :: rs)).t 4 = r4.toAV) ∧
  (∀ (rs : List RV), (start rs).v = fun _ => none) ∧
  (∀ (rs : List RV), (start rs).r = fun _ => none) ∧
  (∀ (rs : List RV), (start rs).g = fun _ => 0) ∧
  (∀ (rs : List RV), (start rs).f = fun _ => false) ∧
  (∀ (l : List Int) (off n : Nat) (rs : List RV), (startw l off n rs).t 0 = .sv (0, 0) off n) ∧
  (∀ (l : List Int) (off n : Nat) (r : RV) (rs : List RV), (startw l off n (r :: rs)).t 1 = r.toAV) ∧
  (∀ (l : List Int) (off n : Nat) (r r1 : RV) (rs : List RV), (startw l off n (r :: r1 :: rs)).t 2 = r1.toAV) ∧
  (∀ (l : List Int) (off n : Nat) (r r1 r2 : RV) (rs : List RV), (startw l off n (r :: r1 :: r2 :: rs)).t 3 = r2.toAV) ∧
  (∀ (l : List Int) (off n : Nat) (rs : List RV) (y : Nat × Nat), (startw l off n rs).v y = if y = (0, 0) then some (u32s l) else none) ∧
  (∀ (l : List Int) (off n : Nat) (rs : List RV), (startw l off n rs).r = fun _ => none) ∧
  (∀ (l : List Int) (off n : Nat) (rs : List RV) (d : Nat), (startw l off n rs).g d = if d = 0 then 1 else 0) ∧
  (∀ (l : List Int) (off n : Nat) (rs : List RV), (startw l off n rs).f = fun _ => false) ∧
  (∀ (d : Dt), RV.toAV (.one d) = .one (.dt d)) ∧
  (∀ (ds : List Dt), RV.toAV (.agg ds) = .agg (ds.map .dt)) ∧
  (∀ (r : RV), resAV [r] = r.toAV) ∧
  (resAV [] = .tup []) ∧
  (∀ (r r1 : RV) (rs : List RV), resAV (r :: r1 :: rs) = .tup (r :: r1 :: rs)) ∧
  (∀ {P : Program} {K : AEx → AS → Prop} {s : AS}, awp P .skip K s = K .normal s) ∧
  (∀ {P : Program} {K : AEx → AS → Prop} {s : AS} (l : List AO), awp P (.reg l) K s = aops P true l (K .normal) s) ∧
  (∀ {P : Program} {K : AEx → AS → Prop} {s : AS} (l : List AO), awp P (.dreg l) K s = aops P false l (K .normal) s) ∧
  (∀ {P : Program} {K : AEx → AS → Prop} {s : AS} (gs : List Gh), awp P (.gh gs) K s = ghs gs (K .normal) s) ∧
  (∀ {P : Program} {K : AEx → AS → Prop} {s : AS} (x y : AC), awp P (.seq x y) K s = awp P x (AEx.then (awp P y K) K) s) ∧
  (∀ {P : Program} {K : AEx → AS → Prop} {s : AS} (id : Nat) (x : AC), awp P (.block id x) K s = awp P x (AEx.blk id K) s) ∧
  (∀ {P : Program} {K : AEx → AS → Prop} {s : AS} (id : Nat), awp P (.exit id) K s = K (.exit id) s) ∧
  (∀ {P : Program} {K : AEx → AS → Prop} {s : AS}, awp P .ret K s = K .ret s) ∧
  (∀ {K : AEx → AS → Prop} {s : AS} (y : AS → Prop), AEx.then y K .normal s = y s) ∧
  (∀ {K : AEx → AS → Prop} {s : AS} (y : AS → Prop) (id : Nat), AEx.then y K (.exit id) s = K (.exit id) s) ∧
  (∀ {K : AEx → AS → Prop} {s : AS} (y : AS → Prop), AEx.then y K .ret s = K .ret s) ∧
  (∀ {K : AEx → AS → Prop} {s : AS} (id : Nat), AEx.blk id K .normal s = K .normal s) ∧
  (∀ {K : AEx → AS → Prop} {s : AS} (id i : Nat), AEx.blk id K (.exit i) s = if i = id then K .normal s else K (.exit i) s) ∧
  (∀ {K : AEx → AS → Prop} {s : AS} (id : Nat), AEx.blk id K .ret s = K .ret s) ∧
  (∀ {P : Program} {K : AEx → AS → Prop} {s : AS} (c : Operand) (x y : AC), awp P (.cond c x y) K s = condA P (asB (s.ev c)) x y K s) ∧
  (∀ {P : Program} {K : AEx → AS → Prop} {s : AS} (x y : AC), condA P (some true) x y K s = awp P x K s) ∧
  (∀ {P : Program} {K : AEx → AS → Prop} {s : AS} (x y : AC), condA P (some false) x y K s = awp P y K s) ∧
  (∀ {Q : AS → Prop} {s : AS}, ghs [] Q s = Q s) ∧
  (∀ {Q : AS → Prop} {s : AS} (g : Gh) (gs : List Gh), ghs (g :: gs) Q s = (ghO g s ∧ ghs gs Q (ghE g s))) ∧
  (∀ {P : Program} {fl : Bool} {Q : AS → Prop} {s : AS}, aops P fl [] Q s = Q s) ∧
  (∀ {P : Program} {fl : Bool} {Q : AS → Prop} {s : AS} {os : List AO} (d : Option Nat) (x : Operand), aops P fl (⟨d, .move x, none⟩ :: os) Q s = aops P fl os Q (s.put d (s.ev x))) ∧
  (∀ {P : Program} {fl : Bool} {Q : AS → Prop} {s : AS} {os : List AO} (d : Option Nat) (x : Operand), aops P fl (⟨d, .assign x, none⟩ :: os) Q s = aops P fl os Q (s.put d (s.ev x))) ∧
  (∀ {P : Program} {fl : Bool} {Q : AS → Prop} {s : AS} {os : List AO} (d : Option Nat) (c x y : Operand), aops P fl (⟨d, .pick c x y, none⟩ :: os) Q s = (pickO (s.ev c) ∧ aops P fl os Q (s.put d (pickV (s.ev c) (s.ev x) (s.ev y))))) ∧
  (∀ {P : Program} {fl : Bool} {Q : AS → Prop} {s : AS} {os : List AO} (d : Nat) (T : TypeId), aops P fl (⟨some d, .alloc T, none⟩ :: os) Q s = (match zeros P T with
    | some cs => aops P fl os Q (((s.setv (d, s.g d) cs).bump d).set d (.ptr (d, s.g d) 0))
    | none => False)) ∧
  (∀ {P : Program} {fl : Bool} {Q : AS → Prop} {s : AS} {os : List AO} (d : Nat) (T : TypeId) (x : Operand), aops P fl (⟨some d, .box T x, none⟩ :: os) Q s = (match cellsOf (s.ev x) with
    | some cs => aops P fl os Q (((s.setv (d, s.g d) cs).bump d).set d (.ptr (d, s.g d) 0))
    | none => False)) ∧
  (∀ {P : Program} {fl : Bool} {Q : AS → Prop} {s : AS} {os : List AO} (d : Option Nat) (T : TypeId) (parts : Array (Nat × Operand)), aops P fl (⟨d, .build T parts, none⟩ :: os) Q s = (match zeros P T with
    | some cs => (tplaces P T).isSome = true ∧ match fillA (tplace P T) cs (pairs s parts.toList) with
      | some cells => aops P fl os Q (s.put d (.agg cells))
      | none => False
    | none => False)) ∧
  (∀ {P : Program} {fl : Bool} {Q : AS → Prop} {s : AS} {os : List AO} (d : Nat) (T : TypeId) (n : Nat) (parts : Array (Nat × Operand)), aops P fl (⟨some d, .buildSlice T n parts, none⟩ :: os) Q s = (match telem P T with
    | some e => (tok P e = true ∧ n * tsz P e ≤ 16777216 ∧ if n = 0 then parts.size = 0 ∧ aops P fl os Q (((s.setr (d, s.g d) ⟨e, tsz P e, 0, [], 0, true⟩).bump d).set d (.one (.row (d, s.g d) 0))) else
      match bslC s (tsz P e) n (zeros P e) parts.toList with
      | some ds => ((zeros P e).map List.length = some (tsz P e) ∧ 0 < tsz P e) ∧ aops P fl os Q (s.set d (.one (.dt (.sl n ds))))
      | none => False)
    | none => False)) ∧
  (∀ {P : Program} {fl : Bool} {Q : AS → Prop} {s : AS} {os : List AO} (d : Option Nat) (T : TypeId) (x : Operand), aops P fl (⟨d, .load T x, none⟩ :: os) Q s = ((tok P T = true ∧ ldO (tagg P T) (tsz P T) (acells s (s.ev x))) ∧ aops P fl os Q (s.put d (ldV (tagg P T) (tsz P T) (acells s (s.ev x)))))) ∧
  (∀ {P : Program} {fl : Bool} {Q : AS → Prop} {s : AS} {os : List AO} (d : Option Nat) (T : TypeId) (x y : Operand), aops P fl (⟨d, .store T x y, none⟩ :: os) Q s = (tok P T = true ∧ match cellsOf (s.ev y) with
    | some cs => (cs.length = tsz P T ∧ stO s cs (s.ev x)) ∧ aops P fl os Q ((stS s cs (s.ev x)).put d .no)
    | none => False)) ∧
  (∀ {P : Program} {fl : Bool} {Q : AS → Prop} {s : AS} {os : List AO} (d : Option Nat) (op : BinOp) (T T' : TypeId) (x y : Operand), aops P fl (⟨d, .binOp op T x y T', none⟩ :: os) Q s = (binO (tbool P T) op (s.ev x) (s.ev y) ∧ aops P fl os Q (s.put d (binV op (s.ev x) (s.ev y))))) ∧
  (∀ {P : Program} {fl : Bool} {Q : AS → Prop} {s : AS} {os : List AO} (d : Option Nat) (op : UnOp) (T : TypeId) (x : Operand), aops P fl (⟨d, .unOp op T x, none⟩ :: os) Q s = (unO op (s.ev x) ∧ aops P fl os Q (s.put d (unV op (s.ev x))))) ∧
  (∀ {P : Program} {fl : Bool} {Q : AS → Prop} {s : AS} {os : List AO} (d : Option Nat) (T : TypeId) (x i : Operand), aops P fl (⟨d, .index T x i, none⟩ :: os) Q s = ((tstr P T = true ∧ sixO (s.ev x) (s.ev i)) ∧ aops P fl os Q (s.put d (sixV (s.ev x) (s.ev i))))) ∧
  (∀ {P : Program} {fl : Bool} {Q : AS → Prop} {s : AS} {os : List AO} (d : Option Nat) (T T' : TypeId) (x : Operand), aops P fl (⟨d, .convert T T' x, none⟩ :: os) Q s = (match tstr P T' with
    | false => (((P.underlying T).isSome = true ∧ cvO (tint P T') (s.ev x)) ∧ aops P fl os Q (s.put d (cvV (tint P T') (s.ev x))))
    | true => sopA P fl ⟨d, .convert T T' x, none⟩ os Q s)) ∧
  (∀ {P : Program} {fl : Bool} {Q : AS → Prop} {s : AS} {os : List AO} (d : Nat) (T : TypeId) (l c : Operand), aops P fl (⟨some d, .makeSlice T l c, none⟩ :: os) Q s = (match telem P T with
    | some e => (tok P e = true ∧ tsz P e = 1 ∧ mkO (tbytes P e) (zeros P e) (s.ev l) (s.ev c)) ∧ aops P fl os Q (mkS s d e (zeros P e) (s.ev l))
    | none => False)) ∧
  (∀ {P : Program} {fl : Bool} {Q : AS → Prop} {s : AS} {os : List AO} (d : Option Nat) (T : TypeId) (x : Operand) (lo hi mx : Option Operand), aops P fl (⟨d, .slice T x lo hi mx, none⟩ :: os) Q s = (match tstr P T with
    | false => (match telem P T with
    | some e => (tok P e = true ∧ cutO (tsz P e) (lo.map s.ev) (hi.map s.ev) (mx.map s.ev) (s.ev x)) ∧ aops P fl os Q (s.put d (cutV (tsz P e) (lo.map s.ev) (hi.map s.ev) (s.ev x)))
    | none => match tarr P T with
      | some (n, e) => (tok P e = true ∧ acutO s (tsz P e) n (lo.map s.ev) (hi.map s.ev) (mx.map s.ev) (s.ev x)) ∧ aops P fl os Q (s.put d (acutV s (tsz P e) n (lo.map s.ev) (hi.map s.ev) (s.ev x)))
      | none => False)
    | true => sopA P fl ⟨d, .slice T x lo hi mx, none⟩ os Q s)) ∧
  (∀ {P : Program} {fl : Bool} {Q : AS → Prop} {s : AS} {os : List AO} (d : Option Nat) (T : TypeId) (x : Operand) (f : Nat), aops P fl (⟨d, .fieldAddr T x f, none⟩ :: os) Q s = (fldO s (foff P T f) (s.ev x) ∧ aops P fl os Q (s.put d (fldV (foff P T f) (s.ev x))))) ∧
  (∀ {P : Program} {fl : Bool} {Q : AS → Prop} {s : AS} {os : List AO} (d : Option Nat) (T : TypeId) (x i : Operand), aops P fl (⟨d, .indexAddr T x i, none⟩ :: os) Q s = (match telem P T with
    | some e => (tok P e = true ∧ idxO s (tsz P e) (s.ev x) (s.ev i)) ∧ aops P fl os Q (s.put d (idxV (tsz P e) (s.ev x) (s.ev i)))
    | none => match tarr P T with
      | some (n, e) => (tok P e = true ∧ arrO n (s.ev x) (s.ev i)) ∧ aops P fl os Q (s.put d (arrV (tsz P e) (s.ev x) (s.ev i)))
      | none => False)) ∧
  (∀ {P : Program} {fl : Bool} {Q : AS → Prop} {s : AS} {os : List AO} (d : Option Nat) (x : Operand) (j : Nat), aops P fl (⟨d, .extract x j, none⟩ :: os) Q s = (extO (s.ev x) j ∧ aops P fl os Q (s.put d (extV (s.ev x) j)))) ∧
  (∀ {P : Program} {fl : Bool} {Q : AS → Prop} {s : AS} {os : List AO} (d : Option Nat) (x : Operand) (T : TypeId), aops P fl (⟨d, .call ⟨.builtin .len, #[x], #[T]⟩, none⟩ :: os) Q s = (match tstr P T with
    | false => (((telem P T).isSome = true ∧ lenO s (s.ev x)) ∧ aops P fl os Q (s.put d (lenV s (s.ev x))))
    | true => sopA P fl ⟨d, .call ⟨.builtin .len, #[x], #[T]⟩, none⟩ os Q s)) ∧
  (∀ {P : Program} {fl : Bool} {Q : AS → Prop} {s : AS} {os : List AO} (d : Option Nat) (x y : Operand) (Ts : Array TypeId), aops P fl (⟨d, .call ⟨.builtin .max, #[x, y], Ts⟩, none⟩ :: os) Q s = (mxO (s.ev x) (s.ev y) ∧ aops P fl os Q (s.put d (mxV (fun x y => if y > x then y else x) (s.ev x) (s.ev y))))) ∧
  (∀ {P : Program} {fl : Bool} {Q : AS → Prop} {s : AS} {os : List AO} (d : Option Nat) (x y : Operand) (Ts : Array TypeId), aops P fl (⟨d, .call ⟨.builtin .min, #[x, y], Ts⟩, none⟩ :: os) Q s = (mxO (s.ev x) (s.ev y) ∧ aops P fl os Q (s.put d (mxV (fun x y => if y < x then y else x) (s.ev x) (s.ev y))))) ∧
  (∀ {P : Program} {fl : Bool} {Q : AS → Prop} {s : AS} {os : List AO} (d : Nat) (x y : Operand) (T : TypeId), aops P fl (⟨some d, .call ⟨.builtin .append, #[x, y], #[T, T]⟩, none⟩ :: os) Q s = (match tstr P T with
    | false => (match telem P T with
    | some e => (tok P e = true ∧ 0 < tsz P e ∧ (tzero P e).map List.length = some (tsz P e) ∧ appO s e (tsz P e) (tbytes P e) (srcD s (s.ev y)) (s.ev x)) ∧ aops P fl os Q (appS s d e (tsz P e) (srcD s (s.ev y)) (s.ev x))
    | none => False)
    | true => sopA P fl ⟨some d, .call ⟨.builtin .append, #[x, y], #[T, T]⟩, none⟩ os Q s)) ∧
  (∀ {P : Program} {fl : Bool} {Q : AS → Prop} {s : AS} {os : List AO} (d : Option Nat) (x y : Operand) (T T' : TypeId), aops P fl (⟨d, .call ⟨.builtin .copy, #[x, y], #[T, T']⟩, none⟩ :: os) Q s = ((match telem P T with
    | some e => tok P e = true ∧ tsz P e = 1 ∧ cpO s (srcD s (s.ev y)) (s.ev x)
    | none => False) ∧ aops P fl os Q (cpS s d (srcD s (s.ev y)) (s.ev x)))) ∧
  (∀ {P : Program} {fl : Bool} {Q : AS → Prop} {s : AS} {os : List AO} (d : Option Nat) (op : Op) (t : Nat) (want : Bool), aops P fl (⟨d, op, some (t, want)⟩ :: os) Q s = guardA P fl (asB (s.t t)) want d op os Q s) ∧
  (∀ {P : Program} {fl : Bool} {Q : AS → Prop} {s : AS} {os : List AO} (d : Option Nat) (op : Op), guardA P fl (some true) true d op os Q s = aops P fl (⟨d, op, none⟩ :: os) Q s) ∧
  (∀ {P : Program} {fl : Bool} {Q : AS → Prop} {s : AS} {os : List AO} (d : Option Nat) (op : Op), guardA P fl (some false) false d op os Q s = aops P fl (⟨d, op, none⟩ :: os) Q s) ∧
  (∀ {P : Program} {fl : Bool} {Q : AS → Prop} {s : AS} {os : List AO} (d : Option Nat) (op : Op), guardA P fl (some true) false d op os Q s = aops P fl os Q (s.put d .no)) ∧
  (∀ {P : Program} {fl : Bool} {Q : AS → Prop} {s : AS} {os : List AO} (d : Option Nat) (op : Op), guardA P fl (some false) true d op os Q s = aops P fl os Q (s.put d .no)) :=
  ⟨@ev_t, @ev_int, @ev_bool, @ev_str, @ev_nil, @set_t, @set_v, @set_r, @set_g, @set_f, @setv_t, @setv_v, @setv_r, @setv_g, @setv_f, @setr_t, @setr_v, @setr_r, @setr_g, @setr_f, @bump_t, @bump_v, @bump_r, @bump_g, @bump_f, @frz_t, @frz_v, @frz_r, @frz_g, @frz_f, @frzv_t, @frzv_v, @frzv_r, @frzv_g, @frzv_f, @put_some, @put_none, @start_t0, @start_t1, @start_t2, @start_t3, @start_t4, @start_v, @start_r, @start_g, @start_f, @startw_t0, @startw_t1, @startw_t2, @startw_t3, @startw_v, @startw_r, @startw_g, @startw_f, @rv_one, @rv_agg, @res_one, @res_nil, @res_two, @w_skip, @w_reg, @w_dreg, @w_gh, @w_seq, @w_block, @w_exit, @w_ret, @t_n, @t_e, @t_r, @b_n, @b_e, @b_r, @w_cnd, @c_t, @c_f, @g_nil, @g_cons, @a_nil, @a_move, @a_assign, @a_pick, @a_alloc, @a_box, @a_build, @a_bsl, @a_load, @a_store, @a_bin, @a_un, @a_six, @a_conv, @a_make, @a_slice, @a_fld, @a_idx, @a_ext, @a_len, @a_max, @a_min, @a_append, @a_copy, @a_grd, @g_tt, @g_ff, @g_tf, @g_ft⟩
theorem V : (∀ {s : AS} (n : Nat) (cells : List Dt), srcD s (.one (.dt (.sl n cells))) = some (n, cells)) ∧
  (ceDs [] = some []) ∧
  (∀ (c : Ce) (cs : List Ce), ceDs (c :: cs) = (match ceD c, ceDs cs with | some d, some ds => some (d :: ds) | _, _ => none)) ∧
  (∀ (d : Dt), ceD (.dt d) = some d) ∧
  (ceD .z = some (.sl 0 [])) ∧
  (∀ {s : AS} (sz n : Nat) (cs : List Ce) (parts : List (Nat × Operand)), bslC s sz n (some cs) parts = (match fillA (fun i => some (i * sz, sz)) ((List.replicate n cs).flatten) (pairs s parts) with | some cells => ceDs cells | none => none)) ∧
  (∀ {k : IntKind} {k' : IntKind} {x : Int} {y : Int} {tb : Bool}, binO tb .add (.one (.dt (.lit (.int k x)))) (.one (.dt (.lit (.int k' y)))) = (k = k')) ∧
  (∀ {k : IntKind} {k' : IntKind} {x : Int} {y : Int}, binV .add (.one (.dt (.lit (.int k x)))) (.one (.dt (.lit (.int k' y)))) = (.one (.dt (.lit (.int k (k.wrap (x + y))))))) ∧
  (∀ {k : IntKind} {k' : IntKind} {x : Int} {y : Int} {tb : Bool}, binO tb .sub (.one (.dt (.lit (.int k x)))) (.one (.dt (.lit (.int k' y)))) = (k = k')) ∧
  (∀ {k : IntKind} {k' : IntKind} {x : Int} {y : Int}, binV .sub (.one (.dt (.lit (.int k x)))) (.one (.dt (.lit (.int k' y)))) = (.one (.dt (.lit (.int k (k.wrap (x - y))))))) ∧
  (∀ {k : IntKind} {k' : IntKind} {x : Int} {y : Int} {tb : Bool}, binO tb .mul (.one (.dt (.lit (.int k x)))) (.one (.dt (.lit (.int k' y)))) = (k = k')) ∧
  (∀ {k : IntKind} {k' : IntKind} {x : Int} {y : Int}, binV .mul (.one (.dt (.lit (.int k x)))) (.one (.dt (.lit (.int k' y)))) = (.one (.dt (.lit (.int k (k.wrap (x * y))))))) ∧
  (∀ {k : IntKind} {k' : IntKind} {x : Int} {y : Int} {tb : Bool}, binO tb .quo (.one (.dt (.lit (.int k x)))) (.one (.dt (.lit (.int k' y)))) = (k = k' ∧ ¬ y = 0)) ∧
  (∀ {k : IntKind} {k' : IntKind} {x : Int} {y : Int}, binV .quo (.one (.dt (.lit (.int k x)))) (.one (.dt (.lit (.int k' y)))) = (.one (.dt (.lit (.int k (k.wrap (x.tdiv y))))))) ∧
  (∀ {k : IntKind} {k' : IntKind} {x : Int} {y : Int} {tb : Bool}, binO tb .rem (.one (.dt (.lit (.int k x)))) (.one (.dt (.lit (.int k' y)))) = (k = k' ∧ ¬ y = 0)) ∧
  (∀ {k : IntKind} {k' : IntKind} {x : Int} {y : Int}, binV .rem (.one (.dt (.lit (.int k x)))) (.one (.dt (.lit (.int k' y)))) = (.one (.dt (.lit (.int k (x.tmod y)))))) ∧
  (∀ {k : IntKind} {k' : IntKind} {x : Int} {y : Int} {tb : Bool}, binO tb .and (.one (.dt (.lit (.int k x)))) (.one (.dt (.lit (.int k' y)))) = (k = k')) ∧
  (∀ {k : IntKind} {k' : IntKind} {x : Int} {y : Int}, binV .and (.one (.dt (.lit (.int k x)))) (.one (.dt (.lit (.int k' y)))) = (.one (.dt (.lit (.int k (bits .and k x y)))))) ∧
  (∀ {k : IntKind} {k' : IntKind} {x : Int} {y : Int} {tb : Bool}, binO tb .or (.one (.dt (.lit (.int k x)))) (.one (.dt (.lit (.int k' y)))) = (k = k')) ∧
  (∀ {k : IntKind} {k' : IntKind} {x : Int} {y : Int}, binV .or (.one (.dt (.lit (.int k x)))) (.one (.dt (.lit (.int k' y)))) = (.one (.dt (.lit (.int k (bits .or k x y)))))) ∧
  (∀ {k : IntKind} {k' : IntKind} {x : Int} {y : Int} {tb : Bool}, binO tb .shl (.one (.dt (.lit (.int k x)))) (.one (.dt (.lit (.int k' y)))) = (0 ≤ y)) ∧
  (∀ {k : IntKind} {k' : IntKind} {x : Int} {y : Int}, binV .shl (.one (.dt (.lit (.int k x)))) (.one (.dt (.lit (.int k' y)))) = (.one (.dt (.lit (.int k (shl k x y)))))) ∧
  (∀ {k : IntKind} {k' : IntKind} {x : Int} {y : Int} {tb : Bool}, binO tb .shr (.one (.dt (.lit (.int k x)))) (.one (.dt (.lit (.int k' y)))) = (0 ≤ y)) ∧
  (∀ {k : IntKind} {k' : IntKind} {x : Int} {y : Int}, binV .shr (.one (.dt (.lit (.int k x)))) (.one (.dt (.lit (.int k' y)))) = (.one (.dt (.lit (.int k (shr k x y)))))) ∧
  (∀ {k : IntKind} {k' : IntKind} {x : Int} {y : Int} {tb : Bool}, binO tb .eql (.one (.dt (.lit (.int k x)))) (.one (.dt (.lit (.int k' y)))) = (k = k')) ∧
  (∀ {k : IntKind} {k' : IntKind} {x : Int} {y : Int} {tb : Bool}, binO tb .neq (.one (.dt (.lit (.int k x)))) (.one (.dt (.lit (.int k' y)))) = (k = k')) ∧
  (∀ {k : IntKind} {k' : IntKind} {x : Int} {y : Int}, binV .eql (.one (.dt (.lit (.int k x)))) (.one (.dt (.lit (.int k' y)))) = (.one (.dt (.lit (.bool (decide (x = y))))))) ∧
  (∀ {k : IntKind} {k' : IntKind} {x : Int} {y : Int}, binV .neq (.one (.dt (.lit (.int k x)))) (.one (.dt (.lit (.int k' y)))) = (.one (.dt (.lit (.bool (decide (¬ x = y))))))) ∧
  (∀ {k : IntKind} {k' : IntKind} {x : Int} {y : Int} {tb : Bool}, binO tb .lss (.one (.dt (.lit (.int k x)))) (.one (.dt (.lit (.int k' y)))) = (k = k')) ∧
  (∀ {k : IntKind} {k' : IntKind} {x : Int} {y : Int}, binV .lss (.one (.dt (.lit (.int k x)))) (.one (.dt (.lit (.int k' y)))) = (.one (.dt (.lit (.bool (decide (x < y))))))) ∧
  (∀ {k : IntKind} {k' : IntKind} {x : Int} {y : Int} {tb : Bool}, binO tb .leq (.one (.dt (.lit (.int k x)))) (.one (.dt (.lit (.int k' y)))) = (k = k')) ∧
  (∀ {k : IntKind} {k' : IntKind} {x : Int} {y : Int}, binV .leq (.one (.dt (.lit (.int k x)))) (.one (.dt (.lit (.int k' y)))) = (.one (.dt (.lit (.bool (decide (x ≤ y))))))) ∧
  (∀ {k : IntKind} {k' : IntKind} {x : Int} {y : Int} {tb : Bool}, binO tb .gtr (.one (.dt (.lit (.int k x)))) (.one (.dt (.lit (.int k' y)))) = (k = k')) ∧
  (∀ {k : IntKind} {k' : IntKind} {x : Int} {y : Int}, binV .gtr (.one (.dt (.lit (.int k x)))) (.one (.dt (.lit (.int k' y)))) = (.one (.dt (.lit (.bool (decide (y < x))))))) ∧
  (∀ {k : IntKind} {k' : IntKind} {x : Int} {y : Int} {tb : Bool}, binO tb .geq (.one (.dt (.lit (.int k x)))) (.one (.dt (.lit (.int k' y)))) = (k = k')) ∧
  (∀ {k : IntKind} {k' : IntKind} {x : Int} {y : Int}, binV .geq (.one (.dt (.lit (.int k x)))) (.one (.dt (.lit (.int k' y)))) = (.one (.dt (.lit (.bool (decide (y ≤ x))))))) ∧
  (∀ {tb : Bool} (x y : ByteArray), binO tb .eql (.one (.dt (.lit (.string x)))) (.one (.dt (.lit (.string y)))) = True) ∧
  (∀ {tb : Bool} (x y : ByteArray), binO tb .neq (.one (.dt (.lit (.string x)))) (.one (.dt (.lit (.string y)))) = True) ∧
  (∀ {tb : Bool} (x y : ByteArray), binO tb .add (.one (.dt (.lit (.string x)))) (.one (.dt (.lit (.string y)))) = (x.size + y.size ≤ 9223372036854775807)) ∧
  (∀ (x y : ByteArray), binV .eql (.one (.dt (.lit (.string x)))) (.one (.dt (.lit (.string y)))) = (.one (.dt (.lit (.bool (x.toList == y.toList)))))) ∧
  (∀ (x y : ByteArray), binV .neq (.one (.dt (.lit (.string x)))) (.one (.dt (.lit (.string y)))) = (.one (.dt (.lit (.bool (!(x.toList == y.toList))))))) ∧
  (∀ (x y : ByteArray), binV .add (.one (.dt (.lit (.string x)))) (.one (.dt (.lit (.string y)))) = (.one (.dt (.lit (.string (x ++ y)))))) ∧
  (∀ {tb : Bool} {b : Bool} {b' : Bool}, binO tb .eql (.one (.dt (.lit (.bool b)))) (.one (.dt (.lit (.bool b')))) = (tb = true)) ∧
  (∀ {tb : Bool} {b : Bool} {b' : Bool}, binO tb .neq (.one (.dt (.lit (.bool b)))) (.one (.dt (.lit (.bool b')))) = (tb = true)) ∧
  (∀ {b : Bool} {b' : Bool}, binV .eql (.one (.dt (.lit (.bool b)))) (.one (.dt (.lit (.bool b')))) = (.one (.dt (.lit (.bool (b == b')))))) ∧
  (∀ {b : Bool} {b' : Bool}, binV .neq (.one (.dt (.lit (.bool b)))) (.one (.dt (.lit (.bool b')))) = (.one (.dt (.lit (.bool (!(b == b'))))))) ∧
  (∀ {b : Bool}, pickO (.one (.dt (.lit (.bool b)))) = True) ∧
  (∀ {b : Bool} (u v : AV), pickV (.one (.dt (.lit (.bool b)))) u v = if b = true then u else v) ∧
  (∀ {b : Bool}, unO .not (.one (.dt (.lit (.bool b)))) = True) ∧
  (∀ {p : Prop} [Decidable p], unV .not (.one (.dt (.lit (.bool (decide p))))) = (.one (.dt (.lit (.bool (decide (¬p))))))) ∧
  (unV .not (.one (.dt (.lit (.bool true)))) = (.one (.dt (.lit (.bool false))))) ∧
  (unV .not (.one (.dt (.lit (.bool false)))) = (.one (.dt (.lit (.bool true))))) ∧
  (∀ {k : IntKind} {x : Int}, unO .neg (.one (.dt (.lit (.int k x)))) = True) ∧
  (∀ {k : IntKind} {x : Int}, unV .neg (.one (.dt (.lit (.int k x)))) = (.one (.dt (.lit (.int k (k.wrap (0 - x))))))) ∧
  (∀ {k : IntKind} {k' : IntKind} {x : Int}, cvO (some k') (.one (.dt (.lit (.int k x)))) = True) ∧
  (∀ {k : IntKind} {k' : IntKind} {x : Int}, cvV (some k') (.one (.dt (.lit (.int k x)))) = (.one (.dt (.lit (.int k' (k'.wrap x)))))) ∧
  (∀ {b : Bool}, asB (.one (.dt (.lit (.bool b)))) = some b) ∧
  (∀ (c : Ce), cellsOf (.one c) = some [c]) ∧
  (∀ (cs : List Ce), cellsOf (.agg cs) = some cs) ∧
  (∀ (sz : Nat) (c : Ce) (cs : List Ce), ldO false sz (some (c :: cs)) = True) ∧
  (∀ (sz : Nat) (cs : List Ce), ldO true sz (some cs) = (sz ≤ cs.length)) ∧
  (∀ (sz : Nat) (c : Ce) (cs : List Ce), ldV false sz (some (c :: cs)) = .one c) ∧
  (∀ (sz : Nat) (cs : List Ce), ldV true sz (some cs) = .agg (cs.take sz)) ∧
  (∀ {s : AS} (y : Nat × Nat) (off : Nat), acells s (.ptr y off) = (match s.v y with | some cs => some (cs.drop off) | none => none)) ∧
  (∀ {s : AS} (r : Nat × Nat) (ver j : Nat), acells s (.rel r ver j) = (match s.r r with | some row => if row.ver = ver then some ((row.cells.drop j).map .dt) else none | none => none)) ∧
  (∀ {s : AS} (o : Nat) (y : Nat × Nat) (off : Nat), fldO s (some o) (.ptr y off) = True) ∧
  (∀ {s : AS} (o : Nat) (ds : List Dt), fldO s (some o) (.el ds) = (o ≤ ds.length)) ∧
  (∀ (o : Nat) (y : Nat × Nat) (off : Nat), fldV (some o) (.ptr y off) = .ptr y (off + o)) ∧
  (∀ (o : Nat) (ds : List Dt), fldV (some o) (.el ds) = .el (ds.drop o)) ∧
  (∀ {s : AS} {k : IntKind} {x : Int} (sz : Nat) (r : Nat × Nat) (ver : Nat), idxO s sz (.one (.row r ver)) (.one (.dt (.lit (.int k x)))) = (match s.r r with | some row => row.ver = ver ∧ 0 ≤ x ∧ x < row.n | none => False)) ∧
  (∀ {k : IntKind} {x : Int} (sz : Nat) (r : Nat × Nat) (ver : Nat), idxV sz (.one (.row r ver)) (.one (.dt (.lit (.int k x)))) = .rel r ver (x.toNat * sz)) ∧
  (∀ (rs : List RV) (j : Nat), extO (.tup rs) j = (j < rs.length)) ∧
  (∀ (rs : List RV) (j : Nat), extV (.tup rs) j = (match rs[j]? with | some r => r.toAV | none => .no)) ∧
  (∀ {s : AS}, lenO s (.one .z) = True) ∧
  (∀ {s : AS}, lenV s (.one .z) = (.one (.dt (.lit (.int .i64 0))))) ∧
  (∀ {s : AS} (r : Nat × Nat) (ver : Nat), lenO s (.one (.row r ver)) = (match s.r r with | some row => row.ver = ver | none => False)) ∧
  (∀ {s : AS} (r : Nat × Nat) (ver : Nat), lenV s (.one (.row r ver)) = (match s.r r with | some row => (.one (.dt (.lit (.int .i64 row.n)))) | none => .no)) ∧
  (∀ {k : IntKind} {k' : IntKind} {x : Int} {y : Int}, mxO (.one (.dt (.lit (.int k x)))) (.one (.dt (.lit (.int k' y)))) = (k = k')) ∧
  (∀ {k : IntKind} {k' : IntKind} {x : Int} {y : Int} (f : Int → Int → Int), mxV f (.one (.dt (.lit (.int k x)))) (.one (.dt (.lit (.int k' y)))) = (.one (.dt (.lit (.int k (f x y)))))) ∧
  (∀ {s : AS} (cs : List Ce) (y : Nat × Nat) (off : Nat), stO s cs (.ptr y off) = (match s.v y with | some cs0 => s.f y = false ∧ off + cs.length ≤ cs0.length | none => False)) ∧
  (∀ {s : AS} (cs : List Ce) (y : Nat × Nat) (off : Nat), stS s cs (.ptr y off) = (match s.v y with | some cs0 => s.setv y (cs0.take off ++ cs ++ cs0.drop (off + cs.length)) | none => s)) ∧
  (∀ {s : AS} (d : Dt) (r : Nat × Nat) (ver j : Nat), stO s [.dt d] (.rel r ver j) = (match s.r r with | some row => row.ver = ver ∧ row.live = true ∧ [Ce.dt d].length = 1 ∧ j < row.n * row.sz | none => False)) ∧
  (∀ {s : AS} (d : Dt) (r : Nat × Nat) (ver j : Nat), stS s [.dt d] (.rel r ver j) = (match s.r r with | some row => s.setr r { row with cells := row.cells.set j d } | none => s)) ∧
  (∀ {s : AS} (d : Dt), toD s (.dt d) = some d) ∧
  (∀ {s : AS}, toD s .z = some (.sl 0 [])) ∧
  (∀ {s : AS} (r : Nat × Nat) (ver : Nat), toD s (.row r ver) = (match s.r r with | some row => if row.ver = ver ∧ row.live = false then some (.sl row.n row.cells) else none | none => none)) ∧
  (∀ {s : AS}, toDs s [] = some []) ∧
  (∀ {s : AS} (c : Ce) (cs : List Ce), toDs s (c :: cs) = (match toD s c, toDs s cs with | some d, some ds => some (d :: ds) | _, _ => none)) ∧
  (∀ {s : AS} (c : Ce), toRV s (.one c) = (toD s c).map .one) ∧
  (∀ {s : AS} (cs : List Ce), toRV s (.agg cs) = (toDs s cs).map .agg) ∧
  (∀ {s : AS}, toRVs s [] = some []) ∧
  (∀ {s : AS} (u : AV) (us : List AV), toRVs s (u :: us) = (match toRV s u, toRVs s us with | some r, some rs => some (r :: rs) | _, _ => none)) ∧
  (∀ {s : AS}, evs s [] = []) ∧
  (∀ {s : AS} (u : Operand) (us : List Operand), evs s (u :: us) = s.ev u :: evs s us) ∧
  (∀ {s : AS}, pairs s [] = []) ∧
  (∀ {s : AS} (i : Nat) (u : Operand) (us : List (Nat × Operand)), pairs s ((i, u) :: us) = (i, s.ev u) :: pairs s us) ∧
  (∀ (pl : Nat → Option (Nat × Nat)) (cells : List Ce), fillA pl cells [] = some cells) ∧
  (∀ (pl : Nat → Option (Nat × Nat)) (cells : List Ce) (i : Nat) (u : AV) (us : List (Nat × AV)), fillA pl cells ((i, u) :: us) = (match pl i, cellsOf u with | some (off, size), some cs => if cs.length = size ∧ off + size ≤ cells.length then fillA pl (cells.take off ++ cs ++ cells.drop (off + size)) us else none | _, _ => none)) ∧
  (((0 : Nat) : Int) = 0) ∧
  (∀ {s : AS} (e : TypeId) (sz bytes m ver : Nat) (cells : List Dt) (r : Nat × Nat), appO s e sz bytes (some (m, cells)) (.one (.row r ver)) = (match s.r r with | some row => row.ver = ver ∧ row.live = true ∧ row.e = e ∧ row.sz = sz ∧ cells.length = m * sz ∧ row.n + m ≤ 9223372036854775807 ∧ (row.n + m) * bytes ≤ 140737488355328 | none => False)) ∧
  (∀ {s : AS} (d : Nat) (e : TypeId) (sz m ver : Nat) (cells : List Dt) (r : Nat × Nat), appS s d e sz (some (m, cells)) (.one (.row r ver)) = (match s.r r with | some row => (s.setr r { row with n := row.n + m, cells := row.cells ++ cells, ver := ver + 1 }).set d (.one (.row r (ver + 1))) | none => s)) ∧
  (∀ (i : Nat), ((i : Int) + 1).toNat = i + 1) ∧
  (∀ (i : Nat), ((i : Int) - 1).toNat = i - 1) ∧
  (∀ (i j : Nat), ((i : Int) + (j : Int)).toNat = i + j) ∧
  (∀ (i : Nat), ((i + 1 : Nat) : Int) = (i : Int) + 1) ∧
  (∀ {s : AS} (P : Program), resRs P s [] [] = True) ∧
  (∀ {s : AS} (P : Program) (u : ResultVar) (us : List ResultVar) (r : RV) (rs : List RV), resRs P s (u :: us) (r :: rs) = (resR P s u r ∧ resRs P s us rs)) ∧
  (∀ {s : AS} (P : Program) (t : Nat) (r : RV), resR P s (.tmp t) r = (toRV s (s.t t) = some r)) ∧
  (∀ {s : AS} (P : Program) (t : Nat) (T : TypeId) (r : RV), resR P s (.cell t T) r = (tok P T = true ∧ ldO (tagg P T) (tsz P T) (acells s (s.t t)) ∧ toRV s (ldV (tagg P T) (tsz P T) (acells s (s.t t))) = some r)) ∧
  (∀ {s : AS} (t : Nat), ghE (.frz t) s = (match s.t t with | .one (.row r _) => s.freeze r | _ => s)) ∧
  (∀ {s : AS} (t i : Nat), ghE (.frzc t i) s = (match s.t t with | .ptr xx _ => (match s.v xx with | some cs => frzC s cs[i]? | none => s) | _ => s)) ∧
  (∀ {s : AS} (t : Nat), ghE (.frzv t) s = (match s.t t with | .ptr xx _ => (match s.v xx with | some _ => s.freezev xx | none => s) | .sv xx _ _ => (match s.v xx with | some _ => s.freezev xx | none => s) | _ => s)) ∧
  (∀ {s : AS} {k : IntKind} {x : Int} (sz : Nat) (xx : Nat × Nat) (off n : Nat), idxO s sz (.sv xx off n) (.one (.dt (.lit (.int k x)))) = (sz = 1 ∧ 0 ≤ x ∧ x < n)) ∧
  (∀ {k : IntKind} {x : Int} (sz : Nat) (xx : Nat × Nat) (off n : Nat), idxV sz (.sv xx off n) (.one (.dt (.lit (.int k x)))) = .ptr xx (off + x.toNat)) ∧
  (∀ {s : AS} (xx : Nat × Nat) (off n : Nat), lenO s (.sv xx off n) = True) ∧
  (∀ {s : AS} (xx : Nat × Nat) (off n : Nat), lenV s (.sv xx off n) = (.one (.dt (.lit (.int .i64 n))))) ∧
  (∀ {k : IntKind} {x : Int} (xx : Nat × Nat) (off n : Nat), cutO 1 none (some (.one (.dt (.lit (.int k x))))) none (.sv xx off n) = (0 ≤ x ∧ x ≤ n)) ∧
  (∀ {k : IntKind} {k' : IntKind} {x : Int} {y : Int} (xx : Nat × Nat) (off n : Nat), cutO 1 (some (.one (.dt (.lit (.int k x))))) (some (.one (.dt (.lit (.int k' y))))) none (.sv xx off n) = (0 ≤ x ∧ x ≤ y ∧ y ≤ n)) ∧
  (∀ {k : IntKind} {x : Int} (xx : Nat × Nat) (off n : Nat), cutV 1 none (some (.one (.dt (.lit (.int k x))))) (.sv xx off n) = .sv xx off x.toNat) ∧
  (∀ {k : IntKind} {k' : IntKind} {x : Int} {y : Int} (xx : Nat × Nat) (off n : Nat), cutV 1 (some (.one (.dt (.lit (.int k x))))) (some (.one (.dt (.lit (.int k' y))))) (.sv xx off n) = .sv xx (off + x.toNat) (y.toNat - x.toNat)) ∧
  (∀ {s : AS} (xx : Nat × Nat) (off n : Nat), toRV s (.sv xx off n) = (match s.v xx with | some cs => if s.f xx = true ∧ off + n ≤ cs.length then (ceDs cs).map fun ds => .one (.sl n ((ds.drop off).take n)) else none | none => none)) ∧
  (∀ {k : IntKind} {x : Int} (b : ByteArray), sixO (.one (.dt (.lit (.string b)))) (.one (.dt (.lit (.int k x)))) = (0 ≤ x ∧ x < b.size)) ∧
  (∀ {k : IntKind} {x : Int} (b : ByteArray), sixV (.one (.dt (.lit (.string b)))) (.one (.dt (.lit (.int k x)))) = (.one (.dt (.lit (.int .u8 (sbyte b x)))))) ∧
  (∀ (cs : List Ce) (c : Ce) (j : Nat), extO (.pr cs c) j = (j < 2)) ∧
  (∀ (cs : List Ce) (c : Ce), extV (.pr cs c) 0 = .agg cs) ∧
  (∀ (cs : List Ce) (c : Ce), extV (.pr cs c) 1 = .one c) ∧
  (∀ (b : ByteArray), strOf (.one (.dt (.lit (.string b)))) = some b) ∧
  (∀ (v : Value), litV v = .one (.dt (.lit v))) ∧
  (∀ {s : AS} (t : Nat) (e : TypeId) (sz : Nat), ghE (.nilt t e sz) s = ((s.setr (t, s.g t) ⟨e, sz, 0, [], 0, true⟩).bump t).set t (.one (.row (t, s.g t) 0))) ∧
  (∀ {s : AS} (t i k : Nat) (e : TypeId) (sz : Nat), ghE (.nilv t i k e sz) s = (match s.t t with | .ptr xx _ => (match s.v xx with | some cs => ((s.setr (k, s.g k) ⟨e, sz, 0, [], 0, true⟩).bump k).setv xx (cs.set i (.row (k, s.g k) 0)) | none => s) | _ => s)) ∧
  (∀ {s : AS} (t i k : Nat) (e : TypeId) (sz : Nat), ghO (.nilv t i k e sz) s = (match s.t t with | .ptr xx _ => s.f xx = false ∧ (match s.v xx with | some cs => cs[i]? = some .z | none => False) | _ => False)) ∧
  (∀ {s : AS} (r : Nat × Nat) (v : Nat), frzC s (some (.row r v)) = s.freeze r) ∧
  (∀ {s : AS}, frzC s (some .z) = s) ∧
  (∀ {s : AS} (d : Dt), frzC s (some (.dt d)) = s) ∧
  (∀ {s : AS} (t : Nat), ghO (.frz t) s = True) ∧
  (∀ {s : AS} (t i : Nat), ghO (.frzc t i) s = True) ∧
  (∀ {s : AS} (t : Nat), ghO (.frzv t) s = True) ∧
  (∀ {s : AS} (t : Nat) (e : TypeId) (sz : Nat), ghO (.nilt t e sz) s = (match s.t t with | .one .z => True | _ => False)) ∧
  (∀ {n : Int} (h : -9223372036854775808 ≤ n) (h' : n < 9223372036854775808), IntKind.i64.wrap n = n) ∧
  (∀ {n : Int} (h : 0 ≤ n) (h' : n < 18446744073709551616), IntKind.u64.wrap n = n) ∧
  (∀ {n : Int} (h : 0 ≤ n) (h' : n < 18446744073709551616), bits .and .u64 n 4294967295 = n % 4294967296) ∧
  (∀ (n : Int), shr .u64 n 32 = n / 4294967296) ∧
  (∀ {n : Int} (h : 0 ≤ n) (h' : n < 4294967296), shl .u64 n 32 = n * 4294967296) ∧
  (∀ {r a : Int} (h : 0 ≤ r) (h1 : r < 4294967296) (h2 : 0 ≤ a) (h3 : a < 4294967296), bits .or .u64 (r * 4294967296) a = r * 4294967296 + a) ∧
  (∀ {x y : Int} (h : 0 ≤ x), x.tdiv y = x / y) ∧
  (∀ {x y : Int} (h : 0 ≤ x), x.tmod y = x % y) ∧
  (∀ {n : Int} (h : 0 ≤ n) (h' : n < 4294967296), IntKind.u32.wrap n = n) ∧
  (∀ {i j m : Int} {q : Prop} {n : Nat} (h : 0 ≤ i) (h1 : i ≤ j) (h2 : j ≤ m) (h3 : m ≤ n), cutP (some i) (some j) (some m) q n = q) ∧
  (∀ (d : Int), bnd none d = some d) ∧
  (∀ (k : IntKind) (i d : Int), bnd (some (.one (.dt (.lit (.int k i))))) d = some i) ∧
  (∀ {s : AS} {k : IntKind} {x : Int} (l : List (Int)) (h : 0 ≤ x) (h' : x < l.length), idxO s 1 (.one (.dt (natD l))) (.one (.dt (.lit (.int k x)))) = True) ∧
  (∀ {lo hi mx : Option AV} (l : List (Int)), cutO 1 lo hi mx (.one (.dt (natD l))) = cutP (bnd lo 0) (bnd hi l.length) (bnd mx l.length) (mx.isSome = true → hi.isSome = true) l.length) ∧
  (∀ {lo hi : Option AV} (l : List (Int)), cutV 1 lo hi (.one (.dt (natD l))) = cutW (bnd lo 0) (bnd hi l.length) l u32c) ∧
  (∀ {i j : Int} (l : List (Int)) (h : 0 ≤ i) (h1 : i ≤ j) (h2 : j ≤ l.length), cutW (some i) (some j) l u32c = .one (.dt (natD ((l.take j.toNat).drop i.toNat)))) ∧
  (∀ {k : IntKind} {x : Int} (l : List (Int)) (h : 0 ≤ x) (h' : x < l.length), idxV 1 (.one (.dt (natD l))) (.one (.dt (.lit (.int k x)))) = .el (u32c (l.getD x.toNat 0))) ∧
  (∀ {s : AS} (l : List (Int)), lenO s (.one (.dt (natD l))) = True) ∧
  (∀ {s : AS} (l : List (Int)), lenV s (.one (.dt (natD l))) = (.one (.dt (.lit (.int .i64 l.length))))) ∧
  (∀ (l : List (Int)) (n : Nat) (h : n = l.length), Dt.sl n (natC l) = natD l) ∧
  (∀ (l : List (Int)), (natC l).length = l.length) ∧
  (∀ {s : AS} (l : List (Int)), srcD s (.one (.dt (natD l))) = some (l.length, natC l)) ∧
  (∀ {s : AS} {k : IntKind} {x : Int} (l : List (Int)) (h : 0 ≤ x) (h' : x < l.length), idxO s 1 (.one (.dt (intsD l))) (.one (.dt (.lit (.int k x)))) = True) ∧
  (∀ {lo hi mx : Option AV} (l : List (Int)), cutO 1 lo hi mx (.one (.dt (intsD l))) = cutP (bnd lo 0) (bnd hi l.length) (bnd mx l.length) (mx.isSome = true → hi.isSome = true) l.length) ∧
  (∀ {lo hi : Option AV} (l : List (Int)), cutV 1 lo hi (.one (.dt (intsD l))) = cutW (bnd lo 0) (bnd hi l.length) l i64c) ∧
  (∀ {i j : Int} (l : List (Int)) (h : 0 ≤ i) (h1 : i ≤ j) (h2 : j ≤ l.length), cutW (some i) (some j) l i64c = .one (.dt (intsD ((l.take j.toNat).drop i.toNat)))) ∧
  (∀ {k : IntKind} {x : Int} (l : List (Int)) (h : 0 ≤ x) (h' : x < l.length), idxV 1 (.one (.dt (intsD l))) (.one (.dt (.lit (.int k x)))) = .el (i64c (l.getD x.toNat 0))) ∧
  (∀ {s : AS} (l : List (Int)), lenO s (.one (.dt (intsD l))) = True) ∧
  (∀ {s : AS} (l : List (Int)), lenV s (.one (.dt (intsD l))) = (.one (.dt (.lit (.int .i64 l.length))))) ∧
  (∀ (l : List (Int)) (n : Nat) (h : n = l.length), Dt.sl n (intsC l) = intsD l) ∧
  (∀ (l : List (Int)), (intsC l).length = l.length) ∧
  (∀ {s : AS} (l : List (Int)), srcD s (.one (.dt (intsD l))) = some (l.length, intsC l)) ∧
  (∀ {s : AS} {k : IntKind} {x : Int} (l : List (List Int)) (h : 0 ≤ x) (h' : x < l.length), idxO s 1 (.one (.dt (natsD l))) (.one (.dt (.lit (.int k x)))) = True) ∧
  (∀ {lo hi mx : Option AV} (l : List (List Int)), cutO 1 lo hi mx (.one (.dt (natsD l))) = cutP (bnd lo 0) (bnd hi l.length) (bnd mx l.length) (mx.isSome = true → hi.isSome = true) l.length) ∧
  (∀ {lo hi : Option AV} (l : List (List Int)), cutV 1 lo hi (.one (.dt (natsD l))) = cutW (bnd lo 0) (bnd hi l.length) l natc) ∧
  (∀ {i j : Int} (l : List (List Int)) (h : 0 ≤ i) (h1 : i ≤ j) (h2 : j ≤ l.length), cutW (some i) (some j) l natc = .one (.dt (natsD ((l.take j.toNat).drop i.toNat)))) ∧
  (∀ {k : IntKind} {x : Int} (l : List (List Int)) (h : 0 ≤ x) (h' : x < l.length), idxV 1 (.one (.dt (natsD l))) (.one (.dt (.lit (.int k x)))) = .el (natc (l.getD x.toNat []))) ∧
  (∀ {s : AS} (l : List (List Int)), lenO s (.one (.dt (natsD l))) = True) ∧
  (∀ {s : AS} (l : List (List Int)), lenV s (.one (.dt (natsD l))) = (.one (.dt (.lit (.int .i64 l.length))))) ∧
  (∀ (l : List (List Int)) (n : Nat) (h : n = l.length), Dt.sl n (natsC l) = natsD l) ∧
  (∀ (l : List (List Int)), (natsC l).length = l.length) ∧
  (∀ {s : AS} (l : List (List Int)), srcD s (.one (.dt (natsD l))) = some (l.length, natsC l)) ∧
  (∀ {s : AS} (n : Int), acells s (.el (u32c n)) = some [.dt (.lit (.int .u32 n))]) ∧
  (∀ {s : AS} (n : Int), acells s (.el (i64c n)) = some [.dt (.lit (.int .i64 n))]) ∧
  (∀ {s : AS} (l : List Int), acells s (.el (natc l)) = some [.dt (natD l)]) ∧
  (∀ (l : List Int) (i : Nat) (x : Int), (natC l).set i (.lit (.int .u32 x)) = natC (l.set i x)) ∧
  (∀ (a b : List Int) (i : Nat), (natC a).take i ++ (natC b).drop i = natC (a.take i ++ b.drop i)) ∧
  (∀ (sz : Nat) (l : List Int) (i : Nat) (h : i < l.length), ldO false sz (some (((natC l).drop i).map Ce.dt)) = True) ∧
  (∀ (sz : Nat) (l : List Int) (i : Nat) (h : i < l.length), ldV false sz (some (((natC l).drop i).map Ce.dt)) = .one (.dt (.lit (.int .u32 (l.getD i 0))))) ∧
  (∀ {b : Nat} {z : Dt} {n m : Int} {k k' : IntKind} (h : 0 ≤ n) (h0 : n ≤ m) (h' : (b : Int) * m ≤ 281474976710656) (h2 : m ≤ 9223372036854775807), mkO b (some [.dt z]) (.one (.dt (.lit (.int k n)))) (.one (.dt (.lit (.int k' m)))) = True) ∧
  (∀ {s : AS} {k : IntKind} (d : Nat) (e : TypeId) (n : Int), mkS s d e (some [.dt (.lit (.int .u32 0))]) (.one (.dt (.lit (.int k n)))) = ((s.setr (d, s.g d) ⟨e, 1, n.toNat, natC (List.replicate n.toNat 0), 0, true⟩).bump d).set d (.one (.row (d, s.g d) 0))) ∧
  (∀ {s : AS} (m ver : Nat) (cells : List Dt) (r : Nat × Nat), cpO s (some (m, cells)) (.one (.row r ver)) = (match s.r r with | some row => row.ver = ver ∧ row.live = true ∧ row.sz = 1 ∧ cells.length = m | none => False)) ∧
  (∀ {s : AS} (d : Option Nat) (m ver : Nat) (cells : List Dt) (r : Nat × Nat), cpS s d (some (m, cells)) (.one (.row r ver)) = (match s.r r with | some row => (s.setr r { row with cells := cells.take (min m row.n) ++ row.cells.drop (min m row.n) }).put d (litV (.int .i64 (min m row.n : Nat))) | none => s)) ∧
  (∀ (n : Nat), List.replicate n (Dt.lit (.int .u32 0)) = natC (List.replicate n 0)) ∧
  (∀ (l : List Int) (x : Int), natC l ++ [.lit (.int .u32 x)] = natC (l ++ [x])) ∧
  (∀ (l : List Int) (x : Int), intsC l ++ [.lit (.int .i64 x)] = intsC (l ++ [x])) ∧
  (∀ (l : List (List Int)) (x : List Int), natsC l ++ [natD x] = natsC (l ++ [x])) ∧
  (∀ (l : List Int), (u32s l).length = l.length) ∧
  (∀ (l : List Int), ceDs (u32s l) = some (natC l)) ∧
  (∀ (sz : Nat) (l : List Int) (i : Nat) (h : i < l.length), ldO false sz (some ((u32s l).drop i)) = True) ∧
  (∀ (sz : Nat) (l : List Int) (i : Nat) (h : i < l.length), ldV false sz (some ((u32s l).drop i)) = .one (.dt (.lit (.int .u32 (l.getD i 0))))) ∧
  (∀ (l : List Int) (i : Nat) (x : Int) (h : i < l.length), (u32s l).take i ++ [.dt (.lit (.int .u32 x))] ++ (u32s l).drop (i + 1) = u32s (l.set i x)) ∧
  (∀ (l : List Int) (o n : Nat), ((natC l).drop o).take n = natC ((l.drop o).take n)) ∧
  (natC [] = []) ∧
  (intsC [] = []) ∧
  (∀ (l : List Int) (i : Nat) (x : Int), (intsC l).set i (.lit (.int .i64 x)) = intsC (l.set i x)) ∧
  (∀ (l : List Int), i64s l = intsC l) ∧
  (natsC [] = []) :=
  ⟨@src_sl, @cd_nil, @cd_cons, @cd_dt, @cd_z, @bsl_some, @o_add, @v_add, @o_sub, @v_sub, @o_mul, @v_mul, @o_quo, @v_quo, @o_rem, @v_rem, @o_and, @v_and, @o_or, @v_or, @o_shl, @v_shl, @o_shr, @v_shr, @o_eql, @o_neq, @v_eql, @v_neq, @o_lss, @v_lss, @o_leq, @v_leq, @o_gtr, @v_gtr, @o_geq, @v_geq, @o_eqls, @o_neqs, @o_adds, @v_eqls, @v_neqs, @v_adds, @o_eqlb, @o_neqb, @v_eqlb, @v_neqb, @o_pick, @v_pick, @o_not, @v_not, @v_nott, @v_notf, @o_neg, @v_neg, @o_cv, @v_cv, @as_b, @cl_one, @cl_agg, @ld_of, @ld_ot, @ld_vf, @ld_vt, @ac_ptr, @ac_rel, @fo_ptr, @fo_el, @fv_ptr, @fv_el, @io_row, @iv_row, @xo, @xv, @lo_z, @lv_z, @lo_row, @lv_row, @mo, @mv, @st_ptr, @ss_ptr, @st_rel, @ss_rel, @td_dt, @td_z, @td_row, @tds_nil, @tds_cons, @tr_one, @tr_agg, @trs_nil, @trs_cons, @ev_nil', @ev_cons, @pr_nil, @pr_cons, @fl_nil, @fl_cons, @cast0, @ap_o, @ap_s, @tn_p, @tn_m, @tn_a, @castS, @rs_nil, @rs_cons, @rr_tmp, @rr_cell, @gh_frz, @gh_frzc, @gh_frzv, @io_sv, @iv_sv, @lo_sv, @lv_sv, @cs_a, @cs_b, @cs_c, @cs_d, @tr_sv, @six_o, @six_v, @xo_pr, @xv_pr0, @xv_pr1, @so_str, @lit_v, @gh_nilt, @gh_nilv, @go_nilv, @frzC_row, @frzC_z, @frzC_dt, @go_frz, @go_frzc, @go_frzv, @go_nilt, @wi64, @wu64, @and_m32, @shr_32, @shl_32, @or_hi, @td_nn, @tm_nn, @wu32, @cp_some, @bnd_n, @bnd_s, @io_natD, @co_natD, @cv_natD, @cw_natD, @iv_natD, @lo_natD, @lv_natD, @of_natD, @len_natC, @src_natD, @io_intsD, @co_intsD, @cv_intsD, @cw_intsD, @iv_intsD, @lo_intsD, @lv_intsD, @of_intsD, @len_intsC, @src_intsD, @io_natsD, @co_natsD, @cv_natsD, @cw_natsD, @iv_natsD, @lo_natsD, @lv_natsD, @of_natsD, @len_natsC, @src_natsD, @ac_u32, @ac_i64, @ac_nat, @natC_set, @natC_copy, @lo_rel, @lv_rel, @mk_o, @mk_s, @cp_o, @cp_s, @natC_rep, @natC_app1, @intsC_app1, @natsC_app1, @us_len, @us_ds, @us_lo, @us_lv, @us_set, @us_cut, @natC_nil, @intsC_nil, @intsC_set, @i64s_ints, @natsC_nil⟩
theorem CC : (∀ {α : Type} {a : α}, (some a).isSome = true) ∧
  (∀ (p : Prop), (True ∧ p) = p) ∧
  (∀ (p : Prop), (p ∧ True) = p) ∧
  (∀ (p : Prop), (p ∧ p) = p) ∧
  (∀ (p : Prop), (False ∧ p) = False) ∧
  (∀ (p : Prop), (p ∧ False) = False) ∧
  (∀ (h : Decidable True), @decide True h = true) ∧
  (∀ (h : Decidable False), @decide False h = false) ∧
  (∀ {α : Type} {h : Decidable True} (t e : α), (@ite α True h t e) = t) ∧
  (∀ {α : Type} {h : Decidable False} (t e : α), (@ite α False h t e) = e) ∧
  (∀ {h : Decidable True} (t e : Prop), (@ite Prop True h t e) = t) ∧
  (∀ {h : Decidable False} (t e : Prop), (@ite Prop False h t e) = e) ∧
  ((false = true) = False) ∧
  ((true = false) = False) ∧
  (∀ {α β : Type} (a : α) (f : α → β), (some a).map f = some (f a)) ∧
  (∀ {α β : Type} (f : α → β), (none : Option α).map f = none) ∧
  (∀ {α : Type} (a b : α), (some a = some b) = (a = b)) ∧
  (∀ {α : Type} (a : α), (a = a) = True) ∧
  (∀ (n : Nat), ((n : Int)).toNat = n) ∧
  (∀ {α : Type} {a : α} {xs : List α}, (a :: xs).length = xs.length + 1) ∧
  (∀ {α : Type}, ([] : List α).length = 0) ∧
  (∀ (n : Nat), 0 + n = n) ∧
  (∀ {α : Type} {i : Nat} {a : α} {xs : List α}, (a :: xs).take (i + 1) = a :: xs.take i) ∧
  (∀ {α : Type} {l : List α}, l.take 0 = []) ∧
  (∀ {α : Type} {i : Nat} {a : α} {xs : List α}, (a :: xs).drop (i + 1) = xs.drop i) ∧
  (∀ {α : Type} {l : List α}, l.drop 0 = l) ∧
  ((0 : Int).toNat = 0) ∧
  (∀ {α : Type} {a b : α} {l : List α}, (a :: l).set 0 b = b :: l) ∧
  (∀ {α : Type} {a b : α} {i : Nat} {l : List α}, (a :: l).set (i + 1) b = a :: l.set i b) ∧
  (∀ (p : Prop), (p → p) = True) ∧
  (∀ (p : Prop), (p → True) = True) ∧
  (∀ (p : Prop), (True → p) = p) ∧
  (∀ (p : Prop), (false = true → p) = True) ∧
  (∀ {α : Type} {n : Nat} {a : α}, List.replicate (n + 1) a = a :: List.replicate n a) ∧
  (∀ {α : Type} {a : α}, List.replicate 0 a = []) ∧
  (∀ {α : Type} {l : List α} {L : List (List α)}, (l :: L).flatten = l ++ L.flatten) ∧
  (∀ {α : Type}, ([] : List (List α)).flatten = []) ∧
  (∀ {α : Type} {a : α} {xs ys : List α}, a :: xs ++ ys = a :: (xs ++ ys)) ∧
  (∀ {α : Type} (xs : List α), [] ++ xs = xs) ∧
  (∀ {α : Type} (xs : List α), xs ++ [] = xs) ∧
  (∀ (n : Nat), 0 * n = 0) ∧
  (∀ (n : Nat), 1 * n = n) ∧
  (∀ (n : Nat), n * 1 = n) ∧
  (∀ {α : Type} (xs : List α), xs.toArray.toList = xs) ∧
  (∀ {α : Type} (xs : List α), xs.toArray.size = xs.length) ∧
  (∀ (a b : Int), a + b - b = a) ∧
  (∀ {α : Type} {l : List α}, l.take l.length = l) ∧
  (∀ {α : Type} {i : Nat} {l : List α}, (l.drop i).length = l.length - i) ∧
  (∀ {α β : Type} {f : α → β} {a : α} {l : List α}, (a :: l).map f = f a :: l.map f) ∧
  (∀ {α β : Type} {f : α → β}, ([] : List α).map f = []) ∧
  (∀ (p : Prop), (¬¬p) = p) ∧
  ((¬True) = False) ∧
  ((¬False) = True) ∧
  (∀ {α : Type} {xs : List α} {i : Nat} {a : α}, (xs.set i a).length = xs.length) ∧
  (∀ {α : Type} {n : Nat} {a : α}, (List.replicate n a).length = n) ∧
  (∀ {α : Type} {a : α} {l : List α}, (a :: l)[0]? = some a) ∧
  (∀ {α : Type} {a : α} {i : Nat} {l : List α}, (a :: l)[i + 1]? = l[i]?) ∧
  (∀ {α : Type} {d a : α} {l : List α}, (a :: l).getD 0 d = a) ∧
  (∀ {α β : Type} (a : α) (b : β) (c : α) (d : β), ((a, b) = (c, d)) = (a = c ∧ b = d)) := by
  refine ⟨?_, ?_, ?_, ?_, ?_, ?_, ?_, ?_, ?_, ?_, ?_, ?_, ?_, ?_, ?_, ?_, ?_, ?_, ?_, ?_, ?_, ?_, ?_, ?_, ?_, ?_, ?_, ?_, ?_, ?_, ?_, ?_, ?_, ?_, ?_, ?_, ?_, ?_, ?_, ?_, ?_, ?_, ?_, ?_, ?_, ?_, ?_, ?_, ?_, ?_, ?_, ?_, ?_, ?_, ?_, ?_, ?_, ?_, ?_⟩ <;> intros <;> first | rfl | (simp; done) | skip
theorem LL : (∀ {α : Type} {xs : List α} {i : Nat} {a : α}, (xs.set i a).length = xs.length) ∧
  (∀ {α : Type} {xs ys : List α}, (xs ++ ys).length = xs.length + ys.length) ∧
  (∀ {α : Type} {n : Nat} {a : α}, (List.replicate n a).length = n) ∧
  (∀ {α : Type} {i : Nat} {l : List α}, (l.take i).length = min i l.length) ∧
  (∀ {α : Type} {i : Nat} {l : List α}, (l.drop i).length = l.length - i) ∧
  (∀ {α : Type} {a : α} {xs : List α}, (a :: xs).length = xs.length + 1) ∧
  (∀ {α : Type}, ([] : List α).length = 0) ∧
  (∀ {α β : Type} {xs : List α} (f : α → β), (xs.map f).length = xs.length) := by
  refine ⟨?_, ?_, ?_, ?_, ?_, ?_, ?_, ?_⟩ <;> intros <;> first | rfl | (simp; done) | skip
end Go.Proofs.YteegehbighoplaaDoor.E

set_option linter.unusedSimpArgs false
set_option linter.unusedVariables false
namespace Go.Proofs.YteegehbighoplaaDoor.E
open Go.RowKit Go.ChangeShapes Go.WideShapes Go.Deep

section
variable {H : Type} {enc : TypeId × Value → H} {P : Program} {w : World} {base : Nat} {sp : Nat → Bool} {hd : Bool}

theorem cell_block {a : Addr} {j : Nat} {u : Value} (h : w.cell? (a.add j) = some u) : a.block < w.heap.size := by
  have e := block_of_add a j
  rcases Nat.lt_or_ge a.block w.heap.size with h1 | h1
  · exact h1
  · exfalso
    unfold World.cell? at h
    rw [e, Array.getElem?_eq_none h1] at h
    simp at h

theorem rd_slice {α : Type} [Inhabited α] (g : α → Dt) (Good : α → Prop) {t e : TypeId} (ht : P.underlying t = some (.slice e)) (hc : P.cellsOf e = 1)
    (hel : ∀ n V D Pl, DataW.trod enc P w base sp hd n e [V] = some (D, Pl) → ∃ x, Good x ∧ Rep w (fun k => k < w.heap.size) (g x) V) {fuel : Nat} {cs : List Value} {y : DataW H × List MemPlace}
    (h : DataW.trod enc P w base sp hd fuel t cs = some y) : ∃ l : List α, (∀ x ∈ l, Good x) ∧ ∃ v, cs = [v] ∧ Rep w (fun k => k < w.heap.size) (rowD (fun x => [g x]) l) v := by
  rcases open_slice1 ht hc h with ⟨rfl, _⟩ | ⟨a, len, cap, m, n, V, D, Pl, rfl, _, hl, _, hm, _, hx⟩
  · exact ⟨[], fun x hx => by simp at hx, _, rfl, .sl none 0 0 [] [] rfl (Nat.le_refl _) (fun j u hj => by simp at hj) (fun j u d hj => by simp at hj)⟩
  · have hle : len ≤ m := by rw [hm]; split <;> omega
    obtain ⟨X, hX⟩ := choose_lt (n := len) (α := α) (p := fun i x => Good x ∧ Rep w (fun k => k < w.heap.size) (g x) (V i)) (fun i hi => hel n _ _ _ (hx i (by omega)).2)
    refine ⟨(List.range len).map X, fun x hxm => ?_, _, rfl, ?_⟩
    · obtain ⟨i, hi, rfl⟩ := List.mem_map.1 hxm
      exact (hX i (by simpa using hi)).1
    · have hr : rowD (fun x => [g x]) ((List.range len).map X) = .sl len ((List.range len).map fun i => g (X i)) := by
        unfold rowD rowC
        congr 1
        · simp
        · rw [List.flatMap_map]
          induction List.range len with
          | nil => rfl
          | cons i l ih => simp only [List.flatMap_cons, List.map_cons, ih]; rfl
      rw [hr]
      refine .sl (some a) len cap _ ((List.range len).map V) (by simp) hl (fun j u hj => ?_) (fun j u d hj hd' => ?_)
      · rw [List.getElem?_map] at hj
        cases hq : (List.range len)[j]? with
        | none => rw [hq] at hj; simp at hj
        | some i =>
          rw [hq] at hj
          obtain ⟨hlt, hi⟩ := List.getElem?_eq_some_iff.1 hq
          simp only [List.length_range] at hlt
          simp only [List.getElem_range] at hi
          subst hi
          simp only [Option.map_some, Option.some.injEq] at hj
          subst hj
          have := (hx j (by omega)).1
          exact ⟨a, rfl, cell_block this, this⟩
      · rw [List.getElem?_map] at hj hd'
        cases hq : (List.range len)[j]? with
        | none => rw [hq] at hj; simp at hj
        | some i =>
          rw [hq] at hj hd'
          obtain ⟨hlt, hi⟩ := List.getElem?_eq_some_iff.1 hq
          simp only [List.length_range] at hlt
          simp only [Option.map_some, Option.some.injEq] at hj hd'
          subst hj; subst hd'
          have : i < len := by simp at hi; omega
          exact (hX i this).2

theorem rd_ints {t e : TypeId} (ht : P.underlying t = some (.slice e)) (he : P.underlying e = some (.int .i64)) (hc : P.cellsOf e = 1) {fuel : Nat} {cs : List Value} {y : DataW H × List MemPlace}
    (h : DataW.trod enc P w base sp hd fuel t cs = some y) : ∃ l : List Int, (∀ x ∈ l, -9223372036854775808 ≤ x ∧ x ≤ 9223372036854775807) ∧ ∃ v, cs = [v] ∧ Rep w (fun k => k < w.heap.size) (intsD l) v :=
  rd_slice (fun n => .lit (.int .i64 n)) (fun x => -9223372036854775808 ≤ x ∧ x ≤ 9223372036854775807) ht hc (fun n V D Pl hV => by
    obtain ⟨x, hx, _, hw⟩ := DataW.trod_int he hV
    cases hx
    exact ⟨x, bounds_i64 hw, .lit _ rfl⟩) h
theorem rd_nat {t e : TypeId} (ht : P.underlying t = some (.slice e)) (he : P.underlying e = some (.int .u32)) (hc : P.cellsOf e = 1) {fuel : Nat} {cs : List Value} {y : DataW H × List MemPlace}
    (h : DataW.trod enc P w base sp hd fuel t cs = some y) : ∃ l : List Int, (∀ x ∈ l, 0 ≤ x ∧ x < 4294967296) ∧ ∃ v, cs = [v] ∧ Rep w (fun k => k < w.heap.size) (natD l) v :=
  rd_slice (fun n => .lit (.int .u32 n)) (fun x => 0 ≤ x ∧ x < 4294967296) ht hc (fun n V D Pl hV => by
    obtain ⟨x, hx, _, hw⟩ := DataW.trod_int he hV
    cases hx
    have := bounds_u32 hw
    exact ⟨x, ⟨this.1, by omega⟩, .lit _ rfl⟩) h
/-- a struct of two rows of numbers -/
theorem rd_grid {t t1 e : TypeId} {f0 f1 : Field} (ht : P.underlying t = some (.struct #[f0, f1])) (h0 : f0.type = t1 ∧ f0.offset = 0) (h1 : f1.type = t1 ∧ f1.offset = 1) (hct : P.cellsOf t = 2) (hc1 : P.cellsOf t1 = 1)
    (hs : P.underlying t1 = some (.slice e)) (he : P.underlying e = some (.int .i64)) (hc : P.cellsOf e = 1) {r : Reach} {b0 : Nat} {v : Value} {d : DataW H} {ps : List MemPlace} (hval : Value.okWide P w r b0 t v) (h : DataW.Trod enc P w base sp hd t v d ps) :
    ∃ p q : List Int, (∀ x ∈ p, -9223372036854775808 ≤ x ∧ x ≤ 9223372036854775807) ∧ (∀ x ∈ q, -9223372036854775808 ≤ x ∧ x ≤ 9223372036854775807) ∧ MR w (fun k => k < w.heap.size) (.agg [intsD p, intsD q]) v := by
  obtain ⟨cs, rfl, hsz⟩ := okWide_struct ht hval
  obtain ⟨fuel, hf⟩ := h
  have hcs : (Value.agg cs).cells.toList = cs.toList := rfl
  rw [hcs] at hf
  obtain ⟨y0, y1, n, _, hl, k0, k1⟩ := trod_struct2 ht hf
  rw [h0.1, h0.2, hc1] at k0
  rw [h1.1, h1.2, hc1] at k1
  obtain ⟨p, hp, v0, e0, r0⟩ := rd_ints hs he hc k0
  obtain ⟨q, hq, v1, e1, r1⟩ := rd_ints hs he hc k1
  refine ⟨p, q, hp, hq, cs.toList, by simp, ?_⟩
  rw [hct] at hl
  match hcl : cs.toList, hl with
  | [u0, u1], _ =>
    rw [hcl] at e0 e1
    simp at e0 e1
    subst e0; subst e1
    exact Fits.cons r0 (Fits.cons r1 (Fits.nil _))
end

/-- from a contract to the call: a function that gives one boolean -/
theorem calls_bool {P : Program} {f : Nat} {args : List RV} {b : Bool} (h : AFun P f args [.one (.lit (.bool b))]) (w : World) (vs : List Value) (hf : Fits (MR w (fun k => k < w.heap.size)) args vs) :
    Calls P f vs.toArray w fun e w' => e = .returned (.bool b) ∧ Below w.heap.size w w' := by
  refine (h.2 _ w vs (fun k hk => hk) hf).mono fun e w' ⟨v, he, hm, hb⟩ => ?_
  have : v = .bool b := by
    cases hm with
    | lit v hv => rfl
  rw [he, this]
  exact ⟨rfl, hb⟩
end Go.Proofs.YteegehbighoplaaDoor.E

set_option linter.unusedSimpArgs false
set_option linter.unusedVariables false
namespace Go.Proofs.YteegehbighoplaaDoor.Limbs
/-- the value of limbs of 32 bits, the least significant one first -/
def val : List Int → Int
  | [] => 0
  | x :: xs => x + 4294967296 * val xs
def Lim (l : List Int) : Prop := ∀ x, x ∈ l → 0 ≤ x ∧ x < 4294967296
def Nrm (l : List Int) : Prop := l.getLast? ≠ some 0
def bp (n : Nat) : Int := 4294967296 ^ n
theorem bp_zero : bp 0 = 1 := rfl
theorem bp_succ (n : Nat) : bp (n + 1) = 4294967296 * bp n := by unfold bp; rw [Int.pow_succ]; omega
theorem bp_add (m n : Nat) : bp (m + n) = bp m * bp n := by unfold bp; exact Int.pow_add ..
theorem bp_pos (n : Nat) : 0 < bp n := by unfold bp; exact Int.pow_pos (by omega)
theorem bp_le {m n : Nat} (h : m ≤ n) : bp m ≤ bp n := by
  obtain ⟨k, rfl⟩ := Nat.exists_eq_add_of_le h
  rw [bp_add]
  have h1 := bp_pos m
  have h2 := bp_pos k
  have := Int.mul_le_mul_of_nonneg_left (show (1 : Int) ≤ bp k by omega) (show 0 ≤ bp m by omega)
  omega
theorem Lim.nil : Lim [] := by intro x h; simp at h
theorem Lim.cons {x : Int} {l : List Int} (h0 : 0 ≤ x) (h1 : x < 4294967296) (h : Lim l) : Lim (x :: l) := by
  intro y hy
  rcases List.mem_cons.1 hy with rfl | hy
  · exact ⟨h0, h1⟩
  · exact h y hy
theorem Lim.head {x : Int} {l : List Int} (h : Lim (x :: l)) : 0 ≤ x ∧ x < 4294967296 := h x (by simp)
theorem Lim.tail {x : Int} {l : List Int} (h : Lim (x :: l)) : Lim l := fun y hy => h y (by simp [hy])
theorem Lim.append {a b : List Int} (ha : Lim a) (hb : Lim b) : Lim (a ++ b) := by
  intro y hy
  rcases List.mem_append.1 hy with h | h
  · exact ha y h
  · exact hb y h
theorem Lim.one {x : Int} (h0 : 0 ≤ x) (h1 : x < 4294967296) : Lim [x] := Lim.cons h0 h1 Lim.nil
theorem Lim.take {l : List Int} (h : Lim l) (n : Nat) : Lim (l.take n) := fun y hy => h y (List.mem_of_mem_take hy)
theorem Lim.drop {l : List Int} (h : Lim l) (n : Nat) : Lim (l.drop n) := fun y hy => h y (List.mem_of_mem_drop hy)
theorem Lim.set {l : List Int} (h : Lim l) (n : Nat) {x : Int} (h0 : 0 ≤ x) (h1 : x < 4294967296) : Lim (l.set n x) := by
  intro y hy
  rcases List.mem_or_eq_of_mem_set hy with h2 | rfl
  · exact h y h2
  · exact ⟨h0, h1⟩
theorem Lim.replicate (n : Nat) : Lim (List.replicate n 0) := by
  intro y hy
  rw [(List.mem_replicate.1 hy).2]
  omega
theorem val_nil : val [] = 0 := rfl
theorem val_cons (x : Int) (l : List Int) : val (x :: l) = x + 4294967296 * val l := rfl
theorem val_append (a b : List Int) : val (a ++ b) = val a + bp a.length * val b := by
  induction a with
  | nil => simp [val, bp_zero]
  | cons x l ih =>
    rw [List.cons_append, val_cons, ih, val_cons, List.length_cons, bp_succ, Int.mul_assoc]
    omega
theorem val_one (x : Int) : val [x] = x := by simp [val]
theorem val_snoc (l : List Int) (x : Int) : val (l ++ [x]) = val l + bp l.length * x := by rw [val_append, val_one]
theorem val_replicate (n : Nat) : val (List.replicate n 0) = 0 := by
  induction n with
  | zero => rfl
  | succ n ih => rw [List.replicate_succ, val_cons, ih]; rfl
theorem val_nonneg {l : List Int} (h : Lim l) : 0 ≤ val l := by
  induction l with
  | nil => simp [val]
  | cons x l ih =>
    have := ih h.tail
    have := h.head
    rw [val_cons]; omega
theorem val_lt {l : List Int} (h : Lim l) : val l < bp l.length := by
  induction l with
  | nil => simp [val, bp_zero]
  | cons x l ih =>
    have := ih h.tail
    have := h.head
    rw [val_cons, List.length_cons, bp_succ]; omega
theorem Nrm.nil : Nrm [] := by simp [Nrm]
theorem Nrm.tail {x y : Int} {l : List Int} (h : Nrm (x :: y :: l)) : Nrm (y :: l) := by
  unfold Nrm at h ⊢
  rwa [List.getLast?_cons_cons] at h
theorem val_pos_of_nrm {l : List Int} (hl : Lim l) (hn : Nrm l) (h : l ≠ []) : bp (l.length - 1) ≤ val l := by
  induction l with
  | nil => exact absurd rfl h
  | cons x l ih =>
    cases l with
    | nil =>
      have := hl.head
      have : x ≠ 0 := by intro e; subst e; simp [Nrm] at hn
      simp [bp_zero, val]; omega
    | cons y l =>
      have := ih hl.tail hn.tail (by simp)
      have h2 := hl.head
      rw [val_cons, show (x :: y :: l).length - 1 = ((y :: l).length - 1) + 1 by simp, bp_succ]
      omega
theorem val_pos {l : List Int} (hl : Lim l) (hn : Nrm l) (h : l ≠ []) : 0 < val l := by
  have := val_pos_of_nrm hl hn h
  have := bp_pos (l.length - 1)
  omega
theorem nrm_zero {l : List Int} (hl : Lim l) (hn : Nrm l) (h : val l = 0) : l = [] := by
  by_cases e : l = []
  · exact e
  · have := val_pos hl hn e; omega
/-- limbs in normal form are told by their value -/
theorem val_inj {a b : List Int} (ha : Lim a) (hb : Lim b) (na : Nrm a) (nb : Nrm b) (h : val a = val b) : a = b := by
  induction a generalizing b with
  | nil => exact (nrm_zero hb nb (by rw [← h]; rfl)).symm
  | cons x a ih =>
    cases b with
    | nil => exact nrm_zero ha na (by rw [h]; rfl)
    | cons y b =>
      have h1 := ha.head
      have h2 := hb.head
      rw [val_cons, val_cons] at h
      have e : x = y := by omega
      have e2 : val a = val b := by omega
      subst e
      have na' : Nrm a := by cases a with
        | nil => exact Nrm.nil
        | cons => exact na.tail
      have nb' : Nrm b := by cases b with
        | nil => exact Nrm.nil
        | cons => exact nb.tail
      rw [ih ha.tail hb.tail na' nb' e2]
theorem len_le_of_val {l : List Int} (hl : Lim l) (hn : Nrm l) {n : Nat} (h : val l < bp n) : l.length ≤ n := by
  by_cases e : l = []
  · subst e; simp
  · have h1 := val_pos_of_nrm hl hn e
    have h0 : 0 < l.length := List.length_pos_iff.2 e
    by_cases h2 : l.length ≤ n
    · exact h2
    · have := bp_le (show n ≤ l.length - 1 by omega)
      omega
theorem val_take_succ {l : List Int} {i : Nat} (h : i < l.length) : val (l.take (i + 1)) = val (l.take i) + bp i * l[i] := by
  rw [List.take_succ_eq_append_getElem h, val_snoc, List.length_take, Nat.min_eq_left (by omega)]
theorem val_split (l : List Int) (i : Nat) (h : i ≤ l.length) : val l = val (l.take i) + bp i * val (l.drop i) := by
  conv => lhs; rw [← List.take_append_drop i l]
  rw [val_append, List.length_take, Nat.min_eq_left h]
theorem val_drop {l : List Int} {i : Nat} (h : i < l.length) : val (l.drop i) = l[i] + 4294967296 * val (l.drop (i + 1)) := by
  rw [List.drop_eq_getElem_cons h, val_cons]
theorem val_set {l : List Int} {i : Nat} (h : i < l.length) (x : Int) : val (l.set i x) = val l + bp i * (x - l[i]) := by
  induction l generalizing i with
  | nil => simp at h
  | cons y l ih =>
    cases i with
    | zero => simp [val_cons, bp_zero]; omega
    | succ i =>
      simp only [List.set_cons_succ, val_cons, List.getElem_cons_succ]
      rw [ih (by simpa using h), bp_succ, Int.mul_add, Int.mul_assoc]
      omega

/-- the limbs of a natural number, in normal form -/
def nl (n : Nat) : List Int := if h : n = 0 then [] else ((n % 4294967296 : Nat) : Int) :: nl (n / 4294967296)
termination_by n
decreasing_by omega
theorem nl_zero : nl 0 = [] := by rw [nl]; rfl
theorem nl_pos {n : Nat} (h : n ≠ 0) : nl n = ((n % 4294967296 : Nat) : Int) :: nl (n / 4294967296) := by rw [nl]; rw [dif_neg h]
theorem nl_lim (n : Nat) : Lim (nl n) := by
  induction n using Nat.strongRecOn with
  | _ n ih =>
    by_cases h : n = 0
    · subst h; rw [nl_zero]; exact Lim.nil
    · rw [nl_pos h]
      exact Lim.cons (by omega) (by omega) (ih _ (by omega))
theorem val_nl (n : Nat) : val (nl n) = n := by
  induction n using Nat.strongRecOn with
  | _ n ih =>
    by_cases h : n = 0
    · subst h; rw [nl_zero]; rfl
    · rw [nl_pos h, val_cons, ih _ (by omega)]
      omega
theorem nl_nrm (n : Nat) : Nrm (nl n) := by
  induction n using Nat.strongRecOn with
  | _ n ih =>
    by_cases h : n = 0
    · subst h; rw [nl_zero]; exact Nrm.nil
    · rw [nl_pos h]
      by_cases h2 : n / 4294967296 = 0
      · rw [h2, nl_zero]; unfold Nrm; simp; omega
      · have := ih (n / 4294967296) (by omega)
        rw [nl_pos h2] at this ⊢
        unfold Nrm at this ⊢
        rwa [List.getLast?_cons_cons]
/-- the value as a natural number -/
def nv (l : List Int) : Nat := (val l).toNat
theorem nv_eq {l : List Int} (h : Lim l) : (nv l : Int) = val l := by unfold nv; have := val_nonneg h; omega
theorem nv_nl (n : Nat) : nv (nl n) = n := by unfold nv; rw [val_nl]; omega
theorem eq_nl {l : List Int} (h : Lim l) (hn : Nrm l) {n : Nat} (e : val l = n) : l = nl n := val_inj h (nl_lim _) hn (nl_nrm _) (by rw [val_nl, e])
theorem nl_eq_nil {n : Nat} : nl n = [] ↔ n = 0 := ⟨fun h => by rw [← nv_nl n, h]; rfl, fun h => by rw [h, nl_zero]⟩
theorem nl_len {n m : Nat} (h : n < 4294967296 ^ m) : (nl n).length ≤ m := by
  refine len_le_of_val (nl_lim n) (nl_nrm n) ?_
  rw [val_nl]; unfold bp
  have : ((4294967296 ^ m : Nat) : Int) = (4294967296 : Int) ^ m := by simp
  omega
theorem nv_lt {l : List Int} (h : Lim l) : nv l < 4294967296 ^ l.length := by
  have h1 := val_lt h
  rw [← nv_eq h] at h1; unfold bp at h1
  have : ((4294967296 ^ l.length : Nat) : Int) = (4294967296 : Int) ^ l.length := by simp
  omega
theorem nl_len_iff {n m : Nat} : (nl n).length ≤ m ↔ n < 4294967296 ^ m := by
  refine ⟨fun h => ?_, nl_len⟩
  have h1 := nv_lt (nl_lim n)
  rw [nv_nl] at h1
  exact Nat.lt_of_lt_of_le h1 (Nat.pow_le_pow_right (by omega) h)
/-- without the high limbs that are 0 -/
def tr (l : List Int) : List Int := nl (nv l)
theorem tr_of_take {l : List Int} (h : Lim l) {i : Nat} (hi : i ≤ l.length) (hz : val (l.drop i) = 0) (hn : Nrm (l.take i)) : l.take i = tr l := by
  refine eq_nl (h.take i) hn ?_
  rw [nv_eq h, val_split l i hi, hz]; omega
theorem nrm_take {l : List Int} {i : Nat} (h0 : 0 < i) (h : i ≤ l.length) (hx : ¬ l.getD (i - 1) 0 = 0) : Nrm (l.take i) := by
  unfold Nrm
  have hi1 : i - 1 < l.length := by omega
  rw [List.getLast?_eq_getElem?, List.length_take, Nat.min_eq_left h, List.getElem?_take, if_pos (by omega), List.getElem?_eq_getElem hi1]
  rw [List.getD_eq_getElem?_getD, List.getElem?_eq_getElem hi1] at hx
  intro e
  exact hx (by simpa using e)
theorem getD_eq {l : List Int} {i : Nat} (h : i < l.length) : l.getD i 0 = l[i] := by rw [List.getD_eq_getElem?_getD, List.getElem?_eq_getElem h]; rfl
theorem Lim.getD {l : List Int} (h : Lim l) (i : Nat) : 0 ≤ l.getD i 0 ∧ l.getD i 0 < 4294967296 := by
  by_cases hi : i < l.length
  · rw [getD_eq hi]; exact h _ (List.getElem_mem hi)
  · rw [List.getD_eq_getElem?_getD, List.getElem?_eq_none (by omega)]; simp
theorem val_take_getD {l : List Int} {i : Nat} (h : i < l.length) : val (l.take (i + 1)) = val (l.take i) + bp i * l.getD i 0 := by rw [val_take_succ h, getD_eq h]
theorem val_drop_getD {l : List Int} {i : Nat} (h : i < l.length) : val (l.drop i) = l.getD i 0 + 4294967296 * val (l.drop (i + 1)) := by rw [val_drop h, getD_eq h]
theorem lt_of_len {x y : List Int} (hx : Lim x) (hy : Lim y) (ny : Nrm y) (h : x.length < y.length) : val x < val y := by
  have h1 := val_lt hx
  have h2 := val_pos_of_nrm hy ny (by intro e; subst e; simp at h)
  have h3 := bp_le (show x.length ≤ y.length - 1 by omega)
  omega
theorem lt_of_at {x y : List Int} (hx : Lim x) (hy : Lim y) {i : Nat} (hi : i < x.length) (hi' : i < y.length) (hd : val (x.drop (i + 1)) = val (y.drop (i + 1))) (h : x.getD i 0 < y.getD i 0) : val x < val y := by
  rw [val_split x i (by omega), val_split y i (by omega), val_drop_getD hi, val_drop_getD hi', hd]
  have h1 := val_lt (hx.take i)
  rw [List.length_take, Nat.min_eq_left (by omega)] at h1
  have h2 := val_nonneg (hy.take i)
  have h3 : bp i * (x.getD i 0 + 4294967296 * val (y.drop (i + 1)) + 1) ≤ bp i * (y.getD i 0 + 4294967296 * val (y.drop (i + 1))) := Int.mul_le_mul_of_nonneg_left (by omega) (by have := bp_pos i; omega)
  rw [Int.mul_add, Int.mul_one] at h3
  omega
theorem nrm_of_val {l : List Int} (h : Lim l) (hv : l ≠ [] → bp (l.length - 1) ≤ val l) : Nrm l := by
  intro e
  by_cases h0 : l = []
  · subst h0; simp at e
  · have h1 := hv h0
    have h2 : l = l.dropLast ++ [0] := by
      have := List.dropLast_concat_getLast h0
      rw [List.getLast?_eq_some_getLast h0] at e
      have e2 : l.getLast h0 = 0 := Option.some.inj e
      rw [e2] at this; exact this.symm
    have h3 : val l = val l.dropLast := by
      conv => lhs; rw [h2]
      rw [val_append, val_one]; omega
    have h4 : Lim l.dropLast := fun x hx => h x ((List.dropLast_sublist l).subset hx)
    have h5 := val_lt h4
    rw [List.length_dropLast] at h5
    omega
theorem take_getD_over {l : List Int} {i : Nat} (h : l.length ≤ i) : l.take (i + 1) = l.take i := by rw [List.take_of_length_le (by omega), List.take_of_length_le h]
theorem Lim.snoc {l : List Int} (h : Lim l) {x : Int} (h0 : 0 ≤ x) (h1 : x < 4294967296) : Lim (l ++ [x]) := Lim.append h (Lim.one h0 h1)
theorem take_set_succ {l : List Int} {i : Nat} (h : i < l.length) (x : Int) : (l.set i x).take (i + 1) = l.take i ++ [x] := by
  rw [List.take_succ_eq_append_getElem (by simpa using h), List.getElem_set_self, List.take_set_of_le (Nat.le_refl i)]
theorem getD_set_ne {l : List Int} {i j : Nat} (h : i ≠ j) (x : Int) : (l.set i x).getD j 0 = l.getD j 0 := by simp only [List.getD_eq_getElem?_getD, List.getElem?_set_ne h]
theorem val_set_getD {l : List Int} {i : Nat} (h : i < l.length) (x : Int) : val (l.set i x) = val l + bp i * (x - l.getD i 0) := by rw [val_set h, getD_eq h]
theorem mul_bound {p q : Int} (h1 : 0 ≤ p) (h2 : p < 4294967296) (h3 : 0 ≤ q) (h4 : q < 4294967296) : 0 ≤ p * q ∧ p * q ≤ 18446744065119617025 := by
  refine ⟨Int.mul_nonneg h1 h3, ?_⟩
  have := Int.mul_le_mul (show p ≤ 4294967295 by omega) (show q ≤ 4294967295 by omega) h3 (by omega)
  omega
theorem getD_over {l : List Int} {i : Nat} (h : l.length ≤ i) : l.getD i 0 = 0 := by rw [List.getD_eq_getElem?_getD, List.getElem?_eq_none h]; rfl
theorem val_split' (l : List Int) (i : Nat) : val l = val (l.take i) + bp i * val (l.drop i) := by
  by_cases h : i ≤ l.length
  · exact val_split l i h
  · rw [List.take_of_length_le (by omega), List.drop_of_length_le (by omega), val_nil]; omega
theorem val_drop' (l : List Int) (i : Nat) : val (l.drop i) = l.getD i 0 + 4294967296 * val (l.drop (i + 1)) := by
  by_cases h : i < l.length
  · exact val_drop_getD h
  · rw [getD_over (by omega), List.drop_of_length_le (by omega), List.drop_of_length_le (by omega), val_nil]; omega
theorem val_take' (l : List Int) (i : Nat) : val (l.take (i + 1)) = val (l.take i) + bp i * l.getD i 0 := by
  by_cases h : i < l.length
  · exact val_take_getD h
  · rw [getD_over (by omega), List.take_of_length_le (by omega), List.take_of_length_le (by omega)]; omega
theorem val_take_lt {l : List Int} (h : Lim l) (i : Nat) : val (l.take i) < bp i := by
  have h1 := val_lt (h.take i)
  have h2 := bp_le (show (l.take i).length ≤ i by rw [List.length_take]; omega)
  omega
end Go.Proofs.YteegehbighoplaaDoor.Limbs

namespace Go.Proofs.YteegehbighoplaaDoor.E
open Go.RowKit
set_option maxRecDepth 100000 in
theorem TY : tok Tryd.prog 2 = true ∧
  tsz Tryd.prog 2 = 1 ∧
  tagg Tryd.prog 2 = false ∧
  telem Tryd.prog 2 = none ∧
  tarr Tryd.prog 2 = none ∧
  tbool Tryd.prog 2 = false ∧
  tbytes Tryd.prog 2 = 8 ∧
  tint Tryd.prog 2 = some IntKind.i64 ∧
  zeros Tryd.prog 2 = some [Ce.dt (Dt.lit (Value.int IntKind.i64 (0)))] ∧
  (tzero Tryd.prog 2).map List.length = some 1 ∧
  (Tryd.prog.underlying 2).isSome = true ∧
  tstr Tryd.prog 2 = false ∧
  tok Tryd.prog 3 = true ∧
  tsz Tryd.prog 3 = 1 ∧
  tagg Tryd.prog 3 = false ∧
  telem Tryd.prog 3 = none ∧
  tarr Tryd.prog 3 = none ∧
  tbool Tryd.prog 3 = false ∧
  tbytes Tryd.prog 3 = 8 ∧
  tint Tryd.prog 3 = some IntKind.i64 ∧
  zeros Tryd.prog 3 = some [Ce.dt (Dt.lit (Value.int IntKind.i64 (0)))] ∧
  (tzero Tryd.prog 3).map List.length = some 1 ∧
  (Tryd.prog.underlying 3).isSome = true ∧
  tstr Tryd.prog 3 = false ∧
  tok Tryd.prog 4 = true ∧
  tsz Tryd.prog 4 = 1 ∧
  tagg Tryd.prog 4 = false ∧
  telem Tryd.prog 4 = none ∧
  tarr Tryd.prog 4 = none ∧
  tbool Tryd.prog 4 = true ∧
  tbytes Tryd.prog 4 = 1 ∧
  tint Tryd.prog 4 = none ∧
  zeros Tryd.prog 4 = some [Ce.dt (Dt.lit (Value.bool false))] ∧
  (tzero Tryd.prog 4).map List.length = some 1 ∧
  (Tryd.prog.underlying 4).isSome = true ∧
  tstr Tryd.prog 4 = false ∧
  tok Tryd.prog 5 = true ∧
  tsz Tryd.prog 5 = 1 ∧
  tagg Tryd.prog 5 = false ∧
  telem Tryd.prog 5 = none ∧
  tarr Tryd.prog 5 = none ∧
  tbool Tryd.prog 5 = false ∧
  tbytes Tryd.prog 5 = 1 ∧
  tint Tryd.prog 5 = some IntKind.u8 ∧
  zeros Tryd.prog 5 = some [Ce.dt (Dt.lit (Value.int IntKind.u8 (0)))] ∧
  (tzero Tryd.prog 5).map List.length = some 1 ∧
  (Tryd.prog.underlying 5).isSome = true ∧
  tstr Tryd.prog 5 = false ∧
  tzv Tryd.prog 5 = some (Value.int IntKind.u8 (0)) ∧
  tok Tryd.prog 42 = true ∧
  tsz Tryd.prog 42 = 1 ∧
  tagg Tryd.prog 42 = false ∧
  telem Tryd.prog 42 = none ∧
  tarr Tryd.prog 42 = none ∧
  tbool Tryd.prog 42 = false ∧
  tbytes Tryd.prog 42 = 4 ∧
  tint Tryd.prog 42 = some IntKind.u32 ∧
  zeros Tryd.prog 42 = some [Ce.dt (Dt.lit (Value.int IntKind.u32 (0)))] ∧
  (tzero Tryd.prog 42).map List.length = some 1 ∧
  (Tryd.prog.underlying 42).isSome = true ∧
  tstr Tryd.prog 42 = false ∧
  tok Tryd.prog 48 = true ∧
  tsz Tryd.prog 48 = 1 ∧
  tagg Tryd.prog 48 = false ∧
  telem Tryd.prog 48 = none ∧
  tarr Tryd.prog 48 = none ∧
  tbool Tryd.prog 48 = false ∧
  tbytes Tryd.prog 48 = 8 ∧
  tint Tryd.prog 48 = some IntKind.u64 ∧
  zeros Tryd.prog 48 = some [Ce.dt (Dt.lit (Value.int IntKind.u64 (0)))] ∧
  (tzero Tryd.prog 48).map List.length = some 1 ∧
  (Tryd.prog.underlying 48).isSome = true ∧
  tstr Tryd.prog 48 = false ∧
  tok Tryd.prog 86 = true ∧
  tsz Tryd.prog 86 = 1 ∧
  tagg Tryd.prog 86 = false ∧
  telem Tryd.prog 86 = none ∧
  tarr Tryd.prog 86 = none ∧
  tbool Tryd.prog 86 = false ∧
  tbytes Tryd.prog 86 = 8 ∧
  tint Tryd.prog 86 = some IntKind.u64 ∧
  zeros Tryd.prog 86 = some [Ce.dt (Dt.lit (Value.int IntKind.u64 (0)))] ∧
  (tzero Tryd.prog 86).map List.length = some 1 ∧
  (Tryd.prog.underlying 86).isSome = true ∧
  tstr Tryd.prog 86 = false ∧
  tok Tryd.prog 9 = true ∧
  tsz Tryd.prog 9 = 1 ∧
  tagg Tryd.prog 9 = false ∧
  telem Tryd.prog 9 = none ∧
  tarr Tryd.prog 9 = none ∧
  tbool Tryd.prog 9 = false ∧
  tbytes Tryd.prog 9 = 16 ∧
  tint Tryd.prog 9 = none ∧
  zeros Tryd.prog 9 = some [Ce.dt (Dt.lit (Value.string { data := { toList := [] } }))] ∧
  (tzero Tryd.prog 9).map List.length = some 1 ∧
  (Tryd.prog.underlying 9).isSome = true ∧
  tstr Tryd.prog 9 = true ∧
  tok Tryd.prog 22 = true ∧
  tsz Tryd.prog 22 = 1 ∧
  tagg Tryd.prog 22 = false ∧
  telem Tryd.prog 22 = some 3 ∧
  tarr Tryd.prog 22 = none ∧
  tbool Tryd.prog 22 = false ∧
  tbytes Tryd.prog 22 = 24 ∧
  tint Tryd.prog 22 = none ∧
  zeros Tryd.prog 22 = some [Ce.z] ∧
  (tzero Tryd.prog 22).map List.length = some 1 ∧
  (Tryd.prog.underlying 22).isSome = true ∧
  tstr Tryd.prog 22 = false ∧
  tok Tryd.prog 103 = true ∧
  tsz Tryd.prog 103 = 1 ∧
  tagg Tryd.prog 103 = false ∧
  telem Tryd.prog 103 = some 5 ∧
  tarr Tryd.prog 103 = none ∧
  tbool Tryd.prog 103 = false ∧
  tbytes Tryd.prog 103 = 24 ∧
  tint Tryd.prog 103 = none ∧
  zeros Tryd.prog 103 = some [Ce.z] ∧
  (tzero Tryd.prog 103).map List.length = some 1 ∧
  (Tryd.prog.underlying 103).isSome = true ∧
  tstr Tryd.prog 103 = false ∧
  tok Tryd.prog 25 = true ∧
  tsz Tryd.prog 25 = 1 ∧
  tagg Tryd.prog 25 = false ∧
  telem Tryd.prog 25 = some 42 ∧
  tarr Tryd.prog 25 = none ∧
  tbool Tryd.prog 25 = false ∧
  tbytes Tryd.prog 25 = 24 ∧
  tint Tryd.prog 25 = none ∧
  zeros Tryd.prog 25 = some [Ce.z] ∧
  (tzero Tryd.prog 25).map List.length = some 1 ∧
  (Tryd.prog.underlying 25).isSome = true ∧
  tstr Tryd.prog 25 = false ∧
  tok Tryd.prog 24 = true ∧
  tsz Tryd.prog 24 = 2 ∧
  tagg Tryd.prog 24 = true ∧
  telem Tryd.prog 24 = none ∧
  tarr Tryd.prog 24 = none ∧
  tbool Tryd.prog 24 = false ∧
  tbytes Tryd.prog 24 = 48 ∧
  tint Tryd.prog 24 = none ∧
  zeros Tryd.prog 24 = some [Ce.z, Ce.z] ∧
  (tzero Tryd.prog 24).map List.length = some 2 ∧
  (Tryd.prog.underlying 24).isSome = true ∧
  (tplaces Tryd.prog 24).isSome = true ∧
  tstr Tryd.prog 24 = false ∧
  foff Tryd.prog 24 0 = some 0 ∧
  tplace Tryd.prog 24 0 = some (0, 1) ∧
  foff Tryd.prog 24 1 = some 1 ∧
  tplace Tryd.prog 24 1 = some (1, 1) ∧
  tok Tryd.prog 31 = true ∧
  tsz Tryd.prog 31 = 1 ∧
  tagg Tryd.prog 31 = false ∧
  telem Tryd.prog 31 = none ∧
  tarr Tryd.prog 31 = none ∧
  tbool Tryd.prog 31 = false ∧
  tbytes Tryd.prog 31 = 8 ∧
  tint Tryd.prog 31 = some IntKind.i64 ∧
  zeros Tryd.prog 31 = some [Ce.dt (Dt.lit (Value.int IntKind.i64 (0)))] ∧
  (tzero Tryd.prog 31).map List.length = some 1 ∧
  (Tryd.prog.underlying 31).isSome = true ∧
  tstr Tryd.prog 31 = false ∧
  tok Tryd.prog 41 = true ∧
  tsz Tryd.prog 41 = 1 ∧
  tagg Tryd.prog 41 = false ∧
  telem Tryd.prog 41 = some 26 ∧
  tarr Tryd.prog 41 = none ∧
  tbool Tryd.prog 41 = false ∧
  tbytes Tryd.prog 41 = 24 ∧
  tint Tryd.prog 41 = none ∧
  zeros Tryd.prog 41 = some [Ce.z] ∧
  (tzero Tryd.prog 41).map List.length = some 1 ∧
  (Tryd.prog.underlying 41).isSome = true ∧
  tstr Tryd.prog 41 = false ∧
  tok Tryd.prog 26 = true ∧
  tsz Tryd.prog 26 = 1 ∧
  tagg Tryd.prog 26 = false ∧
  telem Tryd.prog 26 = some 42 ∧
  tarr Tryd.prog 26 = none ∧
  tbool Tryd.prog 26 = false ∧
  tbytes Tryd.prog 26 = 24 ∧
  tint Tryd.prog 26 = none ∧
  zeros Tryd.prog 26 = some [Ce.z] ∧
  (tzero Tryd.prog 26).map List.length = some 1 ∧
  (Tryd.prog.underlying 26).isSome = true ∧
  tstr Tryd.prog 26 = false ∧
  tok Tryd.prog 28 = true ∧
  tsz Tryd.prog 28 = 2 ∧
  tagg Tryd.prog 28 = true ∧
  telem Tryd.prog 28 = none ∧
  tarr Tryd.prog 28 = none ∧
  tbool Tryd.prog 28 = false ∧
  tbytes Tryd.prog 28 = 32 ∧
  tint Tryd.prog 28 = none ∧
  zeros Tryd.prog 28 = some [Ce.dt (Dt.lit (Value.bool false)), Ce.z] ∧
  (tzero Tryd.prog 28).map List.length = some 2 ∧
  (Tryd.prog.underlying 28).isSome = true ∧
  (tplaces Tryd.prog 28).isSome = true ∧
  tstr Tryd.prog 28 = false ∧
  foff Tryd.prog 28 0 = some 0 ∧
  tplace Tryd.prog 28 0 = some (0, 1) ∧
  foff Tryd.prog 28 1 = some 1 ∧
  tplace Tryd.prog 28 1 = some (1, 1) ∧
  tok Tryd.prog 30 = true ∧
  tsz Tryd.prog 30 = 3 ∧
  tagg Tryd.prog 30 = true ∧
  telem Tryd.prog 30 = none ∧
  tarr Tryd.prog 30 = none ∧
  tbool Tryd.prog 30 = false ∧
  tbytes Tryd.prog 30 = 56 ∧
  tint Tryd.prog 30 = none ∧
  zeros Tryd.prog 30 = some [Ce.dt (Dt.lit (Value.bool false)), Ce.z, Ce.z] ∧
  (tzero Tryd.prog 30).map List.length = some 3 ∧
  (Tryd.prog.underlying 30).isSome = true ∧
  (tplaces Tryd.prog 30).isSome = true ∧
  tstr Tryd.prog 30 = false ∧
  foff Tryd.prog 30 0 = some 0 ∧
  tplace Tryd.prog 30 0 = some (0, 2) ∧
  foff Tryd.prog 30 1 = some 2 ∧
  tplace Tryd.prog 30 1 = some (2, 1) ∧
  tok Tryd.prog 69 = true ∧
  tsz Tryd.prog 69 = 1 ∧
  tagg Tryd.prog 69 = false ∧
  telem Tryd.prog 69 = some 30 ∧
  tarr Tryd.prog 69 = none ∧
  tbool Tryd.prog 69 = false ∧
  tbytes Tryd.prog 69 = 24 ∧
  tint Tryd.prog 69 = none ∧
  zeros Tryd.prog 69 = some [Ce.z] ∧
  (tzero Tryd.prog 69).map List.length = some 1 ∧
  (Tryd.prog.underlying 69).isSome = true ∧
  tstr Tryd.prog 69 = false ∧
  tok Tryd.prog 52 = true ∧
  tsz Tryd.prog 52 = 6 ∧
  tagg Tryd.prog 52 = true ∧
  telem Tryd.prog 52 = none ∧
  tarr Tryd.prog 52 = none ∧
  tbool Tryd.prog 52 = false ∧
  tbytes Tryd.prog 52 = 112 ∧
  tint Tryd.prog 52 = none ∧
  zeros Tryd.prog 52 = some [Ce.dt (Dt.lit (Value.bool false)), Ce.z, Ce.z, Ce.dt (Dt.lit (Value.bool false)), Ce.z, Ce.z] ∧
  (tzero Tryd.prog 52).map List.length = some 6 ∧
  (Tryd.prog.underlying 52).isSome = true ∧
  (tplaces Tryd.prog 52).isSome = true ∧
  tstr Tryd.prog 52 = false ∧
  foff Tryd.prog 52 0 = some 0 ∧
  tplace Tryd.prog 52 0 = some (0, 3) ∧
  foff Tryd.prog 52 1 = some 3 ∧
  tplace Tryd.prog 52 1 = some (3, 3) ∧
  tok Tryd.prog 90 = true ∧
  tsz Tryd.prog 90 = 12 ∧
  tagg Tryd.prog 90 = true ∧
  telem Tryd.prog 90 = none ∧
  tarr Tryd.prog 90 = some (4, 30) ∧
  tbool Tryd.prog 90 = false ∧
  tbytes Tryd.prog 90 = 224 ∧
  tint Tryd.prog 90 = none ∧
  zeros Tryd.prog 90 = some [Ce.dt (Dt.lit (Value.bool false)), Ce.z, Ce.z, Ce.dt (Dt.lit (Value.bool false)), Ce.z, Ce.z, Ce.dt (Dt.lit (Value.bool false)), Ce.z, Ce.z, Ce.dt (Dt.lit (Value.bool false)), Ce.z, Ce.z] ∧
  (tzero Tryd.prog 90).map List.length = some 12 ∧
  (Tryd.prog.underlying 90).isSome = true ∧
  (tplaces Tryd.prog 90).isSome = true ∧
  tstr Tryd.prog 90 = false ∧
  tplace Tryd.prog 90 0 = some (0, 3) ∧
  tplace Tryd.prog 90 1 = some (3, 3) ∧
  tplace Tryd.prog 90 2 = some (6, 3) ∧
  tok Tryd.prog 53 = true ∧
  tsz Tryd.prog 53 = 2 ∧
  tagg Tryd.prog 53 = true ∧
  telem Tryd.prog 53 = none ∧
  tarr Tryd.prog 53 = some (2, 5) ∧
  tbool Tryd.prog 53 = false ∧
  tbytes Tryd.prog 53 = 2 ∧
  tint Tryd.prog 53 = none ∧
  zeros Tryd.prog 53 = some [Ce.dt (Dt.lit (Value.int IntKind.u8 (0))), Ce.dt (Dt.lit (Value.int IntKind.u8 (0)))] ∧
  (tzero Tryd.prog 53).map List.length = some 2 ∧
  (Tryd.prog.underlying 53).isSome = true ∧
  (tplaces Tryd.prog 53).isSome = true ∧
  tstr Tryd.prog 53 = false ∧
  tplace Tryd.prog 53 0 = some (0, 1) ∧
  tplace Tryd.prog 53 1 = some (1, 1) ∧
  tplace Tryd.prog 53 2 = some (2, 1) ∧
  tok Tryd.prog 113 = true ∧
  tsz Tryd.prog 113 = 24 ∧
  tagg Tryd.prog 113 = true ∧
  telem Tryd.prog 113 = none ∧
  tarr Tryd.prog 113 = some (24, 5) ∧
  tbool Tryd.prog 113 = false ∧
  tbytes Tryd.prog 113 = 24 ∧
  tint Tryd.prog 113 = none ∧
  zeros Tryd.prog 113 = some [Ce.dt (Dt.lit (Value.int IntKind.u8 (0))), Ce.dt (Dt.lit (Value.int IntKind.u8 (0))), Ce.dt (Dt.lit (Value.int IntKind.u8 (0))), Ce.dt (Dt.lit (Value.int IntKind.u8 (0))), Ce.dt (Dt.lit (Value.int IntKind.u8 (0))), Ce.dt (Dt.lit (Value.int IntKind.u8 (0))), Ce.dt (Dt.lit (Value.int IntKind.u8 (0))), Ce.dt (Dt.lit (Value.int IntKind.u8 (0))), Ce.dt (Dt.lit (Value.int IntKind.u8 (0))), Ce.dt (Dt.lit (Value.int IntKind.u8 (0))), Ce.dt (Dt.lit (Value.int IntKind.u8 (0))), Ce.dt (Dt.lit (Value.int IntKind.u8 (0))), Ce.dt (Dt.lit (Value.int IntKind.u8 (0))), Ce.dt (Dt.lit (Value.int IntKind.u8 (0))), Ce.dt (Dt.lit (Value.int IntKind.u8 (0))), Ce.dt (Dt.lit (Value.int IntKind.u8 (0))), Ce.dt (Dt.lit (Value.int IntKind.u8 (0))), Ce.dt (Dt.lit (Value.int IntKind.u8 (0))), Ce.dt (Dt.lit (Value.int IntKind.u8 (0))), Ce.dt (Dt.lit (Value.int IntKind.u8 (0))), Ce.dt (Dt.lit (Value.int IntKind.u8 (0))), Ce.dt (Dt.lit (Value.int IntKind.u8 (0))), Ce.dt (Dt.lit (Value.int IntKind.u8 (0))), Ce.dt (Dt.lit (Value.int IntKind.u8 (0)))] ∧
  (tzero Tryd.prog 113).map List.length = some 24 ∧
  (Tryd.prog.underlying 113).isSome = true ∧
  (tplaces Tryd.prog 113).isSome = true ∧
  tstr Tryd.prog 113 = false ∧
  tplace Tryd.prog 113 0 = some (0, 1) ∧
  tplace Tryd.prog 113 1 = some (1, 1) ∧
  tplace Tryd.prog 113 2 = some (2, 1) :=
  ⟨by kernel_rfl, by kernel_rfl, by kernel_rfl, by kernel_rfl, by kernel_rfl, by kernel_rfl, by kernel_rfl, by kernel_rfl, by kernel_rfl, by kernel_rfl, by kernel_rfl, by kernel_rfl, by kernel_rfl, by kernel_rfl, by kernel_rfl, by kernel_rfl, by kernel_rfl, by kernel_rfl, by kernel_rfl, by kernel_rfl, by kernel_rfl, by kernel_rfl, by kernel_rfl, by kernel_rfl, by kernel_rfl, by kernel_rfl, by kernel_rfl, by kernel_rfl, by kernel_rfl, by kernel_rfl, by kernel_rfl, by kernel_rfl, by kernel_rfl, by kernel_rfl, by kernel_rfl, by kernel_rfl, by kernel_rfl, by kernel_rfl, by kernel_rfl, by kernel_rfl, by kernel_rfl, by kernel_rfl, by kernel_rfl, by kernel_rfl, by kernel_rfl, by kernel_rfl, by kernel_rfl, by kernel_rfl, by kernel_rfl, by kernel_rfl, by kernel_rfl, by kernel_rfl, by kernel_rfl, by kernel_rfl, by kernel_rfl, by kernel_rfl, by kernel_rfl, by kernel_rfl, by kernel_rfl, by kernel_rfl, by kernel_rfl, by kernel_rfl, by kernel_rfl, by kernel_rfl, by kernel_rfl, by kernel_rfl, by kernel_rfl, by kernel_rfl, by kernel_rfl, by kernel_rfl, by kernel_rfl, by kernel_rfl, by kernel_rfl, by kernel_rfl, by kernel_rfl, by kernel_rfl, by kernel_rfl, by kernel_rfl, by kernel_rfl, by kernel_rfl, by kernel_rfl, by kernel_rfl, by kernel_rfl, by kernel_rfl, by kernel_rfl, by kernel_rfl, by kernel_rfl, by kernel_rfl, by kernel_rfl, by kernel_rfl, by kernel_rfl, by kernel_rfl, by kernel_rfl, by kernel_rfl, by kernel_rfl, by kernel_rfl, by kernel_rfl, by kernel_rfl, by kernel_rfl, by kernel_rfl, by kernel_rfl, by kernel_rfl, by kernel_rfl, by kernel_rfl, by kernel_rfl, by kernel_rfl, by kernel_rfl, by kernel_rfl, by kernel_rfl, by kernel_rfl, by kernel_rfl, by kernel_rfl, by kernel_rfl, by kernel_rfl, by kernel_rfl, by kernel_rfl, by kernel_rfl, by kernel_rfl, by kernel_rfl, by kernel_rfl, by kernel_rfl, by kernel_rfl, by kernel_rfl, by kernel_rfl, by kernel_rfl, by kernel_rfl, by kernel_rfl, by kernel_rfl, by kernel_rfl, by kernel_rfl, by kernel_rfl, by kernel_rfl, by kernel_rfl, by kernel_rfl, by kernel_rfl, by kernel_rfl, by kernel_rfl, by kernel_rfl, by kernel_rfl, by kernel_rfl, by kernel_rfl, by kernel_rfl, by kernel_rfl, by kernel_rfl, by kernel_rfl, by kernel_rfl, by kernel_rfl, by kernel_rfl, by kernel_rfl, by kernel_rfl, by kernel_rfl, by kernel_rfl, by kernel_rfl, by kernel_rfl, by kernel_rfl, by kernel_rfl, by kernel_rfl, by kernel_rfl, by kernel_rfl, by kernel_rfl, by kernel_rfl, by kernel_rfl, by kernel_rfl, by kernel_rfl, by kernel_rfl, by kernel_rfl, by kernel_rfl, by kernel_rfl, by kernel_rfl, by kernel_rfl, by kernel_rfl, by kernel_rfl, by kernel_rfl, by kernel_rfl, by kernel_rfl, by kernel_rfl, by kernel_rfl, by kernel_rfl, by kernel_rfl, by kernel_rfl, by kernel_rfl, by kernel_rfl, by kernel_rfl, by kernel_rfl, by kernel_rfl, by kernel_rfl, by kernel_rfl, by kernel_rfl, by kernel_rfl, by kernel_rfl, by kernel_rfl, by kernel_rfl, by kernel_rfl, by kernel_rfl, by kernel_rfl, by kernel_rfl, by kernel_rfl, by kernel_rfl, by kernel_rfl, by kernel_rfl, by kernel_rfl, by kernel_rfl, by kernel_rfl, by kernel_rfl, by kernel_rfl, by kernel_rfl, by kernel_rfl, by kernel_rfl, by kernel_rfl, by kernel_rfl, by kernel_rfl, by kernel_rfl, by kernel_rfl, by kernel_rfl, by kernel_rfl, by kernel_rfl, by kernel_rfl, by kernel_rfl, by kernel_rfl, by kernel_rfl, by kernel_rfl, by kernel_rfl, by kernel_rfl, by kernel_rfl, by kernel_rfl, by kernel_rfl, by kernel_rfl, by kernel_rfl, by kernel_rfl, by kernel_rfl, by kernel_rfl, by kernel_rfl, by kernel_rfl, by kernel_rfl, by kernel_rfl, by kernel_rfl, by kernel_rfl, by kernel_rfl, by kernel_rfl, by kernel_rfl, by kernel_rfl, by kernel_rfl, by kernel_rfl, by kernel_rfl, by kernel_rfl, by kernel_rfl, by kernel_rfl, by kernel_rfl, by kernel_rfl, by kernel_rfl, by kernel_rfl, by kernel_rfl, by kernel_rfl, by kernel_rfl, by kernel_rfl, by kernel_rfl, by kernel_rfl, by kernel_rfl, by kernel_rfl, by kernel_rfl, by kernel_rfl, by kernel_rfl, by kernel_rfl, by kernel_rfl, by kernel_rfl, by kernel_rfl, by kernel_rfl, by kernel_rfl, by kernel_rfl, by kernel_rfl, by kernel_rfl, by kernel_rfl, by kernel_rfl, by kernel_rfl, by kernel_rfl, by kernel_rfl, by kernel_rfl, by kernel_rfl, by kernel_rfl, by kernel_rfl, by kernel_rfl, by kernel_rfl, by kernel_rfl, by kernel_rfl, by kernel_rfl, by kernel_rfl, by kernel_rfl, by kernel_rfl, by kernel_rfl, by kernel_rfl, by kernel_rfl, by kernel_rfl, by kernel_rfl, by kernel_rfl, by kernel_rfl, by kernel_rfl, by kernel_rfl⟩
end Go.Proofs.YteegehbighoplaaDoor.E

set_option linter.unusedSimpArgs false
set_option linter.unusedVariables false
set_option maxHeartbeats 2000000
namespace Go.Proofs.YteegehbighoplaaDoor.E
open Go.RowKit Limbs
/-- examboard/nat.trim -/
def b55 : AF := ⟨22, 1, [.tmp 2],
  (.seq (.reg [
    ⟨some 2, .assign (.const (.slice none 0 0)), none⟩])
  (.seq (.reg [
    ⟨some 4, .move (.tmp 0), none⟩,
    ⟨some 5, .call ⟨(.builtin .len), #[(.tmp 4)], #[26]⟩, none⟩,
    ⟨some 3, .assign (.tmp 5), none⟩])
  (.seq (.block 0 (.loop (.seq (.seq (.reg [
    ⟨some 6, .move (.tmp 3), none⟩,
    ⟨some 7, .binOp .gtr 3 (.tmp 6) (.const (.int .i64 0)) 3, none⟩,
    ⟨some 8, .move (.tmp 7), none⟩,
    ⟨some 9, .move (.tmp 0), some (8, true)⟩,
    ⟨some 10, .move (.tmp 3), some (8, true)⟩,
    ⟨some 11, .binOp .sub 3 (.tmp 10) (.const (.int .i64 1)) 3, some (8, true)⟩,
    ⟨some 12, .indexAddr 26 (.tmp 9) (.tmp 11), some (8, true)⟩,
    ⟨some 13, .load 42 (.tmp 12), some (8, true)⟩,
    ⟨some 14, .binOp .eql 42 (.tmp 13) (.const (.int .u32 0)) 42, some (8, true)⟩,
    ⟨some 15, .pick (.tmp 8) (.tmp 14) (.const (.bool false)), none⟩])
  (.cond (.tmp 15)
    .skip
    (.exit 0)))
  (.block 1 (.reg [
    ⟨some 16, .move (.tmp 3), none⟩,
    ⟨some 17, .binOp .sub 3 (.tmp 16) (.const (.int .i64 1)) 3, none⟩,
    ⟨some 3, .assign (.tmp 17), none⟩])))))
  (.seq (.reg [
    ⟨some 18, .move (.tmp 0), none⟩,
    ⟨some 19, .move (.tmp 3), none⟩,
    ⟨some 20, .move (.tmp 3), none⟩,
    ⟨some 21, .slice 26 (.tmp 18) none (some (.tmp 19)) (some (.tmp 20)), none⟩,
    ⟨some 2, .assign (.tmp 21), none⟩])
  .ret))))⟩
theorem c55 : fcomp Tryd.prog 55 = ⟨b55.n, b55.np, b55.res, b55.body.bare⟩ := by kernel_rfl
theorem k55 : fok Tryd.prog 55 = true := by kernel_rfl
theorem mo_ : Tryd.prog.follows .mixedOrders = true := by kernel_rfl
theorem nat_trim (l : List Int) (hl : Lim l) (hb : l.length < 4611686018427387904) : AFun Tryd.prog 55 [.one (natD l)] [.one (natD (tr l))] := by
  refine afun_intro mo_ 55 b55 c55 k55 _ _ rfl (by decide) ?_
  unfold b55
  simp (maxSteps := 1000000) (disch := first | omega | (simp only [LL]; omega)) only [W, V, TY, CC, reduceIte, Nat.reduceEqDiff, Nat.reduceAdd, Nat.reduceLeDiff, Nat.reduceLT, Int.reduceLE, Int.reduceLT, Int.reduceAdd, Int.reduceSub, Int.reduceToNat, Nat.reduceMul]
  refine w_loop (fun n s => ∃ i : Nat, n = i ∧ s.t 0 = .one (.dt (natD l)) ∧ s.t 3 = .one (.dt (.lit (.int .i64 i))) ∧ i ≤ l.length ∧ val (l.drop i) = 0) l.length ⟨l.length, rfl, ?_, ?_, Nat.le_refl _, by simp [val]⟩ ?_
  · simp (maxSteps := 1000000) (disch := first | omega | (simp only [LL]; omega)) only [W, V, TY, CC, reduceIte, Nat.reduceEqDiff, Nat.reduceAdd, Nat.reduceLeDiff, Nat.reduceLT, Int.reduceLE, Int.reduceLT, Int.reduceAdd, Int.reduceSub, Int.reduceToNat, Nat.reduceMul]
  · simp (maxSteps := 1000000) (disch := first | omega | (simp only [LL]; omega)) only [W, V, TY, CC, reduceIte, Nat.reduceEqDiff, Nat.reduceAdd, Nat.reduceLeDiff, Nat.reduceLT, Int.reduceLE, Int.reduceLT, Int.reduceAdd, Int.reduceSub, Int.reduceToNat, Nat.reduceMul]
  intro n s _ ⟨i, e, h0, h3, hi, hz⟩
  simp (maxSteps := 1000000) (disch := first | omega | (simp only [LL]; omega)) only [W, V, TY, CC, reduceIte, Nat.reduceEqDiff, Nat.reduceAdd, Nat.reduceLeDiff, Nat.reduceLT, Int.reduceLE, Int.reduceLT, Int.reduceAdd, Int.reduceSub, Int.reduceToNat, Nat.reduceMul, h0, h3]
  refine g_split (fun hc => ?_) (fun hc => ?_)
  · simp (maxSteps := 1000000) (disch := first | omega | (simp only [LL]; omega)) only [W, V, TY, CC, reduceIte, Nat.reduceEqDiff, Nat.reduceAdd, Nat.reduceLeDiff, Nat.reduceLT, Int.reduceLE, Int.reduceLT, Int.reduceAdd, Int.reduceSub, Int.reduceToNat, Nat.reduceMul, h0, h3, hc]
    refine c_split (fun hx => ?_) (fun hx => ?_)
    · simp (maxSteps := 1000000) (disch := first | omega | (simp only [LL]; omega)) only [W, V, TY, CC, reduceIte, Nat.reduceEqDiff, Nat.reduceAdd, Nat.reduceLeDiff, Nat.reduceLT, Int.reduceLE, Int.reduceLT, Int.reduceAdd, Int.reduceSub, Int.reduceToNat, Nat.reduceMul, h0, h3]
      refine ⟨i - 1, by omega, i - 1, rfl, ?_⟩
      refine ⟨by rw [show (((i - 1 : Nat) : Int)) = i - 1 by omega], by omega, ?_⟩
      have hi1 : i - 1 < l.length := by omega
      rw [val_drop hi1, show i - 1 + 1 = i by omega, hz]
      rw [List.getD_eq_getElem?_getD, List.getElem?_eq_getElem hi1] at hx
      simp only [Option.getD_some] at hx
      omega
    · simp (maxSteps := 1000000) (disch := first | omega | (simp only [LL]; omega)) only [W, V, TY, CC, reduceIte, Nat.reduceEqDiff, Nat.reduceAdd, Nat.reduceLeDiff, Nat.reduceLT, Int.reduceLE, Int.reduceLT, Int.reduceAdd, Int.reduceSub, Int.reduceToNat, Nat.reduceMul, h0, h3]
      refine f_ret _ _ _ ?_
      simp (maxSteps := 1000000) (disch := first | omega | (simp only [LL]; omega)) only [W, V, TY, CC, reduceIte, Nat.reduceEqDiff, Nat.reduceAdd, Nat.reduceLeDiff, Nat.reduceLT, Int.reduceLE, Int.reduceLT, Int.reduceAdd, Int.reduceSub, Int.reduceToNat, Nat.reduceMul]
      rw [tr_of_take hl hi hz (nrm_take (by omega) hi hx)]
  · simp (maxSteps := 1000000) (disch := first | omega | (simp only [LL]; omega)) only [W, V, TY, CC, reduceIte, Nat.reduceEqDiff, Nat.reduceAdd, Nat.reduceLeDiff, Nat.reduceLT, Int.reduceLE, Int.reduceLT, Int.reduceAdd, Int.reduceSub, Int.reduceToNat, Nat.reduceMul, h0, h3, hc]
    refine f_ret _ _ _ ?_
    simp (maxSteps := 1000000) (disch := first | omega | (simp only [LL]; omega)) only [W, V, TY, CC, reduceIte, Nat.reduceEqDiff, Nat.reduceAdd, Nat.reduceLeDiff, Nat.reduceLT, Int.reduceLE, Int.reduceLT, Int.reduceAdd, Int.reduceSub, Int.reduceToNat, Nat.reduceMul]
    have : i = 0 := by omega
    subst this
    rw [tr_of_take hl hi hz (by simp [Nrm])]
end Go.Proofs.YteegehbighoplaaDoor.E

set_option linter.unusedSimpArgs false
set_option linter.unusedVariables false
set_option maxHeartbeats 2000000
namespace Go.Proofs.YteegehbighoplaaDoor.E
open Go.RowKit Limbs
/-- examboard/grid.within -/
def b41 : AF := ⟨15, 3, [.tmp 6],
  (.seq (.reg [
    ⟨some 6, .assign (.const (.bool false)), none⟩])
  (.seq (.reg [
    ⟨some 7, .move (.tmp 0), none⟩,
    ⟨some 8, .move (.tmp 1), none⟩,
    ⟨some 9, .binOp .geq 3 (.tmp 7) (.tmp 8) 3, none⟩,
    ⟨some 10, .move (.tmp 9), none⟩,
    ⟨some 11, .move (.tmp 0), some (10, true)⟩,
    ⟨some 12, .move (.tmp 2), some (10, true)⟩,
    ⟨some 13, .binOp .leq 3 (.tmp 11) (.tmp 12) 3, some (10, true)⟩,
    ⟨some 14, .pick (.tmp 10) (.tmp 13) (.const (.bool false)), none⟩,
    ⟨some 6, .assign (.tmp 14), none⟩])
  .ret))⟩
theorem c41 : fcomp Tryd.prog 41 = ⟨b41.n, b41.np, b41.res, b41.body.bare⟩ := by kernel_rfl
theorem k41 : fok Tryd.prog 41 = true := by kernel_rfl
/-- examboard/nat.Of -/
def b20 : AF := ⟨11, 1, [.tmp 2],
  (.seq (.reg [
    ⟨some 2, .assign (.const (.slice none 0 0)), none⟩])
  (.seq (.reg [
    ⟨some 3, .move (.tmp 0), none⟩,
    ⟨some 4, .binOp .and 48 (.tmp 3) (.const (.int .u64 4294967295)) 48, none⟩,
    ⟨some 5, .convert 48 42 (.tmp 4), none⟩,
    ⟨some 6, .move (.tmp 0), none⟩,
    ⟨some 7, .binOp .shr 48 (.tmp 6) (.const (.int .u64 32)) 86, none⟩,
    ⟨some 8, .convert 48 42 (.tmp 7), none⟩,
    ⟨some 9, .buildSlice 26 2 #[(0, (.tmp 5)), (1, (.tmp 8))], none⟩,
    ⟨some 10, .call ⟨(.value (.func 55)), #[(.tmp 9)], #[26]⟩, none⟩,
    ⟨some 2, .assign (.tmp 10), none⟩])
  .ret))⟩
theorem c20 : fcomp Tryd.prog 20 = ⟨b20.n, b20.np, b20.res, b20.body.bare⟩ := by kernel_rfl
theorem k20 : fok Tryd.prog 20 = true := by kernel_rfl
theorem grid_within (a lo hi : Int) : AFun Tryd.prog 41 [.one (.lit (.int .i64 a)), .one (.lit (.int .i64 lo)), .one (.lit (.int .i64 hi))] [.one (.lit (.bool (decide (lo ≤ a ∧ a ≤ hi))))] := by
  refine afun_intro mo_ _ _ c41 k41 _ _ rfl (by decide) ?_
  unfold b41
  simp (maxSteps := 1000000) (disch := first | omega | (simp only [LL]; omega)) only [W, V, TY, CC, reduceIte, Nat.reduceEqDiff, Nat.reduceAdd, Nat.reduceLeDiff, Nat.reduceLT, Int.reduceLE, Int.reduceLT, Int.reduceAdd, Int.reduceSub, Int.reduceToNat, Nat.reduceMul]
  refine g_split (fun hc => ?_) (fun hc => ?_)
  · simp (maxSteps := 1000000) (disch := first | omega | (simp only [LL]; omega)) only [W, V, TY, CC, reduceIte, Nat.reduceEqDiff, Nat.reduceAdd, Nat.reduceLeDiff, Nat.reduceLT, Int.reduceLE, Int.reduceLT, Int.reduceAdd, Int.reduceSub, Int.reduceToNat, Nat.reduceMul, hc]
    refine f_ret _ _ _ ?_
    simp (maxSteps := 1000000) (disch := first | omega | (simp only [LL]; omega)) only [W, V, TY, CC, reduceIte, Nat.reduceEqDiff, Nat.reduceAdd, Nat.reduceLeDiff, Nat.reduceLT, Int.reduceLE, Int.reduceLT, Int.reduceAdd, Int.reduceSub, Int.reduceToNat, Nat.reduceMul]
  · simp (maxSteps := 1000000) (disch := first | omega | (simp only [LL]; omega)) only [W, V, TY, CC, reduceIte, Nat.reduceEqDiff, Nat.reduceAdd, Nat.reduceLeDiff, Nat.reduceLT, Int.reduceLE, Int.reduceLT, Int.reduceAdd, Int.reduceSub, Int.reduceToNat, Nat.reduceMul, hc]
    refine f_ret _ _ _ ?_
    simp (maxSteps := 1000000) (disch := first | omega | (simp only [LL]; omega)) only [W, V, TY, CC, reduceIte, Nat.reduceEqDiff, Nat.reduceAdd, Nat.reduceLeDiff, Nat.reduceLT, Int.reduceLE, Int.reduceLT, Int.reduceAdd, Int.reduceSub, Int.reduceToNat, Nat.reduceMul, false_and]
theorem nat_Of (n : Int) (h0 : 0 ≤ n) (h1 : n < 18446744073709551616) : AFun Tryd.prog 20 [.one (.lit (.int .u64 n))] [.one (natD (nl n.toNat))] := by
  refine afun_intro mo_ _ _ c20 k20 _ _ rfl (by decide) ?_
  unfold b20
  simp (maxSteps := 1000000) (disch := first | omega | (simp only [LL]; omega)) only [W, V, TY, CC, reduceIte, Nat.reduceEqDiff, Nat.reduceAdd, Nat.reduceLeDiff, Nat.reduceLT, Int.reduceLE, Int.reduceLT, Int.reduceAdd, Int.reduceSub, Int.reduceToNat, Nat.reduceMul]
  refine a_call _ _ (nat_trim [n % 4294967296, n / 4294967296] (Lim.cons (by omega) (by omega) (Lim.one (by omega) (by omega))) (by simp)) rfl ?_
  simp (maxSteps := 1000000) (disch := first | omega | (simp only [LL]; omega)) only [W, V, TY, CC, reduceIte, Nat.reduceEqDiff, Nat.reduceAdd, Nat.reduceLeDiff, Nat.reduceLT, Int.reduceLE, Int.reduceLT, Int.reduceAdd, Int.reduceSub, Int.reduceToNat, Nat.reduceMul]
  refine f_ret _ _ _ ?_
  simp (maxSteps := 1000000) (disch := first | omega | (simp only [LL]; omega)) only [W, V, TY, CC, reduceIte, Nat.reduceEqDiff, Nat.reduceAdd, Nat.reduceLeDiff, Nat.reduceLT, Int.reduceLE, Int.reduceLT, Int.reduceAdd, Int.reduceSub, Int.reduceToNat, Nat.reduceMul]
  rw [show tr [n % 4294967296, n / 4294967296] = nl n.toNat by unfold tr nv; simp only [val]; congr 1; omega]

/-- what both checks of a grid say -/
def gridOK (p w : List Int) : Prop := ∀ i : Nat, i < p.length → (-1000 ≤ p.getD i 0 ∧ p.getD i 0 ≤ 1000) ∧ (1 ≤ w.getD i 0 ∧ w.getD i 0 ≤ 1000)
def gridUp (p : List Int) : Prop := ∀ i : Nat, i + 1 < p.length → p.getD i 0 < p.getD (i + 1) 0
open Classical in
noncomputable def gridV (p w : List Int) : Int := if 21 < (p.length : Int) then 5 else if (p.length : Int) = 0 then 20 else if ¬ (w.length : Int) = p.length then 1 else if ¬ gridOK p w then 3 else if ¬ gridUp p then 23 else 0

end Go.Proofs.YteegehbighoplaaDoor.E

set_option linter.unusedSimpArgs false
set_option linter.unusedVariables false
set_option maxHeartbeats 2000000
namespace Go.Proofs.YteegehbighoplaaDoor.E
open Go.RowKit Limbs
/-- examboard/grid.Valid -/
def b10 : AF := ⟨65, 1, [.tmp 2],
  (.seq (.reg [
    ⟨some 1, .box 24 (.tmp 0), none⟩,
    ⟨some 2, .assign (.const (.int .i64 0)), none⟩])
  (.seq (.block 0 (.seq (.reg [
    ⟨some 7, .fieldAddr 24 (.tmp 1) 0, none⟩,
    ⟨some 8, .load 22 (.tmp 7), none⟩,
    ⟨some 9, .call ⟨(.builtin .len), #[(.tmp 8)], #[22]⟩, none⟩,
    ⟨some 10, .binOp .gtr 3 (.tmp 9) (.const (.int .i64 21)) 3, none⟩,
    ⟨some 6, .assign (.tmp 10), none⟩])
  (.cond (.tmp 6)
    (.seq (.reg [
      ⟨some 2, .assign (.const (.int .i64 5)), none⟩])
    .ret)
    (.seq (.reg [
      ⟨some 12, .fieldAddr 24 (.tmp 1) 0, none⟩,
      ⟨some 13, .load 22 (.tmp 12), none⟩,
      ⟨some 14, .call ⟨(.builtin .len), #[(.tmp 13)], #[22]⟩, none⟩,
      ⟨some 15, .binOp .eql 3 (.tmp 14) (.const (.int .i64 0)) 3, none⟩,
      ⟨some 11, .assign (.tmp 15), none⟩])
    (.cond (.tmp 11)
      (.seq (.reg [
        ⟨some 2, .assign (.const (.int .i64 20)), none⟩])
      .ret)
      (.seq (.reg [
        ⟨some 17, .fieldAddr 24 (.tmp 1) 1, none⟩,
        ⟨some 18, .load 22 (.tmp 17), none⟩,
        ⟨some 19, .call ⟨(.builtin .len), #[(.tmp 18)], #[22]⟩, none⟩,
        ⟨some 20, .fieldAddr 24 (.tmp 1) 0, none⟩,
        ⟨some 21, .load 22 (.tmp 20), none⟩,
        ⟨some 22, .call ⟨(.builtin .len), #[(.tmp 21)], #[22]⟩, none⟩,
        ⟨some 23, .binOp .neq 3 (.tmp 19) (.tmp 22) 3, none⟩,
        ⟨some 16, .assign (.tmp 23), none⟩])
      (.cond (.tmp 16)
        (.seq (.reg [
          ⟨some 2, .assign (.const (.int .i64 1)), none⟩])
        .ret)
        .skip)))))))
  (.seq (.seq (.reg [
    ⟨some 24, .fieldAddr 24 (.tmp 1) 0, none⟩,
    ⟨some 25, .load 22 (.tmp 24), none⟩,
    ⟨some 26, .call ⟨(.builtin .len), #[(.tmp 25)], #[22]⟩, none⟩,
    ⟨some 27, .move (.const (.int .i64 0)), none⟩])
  (.block 1 (.loop (.seq (.reg [
    ⟨some 28, .binOp .lss 3 (.tmp 27) (.tmp 26) 3, none⟩])
  (.seq (.cond (.tmp 28)
    .skip
    (.exit 1))
  (.seq (.block 2 (.seq (.reg [
    ⟨some 29, .move (.tmp 27), none⟩,
    ⟨some 30, .indexAddr 22 (.tmp 25) (.tmp 27), none⟩,
    ⟨some 31, .load 3 (.tmp 30), none⟩,
    ⟨some 3, .assign (.tmp 29), none⟩,
    ⟨some 4, .assign (.tmp 31), none⟩])
  (.seq (.reg [
    ⟨some 32, .move (.tmp 4), none⟩,
    ⟨some 33, .call ⟨(.value (.func 41)), #[(.tmp 32), (.const (.int .i64 (-1000))), (.const (.int .i64 1000))], #[3, 3, 3]⟩, none⟩,
    ⟨some 34, .unOp .not 4 (.tmp 33), none⟩,
    ⟨some 35, .move (.tmp 34), none⟩,
    ⟨some 36, .fieldAddr 24 (.tmp 1) 1, some (35, false)⟩,
    ⟨some 37, .load 22 (.tmp 36), some (35, false)⟩,
    ⟨some 38, .move (.tmp 3), some (35, false)⟩,
    ⟨some 39, .indexAddr 22 (.tmp 37) (.tmp 38), some (35, false)⟩,
    ⟨some 40, .load 3 (.tmp 39), some (35, false)⟩,
    ⟨some 41, .call ⟨(.value (.func 41)), #[(.tmp 40), (.const (.int .i64 1)), (.const (.int .i64 1000))], #[3, 3, 3]⟩, some (35, false)⟩,
    ⟨some 42, .unOp .not 4 (.tmp 41), some (35, false)⟩,
    ⟨some 43, .pick (.tmp 35) (.const (.bool true)) (.tmp 42), none⟩])
  (.cond (.tmp 43)
    (.seq (.reg [
      ⟨some 2, .assign (.const (.int .i64 3)), none⟩])
    .ret)
    .skip))))
  (.reg [
    ⟨some 44, .binOp .add 3 (.tmp 27) (.const (.int .i64 1)) 3, none⟩,
    ⟨some 27, .move (.tmp 44), none⟩])))))))
  (.seq (.seq (.reg [
    ⟨some 45, .fieldAddr 24 (.tmp 1) 0, none⟩,
    ⟨some 46, .load 22 (.tmp 45), none⟩,
    ⟨some 47, .slice 22 (.tmp 46) (some (.const (.int .i64 1))) none none, none⟩,
    ⟨some 48, .call ⟨(.builtin .len), #[(.tmp 47)], #[22]⟩, none⟩,
    ⟨some 49, .move (.const (.int .i64 0)), none⟩])
  (.block 3 (.loop (.seq (.reg [
    ⟨some 50, .binOp .lss 3 (.tmp 49) (.tmp 48) 3, none⟩])
  (.seq (.cond (.tmp 50)
    .skip
    (.exit 3))
  (.seq (.block 4 (.seq (.reg [
    ⟨some 51, .move (.tmp 49), none⟩,
    ⟨some 5, .assign (.tmp 51), none⟩])
  (.seq (.dreg [
    ⟨some 52, .fieldAddr 24 (.tmp 1) 0, none⟩,
    ⟨some 53, .load 22 (.tmp 52), none⟩,
    ⟨some 54, .move (.tmp 5), none⟩,
    ⟨some 55, .indexAddr 22 (.tmp 53) (.tmp 54), none⟩,
    ⟨some 56, .load 3 (.tmp 55), none⟩,
    ⟨some 57, .fieldAddr 24 (.tmp 1) 0, none⟩,
    ⟨some 58, .load 22 (.tmp 57), none⟩,
    ⟨some 59, .move (.tmp 5), none⟩,
    ⟨some 60, .binOp .add 3 (.tmp 59) (.const (.int .i64 1)) 3, none⟩,
    ⟨some 61, .indexAddr 22 (.tmp 58) (.tmp 60), none⟩,
    ⟨some 62, .load 3 (.tmp 61), none⟩,
    ⟨some 63, .binOp .geq 3 (.tmp 56) (.tmp 62) 3, none⟩])
  (.cond (.tmp 63)
    (.seq (.reg [
      ⟨some 2, .assign (.const (.int .i64 23)), none⟩])
    .ret)
    .skip))))
  (.reg [
    ⟨some 64, .binOp .add 3 (.tmp 49) (.const (.int .i64 1)) 3, none⟩,
    ⟨some 49, .move (.tmp 64), none⟩])))))))
  (.seq (.reg [
    ⟨some 2, .assign (.const (.int .i64 0)), none⟩])
  .ret)))))⟩
theorem c10 : fcomp Tryd.prog 10 = ⟨b10.n, b10.np, b10.res, b10.body.bare⟩ := by kernel_rfl
theorem k10 : fok Tryd.prog 10 = true := by kernel_rfl
theorem grid_Valid (p w : List Int) : AFun Tryd.prog 10 [.agg [intsD p, intsD w]] [.one (.lit (.int .i64 (gridV p w)))] := by
  refine afun_intro mo_ _ _ c10 k10 _ _ rfl (by decide) ?_
  unfold b10
  simp (maxSteps := 1000000) (disch := first | omega | (simp only [LL]; omega)) only [W, V, TY, CC, reduceIte, Nat.reduceEqDiff, Nat.reduceAdd, Nat.reduceLeDiff, Nat.reduceLT, Int.reduceLE, Int.reduceLT, Int.reduceAdd, Int.reduceSub, Int.reduceToNat, Nat.reduceMul]
  refine c_split (fun h1 => ?_) (fun h1 => ?_)
  · simp (maxSteps := 1000000) (disch := first | omega | (simp only [LL]; omega)) only [W, V, TY, CC, reduceIte, Nat.reduceEqDiff, Nat.reduceAdd, Nat.reduceLeDiff, Nat.reduceLT, Int.reduceLE, Int.reduceLT, Int.reduceAdd, Int.reduceSub, Int.reduceToNat, Nat.reduceMul]
    refine f_ret _ _ _ ?_
    simp (maxSteps := 1000000) (disch := first | omega | (simp only [LL]; omega)) only [W, V, TY, CC, reduceIte, Nat.reduceEqDiff, Nat.reduceAdd, Nat.reduceLeDiff, Nat.reduceLT, Int.reduceLE, Int.reduceLT, Int.reduceAdd, Int.reduceSub, Int.reduceToNat, Nat.reduceMul, gridV, h1]
  simp (maxSteps := 1000000) (disch := first | omega | (simp only [LL]; omega)) only [W, V, TY, CC, reduceIte, Nat.reduceEqDiff, Nat.reduceAdd, Nat.reduceLeDiff, Nat.reduceLT, Int.reduceLE, Int.reduceLT, Int.reduceAdd, Int.reduceSub, Int.reduceToNat, Nat.reduceMul]
  refine c_split (fun h2 => ?_) (fun h2 => ?_)
  · simp (maxSteps := 1000000) (disch := first | omega | (simp only [LL]; omega)) only [W, V, TY, CC, reduceIte, Nat.reduceEqDiff, Nat.reduceAdd, Nat.reduceLeDiff, Nat.reduceLT, Int.reduceLE, Int.reduceLT, Int.reduceAdd, Int.reduceSub, Int.reduceToNat, Nat.reduceMul]
    refine f_ret _ _ _ ?_
    simp (maxSteps := 1000000) (disch := first | omega | (simp only [LL]; omega)) only [W, V, TY, CC, reduceIte, Nat.reduceEqDiff, Nat.reduceAdd, Nat.reduceLeDiff, Nat.reduceLT, Int.reduceLE, Int.reduceLT, Int.reduceAdd, Int.reduceSub, Int.reduceToNat, Nat.reduceMul, gridV, h1, h2]
  simp (maxSteps := 1000000) (disch := first | omega | (simp only [LL]; omega)) only [W, V, TY, CC, reduceIte, Nat.reduceEqDiff, Nat.reduceAdd, Nat.reduceLeDiff, Nat.reduceLT, Int.reduceLE, Int.reduceLT, Int.reduceAdd, Int.reduceSub, Int.reduceToNat, Nat.reduceMul]
  refine c_split (fun h3 => ?_) (fun h3 => ?_)
  · simp (maxSteps := 1000000) (disch := first | omega | (simp only [LL]; omega)) only [W, V, TY, CC, reduceIte, Nat.reduceEqDiff, Nat.reduceAdd, Nat.reduceLeDiff, Nat.reduceLT, Int.reduceLE, Int.reduceLT, Int.reduceAdd, Int.reduceSub, Int.reduceToNat, Nat.reduceMul]
    refine f_ret _ _ _ ?_
    simp (maxSteps := 1000000) (disch := first | omega | (simp only [LL]; omega)) only [W, V, TY, CC, reduceIte, Nat.reduceEqDiff, Nat.reduceAdd, Nat.reduceLeDiff, Nat.reduceLT, Int.reduceLE, Int.reduceLT, Int.reduceAdd, Int.reduceSub, Int.reduceToNat, Nat.reduceMul, gridV, h1, h2, h3]
  simp (maxSteps := 1000000) (disch := first | omega | (simp only [LL]; omega)) only [W, V, TY, CC, reduceIte, Nat.reduceEqDiff, Nat.reduceAdd, Nat.reduceLeDiff, Nat.reduceLT, Int.reduceLE, Int.reduceLT, Int.reduceAdd, Int.reduceSub, Int.reduceToNat, Nat.reduceMul]
  have hl : w.length = p.length := by omega
  refine w_loop (fun n s => ∃ i : Nat, n + i = p.length ∧ s.t 1 = .ptr (1, 0) 0 ∧ s.v (1, 0) = some [.dt (intsD p), .dt (intsD w)] ∧ s.t 25 = .one (.dt (intsD p)) ∧ s.t 26 = .one (.dt (.lit (.int .i64 p.length))) ∧ s.t 27 = .one (.dt (.lit (.int .i64 i))) ∧ ∀ j : Nat, j < i → (-1000 ≤ p.getD j 0 ∧ p.getD j 0 ≤ 1000) ∧ (1 ≤ w.getD j 0 ∧ w.getD j 0 ≤ 1000)) p.length ⟨0, rfl, ?_, ?_, ?_, ?_, ?_, fun j hj => by omega⟩ ?_
  · simp (maxSteps := 1000000) (disch := first | omega | (simp only [LL]; omega)) only [W, V, TY, CC, reduceIte, Nat.reduceEqDiff, Nat.reduceAdd, Nat.reduceLeDiff, Nat.reduceLT, Int.reduceLE, Int.reduceLT, Int.reduceAdd, Int.reduceSub, Int.reduceToNat, Nat.reduceMul]
  · simp (maxSteps := 1000000) (disch := first | omega | (simp only [LL]; omega)) only [W, V, TY, CC, reduceIte, Nat.reduceEqDiff, Nat.reduceAdd, Nat.reduceLeDiff, Nat.reduceLT, Int.reduceLE, Int.reduceLT, Int.reduceAdd, Int.reduceSub, Int.reduceToNat, Nat.reduceMul]
  · simp (maxSteps := 1000000) (disch := first | omega | (simp only [LL]; omega)) only [W, V, TY, CC, reduceIte, Nat.reduceEqDiff, Nat.reduceAdd, Nat.reduceLeDiff, Nat.reduceLT, Int.reduceLE, Int.reduceLT, Int.reduceAdd, Int.reduceSub, Int.reduceToNat, Nat.reduceMul]
  · simp (maxSteps := 1000000) (disch := first | omega | (simp only [LL]; omega)) only [W, V, TY, CC, reduceIte, Nat.reduceEqDiff, Nat.reduceAdd, Nat.reduceLeDiff, Nat.reduceLT, Int.reduceLE, Int.reduceLT, Int.reduceAdd, Int.reduceSub, Int.reduceToNat, Nat.reduceMul]
  · simp (maxSteps := 1000000) (disch := first | omega | (simp only [LL]; omega)) only [W, V, TY, CC, reduceIte, Nat.reduceEqDiff, Nat.reduceAdd, Nat.reduceLeDiff, Nat.reduceLT, Int.reduceLE, Int.reduceLT, Int.reduceAdd, Int.reduceSub, Int.reduceToNat, Nat.reduceMul]
  intro n s _ ⟨i, e, t1, v1, t25, t26, t27, ho⟩
  simp (maxSteps := 1000000) (disch := first | omega | (simp only [LL]; omega)) only [W, V, TY, CC, reduceIte, Nat.reduceEqDiff, Nat.reduceAdd, Nat.reduceLeDiff, Nat.reduceLT, Int.reduceLE, Int.reduceLT, Int.reduceAdd, Int.reduceSub, Int.reduceToNat, Nat.reduceMul, t1, v1, t25, t26, t27]
  refine c_split (fun hi => ?_) (fun hi => ?_)
  · simp (maxSteps := 1000000) (disch := first | omega | (simp only [LL]; omega)) only [W, V, TY, CC, reduceIte, Nat.reduceEqDiff, Nat.reduceAdd, Nat.reduceLeDiff, Nat.reduceLT, Int.reduceLE, Int.reduceLT, Int.reduceAdd, Int.reduceSub, Int.reduceToNat, Nat.reduceMul, t1, v1, t25, t26, t27]
    refine a_call _ _ (grid_within (p.getD i 0) (-1000) 1000) rfl ?_
    simp (maxSteps := 1000000) (disch := first | omega | (simp only [LL]; omega)) only [W, V, TY, CC, reduceIte, Nat.reduceEqDiff, Nat.reduceAdd, Nat.reduceLeDiff, Nat.reduceLT, Int.reduceLE, Int.reduceLT, Int.reduceAdd, Int.reduceSub, Int.reduceToNat, Nat.reduceMul, t1, v1, t25, t26, t27]
    refine g_split (fun h4 => ?_) (fun h4 => ?_)
    · simp (maxSteps := 1000000) (disch := first | omega | (simp only [LL]; omega)) only [W, V, TY, CC, reduceIte, Nat.reduceEqDiff, Nat.reduceAdd, Nat.reduceLeDiff, Nat.reduceLT, Int.reduceLE, Int.reduceLT, Int.reduceAdd, Int.reduceSub, Int.reduceToNat, Nat.reduceMul, t1, v1, t25, t26, t27, h4]
      refine f_ret _ _ _ ?_
      simp (maxSteps := 1000000) (disch := first | omega | (simp only [LL]; omega)) only [W, V, TY, CC, reduceIte, Nat.reduceEqDiff, Nat.reduceAdd, Nat.reduceLeDiff, Nat.reduceLT, Int.reduceLE, Int.reduceLT, Int.reduceAdd, Int.reduceSub, Int.reduceToNat, Nat.reduceMul, gridV, h1, h2, h3]
      rw [if_pos (fun h => h4 (h i (by omega)).1)]
    simp (maxSteps := 1000000) (disch := first | omega | (simp only [LL]; omega)) only [W, V, TY, CC, reduceIte, Nat.reduceEqDiff, Nat.reduceAdd, Nat.reduceLeDiff, Nat.reduceLT, Int.reduceLE, Int.reduceLT, Int.reduceAdd, Int.reduceSub, Int.reduceToNat, Nat.reduceMul, t1, v1, t25, t26, t27, h4]
    refine a_call _ _ (grid_within (w.getD i 0) 1 1000) (by simp (maxSteps := 1000000) (disch := first | omega | (simp only [LL]; omega)) only [W, V, TY, CC, reduceIte, Nat.reduceEqDiff, Nat.reduceAdd, Nat.reduceLeDiff, Nat.reduceLT, Int.reduceLE, Int.reduceLT, Int.reduceAdd, Int.reduceSub, Int.reduceToNat, Nat.reduceMul, t1, v1, t25, t26, t27, h4]) ?_
    simp (maxSteps := 1000000) (disch := first | omega | (simp only [LL]; omega)) only [W, V, TY, CC, reduceIte, Nat.reduceEqDiff, Nat.reduceAdd, Nat.reduceLeDiff, Nat.reduceLT, Int.reduceLE, Int.reduceLT, Int.reduceAdd, Int.reduceSub, Int.reduceToNat, Nat.reduceMul, t1, v1, t25, t26, t27, h4]
    refine c_split (fun h5 => ?_) (fun h5 => ?_)
    · simp (maxSteps := 1000000) (disch := first | omega | (simp only [LL]; omega)) only [W, V, TY, CC, reduceIte, Nat.reduceEqDiff, Nat.reduceAdd, Nat.reduceLeDiff, Nat.reduceLT, Int.reduceLE, Int.reduceLT, Int.reduceAdd, Int.reduceSub, Int.reduceToNat, Nat.reduceMul, t1, v1, t25, t26, t27, h4]
      refine f_ret _ _ _ ?_
      simp (maxSteps := 1000000) (disch := first | omega | (simp only [LL]; omega)) only [W, V, TY, CC, reduceIte, Nat.reduceEqDiff, Nat.reduceAdd, Nat.reduceLeDiff, Nat.reduceLT, Int.reduceLE, Int.reduceLT, Int.reduceAdd, Int.reduceSub, Int.reduceToNat, Nat.reduceMul, gridV, h1, h2, h3]
      rw [if_pos (fun h => h5 (h i (by omega)).2)]
    simp (maxSteps := 1000000) (disch := first | omega | (simp only [LL]; omega)) only [W, V, TY, CC, reduceIte, Nat.reduceEqDiff, Nat.reduceAdd, Nat.reduceLeDiff, Nat.reduceLT, Int.reduceLE, Int.reduceLT, Int.reduceAdd, Int.reduceSub, Int.reduceToNat, Nat.reduceMul, t1, v1, t25, t26, t27, h4]
    refine ⟨n - 1, by omega, i + 1, by omega, rfl, fun j hj => ?_⟩
    by_cases hji : j = i
    · subst hji; exact ⟨Classical.not_not.1 h4, Classical.not_not.1 h5⟩
    · exact ho j (by omega)
  · simp (maxSteps := 1000000) (disch := first | omega | (simp only [LL]; omega)) only [W, V, TY, CC, reduceIte, Nat.reduceEqDiff, Nat.reduceAdd, Nat.reduceLeDiff, Nat.reduceLT, Int.reduceLE, Int.reduceLT, Int.reduceAdd, Int.reduceSub, Int.reduceToNat, Nat.reduceMul, t1, v1, t25, t26, t27]
    have hok : gridOK p w := fun j hj => ho j (by omega)
    refine w_loop (fun n s => ∃ i : Nat, n + i = p.length ∧ s.t 1 = .ptr (1, 0) 0 ∧ s.v (1, 0) = some [.dt (intsD p), .dt (intsD w)] ∧ s.t 48 = .one (.dt (.lit (.int .i64 (p.length - 1 : Nat)))) ∧ s.t 49 = .one (.dt (.lit (.int .i64 i))) ∧ ∀ j : Nat, j < i → p.getD j 0 < p.getD (j + 1) 0) p.length ⟨0, rfl, ?_, ?_, ?_, ?_, fun j hj => by omega⟩ ?_
    · simp (maxSteps := 1000000) (disch := first | omega | (simp only [LL]; omega)) only [W, V, TY, CC, reduceIte, Nat.reduceEqDiff, Nat.reduceAdd, Nat.reduceLeDiff, Nat.reduceLT, Int.reduceLE, Int.reduceLT, Int.reduceAdd, Int.reduceSub, Int.reduceToNat, Nat.reduceMul, t1, v1, t25, t26, t27]
    · simp (maxSteps := 1000000) (disch := first | omega | (simp only [LL]; omega)) only [W, V, TY, CC, reduceIte, Nat.reduceEqDiff, Nat.reduceAdd, Nat.reduceLeDiff, Nat.reduceLT, Int.reduceLE, Int.reduceLT, Int.reduceAdd, Int.reduceSub, Int.reduceToNat, Nat.reduceMul, t1, v1, t25, t26, t27]
    · simp (maxSteps := 1000000) (disch := first | omega | (simp only [LL]; omega)) only [W, V, TY, CC, reduceIte, Nat.reduceEqDiff, Nat.reduceAdd, Nat.reduceLeDiff, Nat.reduceLT, Int.reduceLE, Int.reduceLT, Int.reduceAdd, Int.reduceSub, Int.reduceToNat, Nat.reduceMul, t1, v1, t25, t26, t27]
    · simp (maxSteps := 1000000) (disch := first | omega | (simp only [LL]; omega)) only [W, V, TY, CC, reduceIte, Nat.reduceEqDiff, Nat.reduceAdd, Nat.reduceLeDiff, Nat.reduceLT, Int.reduceLE, Int.reduceLT, Int.reduceAdd, Int.reduceSub, Int.reduceToNat, Nat.reduceMul, t1, v1, t25, t26, t27]
    clear t1 v1 t25 t26 t27 ho hi e
    intro n s _ ⟨i, e, t1, v1, t48, t49, ho⟩
    simp (maxSteps := 1000000) (disch := first | omega | (simp only [LL]; omega)) only [W, V, TY, CC, reduceIte, Nat.reduceEqDiff, Nat.reduceAdd, Nat.reduceLeDiff, Nat.reduceLT, Int.reduceLE, Int.reduceLT, Int.reduceAdd, Int.reduceSub, Int.reduceToNat, Nat.reduceMul, t1, v1, t48, t49]
    refine c_split (fun hi => ?_) (fun hi => ?_)
    · simp (maxSteps := 1000000) (disch := first | omega | (simp only [LL]; omega)) only [W, V, TY, CC, reduceIte, Nat.reduceEqDiff, Nat.reduceAdd, Nat.reduceLeDiff, Nat.reduceLT, Int.reduceLE, Int.reduceLT, Int.reduceAdd, Int.reduceSub, Int.reduceToNat, Nat.reduceMul, t1, v1, t48, t49]
      refine c_split (fun h6 => ?_) (fun h6 => ?_)
      · simp (maxSteps := 1000000) (disch := first | omega | (simp only [LL]; omega)) only [W, V, TY, CC, reduceIte, Nat.reduceEqDiff, Nat.reduceAdd, Nat.reduceLeDiff, Nat.reduceLT, Int.reduceLE, Int.reduceLT, Int.reduceAdd, Int.reduceSub, Int.reduceToNat, Nat.reduceMul, t1, v1, t48, t49]
        refine f_ret _ _ _ ?_
        simp (maxSteps := 1000000) (disch := first | omega | (simp only [LL]; omega)) only [W, V, TY, CC, reduceIte, Nat.reduceEqDiff, Nat.reduceAdd, Nat.reduceLeDiff, Nat.reduceLT, Int.reduceLE, Int.reduceLT, Int.reduceAdd, Int.reduceSub, Int.reduceToNat, Nat.reduceMul, gridV, h1, h2, h3, hok]
        rw [if_pos (fun h => ?_)]
        have := h i (by omega)
        omega
      · simp (maxSteps := 1000000) (disch := first | omega | (simp only [LL]; omega)) only [W, V, TY, CC, reduceIte, Nat.reduceEqDiff, Nat.reduceAdd, Nat.reduceLeDiff, Nat.reduceLT, Int.reduceLE, Int.reduceLT, Int.reduceAdd, Int.reduceSub, Int.reduceToNat, Nat.reduceMul, t1, v1, t48, t49]
        refine ⟨n - 1, by omega, i + 1, by omega, rfl, fun j hj => ?_⟩
        by_cases hji : j = i
        · subst hji; omega
        · exact ho j (by omega)
    · simp (maxSteps := 1000000) (disch := first | omega | (simp only [LL]; omega)) only [W, V, TY, CC, reduceIte, Nat.reduceEqDiff, Nat.reduceAdd, Nat.reduceLeDiff, Nat.reduceLT, Int.reduceLE, Int.reduceLT, Int.reduceAdd, Int.reduceSub, Int.reduceToNat, Nat.reduceMul, t1, v1, t48, t49]
      refine f_ret _ _ _ ?_
      simp (maxSteps := 1000000) (disch := first | omega | (simp only [LL]; omega)) only [W, V, TY, CC, reduceIte, Nat.reduceEqDiff, Nat.reduceAdd, Nat.reduceLeDiff, Nat.reduceLT, Int.reduceLE, Int.reduceLT, Int.reduceAdd, Int.reduceSub, Int.reduceToNat, Nat.reduceMul, gridV, h1, h2, h3, hok]
      rw [if_neg (fun h => h (fun j hj => ho j (by omega)))]
end Go.Proofs.YteegehbighoplaaDoor.E

set_option linter.unusedSimpArgs false
set_option linter.unusedVariables false
set_option maxHeartbeats 2000000
namespace Go.Proofs.YteegehbighoplaaDoor.E
open Go.RowKit Limbs
end Go.Proofs.YteegehbighoplaaDoor.E

set_option linter.unusedSimpArgs false
set_option linter.unusedVariables false
set_option maxHeartbeats 2000000
namespace Go.Proofs.YteegehbighoplaaDoor.E
open Go.RowKit Limbs
theorem gridV_zero {p w : List Int} (h : gridV p w = 0) : p.length ≤ 21 ∧ w.length = p.length ∧ gridOK p w ∧ gridUp p := by
  unfold gridV at h
  repeat' split at h
  all_goals first | omega | skip
  rename_i h1 h2 h3 h4 h5
  exact ⟨by omega, by omega, Classical.not_not.1 h4, Classical.not_not.1 h5⟩
end Go.Proofs.YteegehbighoplaaDoor.E

set_option linter.unusedSimpArgs false
set_option linter.unusedVariables false
set_option maxHeartbeats 2000000
namespace Go.Proofs.YteegehbighoplaaDoor.E
open Go.RowKit Limbs
theorem tr_lim (l : List Int) : Lim (tr l) := nl_lim _
theorem tr_len {l : List Int} (hl : Lim l) : (tr l).length ≤ l.length := nl_len (nv_lt hl)
theorem val_tr {l : List Int} (hl : Lim l) : val (tr l) = val l := by unfold tr; rw [val_nl, nv_eq hl]
theorem tr_nl (n : Nat) : tr (nl n) = nl n := by unfold tr; rw [nv_nl]
/-- examboard/nat.Norm -/
def b68 : AF := ⟨7, 1, [.tmp 2],
  (.seq (.reg [
    ⟨some 2, .assign (.const (.slice none 0 0)), none⟩])
  (.seq (.reg [
    ⟨some 3, .buildSlice 26 0 #[], none⟩,
    ⟨some 4, .move (.tmp 0), none⟩,
    ⟨some 5, .call ⟨(.value (.func 55)), #[(.tmp 4)], #[26]⟩, none⟩,
    ⟨some 6, .call ⟨(.builtin .append), #[(.tmp 3), (.tmp 5)], #[26, 26]⟩, none⟩,
    ⟨some 2, .assign (.tmp 6), none⟩])
  .ret))⟩
theorem c68 : fcomp Tryd.prog 68 = ⟨b68.n, b68.np, b68.res, b68.body.bare⟩ := by kernel_rfl
theorem k68 : fok Tryd.prog 68 = true := by kernel_rfl
theorem nat_Norm (l : List Int) (hl : Lim l) (hb : l.length < 17592186044416) : AFun Tryd.prog 68 [.one (natD l)] [.one (natD (tr l))] := by
  refine afun_intro mo_ _ _ c68 k68 _ _ rfl (by decide) ?_
  unfold b68
  simp (maxSteps := 1000000) (disch := first | omega | (simp only [LL]; omega)) only [W, V, TY, CC, reduceIte, Nat.reduceEqDiff, Nat.reduceAdd, Nat.reduceLeDiff, Nat.reduceLT, Int.reduceLE, Int.reduceLT, Int.reduceAdd, Int.reduceSub, Int.reduceToNat, Nat.reduceMul]
  refine a_call _ _ (nat_trim l hl (by omega)) rfl ?_
  have := tr_len hl
  simp (maxSteps := 1000000) (disch := first | omega | (simp only [LL]; omega)) only [W, V, TY, CC, reduceIte, Nat.reduceEqDiff, Nat.reduceAdd, Nat.reduceLeDiff, Nat.reduceLT, Int.reduceLE, Int.reduceLT, Int.reduceAdd, Int.reduceSub, Int.reduceToNat, Nat.reduceMul]
  refine ⟨⟨by omega, by omega⟩, f_retg _ _ _ [.frz 2] ?_⟩
  simp (maxSteps := 1000000) (disch := first | omega | (simp only [LL]; omega)) only [W, V, TY, CC, reduceIte, Nat.reduceEqDiff, Nat.reduceAdd, Nat.reduceLeDiff, Nat.reduceLT, Int.reduceLE, Int.reduceLT, Int.reduceAdd, Int.reduceSub, Int.reduceToNat, Nat.reduceMul]
/-- -1, 0 or 1 -/
def cmpZ (m n : Int) : Int := if m < n then -1 else if n < m then 1 else 0
/-- examboard/nat.Cmp -/
def b50 : AF := ⟨47, 2, [.tmp 4],
  (.seq (.reg [
    ⟨some 4, .assign (.const (.int .i64 0)), none⟩])
  (.seq (.reg [
    ⟨some 8, .move (.tmp 0), none⟩,
    ⟨some 9, .call ⟨(.value (.func 55)), #[(.tmp 8)], #[26]⟩, none⟩,
    ⟨some 10, .move (.tmp 1), none⟩,
    ⟨some 11, .call ⟨(.value (.func 55)), #[(.tmp 10)], #[26]⟩, none⟩,
    ⟨some 5, .assign (.tmp 9), none⟩,
    ⟨some 6, .assign (.tmp 11), none⟩])
  (.seq (.seq (.reg [
    ⟨some 12, .move (.tmp 5), none⟩,
    ⟨some 13, .call ⟨(.builtin .len), #[(.tmp 12)], #[26]⟩, none⟩,
    ⟨some 14, .move (.tmp 6), none⟩,
    ⟨some 15, .call ⟨(.builtin .len), #[(.tmp 14)], #[26]⟩, none⟩,
    ⟨some 16, .binOp .neq 3 (.tmp 13) (.tmp 15) 3, none⟩])
  (.cond (.tmp 16)
    (.seq (.seq (.reg [
      ⟨some 17, .move (.tmp 5), none⟩,
      ⟨some 18, .call ⟨(.builtin .len), #[(.tmp 17)], #[26]⟩, none⟩,
      ⟨some 19, .move (.tmp 6), none⟩,
      ⟨some 20, .call ⟨(.builtin .len), #[(.tmp 19)], #[26]⟩, none⟩,
      ⟨some 21, .binOp .lss 3 (.tmp 18) (.tmp 20) 3, none⟩])
    (.cond (.tmp 21)
      (.seq (.reg [
        ⟨some 4, .assign (.const (.int .i64 (-1))), none⟩])
      .ret)
      .skip))
    (.seq (.reg [
      ⟨some 4, .assign (.const (.int .i64 1)), none⟩])
    .ret))
    .skip))
  (.seq (.seq (.reg [
    ⟨some 22, .move (.tmp 5), none⟩,
    ⟨some 23, .call ⟨(.builtin .len), #[(.tmp 22)], #[26]⟩, none⟩,
    ⟨some 24, .binOp .sub 3 (.tmp 23) (.const (.int .i64 1)) 3, none⟩,
    ⟨some 7, .assign (.tmp 24), none⟩])
  (.block 0 (.loop (.seq (.seq (.reg [
    ⟨some 25, .move (.tmp 7), none⟩,
    ⟨some 26, .binOp .geq 3 (.tmp 25) (.const (.int .i64 0)) 3, none⟩])
  (.cond (.tmp 26)
    .skip
    (.exit 0)))
  (.seq (.block 1 (.seq (.seq (.dreg [
    ⟨some 29, .move (.tmp 5), none⟩,
    ⟨some 30, .move (.tmp 7), none⟩,
    ⟨some 31, .indexAddr 26 (.tmp 29) (.tmp 30), none⟩,
    ⟨some 32, .load 42 (.tmp 31), none⟩,
    ⟨some 33, .move (.tmp 6), none⟩,
    ⟨some 34, .move (.tmp 7), none⟩,
    ⟨some 35, .indexAddr 26 (.tmp 33) (.tmp 34), none⟩,
    ⟨some 36, .load 42 (.tmp 35), none⟩,
    ⟨some 37, .binOp .lss 42 (.tmp 32) (.tmp 36) 42, none⟩])
  (.cond (.tmp 37)
    (.seq (.reg [
      ⟨some 4, .assign (.const (.int .i64 (-1))), none⟩])
    .ret)
    .skip))
  (.seq (.dreg [
    ⟨some 38, .move (.tmp 5), none⟩,
    ⟨some 39, .move (.tmp 7), none⟩,
    ⟨some 40, .indexAddr 26 (.tmp 38) (.tmp 39), none⟩,
    ⟨some 41, .load 42 (.tmp 40), none⟩,
    ⟨some 42, .move (.tmp 6), none⟩,
    ⟨some 43, .move (.tmp 7), none⟩,
    ⟨some 44, .indexAddr 26 (.tmp 42) (.tmp 43), none⟩,
    ⟨some 45, .load 42 (.tmp 44), none⟩,
    ⟨some 46, .binOp .gtr 42 (.tmp 41) (.tmp 45) 42, none⟩])
  (.cond (.tmp 46)
    (.seq (.reg [
      ⟨some 4, .assign (.const (.int .i64 1)), none⟩])
    .ret)
    .skip))))
  (.reg [
    ⟨some 27, .move (.tmp 7), none⟩,
    ⟨some 28, .binOp .sub 3 (.tmp 27) (.const (.int .i64 1)) 3, none⟩,
    ⟨some 7, .assign (.tmp 28), none⟩]))))))
  (.seq (.reg [
    ⟨some 4, .assign (.const (.int .i64 0)), none⟩])
  .ret)))))⟩
theorem c50 : fcomp Tryd.prog 50 = ⟨b50.n, b50.np, b50.res, b50.body.bare⟩ := by kernel_rfl
theorem k50 : fok Tryd.prog 50 = true := by kernel_rfl
theorem nat_Cmp (a b : List Int) (ha : Lim a) (hb : Lim b) (la : a.length < 4611686018427387904) (lb : b.length < 4611686018427387904) : AFun Tryd.prog 50 [.one (natD a), .one (natD b)] [.one (.lit (.int .i64 (cmpZ (val a) (val b))))] := by
  refine afun_intro mo_ _ _ c50 k50 _ _ rfl (by decide) ?_
  unfold b50
  have h1 := tr_len ha
  have h2 := tr_len hb
  have n1 : Nrm (tr a) := nl_nrm _
  have n2 : Nrm (tr b) := nl_nrm _
  have l1 := tr_lim a
  have l2 := tr_lim b
  rw [← val_tr ha, ← val_tr hb]
  simp (maxSteps := 1000000) (disch := first | omega | (simp only [LL]; omega)) only [W, V, TY, CC, reduceIte, Nat.reduceEqDiff, Nat.reduceAdd, Nat.reduceLeDiff, Nat.reduceLT, Int.reduceLE, Int.reduceLT, Int.reduceAdd, Int.reduceSub, Int.reduceToNat, Nat.reduceMul]
  refine a_call _ _ (nat_trim a ha la) rfl ?_
  simp (maxSteps := 1000000) (disch := first | omega | (simp only [LL]; omega)) only [W, V, TY, CC, reduceIte, Nat.reduceEqDiff, Nat.reduceAdd, Nat.reduceLeDiff, Nat.reduceLT, Int.reduceLE, Int.reduceLT, Int.reduceAdd, Int.reduceSub, Int.reduceToNat, Nat.reduceMul]
  refine a_call _ _ (nat_trim b hb lb) rfl ?_
  simp (maxSteps := 1000000) (disch := first | omega | (simp only [LL]; omega)) only [W, V, TY, CC, reduceIte, Nat.reduceEqDiff, Nat.reduceAdd, Nat.reduceLeDiff, Nat.reduceLT, Int.reduceLE, Int.reduceLT, Int.reduceAdd, Int.reduceSub, Int.reduceToNat, Nat.reduceMul]
  generalize tr a = x at *
  generalize tr b = y at *
  refine c_split (fun hl => ?_) (fun hl => ?_)
  · simp (maxSteps := 1000000) (disch := first | omega | (simp only [LL]; omega)) only [W, V, TY, CC, reduceIte, Nat.reduceEqDiff, Nat.reduceAdd, Nat.reduceLeDiff, Nat.reduceLT, Int.reduceLE, Int.reduceLT, Int.reduceAdd, Int.reduceSub, Int.reduceToNat, Nat.reduceMul]
    refine c_split (fun hl2 => ?_) (fun hl2 => ?_)
    · simp (maxSteps := 1000000) (disch := first | omega | (simp only [LL]; omega)) only [W, V, TY, CC, reduceIte, Nat.reduceEqDiff, Nat.reduceAdd, Nat.reduceLeDiff, Nat.reduceLT, Int.reduceLE, Int.reduceLT, Int.reduceAdd, Int.reduceSub, Int.reduceToNat, Nat.reduceMul]
      refine f_ret _ _ _ ?_
      have := lt_of_len l1 l2 n2 (by omega)
      simp (maxSteps := 1000000) (disch := first | omega | (simp only [LL]; omega)) only [W, V, TY, CC, reduceIte, Nat.reduceEqDiff, Nat.reduceAdd, Nat.reduceLeDiff, Nat.reduceLT, Int.reduceLE, Int.reduceLT, Int.reduceAdd, Int.reduceSub, Int.reduceToNat, Nat.reduceMul, cmpZ, this]
    · simp (maxSteps := 1000000) (disch := first | omega | (simp only [LL]; omega)) only [W, V, TY, CC, reduceIte, Nat.reduceEqDiff, Nat.reduceAdd, Nat.reduceLeDiff, Nat.reduceLT, Int.reduceLE, Int.reduceLT, Int.reduceAdd, Int.reduceSub, Int.reduceToNat, Nat.reduceMul]
      refine f_ret _ _ _ ?_
      have := lt_of_len l2 l1 n1 (by omega)
      have h' : ¬ val x < val y := by omega
      simp (maxSteps := 1000000) (disch := first | omega | (simp only [LL]; omega)) only [W, V, TY, CC, reduceIte, Nat.reduceEqDiff, Nat.reduceAdd, Nat.reduceLeDiff, Nat.reduceLT, Int.reduceLE, Int.reduceLT, Int.reduceAdd, Int.reduceSub, Int.reduceToNat, Nat.reduceMul, cmpZ, this, h']
  · simp (maxSteps := 1000000) (disch := first | omega | (simp only [LL]; omega)) only [W, V, TY, CC, reduceIte, Nat.reduceEqDiff, Nat.reduceAdd, Nat.reduceLeDiff, Nat.reduceLT, Int.reduceLE, Int.reduceLT, Int.reduceAdd, Int.reduceSub, Int.reduceToNat, Nat.reduceMul]
    have hl' : x.length = y.length := by omega
    refine w_loop (fun n s => ∃ i : Nat, n = i ∧ s.t 5 = .one (.dt (natD x)) ∧ s.t 6 = .one (.dt (natD y)) ∧ s.t 7 = .one (.dt (.lit (.int .i64 (i - 1)))) ∧ i ≤ x.length ∧ val (x.drop i) = val (y.drop i)) x.length ⟨x.length, rfl, ?_, ?_, ?_, Nat.le_refl _, by rw [List.drop_of_length_le (Nat.le_refl _), List.drop_of_length_le (by omega)]⟩ ?_
    · simp (maxSteps := 1000000) (disch := first | omega | (simp only [LL]; omega)) only [W, V, TY, CC, reduceIte, Nat.reduceEqDiff, Nat.reduceAdd, Nat.reduceLeDiff, Nat.reduceLT, Int.reduceLE, Int.reduceLT, Int.reduceAdd, Int.reduceSub, Int.reduceToNat, Nat.reduceMul]
    · simp (maxSteps := 1000000) (disch := first | omega | (simp only [LL]; omega)) only [W, V, TY, CC, reduceIte, Nat.reduceEqDiff, Nat.reduceAdd, Nat.reduceLeDiff, Nat.reduceLT, Int.reduceLE, Int.reduceLT, Int.reduceAdd, Int.reduceSub, Int.reduceToNat, Nat.reduceMul]
    · simp (maxSteps := 1000000) (disch := first | omega | (simp only [LL]; omega)) only [W, V, TY, CC, reduceIte, Nat.reduceEqDiff, Nat.reduceAdd, Nat.reduceLeDiff, Nat.reduceLT, Int.reduceLE, Int.reduceLT, Int.reduceAdd, Int.reduceSub, Int.reduceToNat, Nat.reduceMul]
    intro n s _ ⟨i, e, t5, t6, t7, hi, hd⟩
    simp (maxSteps := 1000000) (disch := first | omega | (simp only [LL]; omega)) only [W, V, TY, CC, reduceIte, Nat.reduceEqDiff, Nat.reduceAdd, Nat.reduceLeDiff, Nat.reduceLT, Int.reduceLE, Int.reduceLT, Int.reduceAdd, Int.reduceSub, Int.reduceToNat, Nat.reduceMul, t5, t6, t7]
    refine c_split (fun hc => ?_) (fun hc => ?_)
    · simp (maxSteps := 1000000) (disch := first | omega | (simp only [LL]; omega)) only [W, V, TY, CC, reduceIte, Nat.reduceEqDiff, Nat.reduceAdd, Nat.reduceLeDiff, Nat.reduceLT, Int.reduceLE, Int.reduceLT, Int.reduceAdd, Int.reduceSub, Int.reduceToNat, Nat.reduceMul, t5, t6, t7]
      have e1 : i - 1 + 1 = i := by omega
      refine c_split (fun h3 => ?_) (fun h3 => ?_)
      · simp (maxSteps := 1000000) (disch := first | omega | (simp only [LL]; omega)) only [W, V, TY, CC, reduceIte, Nat.reduceEqDiff, Nat.reduceAdd, Nat.reduceLeDiff, Nat.reduceLT, Int.reduceLE, Int.reduceLT, Int.reduceAdd, Int.reduceSub, Int.reduceToNat, Nat.reduceMul, t5, t6, t7]
        refine f_ret _ _ _ ?_
        have := lt_of_at l1 l2 (i := i - 1) (by omega) (by omega) (by rw [e1]; exact hd) h3
        simp (maxSteps := 1000000) (disch := first | omega | (simp only [LL]; omega)) only [W, V, TY, CC, reduceIte, Nat.reduceEqDiff, Nat.reduceAdd, Nat.reduceLeDiff, Nat.reduceLT, Int.reduceLE, Int.reduceLT, Int.reduceAdd, Int.reduceSub, Int.reduceToNat, Nat.reduceMul, cmpZ, this]
      · simp (maxSteps := 1000000) (disch := first | omega | (simp only [LL]; omega)) only [W, V, TY, CC, reduceIte, Nat.reduceEqDiff, Nat.reduceAdd, Nat.reduceLeDiff, Nat.reduceLT, Int.reduceLE, Int.reduceLT, Int.reduceAdd, Int.reduceSub, Int.reduceToNat, Nat.reduceMul, t5, t6, t7]
        refine c_split (fun h4 => ?_) (fun h4 => ?_)
        · simp (maxSteps := 1000000) (disch := first | omega | (simp only [LL]; omega)) only [W, V, TY, CC, reduceIte, Nat.reduceEqDiff, Nat.reduceAdd, Nat.reduceLeDiff, Nat.reduceLT, Int.reduceLE, Int.reduceLT, Int.reduceAdd, Int.reduceSub, Int.reduceToNat, Nat.reduceMul, t5, t6, t7]
          refine f_ret _ _ _ ?_
          have := lt_of_at l2 l1 (i := i - 1) (by omega) (by omega) (by rw [e1]; exact hd.symm) h4
          have h' : ¬ val x < val y := by omega
          simp (maxSteps := 1000000) (disch := first | omega | (simp only [LL]; omega)) only [W, V, TY, CC, reduceIte, Nat.reduceEqDiff, Nat.reduceAdd, Nat.reduceLeDiff, Nat.reduceLT, Int.reduceLE, Int.reduceLT, Int.reduceAdd, Int.reduceSub, Int.reduceToNat, Nat.reduceMul, cmpZ, this, h']
        · simp (maxSteps := 1000000) (disch := first | omega | (simp only [LL]; omega)) only [W, V, TY, CC, reduceIte, Nat.reduceEqDiff, Nat.reduceAdd, Nat.reduceLeDiff, Nat.reduceLT, Int.reduceLE, Int.reduceLT, Int.reduceAdd, Int.reduceSub, Int.reduceToNat, Nat.reduceMul, t5, t6, t7]
          refine ⟨i - 1, by omega, i - 1, rfl, by rw [show ((i - 1 : Nat) : Int) = i - 1 by omega], by omega, ?_⟩
          rw [val_drop_getD (i := i - 1) (by omega), val_drop_getD (l := y) (i := i - 1) (by omega), e1, hd]
          omega
    · simp (maxSteps := 1000000) (disch := first | omega | (simp only [LL]; omega)) only [W, V, TY, CC, reduceIte, Nat.reduceEqDiff, Nat.reduceAdd, Nat.reduceLeDiff, Nat.reduceLT, Int.reduceLE, Int.reduceLT, Int.reduceAdd, Int.reduceSub, Int.reduceToNat, Nat.reduceMul, t5, t6, t7]
      refine f_ret _ _ _ ?_
      have h0 : i = 0 := by omega
      rw [h0, List.drop_zero, List.drop_zero] at hd
      have h' : ¬ val x < val y := by omega
      have h'' : ¬ val y < val x := by omega
      simp (maxSteps := 1000000) (disch := first | omega | (simp only [LL]; omega)) only [W, V, TY, CC, reduceIte, Nat.reduceEqDiff, Nat.reduceAdd, Nat.reduceLeDiff, Nat.reduceLT, Int.reduceLE, Int.reduceLT, Int.reduceAdd, Int.reduceSub, Int.reduceToNat, Nat.reduceMul, cmpZ, h', h'']
end Go.Proofs.YteegehbighoplaaDoor.E

set_option linter.unusedSimpArgs false
set_option linter.unusedVariables false
set_option maxHeartbeats 2000000
namespace Go.Proofs.YteegehbighoplaaDoor.E
open Go.RowKit Limbs
def b73_4 : AC :=
  (.seq (.reg [
    ⟨some 22, .move (.tmp 5), none⟩,
    ⟨some 23, .call ⟨(.builtin .len), #[(.tmp 22)], #[26]⟩, none⟩,
    ⟨some 24, .binOp .add 3 (.tmp 23) (.const (.int .i64 1)) 3, none⟩,
    ⟨some 25, .makeSlice 26 (.const (.int .i64 0)) (.tmp 24), none⟩,
    ⟨some 7, .assign (.tmp 25), none⟩])
  (.seq (.reg [
    ⟨some 8, .assign (.const (.int .u64 0)), none⟩])
  (.seq (.seq (.reg [
    ⟨some 26, .move (.tmp 5), none⟩,
    ⟨some 27, .call ⟨(.builtin .len), #[(.tmp 26)], #[26]⟩, none⟩,
    ⟨some 28, .move (.const (.int .i64 0)), none⟩])
  (.block 0 (.loop (.seq (.reg [
    ⟨some 29, .binOp .lss 3 (.tmp 28) (.tmp 27) 3, none⟩])
  (.seq (.cond (.tmp 29)
    .skip
    (.exit 0))
  (.seq (.block 1 (.seq (.reg [
    ⟨some 30, .move (.tmp 28), none⟩,
    ⟨some 31, .indexAddr 26 (.tmp 26) (.tmp 28), none⟩,
    ⟨some 32, .load 42 (.tmp 31), none⟩,
    ⟨some 9, .assign (.tmp 30), none⟩,
    ⟨some 10, .assign (.tmp 32), none⟩])
  (.seq (.reg [
    ⟨some 33, .move (.tmp 8), none⟩,
    ⟨some 34, .move (.tmp 10), none⟩,
    ⟨some 35, .convert 42 48 (.tmp 34), none⟩,
    ⟨some 36, .binOp .add 48 (.tmp 33) (.tmp 35) 48, none⟩,
    ⟨some 8, .assign (.tmp 36), none⟩])
  (.seq (.seq (.reg [
    ⟨some 37, .move (.tmp 9), none⟩,
    ⟨some 38, .move (.tmp 6), none⟩,
    ⟨some 39, .call ⟨(.builtin .len), #[(.tmp 38)], #[26]⟩, none⟩,
    ⟨some 40, .binOp .lss 3 (.tmp 37) (.tmp 39) 3, none⟩])
  (.cond (.tmp 40)
    (.reg [
      ⟨some 41, .move (.tmp 8), none⟩,
      ⟨some 42, .move (.tmp 6), none⟩,
      ⟨some 43, .move (.tmp 9), none⟩,
      ⟨some 44, .indexAddr 26 (.tmp 42) (.tmp 43), none⟩,
      ⟨some 45, .load 42 (.tmp 44), none⟩,
      ⟨some 46, .convert 42 48 (.tmp 45), none⟩,
      ⟨some 47, .binOp .add 48 (.tmp 41) (.tmp 46) 48, none⟩,
      ⟨some 8, .assign (.tmp 47), none⟩])
    .skip))
  (.seq (.reg [
    ⟨some 48, .move (.tmp 7), none⟩,
    ⟨some 49, .move (.tmp 8), none⟩,
    ⟨some 50, .binOp .and 48 (.tmp 49) (.const (.int .u64 4294967295)) 48, none⟩,
    ⟨some 51, .convert 48 42 (.tmp 50), none⟩,
    ⟨some 52, .buildSlice 26 1 #[(0, (.tmp 51))], none⟩,
    ⟨some 53, .call ⟨(.builtin .append), #[(.tmp 48), (.tmp 52)], #[26, 26]⟩, none⟩,
    ⟨some 7, .assign (.tmp 53), none⟩])
  (.reg [
    ⟨some 54, .move (.tmp 8), none⟩,
    ⟨some 55, .binOp .shr 48 (.tmp 54) (.const (.int .u64 32)) 86, none⟩,
    ⟨some 8, .assign (.tmp 55), none⟩]))))))
  (.reg [
    ⟨some 56, .binOp .add 3 (.tmp 28) (.const (.int .i64 1)) 3, none⟩,
    ⟨some 28, .move (.tmp 56), none⟩])))))))
  (.seq (.seq (.reg [
    ⟨some 57, .move (.tmp 8), none⟩,
    ⟨some 58, .binOp .gtr 48 (.tmp 57) (.const (.int .u64 0)) 48, none⟩])
  (.cond (.tmp 58)
    (.reg [
      ⟨some 59, .move (.tmp 7), none⟩,
      ⟨some 60, .move (.tmp 8), none⟩,
      ⟨some 61, .convert 48 42 (.tmp 60), none⟩,
      ⟨some 62, .buildSlice 26 1 #[(0, (.tmp 61))], none⟩,
      ⟨some 63, .call ⟨(.builtin .append), #[(.tmp 59), (.tmp 62)], #[26, 26]⟩, none⟩,
      ⟨some 7, .assign (.tmp 63), none⟩])
    .skip))
  (.seq (.reg [
    ⟨some 64, .move (.tmp 7), none⟩,
    ⟨some 4, .assign (.tmp 64), none⟩])
  .ret)))))
/-- examboard/nat.Add -/
def b73 : AF := ⟨65, 2, [.tmp 4],
  (.seq (.reg [
    ⟨some 4, .assign (.const (.slice none 0 0)), none⟩])
  (.seq (.reg [
    ⟨some 11, .move (.tmp 0), none⟩,
    ⟨some 12, .call ⟨(.value (.func 55)), #[(.tmp 11)], #[26]⟩, none⟩,
    ⟨some 13, .move (.tmp 1), none⟩,
    ⟨some 14, .call ⟨(.value (.func 55)), #[(.tmp 13)], #[26]⟩, none⟩,
    ⟨some 5, .assign (.tmp 12), none⟩,
    ⟨some 6, .assign (.tmp 14), none⟩])
  (.seq (.seq (.reg [
    ⟨some 15, .move (.tmp 5), none⟩,
    ⟨some 16, .call ⟨(.builtin .len), #[(.tmp 15)], #[26]⟩, none⟩,
    ⟨some 17, .move (.tmp 6), none⟩,
    ⟨some 18, .call ⟨(.builtin .len), #[(.tmp 17)], #[26]⟩, none⟩,
    ⟨some 19, .binOp .lss 3 (.tmp 16) (.tmp 18) 3, none⟩])
  (.cond (.tmp 19)
    (.reg [
      ⟨some 20, .move (.tmp 6), none⟩,
      ⟨some 21, .move (.tmp 5), none⟩,
      ⟨some 5, .assign (.tmp 20), none⟩,
      ⟨some 6, .assign (.tmp 21), none⟩])
    .skip))
  b73_4)))⟩
theorem c73 : fcomp Tryd.prog 73 = ⟨b73.n, b73.np, b73.res, b73.body.bare⟩ := by kernel_rfl
theorem k73 : fok Tryd.prog 73 = true := by kernel_rfl
theorem nat_Add_rest (X Y : List Int) (hX : Lim X) (hY : Lim Y) (nX : Nrm X) (hXY : Y.length ≤ X.length) (hl : X.length < 8796093022208) (m : Nat) (hm : (m : Int) = val X + val Y) (s : AS) (t5 : s.t 5 = .one (.dt (natD X))) (t6 : s.t 6 = .one (.dt (natD Y))) (g25 : s.g 25 = 0) :
    awp Tryd.prog b73_4 (fend Tryd.prog [.tmp 4] [.one (natD (nl m))]) s := by
  unfold b73_4
  simp (maxSteps := 1000000) (disch := first | omega | (simp only [LL]; omega)) only [W, V, TY, CC, reduceIte, Nat.reduceEqDiff, Nat.reduceAdd, Nat.reduceLeDiff, Nat.reduceLT, Int.reduceLE, Int.reduceLT, Int.reduceAdd, Int.reduceSub, Int.reduceToNat, Nat.reduceMul, t5, t6, g25]
  refine w_loop (fun n s => ∃ (i : Nat) (S : List Int) (c : Int), n + i = X.length ∧ s.t 6 = .one (.dt (natD Y)) ∧ s.t 26 = .one (.dt (natD X)) ∧ s.t 27 = .one (.dt (.lit (.int .i64 X.length))) ∧ s.t 28 = .one (.dt (.lit (.int .i64 i))) ∧ s.t 7 = .one (.row (25, 0) i) ∧ s.r (25, 0) = some ⟨42, 1, i, natC S, i, true⟩ ∧ s.t 8 = .one (.dt (.lit (.int .u64 c))) ∧ S.length = i ∧ Lim S ∧ 0 ≤ c ∧ c ≤ 1 ∧ val S + bp i * c = val (X.take i) + val (Y.take i)) X.length ⟨0, [], 0, rfl, ?_, ?_, ?_, ?_, ?_, ?_, ?_, rfl, Lim.nil, by omega, by omega, by simp [val]⟩ ?_
  · simp (maxSteps := 1000000) (disch := first | omega | (simp only [LL]; omega)) only [W, V, TY, CC, reduceIte, Nat.reduceEqDiff, Nat.reduceAdd, Nat.reduceLeDiff, Nat.reduceLT, Int.reduceLE, Int.reduceLT, Int.reduceAdd, Int.reduceSub, Int.reduceToNat, Nat.reduceMul, t5, t6, g25]
  · simp (maxSteps := 1000000) (disch := first | omega | (simp only [LL]; omega)) only [W, V, TY, CC, reduceIte, Nat.reduceEqDiff, Nat.reduceAdd, Nat.reduceLeDiff, Nat.reduceLT, Int.reduceLE, Int.reduceLT, Int.reduceAdd, Int.reduceSub, Int.reduceToNat, Nat.reduceMul, t5, t6, g25]
  · simp (maxSteps := 1000000) (disch := first | omega | (simp only [LL]; omega)) only [W, V, TY, CC, reduceIte, Nat.reduceEqDiff, Nat.reduceAdd, Nat.reduceLeDiff, Nat.reduceLT, Int.reduceLE, Int.reduceLT, Int.reduceAdd, Int.reduceSub, Int.reduceToNat, Nat.reduceMul, t5, t6, g25]
  · simp (maxSteps := 1000000) (disch := first | omega | (simp only [LL]; omega)) only [W, V, TY, CC, reduceIte, Nat.reduceEqDiff, Nat.reduceAdd, Nat.reduceLeDiff, Nat.reduceLT, Int.reduceLE, Int.reduceLT, Int.reduceAdd, Int.reduceSub, Int.reduceToNat, Nat.reduceMul, t5, t6, g25]
  · simp (maxSteps := 1000000) (disch := first | omega | (simp only [LL]; omega)) only [W, V, TY, CC, reduceIte, Nat.reduceEqDiff, Nat.reduceAdd, Nat.reduceLeDiff, Nat.reduceLT, Int.reduceLE, Int.reduceLT, Int.reduceAdd, Int.reduceSub, Int.reduceToNat, Nat.reduceMul, t5, t6, g25]
  · simp (maxSteps := 1000000) (disch := first | omega | (simp only [LL]; omega)) only [W, V, TY, CC, reduceIte, Nat.reduceEqDiff, Nat.reduceAdd, Nat.reduceLeDiff, Nat.reduceLT, Int.reduceLE, Int.reduceLT, Int.reduceAdd, Int.reduceSub, Int.reduceToNat, Nat.reduceMul, t5, t6, g25]
  · simp (maxSteps := 1000000) (disch := first | omega | (simp only [LL]; omega)) only [W, V, TY, CC, reduceIte, Nat.reduceEqDiff, Nat.reduceAdd, Nat.reduceLeDiff, Nat.reduceLT, Int.reduceLE, Int.reduceLT, Int.reduceAdd, Int.reduceSub, Int.reduceToNat, Nat.reduceMul, t5, t6, g25]
  clear t5 t6 g25
  intro n s _ ⟨i, S, c, e, t6, t26, t27, t28, t7, r7, t8, hS, lS, c0, c1, hv⟩
  simp (maxSteps := 1000000) (disch := first | omega | (simp only [LL]; omega)) only [W, V, TY, CC, reduceIte, Nat.reduceEqDiff, Nat.reduceAdd, Nat.reduceLeDiff, Nat.reduceLT, Int.reduceLE, Int.reduceLT, Int.reduceAdd, Int.reduceSub, Int.reduceToNat, Nat.reduceMul, t6, t26, t27, t28, t7, t8]
  refine c_split (fun hi => ?_) (fun hi => ?_)
  · have hx := hX.getD i
    have hy := hY.getD i
    simp (maxSteps := 1000000) (disch := first | omega | (simp only [LL]; omega)) only [W, V, TY, CC, reduceIte, Nat.reduceEqDiff, Nat.reduceAdd, Nat.reduceLeDiff, Nat.reduceLT, Int.reduceLE, Int.reduceLT, Int.reduceAdd, Int.reduceSub, Int.reduceToNat, Nat.reduceMul, t6, t26, t27, t28, t7, t8]
    refine c_split (fun hk => ?_) (fun hk => ?_)
    · simp (maxSteps := 1000000) (disch := first | omega | (simp only [LL]; omega)) only [W, V, TY, CC, reduceIte, Nat.reduceEqDiff, Nat.reduceAdd, Nat.reduceLeDiff, Nat.reduceLT, Int.reduceLE, Int.reduceLT, Int.reduceAdd, Int.reduceSub, Int.reduceToNat, Nat.reduceMul, t6, t26, t27, t28, t7, t8, r7]
      refine ⟨⟨by omega, by omega⟩, n - 1, by omega, i + 1, S ++ [(c + X.getD i 0 + Y.getD i 0) % 4294967296], (c + X.getD i 0 + Y.getD i 0) / 4294967296, by omega, rfl, rfl, rfl, rfl, by simp [hS], lS.snoc (by omega) (by omega), by omega, by omega, ?_⟩
      rw [val_snoc, hS, bp_succ, val_take_getD (show i < X.length by omega), val_take_getD (show i < Y.length by omega)]
      generalize X.getD i 0 = x at *
      generalize Y.getD i 0 = y at *
      have := Int.emod_add_mul_ediv (c + x + y) 4294967296
      grind
    · simp (maxSteps := 1000000) (disch := first | omega | (simp only [LL]; omega)) only [W, V, TY, CC, reduceIte, Nat.reduceEqDiff, Nat.reduceAdd, Nat.reduceLeDiff, Nat.reduceLT, Int.reduceLE, Int.reduceLT, Int.reduceAdd, Int.reduceSub, Int.reduceToNat, Nat.reduceMul, t6, t26, t27, t28, t7, t8, r7]
      refine ⟨⟨by omega, by omega⟩, n - 1, by omega, i + 1, S ++ [(c + X.getD i 0) % 4294967296], (c + X.getD i 0) / 4294967296, by omega, rfl, rfl, rfl, rfl, by simp [hS], lS.snoc (by omega) (by omega), by omega, by omega, ?_⟩
      rw [val_snoc, hS, bp_succ, val_take_getD (show i < X.length by omega), take_getD_over (show Y.length ≤ i by omega)]
      generalize X.getD i 0 = x at *
      have := Int.emod_add_mul_ediv (c + x) 4294967296
      grind
  · have hin : i = X.length := by omega
    rw [List.take_of_length_le (by omega), List.take_of_length_le (by omega)] at hv
    have hp : X ≠ [] → bp (X.length - 1) ≤ val X := fun h => val_pos_of_nrm hX nX h
    have hy := val_nonneg hY
    simp (maxSteps := 1000000) (disch := first | omega | (simp only [LL]; omega)) only [W, V, TY, CC, reduceIte, Nat.reduceEqDiff, Nat.reduceAdd, Nat.reduceLeDiff, Nat.reduceLT, Int.reduceLE, Int.reduceLT, Int.reduceAdd, Int.reduceSub, Int.reduceToNat, Nat.reduceMul, t6, t26, t27, t28, t7, t8]
    refine c_split (fun hc => ?_) (fun hc => ?_)
    · simp (maxSteps := 1000000) (disch := first | omega | (simp only [LL]; omega)) only [W, V, TY, CC, reduceIte, Nat.reduceEqDiff, Nat.reduceAdd, Nat.reduceLeDiff, Nat.reduceLT, Int.reduceLE, Int.reduceLT, Int.reduceAdd, Int.reduceSub, Int.reduceToNat, Nat.reduceMul, t6, t26, t27, t28, t7, t8, r7]
      refine ⟨⟨by omega, by omega⟩, f_retg _ _ _ [.frz 4] ?_⟩
      have hc1 : c = 1 := by omega
      subst hc1
      have hres : S ++ [1] = nl m := by
        refine eq_nl (lS.snoc (by omega) (by omega)) (by unfold Nrm; simp) ?_
        rw [val_snoc, hS, hm]; exact hv
      simp (maxSteps := 1000000) (disch := first | omega | (simp only [LL]; omega)) only [W, V, TY, CC, reduceIte, Nat.reduceEqDiff, Nat.reduceAdd, Nat.reduceLeDiff, Nat.reduceLT, Int.reduceLE, Int.reduceLT, Int.reduceAdd, Int.reduceSub, Int.reduceToNat, Nat.reduceMul, hS]
      rw [hres]
    · simp (maxSteps := 1000000) (disch := first | omega | (simp only [LL]; omega)) only [W, V, TY, CC, reduceIte, Nat.reduceEqDiff, Nat.reduceAdd, Nat.reduceLeDiff, Nat.reduceLT, Int.reduceLE, Int.reduceLT, Int.reduceAdd, Int.reduceSub, Int.reduceToNat, Nat.reduceMul, t6, t26, t27, t28, t7, t8, r7]
      refine f_retg _ _ _ [.frz 4] ?_
      have hc0 : c = 0 := by omega
      subst hc0
      have hv' : val S = val X + val Y := by omega
      have hres : S = nl m := by
        refine eq_nl lS (nrm_of_val lS fun h => ?_) (by rw [hm]; exact hv')
        have h2 : X ≠ [] := by
          intro e; rw [e] at hin
          have : S.length = 0 := by rw [hS, hin]; rfl
          exact h (List.eq_nil_of_length_eq_zero this)
        have := hp h2
        rw [hS, hin]; omega
      simp (maxSteps := 1000000) (disch := first | omega | (simp only [LL]; omega)) only [W, V, TY, CC, reduceIte, Nat.reduceEqDiff, Nat.reduceAdd, Nat.reduceLeDiff, Nat.reduceLT, Int.reduceLE, Int.reduceLT, Int.reduceAdd, Int.reduceSub, Int.reduceToNat, Nat.reduceMul, hS, r7]
      rw [hres]
theorem nat_Add (a b : List Int) (ha : Lim a) (hb : Lim b) (la : a.length < 8796093022208) (lb : b.length < 8796093022208) : AFun Tryd.prog 73 [.one (natD a), .one (natD b)] [.one (natD (nl (nv a + nv b)))] := by
  refine afun_intro mo_ _ _ c73 k73 _ _ rfl (by decide) ?_
  unfold b73
  have h1 := tr_len ha
  have h2 := tr_len hb
  have n1 : Nrm (tr a) := nl_nrm _
  have n2 : Nrm (tr b) := nl_nrm _
  have l1 := tr_lim a
  have l2 := tr_lim b
  have hm : ((nv a + nv b : Nat) : Int) = val (tr a) + val (tr b) := by rw [val_tr ha, val_tr hb, Int.natCast_add, nv_eq ha, nv_eq hb]
  simp (maxSteps := 1000000) (disch := first | omega | (simp only [LL]; omega)) only [W, V, TY, CC, reduceIte, Nat.reduceEqDiff, Nat.reduceAdd, Nat.reduceLeDiff, Nat.reduceLT, Int.reduceLE, Int.reduceLT, Int.reduceAdd, Int.reduceSub, Int.reduceToNat, Nat.reduceMul]
  refine a_call _ _ (nat_trim a ha (by omega)) rfl ?_
  simp (maxSteps := 1000000) (disch := first | omega | (simp only [LL]; omega)) only [W, V, TY, CC, reduceIte, Nat.reduceEqDiff, Nat.reduceAdd, Nat.reduceLeDiff, Nat.reduceLT, Int.reduceLE, Int.reduceLT, Int.reduceAdd, Int.reduceSub, Int.reduceToNat, Nat.reduceMul]
  refine a_call _ _ (nat_trim b hb (by omega)) rfl ?_
  simp (maxSteps := 1000000) (disch := first | omega | (simp only [LL]; omega)) only [W, V, TY, CC, reduceIte, Nat.reduceEqDiff, Nat.reduceAdd, Nat.reduceLeDiff, Nat.reduceLT, Int.reduceLE, Int.reduceLT, Int.reduceAdd, Int.reduceSub, Int.reduceToNat, Nat.reduceMul]
  generalize tr a = x at *
  generalize tr b = y at *
  refine c_split (fun hl => ?_) (fun hl => ?_)
  · simp (maxSteps := 1000000) (disch := first | omega | (simp only [LL]; omega)) only [W, V, TY, CC, reduceIte, Nat.reduceEqDiff, Nat.reduceAdd, Nat.reduceLeDiff, Nat.reduceLT, Int.reduceLE, Int.reduceLT, Int.reduceAdd, Int.reduceSub, Int.reduceToNat, Nat.reduceMul]
    refine nat_Add_rest y x l2 l1 n2 (by omega) (by omega) _ (by rw [hm, Int.add_comm]) _ ?_ ?_ ?_
    · simp (maxSteps := 1000000) (disch := first | omega | (simp only [LL]; omega)) only [W, V, TY, CC, reduceIte, Nat.reduceEqDiff, Nat.reduceAdd, Nat.reduceLeDiff, Nat.reduceLT, Int.reduceLE, Int.reduceLT, Int.reduceAdd, Int.reduceSub, Int.reduceToNat, Nat.reduceMul]
    · simp (maxSteps := 1000000) (disch := first | omega | (simp only [LL]; omega)) only [W, V, TY, CC, reduceIte, Nat.reduceEqDiff, Nat.reduceAdd, Nat.reduceLeDiff, Nat.reduceLT, Int.reduceLE, Int.reduceLT, Int.reduceAdd, Int.reduceSub, Int.reduceToNat, Nat.reduceMul]
    · simp (maxSteps := 1000000) (disch := first | omega | (simp only [LL]; omega)) only [W, V, TY, CC, reduceIte, Nat.reduceEqDiff, Nat.reduceAdd, Nat.reduceLeDiff, Nat.reduceLT, Int.reduceLE, Int.reduceLT, Int.reduceAdd, Int.reduceSub, Int.reduceToNat, Nat.reduceMul]
  · simp (maxSteps := 1000000) (disch := first | omega | (simp only [LL]; omega)) only [W, V, TY, CC, reduceIte, Nat.reduceEqDiff, Nat.reduceAdd, Nat.reduceLeDiff, Nat.reduceLT, Int.reduceLE, Int.reduceLT, Int.reduceAdd, Int.reduceSub, Int.reduceToNat, Nat.reduceMul]
    refine nat_Add_rest x y l1 l2 n1 (by omega) (by omega) _ hm _ ?_ ?_ ?_
    · simp (maxSteps := 1000000) (disch := first | omega | (simp only [LL]; omega)) only [W, V, TY, CC, reduceIte, Nat.reduceEqDiff, Nat.reduceAdd, Nat.reduceLeDiff, Nat.reduceLT, Int.reduceLE, Int.reduceLT, Int.reduceAdd, Int.reduceSub, Int.reduceToNat, Nat.reduceMul]
    · simp (maxSteps := 1000000) (disch := first | omega | (simp only [LL]; omega)) only [W, V, TY, CC, reduceIte, Nat.reduceEqDiff, Nat.reduceAdd, Nat.reduceLeDiff, Nat.reduceLT, Int.reduceLE, Int.reduceLT, Int.reduceAdd, Int.reduceSub, Int.reduceToNat, Nat.reduceMul]
    · simp (maxSteps := 1000000) (disch := first | omega | (simp only [LL]; omega)) only [W, V, TY, CC, reduceIte, Nat.reduceEqDiff, Nat.reduceAdd, Nat.reduceLeDiff, Nat.reduceLT, Int.reduceLE, Int.reduceLT, Int.reduceAdd, Int.reduceSub, Int.reduceToNat, Nat.reduceMul]
end Go.Proofs.YteegehbighoplaaDoor.E

set_option linter.unusedSimpArgs false
set_option linter.unusedVariables false
set_option maxHeartbeats 2000000
namespace Go.Proofs.YteegehbighoplaaDoor.E
open Go.RowKit Limbs
/-- what Sub gives -/
def subR (m n : Nat) : List RV := if n ≤ m then [.one (natD (nl (m - n))), .one (.lit (.bool true))] else [.one (natD []), .one (.lit (.bool false))]
/-- examboard/nat.Sub -/
def b74 : AF := ⟨61, 2, [.tmp 4, .tmp 5],
  (.seq (.reg [
    ⟨some 4, .assign (.const (.slice none 0 0)), none⟩,
    ⟨some 5, .assign (.const (.bool false)), none⟩])
  (.seq (.reg [
    ⟨some 14, .move (.tmp 0), none⟩,
    ⟨some 15, .call ⟨(.value (.func 55)), #[(.tmp 14)], #[26]⟩, none⟩,
    ⟨some 16, .move (.tmp 1), none⟩,
    ⟨some 17, .call ⟨(.value (.func 55)), #[(.tmp 16)], #[26]⟩, none⟩,
    ⟨some 6, .assign (.tmp 15), none⟩,
    ⟨some 7, .assign (.tmp 17), none⟩])
  (.seq (.seq (.reg [
    ⟨some 18, .move (.tmp 6), none⟩,
    ⟨some 19, .move (.tmp 7), none⟩,
    ⟨some 20, .call ⟨(.value (.func 50)), #[(.tmp 18), (.tmp 19)], #[26, 26]⟩, none⟩,
    ⟨some 21, .binOp .lss 3 (.tmp 20) (.const (.int .i64 0)) 3, none⟩])
  (.cond (.tmp 21)
    (.seq (.reg [
      ⟨some 4, .assign (.const (.slice none 0 0)), none⟩,
      ⟨some 5, .assign (.const (.bool false)), none⟩])
    .ret)
    .skip))
  (.seq (.reg [
    ⟨some 22, .move (.tmp 6), none⟩,
    ⟨some 23, .call ⟨(.builtin .len), #[(.tmp 22)], #[26]⟩, none⟩,
    ⟨some 24, .makeSlice 26 (.tmp 23) (.tmp 23), none⟩,
    ⟨some 8, .assign (.tmp 24), none⟩])
  (.seq (.reg [
    ⟨some 9, .assign (.const (.int .u64 0)), none⟩])
  (.seq (.seq (.reg [
    ⟨some 25, .move (.tmp 6), none⟩,
    ⟨some 26, .call ⟨(.builtin .len), #[(.tmp 25)], #[26]⟩, none⟩,
    ⟨some 27, .move (.const (.int .i64 0)), none⟩])
  (.block 0 (.loop (.seq (.reg [
    ⟨some 28, .binOp .lss 3 (.tmp 27) (.tmp 26) 3, none⟩])
  (.seq (.cond (.tmp 28)
    .skip
    (.exit 0))
  (.seq (.block 1 (.seq (.reg [
    ⟨some 29, .move (.tmp 27), none⟩,
    ⟨some 30, .indexAddr 26 (.tmp 25) (.tmp 27), none⟩,
    ⟨some 31, .load 42 (.tmp 30), none⟩,
    ⟨some 10, .assign (.tmp 29), none⟩,
    ⟨some 11, .assign (.tmp 31), none⟩])
  (.seq (.reg [
    ⟨some 32, .move (.tmp 9), none⟩,
    ⟨some 12, .assign (.tmp 32), none⟩])
  (.seq (.seq (.reg [
    ⟨some 33, .move (.tmp 10), none⟩,
    ⟨some 34, .move (.tmp 7), none⟩,
    ⟨some 35, .call ⟨(.builtin .len), #[(.tmp 34)], #[26]⟩, none⟩,
    ⟨some 36, .binOp .lss 3 (.tmp 33) (.tmp 35) 3, none⟩])
  (.cond (.tmp 36)
    (.reg [
      ⟨some 37, .move (.tmp 12), none⟩,
      ⟨some 38, .move (.tmp 7), none⟩,
      ⟨some 39, .move (.tmp 10), none⟩,
      ⟨some 40, .indexAddr 26 (.tmp 38) (.tmp 39), none⟩,
      ⟨some 41, .load 42 (.tmp 40), none⟩,
      ⟨some 42, .convert 42 48 (.tmp 41), none⟩,
      ⟨some 43, .binOp .add 48 (.tmp 37) (.tmp 42) 48, none⟩,
      ⟨some 12, .assign (.tmp 43), none⟩])
    .skip))
  (.seq (.reg [
    ⟨some 44, .move (.tmp 11), none⟩,
    ⟨some 45, .convert 42 48 (.tmp 44), none⟩,
    ⟨some 13, .assign (.tmp 45), none⟩])
  (.seq (.reg [
    ⟨some 9, .assign (.const (.int .u64 0)), none⟩])
  (.seq (.seq (.reg [
    ⟨some 46, .move (.tmp 13), none⟩,
    ⟨some 47, .move (.tmp 12), none⟩,
    ⟨some 48, .binOp .lss 48 (.tmp 46) (.tmp 47) 48, none⟩])
  (.cond (.tmp 48)
    (.seq (.reg [
      ⟨some 49, .move (.tmp 13), none⟩,
      ⟨some 50, .binOp .add 48 (.tmp 49) (.const (.int .u64 4294967296)) 48, none⟩,
      ⟨some 13, .assign (.tmp 50), none⟩])
    (.reg [
      ⟨some 9, .assign (.const (.int .u64 1)), none⟩]))
    .skip))
  (.reg [
    ⟨some 51, .move (.tmp 8), none⟩,
    ⟨some 52, .move (.tmp 10), none⟩,
    ⟨some 53, .move (.tmp 13), none⟩,
    ⟨some 54, .move (.tmp 12), none⟩,
    ⟨some 55, .binOp .sub 48 (.tmp 53) (.tmp 54) 48, none⟩,
    ⟨some 56, .convert 48 42 (.tmp 55), none⟩,
    ⟨some 57, .indexAddr 26 (.tmp 51) (.tmp 52), none⟩,
    ⟨none, .store 42 (.tmp 57) (.tmp 56), none⟩]))))))))
  (.reg [
    ⟨some 58, .binOp .add 3 (.tmp 27) (.const (.int .i64 1)) 3, none⟩,
    ⟨some 27, .move (.tmp 58), none⟩])))))))
  (.seq (.seq (.gh [.frz 8])
  (.reg [
    ⟨some 59, .move (.tmp 8), none⟩,
    ⟨some 60, .call ⟨(.value (.func 55)), #[(.tmp 59)], #[26]⟩, none⟩,
    ⟨some 4, .assign (.tmp 60), none⟩,
    ⟨some 5, .assign (.const (.bool true)), none⟩]))
  .ret)))))))⟩
theorem c74 : fcomp Tryd.prog 74 = ⟨b74.n, b74.np, b74.res, b74.body.bare⟩ := by kernel_rfl
theorem k74 : fok Tryd.prog 74 = true := by kernel_rfl
theorem nat_Sub (a b : List Int) (ha : Lim a) (hb : Lim b) (la : a.length < 8796093022208) (lb : b.length < 8796093022208) : AFun Tryd.prog 74 [.one (natD a), .one (natD b)] (subR (nv a) (nv b)) := by
  refine afun_intro mo_ _ _ c74 k74 _ _ rfl (by decide) ?_
  unfold b74
  have h1 := tr_len ha
  have h2 := tr_len hb
  have n1 : Nrm (tr a) := nl_nrm _
  have n2 : Nrm (tr b) := nl_nrm _
  have l1 := tr_lim a
  have l2 := tr_lim b
  have v1 := val_tr ha
  have v2 := val_tr hb
  have e1 := nv_eq ha
  have e2 := nv_eq hb
  simp (maxSteps := 1000000) (disch := first | omega | (simp only [LL]; omega)) only [W, V, TY, CC, reduceIte, Nat.reduceEqDiff, Nat.reduceAdd, Nat.reduceLeDiff, Nat.reduceLT, Int.reduceLE, Int.reduceLT, Int.reduceAdd, Int.reduceSub, Int.reduceToNat, Nat.reduceMul]
  refine a_call _ _ (nat_trim a ha (by omega)) rfl ?_
  simp (maxSteps := 1000000) (disch := first | omega | (simp only [LL]; omega)) only [W, V, TY, CC, reduceIte, Nat.reduceEqDiff, Nat.reduceAdd, Nat.reduceLeDiff, Nat.reduceLT, Int.reduceLE, Int.reduceLT, Int.reduceAdd, Int.reduceSub, Int.reduceToNat, Nat.reduceMul]
  refine a_call _ _ (nat_trim b hb (by omega)) rfl ?_
  simp (maxSteps := 1000000) (disch := first | omega | (simp only [LL]; omega)) only [W, V, TY, CC, reduceIte, Nat.reduceEqDiff, Nat.reduceAdd, Nat.reduceLeDiff, Nat.reduceLT, Int.reduceLE, Int.reduceLT, Int.reduceAdd, Int.reduceSub, Int.reduceToNat, Nat.reduceMul]
  generalize tr a = x at *
  generalize tr b = y at *
  refine a_call _ _ (nat_Cmp x y l1 l2 (by omega) (by omega)) rfl ?_
  simp (maxSteps := 1000000) (disch := first | omega | (simp only [LL]; omega)) only [W, V, TY, CC, reduceIte, Nat.reduceEqDiff, Nat.reduceAdd, Nat.reduceLeDiff, Nat.reduceLT, Int.reduceLE, Int.reduceLT, Int.reduceAdd, Int.reduceSub, Int.reduceToNat, Nat.reduceMul]
  refine c_split (fun hl => ?_) (fun hl => ?_)
  · have hlt : val x < val y := by
      unfold cmpZ at hl
      split at hl
      · assumption
      · split at hl <;> omega
    simp (maxSteps := 1000000) (disch := first | omega | (simp only [LL]; omega)) only [W, V, TY, CC, reduceIte, Nat.reduceEqDiff, Nat.reduceAdd, Nat.reduceLeDiff, Nat.reduceLT, Int.reduceLE, Int.reduceLT, Int.reduceAdd, Int.reduceSub, Int.reduceToNat, Nat.reduceMul]
    refine f_ret _ _ _ ?_
    unfold subR
    rw [if_neg (by omega)]
    simp (maxSteps := 1000000) (disch := first | omega | (simp only [LL]; omega)) only [W, V, TY, CC, reduceIte, Nat.reduceEqDiff, Nat.reduceAdd, Nat.reduceLeDiff, Nat.reduceLT, Int.reduceLE, Int.reduceLT, Int.reduceAdd, Int.reduceSub, Int.reduceToNat, Nat.reduceMul]
    rfl
  · have hge : val y ≤ val x := by
      unfold cmpZ at hl
      split at hl <;> omega
    have hyx : y.length ≤ x.length := by
      by_cases h : y.length ≤ x.length
      · exact h
      · have := lt_of_len l1 l2 n2 (by omega); omega
    simp (maxSteps := 1000000) (disch := first | omega | (simp only [LL]; omega)) only [W, V, TY, CC, reduceIte, Nat.reduceEqDiff, Nat.reduceAdd, Nat.reduceLeDiff, Nat.reduceLT, Int.reduceLE, Int.reduceLT, Int.reduceAdd, Int.reduceSub, Int.reduceToNat, Nat.reduceMul]
    refine w_loop (fun n s => ∃ (i : Nat) (D : List Int) (c : Int), n + i = x.length ∧ s.t 7 = .one (.dt (natD y)) ∧ s.t 25 = .one (.dt (natD x)) ∧ s.t 26 = .one (.dt (.lit (.int .i64 x.length))) ∧ s.t 27 = .one (.dt (.lit (.int .i64 i))) ∧ s.t 8 = .one (.row (24, 0) 0) ∧ s.r (24, 0) = some ⟨42, 1, x.length, natC D, 0, true⟩ ∧ s.t 9 = .one (.dt (.lit (.int .u64 c))) ∧ D.length = x.length ∧ Lim D ∧ 0 ≤ c ∧ c ≤ 1 ∧ val (D.take i) + val (y.take i) = val (x.take i) + bp i * c) x.length ⟨0, List.replicate x.length 0, 0, rfl, ?_, ?_, ?_, ?_, ?_, ?_, ?_, by simp, Lim.replicate _, by omega, by omega, by simp [val]⟩ ?_
    · simp (maxSteps := 1000000) (disch := first | omega | (simp only [LL]; omega)) only [W, V, TY, CC, reduceIte, Nat.reduceEqDiff, Nat.reduceAdd, Nat.reduceLeDiff, Nat.reduceLT, Int.reduceLE, Int.reduceLT, Int.reduceAdd, Int.reduceSub, Int.reduceToNat, Nat.reduceMul]
    · simp (maxSteps := 1000000) (disch := first | omega | (simp only [LL]; omega)) only [W, V, TY, CC, reduceIte, Nat.reduceEqDiff, Nat.reduceAdd, Nat.reduceLeDiff, Nat.reduceLT, Int.reduceLE, Int.reduceLT, Int.reduceAdd, Int.reduceSub, Int.reduceToNat, Nat.reduceMul]
    · simp (maxSteps := 1000000) (disch := first | omega | (simp only [LL]; omega)) only [W, V, TY, CC, reduceIte, Nat.reduceEqDiff, Nat.reduceAdd, Nat.reduceLeDiff, Nat.reduceLT, Int.reduceLE, Int.reduceLT, Int.reduceAdd, Int.reduceSub, Int.reduceToNat, Nat.reduceMul]
    · simp (maxSteps := 1000000) (disch := first | omega | (simp only [LL]; omega)) only [W, V, TY, CC, reduceIte, Nat.reduceEqDiff, Nat.reduceAdd, Nat.reduceLeDiff, Nat.reduceLT, Int.reduceLE, Int.reduceLT, Int.reduceAdd, Int.reduceSub, Int.reduceToNat, Nat.reduceMul]
    · simp (maxSteps := 1000000) (disch := first | omega | (simp only [LL]; omega)) only [W, V, TY, CC, reduceIte, Nat.reduceEqDiff, Nat.reduceAdd, Nat.reduceLeDiff, Nat.reduceLT, Int.reduceLE, Int.reduceLT, Int.reduceAdd, Int.reduceSub, Int.reduceToNat, Nat.reduceMul]
    · simp (maxSteps := 1000000) (disch := first | omega | (simp only [LL]; omega)) only [W, V, TY, CC, reduceIte, Nat.reduceEqDiff, Nat.reduceAdd, Nat.reduceLeDiff, Nat.reduceLT, Int.reduceLE, Int.reduceLT, Int.reduceAdd, Int.reduceSub, Int.reduceToNat, Nat.reduceMul]
    · simp (maxSteps := 1000000) (disch := first | omega | (simp only [LL]; omega)) only [W, V, TY, CC, reduceIte, Nat.reduceEqDiff, Nat.reduceAdd, Nat.reduceLeDiff, Nat.reduceLT, Int.reduceLE, Int.reduceLT, Int.reduceAdd, Int.reduceSub, Int.reduceToNat, Nat.reduceMul]
    intro n s _ ⟨i, D, c, e, t7, t25, t26, t27, t8, r8, t9, hD, lD, c0, c1, hv⟩
    simp (maxSteps := 1000000) (disch := first | omega | (simp only [LL]; omega)) only [W, V, TY, CC, reduceIte, Nat.reduceEqDiff, Nat.reduceAdd, Nat.reduceLeDiff, Nat.reduceLT, Int.reduceLE, Int.reduceLT, Int.reduceAdd, Int.reduceSub, Int.reduceToNat, Nat.reduceMul, t7, t25, t26, t27, t8, t9]
    refine c_split (fun hi => ?_) (fun hi => ?_)
    · have hx := l1.getD i
      have hy := l2.getD i
      have hb := bp_succ i
      simp (maxSteps := 1000000) (disch := first | omega | (simp only [LL]; omega)) only [W, V, TY, CC, reduceIte, Nat.reduceEqDiff, Nat.reduceAdd, Nat.reduceLeDiff, Nat.reduceLT, Int.reduceLE, Int.reduceLT, Int.reduceAdd, Int.reduceSub, Int.reduceToNat, Nat.reduceMul, t7, t25, t26, t27, t8, t9]
      refine c_split (fun hk => ?_) (fun hk => ?_)
      · simp (maxSteps := 1000000) (disch := first | omega | (simp only [LL]; omega)) only [W, V, TY, CC, reduceIte, Nat.reduceEqDiff, Nat.reduceAdd, Nat.reduceLeDiff, Nat.reduceLT, Int.reduceLE, Int.reduceLT, Int.reduceAdd, Int.reduceSub, Int.reduceToNat, Nat.reduceMul, t7, t25, t26, t27, t8, t9]
        refine c_split (fun hq => ?_) (fun hq => ?_)
        · simp (maxSteps := 1000000) (disch := first | omega | (simp only [LL]; omega)) only [W, V, TY, CC, reduceIte, Nat.reduceEqDiff, Nat.reduceAdd, Nat.reduceLeDiff, Nat.reduceLT, Int.reduceLE, Int.reduceLT, Int.reduceAdd, Int.reduceSub, Int.reduceToNat, Nat.reduceMul, t7, t25, t26, t27, t8, t9, r8]
          refine ⟨⟨by omega, by omega⟩, by omega, n - 1, by omega, i + 1, D.set i (x.getD i 0 + 4294967296 - (c + y.getD i 0)), 1, by omega, rfl, rfl, rfl, by simp [hD], lD.set i (by omega) (by omega), by omega, by omega, ?_⟩
          rw [take_set_succ (by omega), val_snoc, List.length_take, Nat.min_eq_left (by omega), hb, val_take_getD (show i < x.length by omega), val_take_getD (show i < y.length by omega)]
          grind
        · simp (maxSteps := 1000000) (disch := first | omega | (simp only [LL]; omega)) only [W, V, TY, CC, reduceIte, Nat.reduceEqDiff, Nat.reduceAdd, Nat.reduceLeDiff, Nat.reduceLT, Int.reduceLE, Int.reduceLT, Int.reduceAdd, Int.reduceSub, Int.reduceToNat, Nat.reduceMul, t7, t25, t26, t27, t8, t9, r8]
          refine ⟨⟨by omega, by omega⟩, by omega, n - 1, by omega, i + 1, D.set i (x.getD i 0 - (c + y.getD i 0)), 0, by omega, rfl, rfl, rfl, by simp [hD], lD.set i (by omega) (by omega), by omega, by omega, ?_⟩
          rw [take_set_succ (by omega), val_snoc, List.length_take, Nat.min_eq_left (by omega), hb, val_take_getD (show i < x.length by omega), val_take_getD (show i < y.length by omega)]
          grind
      · simp (maxSteps := 1000000) (disch := first | omega | (simp only [LL]; omega)) only [W, V, TY, CC, reduceIte, Nat.reduceEqDiff, Nat.reduceAdd, Nat.reduceLeDiff, Nat.reduceLT, Int.reduceLE, Int.reduceLT, Int.reduceAdd, Int.reduceSub, Int.reduceToNat, Nat.reduceMul, t7, t25, t26, t27, t8, t9]
        refine c_split (fun hq => ?_) (fun hq => ?_)
        · simp (maxSteps := 1000000) (disch := first | omega | (simp only [LL]; omega)) only [W, V, TY, CC, reduceIte, Nat.reduceEqDiff, Nat.reduceAdd, Nat.reduceLeDiff, Nat.reduceLT, Int.reduceLE, Int.reduceLT, Int.reduceAdd, Int.reduceSub, Int.reduceToNat, Nat.reduceMul, t7, t25, t26, t27, t8, t9, r8]
          refine ⟨⟨by omega, by omega⟩, by omega, n - 1, by omega, i + 1, D.set i (x.getD i 0 + 4294967296 - c), 1, by omega, rfl, rfl, rfl, by simp [hD], lD.set i (by omega) (by omega), by omega, by omega, ?_⟩
          rw [take_set_succ (by omega), val_snoc, List.length_take, Nat.min_eq_left (by omega), hb, val_take_getD (show i < x.length by omega), take_getD_over (show y.length ≤ i by omega)]
          grind
        · simp (maxSteps := 1000000) (disch := first | omega | (simp only [LL]; omega)) only [W, V, TY, CC, reduceIte, Nat.reduceEqDiff, Nat.reduceAdd, Nat.reduceLeDiff, Nat.reduceLT, Int.reduceLE, Int.reduceLT, Int.reduceAdd, Int.reduceSub, Int.reduceToNat, Nat.reduceMul, t7, t25, t26, t27, t8, t9, r8]
          refine ⟨⟨by omega, by omega⟩, by omega, n - 1, by omega, i + 1, D.set i (x.getD i 0 - c), 0, by omega, rfl, rfl, rfl, by simp [hD], lD.set i (by omega) (by omega), by omega, by omega, ?_⟩
          rw [take_set_succ (by omega), val_snoc, List.length_take, Nat.min_eq_left (by omega), hb, val_take_getD (show i < x.length by omega), take_getD_over (show y.length ≤ i by omega)]
          grind
    · simp (maxSteps := 1000000) (disch := first | omega | (simp only [LL]; omega)) only [W, V, TY, CC, reduceIte, Nat.reduceEqDiff, Nat.reduceAdd, Nat.reduceLeDiff, Nat.reduceLT, Int.reduceLE, Int.reduceLT, Int.reduceAdd, Int.reduceSub, Int.reduceToNat, Nat.reduceMul, t7, t25, t26, t27, t8, t9, r8]
      rw [List.take_of_length_le (by omega), List.take_of_length_le (by omega), List.take_of_length_le (by omega)] at hv
      have hvd := val_lt lD
      rw [hD, show x.length = i by omega] at hvd
      have hc0 : c = 0 := by
        by_cases h : c = 0
        · exact h
        · have : c = 1 := by omega
          subst this
          omega
      subst hc0
      refine a_call _ _ (nat_trim D lD (by omega)) (by simp (maxSteps := 1000000) (disch := first | omega | (simp only [LL]; omega)) only [W, V, TY, CC, reduceIte, Nat.reduceEqDiff, Nat.reduceAdd, Nat.reduceLeDiff, Nat.reduceLT, Int.reduceLE, Int.reduceLT, Int.reduceAdd, Int.reduceSub, Int.reduceToNat, Nat.reduceMul, t7, t25, t26, t27, t8, t9, r8]) ?_
      simp (maxSteps := 1000000) (disch := first | omega | (simp only [LL]; omega)) only [W, V, TY, CC, reduceIte, Nat.reduceEqDiff, Nat.reduceAdd, Nat.reduceLeDiff, Nat.reduceLT, Int.reduceLE, Int.reduceLT, Int.reduceAdd, Int.reduceSub, Int.reduceToNat, Nat.reduceMul]
      refine f_ret _ _ _ ?_
      unfold subR
      rw [if_pos (by omega)]
      have hres : tr D = nl (nv a - nv b) := by unfold tr; congr 1; have := nv_eq lD; omega
      simp (maxSteps := 1000000) (disch := first | omega | (simp only [LL]; omega)) only [W, V, TY, CC, reduceIte, Nat.reduceEqDiff, Nat.reduceAdd, Nat.reduceLeDiff, Nat.reduceLT, Int.reduceLE, Int.reduceLT, Int.reduceAdd, Int.reduceSub, Int.reduceToNat, Nat.reduceMul, hres]
end Go.Proofs.YteegehbighoplaaDoor.E

set_option linter.unusedSimpArgs false
set_option linter.unusedVariables false
set_option maxHeartbeats 2000000
namespace Go.Proofs.YteegehbighoplaaDoor.E
open Go.RowKit Limbs
def b19_4 : AC :=
  (.seq (.reg [
    ⟨some 25, .move (.tmp 5), none⟩,
    ⟨some 26, .call ⟨(.builtin .len), #[(.tmp 25)], #[26]⟩, none⟩,
    ⟨some 27, .move (.tmp 6), none⟩,
    ⟨some 28, .call ⟨(.builtin .len), #[(.tmp 27)], #[26]⟩, none⟩,
    ⟨some 29, .binOp .add 3 (.tmp 26) (.tmp 28) 3, none⟩,
    ⟨some 30, .makeSlice 26 (.tmp 29) (.tmp 29), none⟩,
    ⟨some 7, .assign (.tmp 30), none⟩])
  (.seq (.seq (.reg [
    ⟨some 31, .move (.tmp 5), none⟩,
    ⟨some 32, .call ⟨(.builtin .len), #[(.tmp 31)], #[26]⟩, none⟩,
    ⟨some 33, .move (.const (.int .i64 0)), none⟩])
  (.block 0 (.loop (.seq (.reg [
    ⟨some 34, .binOp .lss 3 (.tmp 33) (.tmp 32) 3, none⟩])
  (.seq (.cond (.tmp 34)
    .skip
    (.exit 0))
  (.seq (.block 1 (.seq (.reg [
    ⟨some 35, .move (.tmp 33), none⟩,
    ⟨some 36, .indexAddr 26 (.tmp 31) (.tmp 33), none⟩,
    ⟨some 37, .load 42 (.tmp 36), none⟩,
    ⟨some 8, .assign (.tmp 35), none⟩,
    ⟨some 9, .assign (.tmp 37), none⟩])
  (.seq (.reg [
    ⟨some 10, .assign (.const (.int .u64 0)), none⟩])
  (.seq (.seq (.reg [
    ⟨some 38, .move (.tmp 6), none⟩,
    ⟨some 39, .call ⟨(.builtin .len), #[(.tmp 38)], #[26]⟩, none⟩,
    ⟨some 40, .move (.const (.int .i64 0)), none⟩])
  (.block 2 (.loop (.seq (.reg [
    ⟨some 41, .binOp .lss 3 (.tmp 40) (.tmp 39) 3, none⟩])
  (.seq (.cond (.tmp 41)
    .skip
    (.exit 2))
  (.seq (.block 3 (.seq (.reg [
    ⟨some 42, .move (.tmp 40), none⟩,
    ⟨some 43, .indexAddr 26 (.tmp 38) (.tmp 40), none⟩,
    ⟨some 44, .load 42 (.tmp 43), none⟩,
    ⟨some 11, .assign (.tmp 42), none⟩,
    ⟨some 12, .assign (.tmp 44), none⟩])
  (.seq (.reg [
    ⟨some 45, .move (.tmp 10), none⟩,
    ⟨some 46, .move (.tmp 9), none⟩,
    ⟨some 47, .convert 42 48 (.tmp 46), none⟩,
    ⟨some 48, .move (.tmp 12), none⟩,
    ⟨some 49, .convert 42 48 (.tmp 48), none⟩,
    ⟨some 50, .binOp .mul 48 (.tmp 47) (.tmp 49) 48, none⟩,
    ⟨some 51, .move (.tmp 7), none⟩,
    ⟨some 52, .move (.tmp 8), none⟩,
    ⟨some 53, .move (.tmp 11), none⟩,
    ⟨some 54, .binOp .add 3 (.tmp 52) (.tmp 53) 3, none⟩,
    ⟨some 55, .indexAddr 26 (.tmp 51) (.tmp 54), none⟩,
    ⟨some 56, .load 42 (.tmp 55), none⟩,
    ⟨some 57, .convert 42 48 (.tmp 56), none⟩,
    ⟨some 58, .binOp .add 48 (.tmp 50) (.tmp 57) 48, none⟩,
    ⟨some 59, .binOp .add 48 (.tmp 45) (.tmp 58) 48, none⟩,
    ⟨some 10, .assign (.tmp 59), none⟩])
  (.seq (.reg [
    ⟨some 60, .move (.tmp 7), none⟩,
    ⟨some 61, .move (.tmp 8), none⟩,
    ⟨some 62, .move (.tmp 11), none⟩,
    ⟨some 63, .binOp .add 3 (.tmp 61) (.tmp 62) 3, none⟩,
    ⟨some 64, .move (.tmp 10), none⟩,
    ⟨some 65, .binOp .and 48 (.tmp 64) (.const (.int .u64 4294967295)) 48, none⟩,
    ⟨some 66, .convert 48 42 (.tmp 65), none⟩,
    ⟨some 67, .indexAddr 26 (.tmp 60) (.tmp 63), none⟩,
    ⟨none, .store 42 (.tmp 67) (.tmp 66), none⟩])
  (.reg [
    ⟨some 68, .move (.tmp 10), none⟩,
    ⟨some 69, .binOp .shr 48 (.tmp 68) (.const (.int .u64 32)) 86, none⟩,
    ⟨some 10, .assign (.tmp 69), none⟩])))))
  (.reg [
    ⟨some 70, .binOp .add 3 (.tmp 40) (.const (.int .i64 1)) 3, none⟩,
    ⟨some 40, .move (.tmp 70), none⟩])))))))
  (.reg [
    ⟨some 71, .move (.tmp 7), none⟩,
    ⟨some 72, .move (.tmp 8), none⟩,
    ⟨some 73, .move (.tmp 6), none⟩,
    ⟨some 74, .call ⟨(.builtin .len), #[(.tmp 73)], #[26]⟩, none⟩,
    ⟨some 75, .binOp .add 3 (.tmp 72) (.tmp 74) 3, none⟩,
    ⟨some 76, .move (.tmp 10), none⟩,
    ⟨some 77, .convert 48 42 (.tmp 76), none⟩,
    ⟨some 78, .indexAddr 26 (.tmp 71) (.tmp 75), none⟩,
    ⟨none, .store 42 (.tmp 78) (.tmp 77), none⟩])))))
  (.reg [
    ⟨some 79, .binOp .add 3 (.tmp 33) (.const (.int .i64 1)) 3, none⟩,
    ⟨some 33, .move (.tmp 79), none⟩])))))))
  (.seq (.seq (.gh [.frz 7])
  (.reg [
    ⟨some 80, .move (.tmp 7), none⟩,
    ⟨some 81, .call ⟨(.value (.func 55)), #[(.tmp 80)], #[26]⟩, none⟩,
    ⟨some 4, .assign (.tmp 81), none⟩]))
  .ret)))
/-- examboard/nat.Mul -/
def b19 : AF := ⟨82, 2, [.tmp 4],
  (.seq (.reg [
    ⟨some 4, .assign (.const (.slice none 0 0)), none⟩])
  (.seq (.reg [
    ⟨some 13, .move (.tmp 0), none⟩,
    ⟨some 14, .call ⟨(.value (.func 55)), #[(.tmp 13)], #[26]⟩, none⟩,
    ⟨some 15, .move (.tmp 1), none⟩,
    ⟨some 16, .call ⟨(.value (.func 55)), #[(.tmp 15)], #[26]⟩, none⟩,
    ⟨some 5, .assign (.tmp 14), none⟩,
    ⟨some 6, .assign (.tmp 16), none⟩])
  (.seq (.seq (.reg [
    ⟨some 17, .move (.tmp 5), none⟩,
    ⟨some 18, .call ⟨(.builtin .len), #[(.tmp 17)], #[26]⟩, none⟩,
    ⟨some 19, .binOp .eql 3 (.tmp 18) (.const (.int .i64 0)) 3, none⟩,
    ⟨some 20, .move (.tmp 19), none⟩,
    ⟨some 21, .move (.tmp 6), some (20, false)⟩,
    ⟨some 22, .call ⟨(.builtin .len), #[(.tmp 21)], #[26]⟩, some (20, false)⟩,
    ⟨some 23, .binOp .eql 3 (.tmp 22) (.const (.int .i64 0)) 3, some (20, false)⟩,
    ⟨some 24, .pick (.tmp 20) (.const (.bool true)) (.tmp 23), none⟩])
  (.cond (.tmp 24)
    (.seq (.reg [
      ⟨some 4, .assign (.const (.slice none 0 0)), none⟩])
    .ret)
    .skip))
  b19_4)))⟩
theorem c19 : fcomp Tryd.prog 19 = ⟨b19.n, b19.np, b19.res, b19.body.bare⟩ := by kernel_rfl
theorem k19 : fok Tryd.prog 19 = true := by kernel_rfl
theorem nat_Mul_rest (x y : List Int) (l1 : Lim x) (l2 : Lim y) (hx : x.length < 4398046511104) (hy : y.length < 4398046511104) (s : AS) (t5 : s.t 5 = .one (.dt (natD x))) (t6 : s.t 6 = .one (.dt (natD y))) (g30 : s.g 30 = 0) :
    awp Tryd.prog b19_4 (fend Tryd.prog [.tmp 4] [.one (natD (nl (nv x * nv y)))]) s := by
  unfold b19_4
  simp (maxSteps := 1000000) (disch := first | omega | (simp only [LL]; omega)) only [W, V, TY, CC, reduceIte, Nat.reduceEqDiff, Nat.reduceAdd, Nat.reduceLeDiff, Nat.reduceLT, Int.reduceLE, Int.reduceLT, Int.reduceAdd, Int.reduceSub, Int.reduceToNat, Nat.reduceMul, t5, t6, g30]
  refine w_loop (fun n s => ∃ (i : Nat) (D : List Int), n + i = x.length ∧ s.t 6 = .one (.dt (natD y)) ∧ s.t 31 = .one (.dt (natD x)) ∧ s.t 32 = .one (.dt (.lit (.int .i64 x.length))) ∧ s.t 33 = .one (.dt (.lit (.int .i64 i))) ∧ s.t 7 = .one (.row (30, 0) 0) ∧ s.r (30, 0) = some ⟨42, 1, x.length + y.length, natC D, 0, true⟩ ∧ D.length = x.length + y.length ∧ Lim D ∧ (∀ j, i + y.length ≤ j → D.getD j 0 = 0) ∧ val D = val (x.take i) * val y) x.length ⟨0, List.replicate (x.length + y.length) 0, rfl, ?_, ?_, ?_, ?_, ?_, ?_, by simp, Lim.replicate _, fun j _ => ?_, by rw [val_replicate, List.take_zero, val_nil, Int.zero_mul]⟩ ?_
  · simp (maxSteps := 1000000) (disch := first | omega | (simp only [LL]; omega)) only [W, V, TY, CC, reduceIte, Nat.reduceEqDiff, Nat.reduceAdd, Nat.reduceLeDiff, Nat.reduceLT, Int.reduceLE, Int.reduceLT, Int.reduceAdd, Int.reduceSub, Int.reduceToNat, Nat.reduceMul, t5, t6, g30]
  · simp (maxSteps := 1000000) (disch := first | omega | (simp only [LL]; omega)) only [W, V, TY, CC, reduceIte, Nat.reduceEqDiff, Nat.reduceAdd, Nat.reduceLeDiff, Nat.reduceLT, Int.reduceLE, Int.reduceLT, Int.reduceAdd, Int.reduceSub, Int.reduceToNat, Nat.reduceMul, t5, t6, g30]
  · simp (maxSteps := 1000000) (disch := first | omega | (simp only [LL]; omega)) only [W, V, TY, CC, reduceIte, Nat.reduceEqDiff, Nat.reduceAdd, Nat.reduceLeDiff, Nat.reduceLT, Int.reduceLE, Int.reduceLT, Int.reduceAdd, Int.reduceSub, Int.reduceToNat, Nat.reduceMul, t5, t6, g30]
  · simp (maxSteps := 1000000) (disch := first | omega | (simp only [LL]; omega)) only [W, V, TY, CC, reduceIte, Nat.reduceEqDiff, Nat.reduceAdd, Nat.reduceLeDiff, Nat.reduceLT, Int.reduceLE, Int.reduceLT, Int.reduceAdd, Int.reduceSub, Int.reduceToNat, Nat.reduceMul, t5, t6, g30]
  · simp (maxSteps := 1000000) (disch := first | omega | (simp only [LL]; omega)) only [W, V, TY, CC, reduceIte, Nat.reduceEqDiff, Nat.reduceAdd, Nat.reduceLeDiff, Nat.reduceLT, Int.reduceLE, Int.reduceLT, Int.reduceAdd, Int.reduceSub, Int.reduceToNat, Nat.reduceMul, t5, t6, g30]
  · simp (maxSteps := 1000000) (disch := first | omega | (simp only [LL]; omega)) only [W, V, TY, CC, reduceIte, Nat.reduceEqDiff, Nat.reduceAdd, Nat.reduceLeDiff, Nat.reduceLT, Int.reduceLE, Int.reduceLT, Int.reduceAdd, Int.reduceSub, Int.reduceToNat, Nat.reduceMul, t5, t6, g30]
  · rw [List.getD_eq_getElem?_getD, List.getElem?_replicate]; split <;> rfl
  clear t5 t6 g30
  intro n s _ ⟨i, D0, e, t6, t31, t32, t33, t7, r7, hD, lD, hz, hv⟩
  simp (maxSteps := 1000000) (disch := first | omega | (simp only [LL]; omega)) only [W, V, TY, CC, reduceIte, Nat.reduceEqDiff, Nat.reduceAdd, Nat.reduceLeDiff, Nat.reduceLT, Int.reduceLE, Int.reduceLT, Int.reduceAdd, Int.reduceSub, Int.reduceToNat, Nat.reduceMul, t6, t31, t32, t33, t7]
  refine c_split (fun hi => ?_) (fun hi => ?_)
  · have hp := l1.getD i
    simp (maxSteps := 1000000) (disch := first | omega | (simp only [LL]; omega)) only [W, V, TY, CC, reduceIte, Nat.reduceEqDiff, Nat.reduceAdd, Nat.reduceLeDiff, Nat.reduceLT, Int.reduceLE, Int.reduceLT, Int.reduceAdd, Int.reduceSub, Int.reduceToNat, Nat.reduceMul, t6, t31, t32, t33, t7]
    refine w_loop (fun m s => ∃ (k : Nat) (D : List Int) (c : Int), m + k = y.length ∧ s.t 6 = .one (.dt (natD y)) ∧ s.t 31 = .one (.dt (natD x)) ∧ s.t 32 = .one (.dt (.lit (.int .i64 x.length))) ∧ s.t 33 = .one (.dt (.lit (.int .i64 i))) ∧ s.t 7 = .one (.row (30, 0) 0) ∧ s.r (30, 0) = some ⟨42, 1, x.length + y.length, natC D, 0, true⟩ ∧ s.t 8 = .one (.dt (.lit (.int .i64 i))) ∧ s.t 9 = .one (.dt (.lit (.int .u32 (x.getD i 0)))) ∧ s.t 38 = .one (.dt (natD y)) ∧ s.t 39 = .one (.dt (.lit (.int .i64 y.length))) ∧ s.t 40 = .one (.dt (.lit (.int .i64 k))) ∧ s.t 10 = .one (.dt (.lit (.int .u64 c))) ∧ D.length = x.length + y.length ∧ Lim D ∧ (∀ j, i + y.length ≤ j → D.getD j 0 = 0) ∧ 0 ≤ c ∧ c < 4294967296 ∧ val D + bp (i + k) * c = val D0 + bp i * (x.getD i 0 * val (y.take k))) y.length ⟨0, D0, 0, rfl, ?_, ?_, ?_, ?_, ?_, ?_, ?_, ?_, ?_, ?_, ?_, ?_, hD, lD, hz, by omega, by omega, by simp [val]⟩ ?_
    · simp (maxSteps := 1000000) (disch := first | omega | (simp only [LL]; omega)) only [W, V, TY, CC, reduceIte, Nat.reduceEqDiff, Nat.reduceAdd, Nat.reduceLeDiff, Nat.reduceLT, Int.reduceLE, Int.reduceLT, Int.reduceAdd, Int.reduceSub, Int.reduceToNat, Nat.reduceMul, t6, t31, t32, t33, t7, r7]
    · simp (maxSteps := 1000000) (disch := first | omega | (simp only [LL]; omega)) only [W, V, TY, CC, reduceIte, Nat.reduceEqDiff, Nat.reduceAdd, Nat.reduceLeDiff, Nat.reduceLT, Int.reduceLE, Int.reduceLT, Int.reduceAdd, Int.reduceSub, Int.reduceToNat, Nat.reduceMul, t6, t31, t32, t33, t7, r7]
    · simp (maxSteps := 1000000) (disch := first | omega | (simp only [LL]; omega)) only [W, V, TY, CC, reduceIte, Nat.reduceEqDiff, Nat.reduceAdd, Nat.reduceLeDiff, Nat.reduceLT, Int.reduceLE, Int.reduceLT, Int.reduceAdd, Int.reduceSub, Int.reduceToNat, Nat.reduceMul, t6, t31, t32, t33, t7, r7]
    · simp (maxSteps := 1000000) (disch := first | omega | (simp only [LL]; omega)) only [W, V, TY, CC, reduceIte, Nat.reduceEqDiff, Nat.reduceAdd, Nat.reduceLeDiff, Nat.reduceLT, Int.reduceLE, Int.reduceLT, Int.reduceAdd, Int.reduceSub, Int.reduceToNat, Nat.reduceMul, t6, t31, t32, t33, t7, r7]
    · simp (maxSteps := 1000000) (disch := first | omega | (simp only [LL]; omega)) only [W, V, TY, CC, reduceIte, Nat.reduceEqDiff, Nat.reduceAdd, Nat.reduceLeDiff, Nat.reduceLT, Int.reduceLE, Int.reduceLT, Int.reduceAdd, Int.reduceSub, Int.reduceToNat, Nat.reduceMul, t6, t31, t32, t33, t7, r7]
    · simp (maxSteps := 1000000) (disch := first | omega | (simp only [LL]; omega)) only [W, V, TY, CC, reduceIte, Nat.reduceEqDiff, Nat.reduceAdd, Nat.reduceLeDiff, Nat.reduceLT, Int.reduceLE, Int.reduceLT, Int.reduceAdd, Int.reduceSub, Int.reduceToNat, Nat.reduceMul, t6, t31, t32, t33, t7, r7]
    · simp (maxSteps := 1000000) (disch := first | omega | (simp only [LL]; omega)) only [W, V, TY, CC, reduceIte, Nat.reduceEqDiff, Nat.reduceAdd, Nat.reduceLeDiff, Nat.reduceLT, Int.reduceLE, Int.reduceLT, Int.reduceAdd, Int.reduceSub, Int.reduceToNat, Nat.reduceMul, t6, t31, t32, t33, t7, r7]
    · simp (maxSteps := 1000000) (disch := first | omega | (simp only [LL]; omega)) only [W, V, TY, CC, reduceIte, Nat.reduceEqDiff, Nat.reduceAdd, Nat.reduceLeDiff, Nat.reduceLT, Int.reduceLE, Int.reduceLT, Int.reduceAdd, Int.reduceSub, Int.reduceToNat, Nat.reduceMul, t6, t31, t32, t33, t7, r7]
    · simp (maxSteps := 1000000) (disch := first | omega | (simp only [LL]; omega)) only [W, V, TY, CC, reduceIte, Nat.reduceEqDiff, Nat.reduceAdd, Nat.reduceLeDiff, Nat.reduceLT, Int.reduceLE, Int.reduceLT, Int.reduceAdd, Int.reduceSub, Int.reduceToNat, Nat.reduceMul, t6, t31, t32, t33, t7, r7]
    · simp (maxSteps := 1000000) (disch := first | omega | (simp only [LL]; omega)) only [W, V, TY, CC, reduceIte, Nat.reduceEqDiff, Nat.reduceAdd, Nat.reduceLeDiff, Nat.reduceLT, Int.reduceLE, Int.reduceLT, Int.reduceAdd, Int.reduceSub, Int.reduceToNat, Nat.reduceMul, t6, t31, t32, t33, t7, r7]
    · simp (maxSteps := 1000000) (disch := first | omega | (simp only [LL]; omega)) only [W, V, TY, CC, reduceIte, Nat.reduceEqDiff, Nat.reduceAdd, Nat.reduceLeDiff, Nat.reduceLT, Int.reduceLE, Int.reduceLT, Int.reduceAdd, Int.reduceSub, Int.reduceToNat, Nat.reduceMul, t6, t31, t32, t33, t7, r7]
    · simp (maxSteps := 1000000) (disch := first | omega | (simp only [LL]; omega)) only [W, V, TY, CC, reduceIte, Nat.reduceEqDiff, Nat.reduceAdd, Nat.reduceLeDiff, Nat.reduceLT, Int.reduceLE, Int.reduceLT, Int.reduceAdd, Int.reduceSub, Int.reduceToNat, Nat.reduceMul, t6, t31, t32, t33, t7, r7]
    clear t6 t31 t32 t33 t7 r7 hD lD hz
    intro m s _ ⟨k, D, c, em, t6, t31, t32, t33, t7, r7, t8, t9, t38, t39, t40, t10, hD, lD, hz, c0, c1, hw⟩
    simp (maxSteps := 1000000) (disch := first | omega | (simp only [LL]; omega)) only [W, V, TY, CC, reduceIte, Nat.reduceEqDiff, Nat.reduceAdd, Nat.reduceLeDiff, Nat.reduceLT, Int.reduceLE, Int.reduceLT, Int.reduceAdd, Int.reduceSub, Int.reduceToNat, Nat.reduceMul, t6, t31, t32, t33, t7, t8, t9, t38, t39, t40, t10]
    refine c_split (fun hk => ?_) (fun hk => ?_)
    · have hq := l2.getD k
      have hd := lD.getD (i + k)
      obtain ⟨b0, b1⟩ := mul_bound hp.1 hp.2 hq.1 hq.2
      simp (maxSteps := 1000000) (disch := first | omega | (simp only [LL]; omega)) only [W, V, TY, CC, reduceIte, Nat.reduceEqDiff, Nat.reduceAdd, Nat.reduceLeDiff, Nat.reduceLT, Int.reduceLE, Int.reduceLT, Int.reduceAdd, Int.reduceSub, Int.reduceToNat, Nat.reduceMul, t6, t31, t32, t33, t7, r7, t8, t9, t38, t39, t40, t10]
      refine ⟨⟨by omega, by omega⟩, ⟨by omega, by omega⟩, by omega, m - 1, by omega, k + 1, D.set (i + k) ((c + (x.getD i 0 * y.getD k 0 + D.getD (i + k) 0)) % 4294967296), (c + (x.getD i 0 * y.getD k 0 + D.getD (i + k) 0)) / 4294967296, by omega, rfl, rfl, rfl, by simp [hD], lD.set _ (by omega) (by omega), fun j hj => by rw [Limbs.getD_set_ne (by omega)]; exact hz j hj, by omega, by omega, ?_⟩
      rw [val_set_getD (by omega), val_take_getD (show k < y.length by omega), show i + (k + 1) = i + k + 1 from rfl, bp_succ]
      have hb := bp_add i k
      have ht := Int.emod_add_mul_ediv (c + (x.getD i 0 * y.getD k 0 + D.getD (i + k) 0)) 4294967296
      generalize (c + (x.getD i 0 * y.getD k 0 + D.getD (i + k) 0)) % 4294967296 = r at *
      generalize (c + (x.getD i 0 * y.getD k 0 + D.getD (i + k) 0)) / 4294967296 = q at *
      generalize x.getD i 0 = xi at *
      generalize y.getD k 0 = yk at *
      generalize D.getD (i + k) 0 = dk at *
      clear t6 t31 t32 t33 t7 r7 t8 t9 t38 t39 t40 t10 hz lD l1 l2 hv
      grind
    · simp (maxSteps := 1000000) (disch := first | omega | (simp only [LL]; omega)) only [W, V, TY, CC, reduceIte, Nat.reduceEqDiff, Nat.reduceAdd, Nat.reduceLeDiff, Nat.reduceLT, Int.reduceLE, Int.reduceLT, Int.reduceAdd, Int.reduceSub, Int.reduceToNat, Nat.reduceMul, t6, t31, t32, t33, t7, r7, t8, t9, t38, t39, t40, t10]
      have hk' : k = y.length := by omega
      rw [hk', List.take_of_length_le (Nat.le_refl _)] at hw
      refine ⟨⟨by omega, by omega⟩, by omega, n - 1, by omega, i + 1, D.set (i + y.length) c, by omega, rfl, rfl, by simp [hD], lD.set _ c0 c1, fun j hj => by rw [Limbs.getD_set_ne (by omega)]; exact hz j (by omega), ?_⟩
      rw [val_set_getD (by omega), hz _ (Nat.le_refl _), val_take_getD (show i < x.length by omega)]
      generalize x.getD i 0 = xi at *
      clear t6 t31 t32 t33 t7 r7 t8 t9 t38 t39 t40 t10 hz lD l1 l2
      grind
  · simp (maxSteps := 1000000) (disch := first | omega | (simp only [LL]; omega)) only [W, V, TY, CC, reduceIte, Nat.reduceEqDiff, Nat.reduceAdd, Nat.reduceLeDiff, Nat.reduceLT, Int.reduceLE, Int.reduceLT, Int.reduceAdd, Int.reduceSub, Int.reduceToNat, Nat.reduceMul, t6, t31, t32, t33, t7, r7]
    refine a_call _ _ (nat_trim D0 lD (by omega)) (by simp (maxSteps := 1000000) (disch := first | omega | (simp only [LL]; omega)) only [W, V, TY, CC, reduceIte, Nat.reduceEqDiff, Nat.reduceAdd, Nat.reduceLeDiff, Nat.reduceLT, Int.reduceLE, Int.reduceLT, Int.reduceAdd, Int.reduceSub, Int.reduceToNat, Nat.reduceMul, t6, t31, t32, t33, t7, r7]) ?_
    simp (maxSteps := 1000000) (disch := first | omega | (simp only [LL]; omega)) only [W, V, TY, CC, reduceIte, Nat.reduceEqDiff, Nat.reduceAdd, Nat.reduceLeDiff, Nat.reduceLT, Int.reduceLE, Int.reduceLT, Int.reduceAdd, Int.reduceSub, Int.reduceToNat, Nat.reduceMul]
    refine f_ret _ _ _ ?_
    rw [List.take_of_length_le (by omega)] at hv
    have hres : tr D0 = nl (nv x * nv y) := by unfold tr; congr 1; have h1 := nv_eq lD; have h2 := nv_eq l1; have h3 := nv_eq l2; rw [hv, ← h2, ← h3, ← Int.natCast_mul] at h1; omega
    simp (maxSteps := 1000000) (disch := first | omega | (simp only [LL]; omega)) only [W, V, TY, CC, reduceIte, Nat.reduceEqDiff, Nat.reduceAdd, Nat.reduceLeDiff, Nat.reduceLT, Int.reduceLE, Int.reduceLT, Int.reduceAdd, Int.reduceSub, Int.reduceToNat, Nat.reduceMul, hres]
theorem nat_Mul (a b : List Int) (ha : Lim a) (hb : Lim b) (la : a.length < 4398046511104) (lb : b.length < 4398046511104) : AFun Tryd.prog 19 [.one (natD a), .one (natD b)] [.one (natD (nl (nv a * nv b)))] := by
  refine afun_intro mo_ _ _ c19 k19 _ _ rfl (by decide) ?_
  unfold b19
  have h1 := tr_len ha
  have h2 := tr_len hb
  have l1 := tr_lim a
  have l2 := tr_lim b
  have v1 : nv (tr a) = nv a := by unfold nv; rw [val_tr ha]
  have v2 : nv (tr b) = nv b := by unfold nv; rw [val_tr hb]
  rw [← v1, ← v2]
  simp (maxSteps := 1000000) (disch := first | omega | (simp only [LL]; omega)) only [W, V, TY, CC, reduceIte, Nat.reduceEqDiff, Nat.reduceAdd, Nat.reduceLeDiff, Nat.reduceLT, Int.reduceLE, Int.reduceLT, Int.reduceAdd, Int.reduceSub, Int.reduceToNat, Nat.reduceMul]
  refine a_call _ _ (nat_trim a ha (by omega)) rfl ?_
  simp (maxSteps := 1000000) (disch := first | omega | (simp only [LL]; omega)) only [W, V, TY, CC, reduceIte, Nat.reduceEqDiff, Nat.reduceAdd, Nat.reduceLeDiff, Nat.reduceLT, Int.reduceLE, Int.reduceLT, Int.reduceAdd, Int.reduceSub, Int.reduceToNat, Nat.reduceMul]
  refine a_call _ _ (nat_trim b hb (by omega)) rfl ?_
  simp (maxSteps := 1000000) (disch := first | omega | (simp only [LL]; omega)) only [W, V, TY, CC, reduceIte, Nat.reduceEqDiff, Nat.reduceAdd, Nat.reduceLeDiff, Nat.reduceLT, Int.reduceLE, Int.reduceLT, Int.reduceAdd, Int.reduceSub, Int.reduceToNat, Nat.reduceMul]
  generalize tr a = x at *
  generalize tr b = y at *
  by_cases hx : (x.length : Int) = 0
  · simp (maxSteps := 1000000) (disch := first | omega | (simp only [LL]; omega)) only [W, V, TY, CC, reduceIte, Nat.reduceEqDiff, Nat.reduceAdd, Nat.reduceLeDiff, Nat.reduceLT, Int.reduceLE, Int.reduceLT, Int.reduceAdd, Int.reduceSub, Int.reduceToNat, Nat.reduceMul, hx]
    refine f_ret _ _ _ ?_
    have hx0 : x = [] := List.eq_nil_of_length_eq_zero (by omega)
    have hres : nl (nv x * nv y) = [] := by rw [hx0, show nv [] = 0 from rfl, Nat.zero_mul, nl_zero]
    simp (maxSteps := 1000000) (disch := first | omega | (simp only [LL]; omega)) only [W, V, TY, CC, reduceIte, Nat.reduceEqDiff, Nat.reduceAdd, Nat.reduceLeDiff, Nat.reduceLT, Int.reduceLE, Int.reduceLT, Int.reduceAdd, Int.reduceSub, Int.reduceToNat, Nat.reduceMul, hres]
    rfl
  · by_cases hy : (y.length : Int) = 0
    · simp (maxSteps := 1000000) (disch := first | omega | (simp only [LL]; omega)) only [W, V, TY, CC, reduceIte, Nat.reduceEqDiff, Nat.reduceAdd, Nat.reduceLeDiff, Nat.reduceLT, Int.reduceLE, Int.reduceLT, Int.reduceAdd, Int.reduceSub, Int.reduceToNat, Nat.reduceMul, hx, hy]
      refine f_ret _ _ _ ?_
      have hy0 : y = [] := List.eq_nil_of_length_eq_zero (by omega)
      have hres : nl (nv x * nv y) = [] := by rw [hy0, show nv [] = 0 from rfl, Nat.mul_zero, nl_zero]
      simp (maxSteps := 1000000) (disch := first | omega | (simp only [LL]; omega)) only [W, V, TY, CC, reduceIte, Nat.reduceEqDiff, Nat.reduceAdd, Nat.reduceLeDiff, Nat.reduceLT, Int.reduceLE, Int.reduceLT, Int.reduceAdd, Int.reduceSub, Int.reduceToNat, Nat.reduceMul, hres]
      rfl
    · simp (maxSteps := 1000000) (disch := first | omega | (simp only [LL]; omega)) only [W, V, TY, CC, reduceIte, Nat.reduceEqDiff, Nat.reduceAdd, Nat.reduceLeDiff, Nat.reduceLT, Int.reduceLE, Int.reduceLT, Int.reduceAdd, Int.reduceSub, Int.reduceToNat, Nat.reduceMul, hx, hy]
      refine nat_Mul_rest x y l1 l2 (by omega) (by omega) _ ?_ ?_ ?_
      · simp (maxSteps := 1000000) (disch := first | omega | (simp only [LL]; omega)) only [W, V, TY, CC, reduceIte, Nat.reduceEqDiff, Nat.reduceAdd, Nat.reduceLeDiff, Nat.reduceLT, Int.reduceLE, Int.reduceLT, Int.reduceAdd, Int.reduceSub, Int.reduceToNat, Nat.reduceMul]
      · simp (maxSteps := 1000000) (disch := first | omega | (simp only [LL]; omega)) only [W, V, TY, CC, reduceIte, Nat.reduceEqDiff, Nat.reduceAdd, Nat.reduceLeDiff, Nat.reduceLT, Int.reduceLE, Int.reduceLT, Int.reduceAdd, Int.reduceSub, Int.reduceToNat, Nat.reduceMul]
      · simp (maxSteps := 1000000) (disch := first | omega | (simp only [LL]; omega)) only [W, V, TY, CC, reduceIte, Nat.reduceEqDiff, Nat.reduceAdd, Nat.reduceLeDiff, Nat.reduceLT, Int.reduceLE, Int.reduceLT, Int.reduceAdd, Int.reduceSub, Int.reduceToNat, Nat.reduceMul]
end Go.Proofs.YteegehbighoplaaDoor.E

set_option linter.unusedSimpArgs false
set_option linter.unusedVariables false
set_option maxHeartbeats 2000000
namespace Go.Proofs.YteegehbighoplaaDoor.E
open Go.RowKit Limbs
end Go.Proofs.YteegehbighoplaaDoor.E

set_option linter.unusedSimpArgs false
set_option linter.unusedVariables false
set_option maxHeartbeats 2000000
namespace Go.Proofs.YteegehbighoplaaDoor.E
open Go.RowKit Limbs
end Go.Proofs.YteegehbighoplaaDoor.E

set_option linter.unusedSimpArgs false
set_option linter.unusedVariables false
set_option maxHeartbeats 2000000
namespace Go.Proofs.YteegehbighoplaaDoor.E
open Go.RowKit Limbs
end Go.Proofs.YteegehbighoplaaDoor.E

set_option linter.unusedSimpArgs false
set_option linter.unusedVariables false
set_option maxHeartbeats 2000000
namespace Go.Proofs.YteegehbighoplaaDoor.E
open Go.RowKit Limbs
end Go.Proofs.YteegehbighoplaaDoor.E

set_option linter.unusedSimpArgs false
set_option linter.unusedVariables false
set_option maxHeartbeats 2000000
namespace Go.Proofs.YteegehbighoplaaDoor.E
open Go.RowKit Limbs
theorem div_bound {r a d : Int} (h0 : 0 ≤ r) (h1 : r < d) (h2 : 0 ≤ a) (h3 : a < 4294967296) : 0 ≤ (r * 4294967296 + a) / d ∧ (r * 4294967296 + a) / d < 4294967296 ∧ 0 ≤ (r * 4294967296 + a) % d ∧ (r * 4294967296 + a) % d < d ∧ d * ((r * 4294967296 + a) / d) + (r * 4294967296 + a) % d = r * 4294967296 + a := by
  have hd : 0 < d := by omega
  refine ⟨Int.ediv_nonneg (by omega) (by omega), Int.ediv_lt_of_lt_mul hd ?_, Int.emod_nonneg _ (by omega), Int.emod_lt_of_pos _ hd, Int.mul_ediv_add_emod _ _⟩
  have := Int.mul_le_mul_of_nonneg_right (show r + 1 ≤ d by omega) (show (0 : Int) ≤ 4294967296 by omega)
  rw [Int.mul_comm 4294967296 d]
  omega
theorem drop_set_eq {l : List Int} {j : Nat} (h : j < l.length) (q : Int) : (l.set j q).drop j = q :: l.drop (j + 1) := by
  rw [List.drop_eq_getElem_cons (by simpa using h), List.getElem_set_self, List.drop_set_of_lt (by omega)]
/-- examboard/nat.divSmall -/
def b71 : AF := ⟨43, 2, [.tmp 4, .tmp 5],
  (.seq (.reg [
    ⟨some 4, .assign (.const (.slice none 0 0)), none⟩,
    ⟨some 5, .assign (.const (.int .u32 0)), none⟩])
  (.seq (.reg [
    ⟨some 9, .move (.tmp 0), none⟩,
    ⟨some 10, .call ⟨(.builtin .len), #[(.tmp 9)], #[26]⟩, none⟩,
    ⟨some 11, .makeSlice 26 (.tmp 10) (.tmp 10), none⟩,
    ⟨some 6, .assign (.tmp 11), none⟩])
  (.seq (.reg [
    ⟨some 7, .assign (.const (.int .u64 0)), none⟩])
  (.seq (.seq (.reg [
    ⟨some 12, .move (.tmp 0), none⟩,
    ⟨some 13, .call ⟨(.builtin .len), #[(.tmp 12)], #[26]⟩, none⟩,
    ⟨some 14, .binOp .sub 3 (.tmp 13) (.const (.int .i64 1)) 3, none⟩,
    ⟨some 8, .assign (.tmp 14), none⟩])
  (.block 0 (.loop (.seq (.seq (.reg [
    ⟨some 15, .move (.tmp 8), none⟩,
    ⟨some 16, .binOp .geq 3 (.tmp 15) (.const (.int .i64 0)) 3, none⟩])
  (.cond (.tmp 16)
    .skip
    (.exit 0)))
  (.seq (.block 1 (.seq (.reg [
    ⟨some 19, .move (.tmp 7), none⟩,
    ⟨some 20, .binOp .shl 48 (.tmp 19) (.const (.int .u64 32)) 86, none⟩,
    ⟨some 21, .move (.tmp 0), none⟩,
    ⟨some 22, .move (.tmp 8), none⟩,
    ⟨some 23, .indexAddr 26 (.tmp 21) (.tmp 22), none⟩,
    ⟨some 24, .load 42 (.tmp 23), none⟩,
    ⟨some 25, .convert 42 48 (.tmp 24), none⟩,
    ⟨some 26, .binOp .or 48 (.tmp 20) (.tmp 25) 48, none⟩,
    ⟨some 7, .assign (.tmp 26), none⟩])
  (.seq (.reg [
    ⟨some 27, .move (.tmp 6), none⟩,
    ⟨some 28, .move (.tmp 8), none⟩,
    ⟨some 29, .move (.tmp 7), none⟩,
    ⟨some 30, .move (.tmp 1), none⟩,
    ⟨some 31, .convert 42 48 (.tmp 30), none⟩,
    ⟨some 32, .binOp .quo 48 (.tmp 29) (.tmp 31) 48, none⟩,
    ⟨some 33, .convert 48 42 (.tmp 32), none⟩,
    ⟨some 34, .indexAddr 26 (.tmp 27) (.tmp 28), none⟩,
    ⟨none, .store 42 (.tmp 34) (.tmp 33), none⟩])
  (.reg [
    ⟨some 35, .move (.tmp 7), none⟩,
    ⟨some 36, .move (.tmp 1), none⟩,
    ⟨some 37, .convert 42 48 (.tmp 36), none⟩,
    ⟨some 38, .binOp .rem 48 (.tmp 35) (.tmp 37) 48, none⟩,
    ⟨some 7, .assign (.tmp 38), none⟩]))))
  (.reg [
    ⟨some 17, .move (.tmp 8), none⟩,
    ⟨some 18, .binOp .sub 3 (.tmp 17) (.const (.int .i64 1)) 3, none⟩,
    ⟨some 8, .assign (.tmp 18), none⟩]))))))
  (.seq (.seq (.gh [.frz 6])
  (.reg [
    ⟨some 39, .move (.tmp 6), none⟩,
    ⟨some 40, .call ⟨(.value (.func 55)), #[(.tmp 39)], #[26]⟩, none⟩,
    ⟨some 41, .move (.tmp 7), none⟩,
    ⟨some 42, .convert 48 42 (.tmp 41), none⟩,
    ⟨some 4, .assign (.tmp 40), none⟩,
    ⟨some 5, .assign (.tmp 42), none⟩]))
  .ret)))))⟩
theorem c71 : fcomp Tryd.prog 71 = ⟨b71.n, b71.np, b71.res, b71.body.bare⟩ := by kernel_rfl
theorem k71 : fok Tryd.prog 71 = true := by kernel_rfl
theorem nat_divSmall (a : List Int) (d : Int) (ha : Lim a) (la : a.length < 8796093022208) (d0 : 0 < d) (d1 : d < 4294967296) : AFun Tryd.prog 71 [.one (natD a), .one (.lit (.int .u32 d))] [.one (natD (nl (nv a / d.toNat))), .one (.lit (.int .u32 (nv a % d.toNat : Nat)))] := by
  refine afun_intro mo_ _ _ c71 k71 _ _ rfl (by decide) ?_
  unfold b71
  simp (maxSteps := 1000000) (disch := first | omega | (simp only [LL]; omega)) only [W, V, TY, CC, reduceIte, Nat.reduceEqDiff, Nat.reduceAdd, Nat.reduceLeDiff, Nat.reduceLT, Int.reduceLE, Int.reduceLT, Int.reduceAdd, Int.reduceSub, Int.reduceToNat, Nat.reduceMul]
  refine w_loop (fun n s => ∃ (i : Nat) (D : List Int) (r : Int), n = i ∧ i ≤ a.length ∧ s.t 0 = .one (.dt (natD a)) ∧ s.t 1 = .one (.dt (.lit (.int .u32 d))) ∧ s.t 8 = .one (.dt (.lit (.int .i64 (i - 1)))) ∧ s.t 6 = .one (.row (11, 0) 0) ∧ s.r (11, 0) = some ⟨42, 1, a.length, natC D, 0, true⟩ ∧ s.t 7 = .one (.dt (.lit (.int .u64 r))) ∧ D.length = a.length ∧ Lim D ∧ 0 ≤ r ∧ r < d ∧ val (a.drop i) = d * val (D.drop i) + r) a.length ⟨a.length, List.replicate a.length 0, 0, rfl, Nat.le_refl _, ?_, ?_, ?_, ?_, ?_, ?_, by simp, Lim.replicate _, by omega, by omega, by rw [List.drop_of_length_le (Nat.le_refl _), List.drop_of_length_le (by simp)]; simp [val]⟩ ?_
  · simp (maxSteps := 1000000) (disch := first | omega | (simp only [LL]; omega)) only [W, V, TY, CC, reduceIte, Nat.reduceEqDiff, Nat.reduceAdd, Nat.reduceLeDiff, Nat.reduceLT, Int.reduceLE, Int.reduceLT, Int.reduceAdd, Int.reduceSub, Int.reduceToNat, Nat.reduceMul]
  · simp (maxSteps := 1000000) (disch := first | omega | (simp only [LL]; omega)) only [W, V, TY, CC, reduceIte, Nat.reduceEqDiff, Nat.reduceAdd, Nat.reduceLeDiff, Nat.reduceLT, Int.reduceLE, Int.reduceLT, Int.reduceAdd, Int.reduceSub, Int.reduceToNat, Nat.reduceMul]
  · simp (maxSteps := 1000000) (disch := first | omega | (simp only [LL]; omega)) only [W, V, TY, CC, reduceIte, Nat.reduceEqDiff, Nat.reduceAdd, Nat.reduceLeDiff, Nat.reduceLT, Int.reduceLE, Int.reduceLT, Int.reduceAdd, Int.reduceSub, Int.reduceToNat, Nat.reduceMul]
  · simp (maxSteps := 1000000) (disch := first | omega | (simp only [LL]; omega)) only [W, V, TY, CC, reduceIte, Nat.reduceEqDiff, Nat.reduceAdd, Nat.reduceLeDiff, Nat.reduceLT, Int.reduceLE, Int.reduceLT, Int.reduceAdd, Int.reduceSub, Int.reduceToNat, Nat.reduceMul]
  · simp (maxSteps := 1000000) (disch := first | omega | (simp only [LL]; omega)) only [W, V, TY, CC, reduceIte, Nat.reduceEqDiff, Nat.reduceAdd, Nat.reduceLeDiff, Nat.reduceLT, Int.reduceLE, Int.reduceLT, Int.reduceAdd, Int.reduceSub, Int.reduceToNat, Nat.reduceMul]
  · simp (maxSteps := 1000000) (disch := first | omega | (simp only [LL]; omega)) only [W, V, TY, CC, reduceIte, Nat.reduceEqDiff, Nat.reduceAdd, Nat.reduceLeDiff, Nat.reduceLT, Int.reduceLE, Int.reduceLT, Int.reduceAdd, Int.reduceSub, Int.reduceToNat, Nat.reduceMul]
  intro n s _ ⟨i, D, r, e, hi, t0, t1, t8, t6, r6, t7, hD, lD, r0, r1, hv⟩
  simp (maxSteps := 1000000) (disch := first | omega | (simp only [LL]; omega)) only [W, V, TY, CC, reduceIte, Nat.reduceEqDiff, Nat.reduceAdd, Nat.reduceLeDiff, Nat.reduceLT, Int.reduceLE, Int.reduceLT, Int.reduceAdd, Int.reduceSub, Int.reduceToNat, Nat.reduceMul, t0, t1, t8, t6, t7]
  refine c_split (fun hc => ?_) (fun hc => ?_)
  · obtain ⟨j, rfl⟩ : ∃ j, i = j + 1 := ⟨i - 1, by omega⟩
    have hx := ha.getD j
    obtain ⟨q0, q1, m0, m1, hq⟩ := div_bound r0 r1 hx.1 hx.2
    have hd0 : ¬ d = 0 := by omega
    simp (maxSteps := 1000000) (disch := first | omega | (simp only [LL]; omega)) only [W, V, TY, CC, reduceIte, Nat.reduceEqDiff, Nat.reduceAdd, Nat.reduceLeDiff, Nat.reduceLT, Int.reduceLE, Int.reduceLT, Int.reduceAdd, Int.reduceSub, Int.reduceToNat, Nat.reduceMul, t0, t1, t8, t6, t7, r6, shl_32, or_hi, td_nn, tm_nn, hd0]
    refine ⟨⟨by omega, by omega⟩, by omega, j, by omega, j, D.set j ((r * 4294967296 + a.getD j 0) / d), (r * 4294967296 + a.getD j 0) % d, rfl, by omega, rfl, rfl, rfl, by simp [hD], lD.set j q0 q1, m0, m1, ?_⟩
    rw [drop_set_eq (by omega), val_cons, val_drop' a j, hv]
    generalize (r * 4294967296 + a.getD j 0) / d = q at *
    generalize (r * 4294967296 + a.getD j 0) % d = m at *
    generalize a.getD j 0 = x at *
    clear t0 t1 t8 t6 r6 t7 lD ha
    grind
  · simp (maxSteps := 1000000) (disch := first | omega | (simp only [LL]; omega)) only [W, V, TY, CC, reduceIte, Nat.reduceEqDiff, Nat.reduceAdd, Nat.reduceLeDiff, Nat.reduceLT, Int.reduceLE, Int.reduceLT, Int.reduceAdd, Int.reduceSub, Int.reduceToNat, Nat.reduceMul, t0, t1, t8, t6, t7, r6]
    have h0 : i = 0 := by omega
    rw [h0, List.drop_zero, List.drop_zero] at hv
    refine a_call _ _ (nat_trim D lD (by omega)) (by simp (maxSteps := 1000000) (disch := first | omega | (simp only [LL]; omega)) only [W, V, TY, CC, reduceIte, Nat.reduceEqDiff, Nat.reduceAdd, Nat.reduceLeDiff, Nat.reduceLT, Int.reduceLE, Int.reduceLT, Int.reduceAdd, Int.reduceSub, Int.reduceToNat, Nat.reduceMul, t0, t1, t8, t6, t7, r6]) ?_
    simp (maxSteps := 1000000) (disch := first | omega | (simp only [LL]; omega)) only [W, V, TY, CC, reduceIte, Nat.reduceEqDiff, Nat.reduceAdd, Nat.reduceLeDiff, Nat.reduceLT, Int.reduceLE, Int.reduceLT, Int.reduceAdd, Int.reduceSub, Int.reduceToNat, Nat.reduceMul, t7]
    refine f_ret _ _ _ ?_
    have e1 := nv_eq ha
    have e2 := nv_eq lD
    have ed : ((d.toNat : Nat) : Int) = d := by omega
    have hq : nv a = d.toNat * nv D + r.toNat := by
      have : ((nv a : Nat) : Int) = ((d.toNat * nv D + r.toNat : Nat) : Int) := by
        rw [Int.natCast_add, Int.natCast_mul, ed, e1, e2, hv]; omega
      omega
    have hr : r.toNat < d.toNat := by omega
    have hdiv : nv a / d.toNat = nv D := by rw [hq, Nat.mul_add_div (by omega), Nat.div_eq_of_lt hr, Nat.add_zero]
    have hmod : nv a % d.toNat = r.toNat := by rw [hq, Nat.mul_add_mod, Nat.mod_eq_of_lt hr]
    have hres : tr D = nl (nv D) := rfl
    rw [hdiv, hmod]
    simp (maxSteps := 1000000) (disch := first | omega | (simp only [LL]; omega)) only [W, V, TY, CC, reduceIte, Nat.reduceEqDiff, Nat.reduceAdd, Nat.reduceLeDiff, Nat.reduceLT, Int.reduceLE, Int.reduceLT, Int.reduceAdd, Int.reduceSub, Int.reduceToNat, Nat.reduceMul, hres, t7]
    rw [show ((r.toNat : Nat) : Int) = r by omega]
end Go.Proofs.YteegehbighoplaaDoor.E

set_option linter.unusedSimpArgs false
set_option linter.unusedVariables false
set_option maxHeartbeats 2000000
namespace Go.Proofs.YteegehbighoplaaDoor.E
open Go.RowKit Limbs
end Go.Proofs.YteegehbighoplaaDoor.E

set_option linter.unusedSimpArgs false
set_option linter.unusedVariables false
set_option maxHeartbeats 2000000
namespace Go.Proofs.YteegehbighoplaaDoor.E
open Go.RowKit Limbs
end Go.Proofs.YteegehbighoplaaDoor.E

set_option linter.unusedSimpArgs false
set_option linter.unusedVariables false
set_option maxHeartbeats 2000000
namespace Go.Proofs.YteegehbighoplaaDoor.E
open Go.RowKit Limbs
/-- the number of significant bits -/
def bl (n : Nat) : Nat := if n = 0 then 0 else bl (n / 2) + 1
termination_by n
decreasing_by omega
theorem bl_zero : bl 0 = 0 := by rw [bl]; rfl
theorem bl_pos {n : Nat} (h : n ≠ 0) : bl n = bl (n / 2) + 1 := by rw [bl]; rw [if_neg h]
theorem bl_eq_zero {n : Nat} : bl n = 0 ↔ n = 0 := ⟨fun h => by
  by_cases h0 : n = 0
  · exact h0
  · rw [bl_pos h0] at h; omega, fun h => by rw [h, bl_zero]⟩
theorem bl_shift (k n : Nat) (h : n / 2 ^ k ≠ 0) : bl n = k + bl (n / 2 ^ k) := by
  induction k generalizing n with
  | zero => simp
  | succ k ih =>
    have hn : n ≠ 0 := by intro e; rw [e] at h; simp at h
    have e : n / 2 ^ (k + 1) = n / 2 / 2 ^ k := by rw [Nat.pow_succ, Nat.mul_comm, Nat.div_div_eq_div_mul]
    rw [e] at h ⊢
    rw [bl_pos hn, ih _ h]; omega
theorem bl_lt (n : Nat) : n < 2 ^ bl n := by
  induction n using Nat.strongRecOn with
  | _ n ih =>
    by_cases h : n = 0
    · rw [h]; exact Nat.two_pow_pos _
    · rw [bl_pos h, Nat.pow_succ]
      have := ih (n / 2) (by omega)
      omega
theorem bl_ge {n : Nat} (h : n ≠ 0) : 2 ^ (bl n - 1) ≤ n := by
  induction n using Nat.strongRecOn with
  | _ n ih =>
    rw [bl_pos h]
    by_cases h2 : n / 2 = 0
    · rw [h2, bl_zero]; simp; omega
    · have h3 := ih (n / 2) (by omega) h2
      have h4 : bl (n / 2) ≠ 0 := fun e => h2 (bl_eq_zero.1 e)
      have h5 : bl (n / 2) + 1 - 1 = (bl (n / 2) - 1) + 1 := by omega
      rw [h5, Nat.pow_succ]
      omega
/-- the bits of limbs in normal form -/
theorem bl_nv {l : List Int} (hl : Lim l) (hn : Nrm l) (h : l ≠ []) : bl (nv l) = 32 * (l.length - 1) + bl (l.getD (l.length - 1) 0).toNat ∧ l.getD (l.length - 1) 0 ≠ 0 := by
  have hlen : 0 < l.length := List.length_pos_iff.2 h
  have hi : l.length - 1 < l.length := by omega
  have ht : l.getD (l.length - 1) 0 ≠ 0 := by
    intro e
    apply hn
    rw [List.getLast?_eq_getElem?, List.getElem?_eq_getElem hi]
    rw [Limbs.getD_eq hi] at e
    rw [e]
  have h1 := hl.getD (l.length - 1)
  have h2 := val_take' l (l.length - 1)
  rw [show l.length - 1 + 1 = l.length by omega, List.take_of_length_le (Nat.le_refl _)] at h2
  have h3 := val_take_lt hl (l.length - 1)
  have h4 := val_nonneg (hl.take (l.length - 1))
  have h5 := nv_eq hl
  have hp : bp (l.length - 1) = ((2 ^ (32 * (l.length - 1)) : Nat) : Int) := by
    unfold bp
    rw [Nat.pow_mul]; simp
  generalize l.getD (l.length - 1) 0 = t at *
  have e : nv l / 2 ^ (32 * (l.length - 1)) = t.toNat := by
    have hpp : 0 < 2 ^ (32 * (l.length - 1)) := Nat.two_pow_pos _
    refine Nat.div_eq_of_lt_le ?_ ?_
    · have : ((t.toNat * 2 ^ (32 * (l.length - 1)) : Nat) : Int) ≤ nv l := by
        rw [Int.natCast_mul, ← hp, h5, h2, show ((t.toNat : Nat) : Int) = t by omega, Int.mul_comm]; omega
      omega
    · have : ((nv l : Nat) : Int) < (((t.toNat + 1) * 2 ^ (32 * (l.length - 1)) : Nat) : Int) := by
        rw [Int.natCast_mul, ← hp, h5, h2, show ((t.toNat + 1 : Nat) : Int) = t + 1 by omega, Int.add_mul, Int.mul_comm]; omega
      omega
  refine ⟨?_, ht⟩
  rw [bl_shift (32 * (l.length - 1)) (nv l) (by rw [e]; omega), e]
end Go.Proofs.YteegehbighoplaaDoor.E

set_option linter.unusedSimpArgs false
set_option linter.unusedVariables false
set_option maxHeartbeats 2000000
namespace Go.Proofs.YteegehbighoplaaDoor.E
open Go.RowKit Limbs
end Go.Proofs.YteegehbighoplaaDoor.E

set_option linter.unusedSimpArgs false
set_option linter.unusedVariables false
set_option maxHeartbeats 2000000
namespace Go.Proofs.YteegehbighoplaaDoor.E
open Go.RowKit Limbs
theorem pow_le32 {k : Nat} (hk : k < 32) : 1 ≤ (2 : Int) ^ k ∧ (2 : Int) ^ k ≤ 2147483648 := by
  have h1 : 2 ^ k ≤ 2 ^ 31 := Nat.pow_le_pow_right (by omega) (by omega)
  have h2 : 0 < 2 ^ k := Nat.two_pow_pos k
  have h3 : ((2 ^ k : Nat) : Int) = (2 : Int) ^ k := by simp
  omega
theorem shl_var {x : Int} {k : Nat} (hk : k < 32) (h0 : 0 ≤ x) (h1 : x < 4294967296) : shl .u64 x (k : Int) = x * 2 ^ k := by
  obtain ⟨p0, p1⟩ := pow_le32 hk
  unfold shl
  rw [Int.toNat_natCast, show min k IntKind.u64.bits = k from Nat.min_eq_left (by show k ≤ 64; omega)]
  have a1 := Int.mul_nonneg h0 (show 0 ≤ (2 : Int) ^ k by omega)
  have a2 := Int.mul_le_mul (show x ≤ 4294967295 by omega) p1 (by omega) (by omega)
  rw [wu64 a1 (by omega)]
end Go.Proofs.YteegehbighoplaaDoor.E

set_option linter.unusedSimpArgs false
set_option linter.unusedVariables false
set_option maxHeartbeats 2000000
namespace Go.Proofs.YteegehbighoplaaDoor.E
open Go.RowKit Limbs
/-- what DivMod gives -/
def divR (m n : Nat) : List RV := if n = 0 then [.one (natD []), .one (natD []), .one (.lit (.bool false))] else [.one (natD (nl (m / n))), .one (natD (nl (m % n))), .one (.lit (.bool true))]
theorem bl_le {n m : Nat} (h : n < 2 ^ m) : bl n ≤ m := by
  by_cases hn : n = 0
  · rw [hn, bl_zero]; omega
  · have h2 := bl_ge hn
    by_cases h3 : bl n ≤ m
    · exact h3
    · have : 2 ^ m ≤ 2 ^ (bl n - 1) := Nat.pow_le_pow_right (by omega) (by omega)
      omega
theorem nv_lt_pow {l : List Int} (h : Lim l) : nv l < 2 ^ (32 * l.length) := by
  have := nv_lt h
  rwa [show (4294967296 : Nat) = 2 ^ 32 from rfl, ← Nat.pow_mul] at this
end Go.Proofs.YteegehbighoplaaDoor.E

set_option linter.unusedSimpArgs false
set_option linter.unusedVariables false
set_option maxHeartbeats 2000000
namespace Go.Proofs.YteegehbighoplaaDoor.E
open Go.RowKit Limbs
theorem nl_len_le {n : Nat} {l : List Int} (hl : Lim l) (h : n ≤ nv l) : (nl n).length ≤ l.length := nl_len_iff.2 (Nat.lt_of_le_of_lt h (nv_lt hl))
theorem nl_len0 {n : Nat} : ((nl n).length = 0) = (n = 0) := propext ⟨fun h => nl_eq_nil.1 (List.eq_nil_of_length_eq_zero h), fun h => by rw [h, nl_zero]; rfl⟩
end Go.Proofs.YteegehbighoplaaDoor.E

set_option linter.unusedSimpArgs false
set_option linter.unusedVariables false
set_option maxHeartbeats 2000000
namespace Go.Proofs.YteegehbighoplaaDoor.E
open Go.RowKit Limbs
/-- 2^32 to a power -/
def bn (n : Nat) : Nat := 4294967296 ^ n
theorem bn_zero : bn 0 = 1 := rfl
theorem bn_succ (n : Nat) : bn (n + 1) = bn n * 4294967296 := by unfold bn; exact Nat.pow_succ ..
theorem bn_add (m n : Nat) : bn (m + n) = bn m * bn n := Nat.pow_add ..
theorem bn_pos (n : Nat) : 0 < bn n := Nat.pow_pos (by omega)
theorem bn_bp (n : Nat) : ((bn n : Nat) : Int) = bp n := by unfold bn bp; simp
theorem bn_two (n : Nat) : bn n = 2 ^ (32 * n) := by unfold bn; rw [show (4294967296 : Nat) = 2 ^ 32 from rfl, ← Nat.pow_mul]
/-- the n lowest limbs of a number -/
def lim : Nat → Nat → List Int
  | 0, _ => []
  | n + 1, v => ((v % 4294967296 : Nat) : Int) :: lim n (v / 4294967296)
theorem lim_len : ∀ (n v : Nat), (lim n v).length = n
  | 0, _ => rfl
  | n + 1, v => by simp [lim, lim_len n]
theorem lim_lim : ∀ (n v : Nat), Lim (lim n v)
  | 0, _ => Lim.nil
  | n + 1, v => Lim.cons (by omega) (by omega) (lim_lim n _)
theorem val_lim : ∀ (n v : Nat), v < bn n → val (lim n v) = v
  | 0, v, h => by
    rw [bn_zero] at h
    have : v = 0 := by omega
    rw [this]; rfl
  | n + 1, v, h => by
    rw [bn_succ] at h
    rw [lim, val_cons, val_lim n (v / 4294967296) (by omega)]
    omega
theorem nv_lim {n v : Nat} (h : v < bn n) : nv (lim n v) = v := by unfold nv; rw [val_lim n v h]; omega
theorem eq_lim : ∀ {l : List Int} {n v : Nat}, Lim l → l.length = n → val l = v → l = lim n v
  | [], n, v, _, hn, _ => by rw [← hn]; rfl
  | x :: l, n, v, hl, hn, hv => by
    have hx := hl.head
    have hr := val_nonneg hl.tail
    rw [val_cons] at hv
    obtain ⟨m, rfl⟩ : ∃ m, n = m + 1 := ⟨l.length, by simpa using hn.symm⟩
    rw [lim, ← eq_lim (l := l) (n := m) (v := v / 4294967296) hl.tail (by simpa using hn) (by omega)]
    congr 1
    omega
theorem lim_getD : ∀ (n v i : Nat), i < n → (lim n v).getD i 0 = ((v / bn i % 4294967296 : Nat) : Int)
  | n + 1, v, 0, _ => by simp [lim, bn_zero]
  | n + 1, v, i + 1, h => by
    rw [lim, List.getD_cons_succ, lim_getD n _ i (by omega), bn_succ, Nat.mul_comm, ← Nat.div_div_eq_div_mul]
theorem lim_drop : ∀ (n v i : Nat), i ≤ n → (lim n v).drop i = lim (n - i) (v / bn i)
  | n, v, 0, _ => by simp [bn_zero]
  | n + 1, v, i + 1, h => by
    rw [lim, List.drop_succ_cons, lim_drop n _ i (by omega), bn_succ, Nat.mul_comm, ← Nat.div_div_eq_div_mul, Nat.add_sub_add_right]
theorem lim_take : ∀ (n v i : Nat), i ≤ n → (lim n v).take i = lim i v
  | n, v, 0, _ => by rw [List.take_zero]; rfl
  | n + 1, v, i + 1, h => by rw [lim, List.take_succ_cons, lim_take n _ i (by omega), lim]
/-- the window of a number's limbs -/
theorem lim_win {n v j m : Nat} (h : j + m ≤ n) (hv : v < bn (j + m)) : val (((lim n v).drop j).take m) = ((v / bn j : Nat) : Int) := by
  rw [lim_drop n v j (by omega), lim_take _ _ _ (by omega), val_lim]
  rw [bn_add] at hv
  exact Nat.div_lt_of_lt_mul hv
theorem top3 {v j : Nat} (h : v < bn (j + 3)) : v / bn (j + 2) % 4294967296 * 18446744073709551616 + v / bn (j + 1) % 4294967296 * 4294967296 + v / bn j % 4294967296 = v / bn j := by
  have e2 : v / bn (j + 2) = v / bn j / 4294967296 / 4294967296 := by rw [bn_succ, bn_succ, ← Nat.div_div_eq_div_mul, ← Nat.div_div_eq_div_mul]
  have e1 : v / bn (j + 1) = v / bn j / 4294967296 := by rw [bn_succ, ← Nat.div_div_eq_div_mul]
  have hb : v / bn j < bn 3 := by rw [bn_add] at h; exact Nat.div_lt_of_lt_mul h
  rw [show bn 3 = 79228162514264337593543950336 from rfl] at hb
  rw [e2, e1]
  clear e2 e1 h
  generalize v / bn j = q at *
  omega
theorem top2 {v j : Nat} (h : v < bn (j + 2)) : v / bn (j + 1) % 4294967296 * 4294967296 + v / bn j % 4294967296 = v / bn j := by
  have e1 : v / bn (j + 1) = v / bn j / 4294967296 := by rw [bn_succ, ← Nat.div_div_eq_div_mul]
  have hb : v / bn j < bn 2 := by rw [bn_add] at h; exact Nat.div_lt_of_lt_mul h
  rw [show bn 2 = 18446744073709551616 from rfl] at hb
  rw [e1]
  clear e1 h
  generalize v / bn j = q at *
  omega
/-- the quotient digit of the highest limbs is the right one or one too great -/
theorem digit {w V H W M ur vr : Nat} (hM : 0 < M) (hw : w = H * M + ur) (hur : ur < M) (hV : V = W * M + vr) (hvr : vr < M) (hW : 4294967296 ≤ W) (hwV : w < V * 4294967296) (g : Nat) (hg : g = min 4294967295 (H / W)) :
    (g * V ≤ w → w / V = g) ∧ (w < g * V → w / V = g - 1 ∧ 0 < g) := by
  have hVp : 0 < V := by
    have : 4294967296 * 1 ≤ W * M := Nat.mul_le_mul hW hM
    omega
  have hq1 : w / V ≤ 4294967295 := by
    have := Nat.div_lt_of_lt_mul hwV
    omega
  have hgH : g * W ≤ H := by
    have h1 : g ≤ H / W := by omega
    exact Nat.le_trans (Nat.mul_le_mul_right _ h1) (Nat.div_mul_le_self _ _)
  -- g is not too small
  have hge : w / V ≤ g := by
    by_cases hc : g = 4294967295
    · omega
    · have hgq : g = H / W := by omega
      by_cases h : w / V ≤ g
      · exact h
      · exfalso
        have h1 : H < (g + 1) * W := by rw [hgq]; exact Nat.lt_mul_of_div_lt (by omega) (by omega)
        have h2 : (g + 1) * V ≤ w := Nat.le_trans (Nat.mul_le_mul_right _ (by omega)) (Nat.div_mul_le_self w V)
        have h3 : (H + 1) * M ≤ (g + 1) * W * M := Nat.mul_le_mul_right _ h1
        have h4 : (g + 1) * V = (g + 1) * W * M + (g + 1) * vr := by rw [hV, Nat.mul_add, Nat.mul_assoc]
        rw [Nat.add_mul] at h3
        omega
  -- g is at most one too great
  have hlt : g * V < w + V := by
    have h1 : g * W * M ≤ H * M := Nat.mul_le_mul_right _ hgH
    have h2 : g * V = g * W * M + g * vr := by rw [hV, Nat.mul_add, Nat.mul_assoc]
    have h3 : g * vr ≤ g * M := Nat.mul_le_mul_left _ (by omega)
    have h4 : g * M < 4294967296 * M := Nat.mul_lt_mul_of_pos_right (by omega) hM
    have h5 : 4294967296 * M ≤ W * M := Nat.mul_le_mul_right _ hW
    omega
  constructor
  · intro h
    have : g ≤ w / V := (Nat.le_div_iff_mul_le hVp).2 h
    omega
  · intro h
    have h0 : 0 < g := by
      rcases Nat.eq_zero_or_pos g with h0 | h0
      · rw [h0] at h; omega
      · exact h0
    obtain ⟨k, rfl⟩ : ∃ k, g = k + 1 := ⟨g - 1, by omega⟩
    have h1 : k ≤ w / V := (Nat.le_div_iff_mul_le hVp).2 (by rw [Nat.add_mul] at hlt; omega)
    have h2 : w / V < k + 1 := Nat.div_lt_of_lt_mul (by rw [Nat.mul_comm]; exact h)
    exact ⟨by omega, h0⟩
end Go.Proofs.YteegehbighoplaaDoor.E
