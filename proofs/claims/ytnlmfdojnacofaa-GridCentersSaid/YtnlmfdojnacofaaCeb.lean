/- An abstract interpreter over data, and contracts of the program's functions, part 2; no condition. -/
import Derived.Laws.Bits64
import Derived.Laws.BitsLemmas
import Derived.WalkKit
import Derived.ProofKit
import Derived.OpenShut
import Derived.ShutString
import Derived.ChangeOld
import Derived.Below
import Derived.SizedLaws
import Derived.Carry
import Derived.Deep.Slices
import Derived.ChangeSame
import Derived.Test.YtnlmfdojnacofaaProg
import Derived.KernelRfl
import Derived.Test.YtnlmfdojnacofaaCea
set_option linter.unusedSimpArgs false
set_option linter.unusedVariables false
namespace Go.Proofs.Ytnlmfdojnacofaa.E
open Go.RowKit

section
variable {P : Program} {fl : Bool} {Q : AS → Prop} {K : AEx → AS → Prop} {s : AS} {os : List AO}

/-! ### looking things up -/
theorem ev_t (t : Nat) : s.ev (.tmp t) = s.t t := rfl
theorem ev_int (k : IntKind) (n : Int) : s.ev (.const (.int k n)) = .one (.dt (.lit (.int k n))) := rfl
theorem ev_bool (b : Bool) : s.ev (.const (.bool b)) = .one (.dt (.lit (.bool b))) := rfl
theorem ev_str (b : ByteArray) : s.ev (.const (.string b)) = .one (.dt (.lit (.string b))) := rfl
theorem ev_nil : s.ev (.const (.slice none 0 0)) = .one .z := rfl
theorem set_t (d n : Nat) (x : AV) : (s.set d x).t n = if n = d then x else s.t n := rfl
theorem set_v (d : Nat) (x : AV) : (s.set d x).v = s.v := rfl
theorem set_r (d : Nat) (x : AV) : (s.set d x).r = s.r := rfl
theorem set_g (d : Nat) (x : AV) : (s.set d x).g = s.g := rfl
theorem set_f (d : Nat) (x : AV) : (s.set d x).f = s.f := rfl
theorem setv_t (y : Nat × Nat) (cs : List Ce) : (s.setv y cs).t = s.t := rfl
theorem setv_v (y z : Nat × Nat) (cs : List Ce) : (s.setv y cs).v z = if z = y then some cs else s.v z := rfl
theorem setv_r (y : Nat × Nat) (cs : List Ce) : (s.setv y cs).r = s.r := rfl
theorem setv_g (y : Nat × Nat) (cs : List Ce) : (s.setv y cs).g = s.g := rfl
theorem setv_f (y : Nat × Nat) (cs : List Ce) : (s.setv y cs).f = s.f := rfl
theorem setr_t (y : Nat × Nat) (row : Row) : (s.setr y row).t = s.t := rfl
theorem setr_v (y : Nat × Nat) (row : Row) : (s.setr y row).v = s.v := rfl
theorem setr_r (y z : Nat × Nat) (row : Row) : (s.setr y row).r z = if z = y then some row else s.r z := rfl
theorem setr_g (y : Nat × Nat) (row : Row) : (s.setr y row).g = s.g := rfl
theorem setr_f (y : Nat × Nat) (row : Row) : (s.setr y row).f = s.f := rfl
theorem bump_t (d : Nat) : (s.bump d).t = s.t := rfl
theorem bump_v (d : Nat) : (s.bump d).v = s.v := rfl
theorem bump_r (d : Nat) : (s.bump d).r = s.r := rfl
theorem bump_g (d n : Nat) : (s.bump d).g n = if n = d then s.g n + 1 else s.g n := rfl
theorem bump_f (d : Nat) : (s.bump d).f = s.f := rfl
theorem frz_t (y : Nat × Nat) : (s.freeze y).t = s.t := rfl
theorem frz_v (y : Nat × Nat) : (s.freeze y).v = s.v := rfl
theorem frz_r (y z : Nat × Nat) : (s.freeze y).r z = if z = y then (s.r z).map (fun row => { row with live := false }) else s.r z := rfl
theorem frz_g (y : Nat × Nat) : (s.freeze y).g = s.g := rfl
theorem frz_f (y : Nat × Nat) : (s.freeze y).f = s.f := rfl
theorem frzv_t (y : Nat × Nat) : (s.freezev y).t = s.t := rfl
theorem frzv_v (y : Nat × Nat) : (s.freezev y).v = s.v := rfl
theorem frzv_r (y : Nat × Nat) : (s.freezev y).r = s.r := rfl
theorem frzv_g (y : Nat × Nat) : (s.freezev y).g = s.g := rfl
theorem frzv_f (y z : Nat × Nat) : (s.freezev y).f z = if z = y then true else s.f z := rfl
theorem put_some (d : Nat) (x : AV) : s.put (some d) x = s.set d x := rfl
theorem put_none (x : AV) : s.put none x = s := rfl
theorem start_t0 (r : RV) (rs : List RV) : (start (r :: rs)).t 0 = r.toAV := rfl
theorem start_ts (r : RV) (rs : List RV) (n : Nat) : (start (r :: rs)).t (n + 1) = (start rs).t n := by
  show (match (r :: rs)[n + 1]? with | some r => r.toAV | none => .no) = _
  rfl
theorem start_t1 (r r1 : RV) (rs : List RV) : (start (r :: r1 :: rs)).t 1 = r1.toAV := rfl
theorem start_t2 (r r1 r2 : RV) (rs : List RV) : (start (r :: r1 :: r2 :: rs)).t 2 = r2.toAV := rfl
theorem start_t3 (r r1 r2 r3 : RV) (rs : List RV) : (start (r :: r1 :: r2 :: r3 :: rs)).t 3 = r3.toAV := rfl
theorem start_t4 (r r1 r2 r3 r4 : RV) (rs : List RV) : (start (r :: r1 :: r2 :: r3 :: r4 :: rs)).t 4 = r4.toAV := rfl
theorem start_v (rs : List RV) : (start rs).v = fun _ => none := rfl
theorem start_r (rs : List RV) : (start rs).r = fun _ => none := rfl
theorem start_g (rs : List RV) : (start rs).g = fun _ => 0 := rfl
theorem start_f (rs : List RV) : (start rs).f = fun _ => false := rfl
theorem startw_t0 (l : List Int) (off n : Nat) (rs : List RV) : (startw l off n rs).t 0 = .sv (0, 0) off n := rfl
theorem startw_t1 (l : List Int) (off n : Nat) (r : RV) (rs : List RV) : (startw l off n (r :: rs)).t 1 = r.toAV := rfl
theorem startw_t2 (l : List Int) (off n : Nat) (r r1 : RV) (rs : List RV) : (startw l off n (r :: r1 :: rs)).t 2 = r1.toAV := rfl
theorem startw_t3 (l : List Int) (off n : Nat) (r r1 r2 : RV) (rs : List RV) : (startw l off n (r :: r1 :: r2 :: rs)).t 3 = r2.toAV := rfl
theorem startw_v (l : List Int) (off n : Nat) (rs : List RV) (y : Nat × Nat) : (startw l off n rs).v y = if y = (0, 0) then some (u32s l) else none := rfl
theorem startw_r (l : List Int) (off n : Nat) (rs : List RV) : (startw l off n rs).r = fun _ => none := rfl
theorem startw_g (l : List Int) (off n : Nat) (rs : List RV) (d : Nat) : (startw l off n rs).g d = if d = 0 then 1 else 0 := rfl
theorem startw_f (l : List Int) (off n : Nat) (rs : List RV) : (startw l off n rs).f = fun _ => false := rfl
theorem rv_one (d : Dt) : RV.toAV (.one d) = .one (.dt d) := rfl
theorem rv_agg (ds : List Dt) : RV.toAV (.agg ds) = .agg (ds.map .dt) := rfl
theorem res_one (r : RV) : resAV [r] = r.toAV := rfl
theorem res_nil : resAV [] = .tup [] := rfl
theorem res_two (r r1 : RV) (rs : List RV) : resAV (r :: r1 :: rs) = .tup (r :: r1 :: rs) := rfl

/-! ### code -/
theorem w_skip : awp P .skip K s = K .normal s := rfl
theorem w_reg (l : List AO) : awp P (.reg l) K s = aops P true l (K .normal) s := rfl
theorem w_dreg (l : List AO) : awp P (.dreg l) K s = aops P false l (K .normal) s := rfl
theorem w_gh (gs : List Gh) : awp P (.gh gs) K s = ghs gs (K .normal) s := rfl
theorem w_seq (x y : AC) : awp P (.seq x y) K s = awp P x (AEx.then (awp P y K) K) s := rfl
theorem w_block (id : Nat) (x : AC) : awp P (.block id x) K s = awp P x (AEx.blk id K) s := rfl
theorem w_exit (id : Nat) : awp P (.exit id) K s = K (.exit id) s := rfl
theorem w_ret : awp P .ret K s = K .ret s := rfl
theorem t_n (y : AS → Prop) : AEx.then y K .normal s = y s := rfl
theorem t_e (y : AS → Prop) (id : Nat) : AEx.then y K (.exit id) s = K (.exit id) s := rfl
theorem t_r (y : AS → Prop) : AEx.then y K .ret s = K .ret s := rfl
theorem b_n (id : Nat) : AEx.blk id K .normal s = K .normal s := rfl
theorem b_e (id i : Nat) : AEx.blk id K (.exit i) s = if i = id then K .normal s else K (.exit i) s := rfl
theorem b_r (id : Nat) : AEx.blk id K .ret s = K .ret s := rfl
theorem w_cond {c : Operand} {x y : AC} (p : Prop) [Decidable p] (h : asB (s.ev c) = some (decide p)) (h1 : p → awp P x K s) (h2 : ¬p → awp P y K s) : awp P (.cond c x y) K s :=
  ⟨_, h, fun e => h1 (of_decide_eq_true e), fun e => h2 (of_decide_eq_false e)⟩
theorem w_condb {c : Operand} {x y : AC} (b : Bool) (h : asB (s.ev c) = some b) (h1 : b = true → awp P x K s) (h2 : b = false → awp P y K s) : awp P (.cond c x y) K s := ⟨_, h, h1, h2⟩
/-- a test whose outcome is not known yet -/
def condA (P : Program) (b : Option Bool) (x y : AC) (K : AEx → AS → Prop) (s : AS) : Prop := ∃ b', b = some b' ∧ (b' = true → awp P x K s) ∧ (b' = false → awp P y K s)
theorem w_cnd (c : Operand) (x y : AC) : awp P (.cond c x y) K s = condA P (asB (s.ev c)) x y K s := rfl
theorem c_t (x y : AC) : condA P (some true) x y K s = awp P x K s := by simp [condA]
theorem c_f (x y : AC) : condA P (some false) x y K s = awp P y K s := by simp [condA]
theorem c_split {x y : AC} {p : Prop} [Decidable p] (h1 : p → awp P x K s) (h2 : ¬p → awp P y K s) : condA P (some (decide p)) x y K s := ⟨_, rfl, fun e => h1 (of_decide_eq_true e), fun e => h2 (of_decide_eq_false e)⟩
theorem c_splitb {x y : AC} {b : Bool} (h1 : b = true → awp P x K s) (h2 : b = false → awp P y K s) : condA P (some b) x y K s := ⟨_, rfl, h1, h2⟩
theorem w_loop {x : AC} (I : Nat → AS → Prop) (n : Nat) (h0 : I n s) (h : ∀ n s, s.wf → I n s → awp P x (AEx.then (fun s' => ∃ n', n' < n ∧ I n' s') K) s) : awp P (.loop x) K s := ⟨I, n, h0, h⟩
theorem g_nil : ghs [] Q s = Q s := rfl
theorem g_cons (g : Gh) (gs : List Gh) : ghs (g :: gs) Q s = (ghO g s ∧ ghs gs Q (ghE g s)) := rfl

/-! ### operations -/
theorem ex_const {p : Prop} : (∃ _ : List RV, p) = p := propext ⟨fun ⟨_, h⟩ => h, fun h => ⟨[], h⟩⟩
theorem a_only {o : AO} (hs : ∀ s', ¬ spec P o s s') : aops P fl (o :: os) Q s = (∃ rs, obl' P o s rs ∧ aops P fl os Q (eff' P o s rs)) :=
  propext ⟨fun h => h.elim id fun ⟨_, s', h, _⟩ => (hs s' h).elim, .inl⟩
theorem a_of {o : AO} {A : Prop} {s' : AS} (h : ∀ rs, obl' P o s rs = A) (h' : ∀ rs, eff' P o s rs = s') (hs : ∀ s', ¬ spec P o s s' := by exact fun _ h => h) : aops P fl (o :: os) Q s = (A ∧ aops P fl os Q s') := by
  rw [a_only hs]
  simp only [h, h']
  exact ex_const
theorem a_nil : aops P fl [] Q s = Q s := rfl
theorem a_move (d : Option Nat) (x : Operand) : aops P fl (⟨d, .move x, none⟩ :: os) Q s = aops P fl os Q (s.put d (s.ev x)) := by
  refine (a_only (by intro _ h; exact h)).trans ?_
  show (∃ _ : List RV, True ∧ aops P fl os Q (s.put d (s.ev x))) = _
  rw [ex_const]; simp
theorem a_assign (d : Option Nat) (x : Operand) : aops P fl (⟨d, .assign x, none⟩ :: os) Q s = aops P fl os Q (s.put d (s.ev x)) := by
  refine (a_only (by intro _ h; exact h)).trans ?_
  show (∃ _ : List RV, True ∧ aops P fl os Q (s.put d (s.ev x))) = _
  rw [ex_const]; simp
theorem a_pick (d : Option Nat) (c x y : Operand) : aops P fl (⟨d, .pick c x y, none⟩ :: os) Q s = (pickO (s.ev c) ∧ aops P fl os Q (s.put d (pickV (s.ev c) (s.ev x) (s.ev y)))) := a_of (fun _ => rfl) (fun _ => rfl)
theorem a_alloc (d : Nat) (T : TypeId) : aops P fl (⟨some d, .alloc T, none⟩ :: os) Q s = (match zeros P T with
    | some cs => aops P fl os Q (((s.setv (d, s.g d) cs).bump d).set d (.ptr (d, s.g d) 0))
    | none => False) := by
  refine (a_only (by intro _ h; exact h)).trans ?_
  show (∃ rs : List RV, obl P (.alloc T) (some d) s rs ∧ aops P fl os Q (eff P (.alloc T) (some d) s rs)) = _
  simp only [obl, eff]
  rw [ex_const]
  cases zeros P T <;> simp
theorem a_box (d : Nat) (T : TypeId) (x : Operand) : aops P fl (⟨some d, .box T x, none⟩ :: os) Q s = (match cellsOf (s.ev x) with
    | some cs => aops P fl os Q (((s.setv (d, s.g d) cs).bump d).set d (.ptr (d, s.g d) 0))
    | none => False) := by
  refine (a_only (by intro _ h; exact h)).trans ?_
  show (∃ rs : List RV, obl P (.box T x) (some d) s rs ∧ aops P fl os Q (eff P (.box T x) (some d) s rs)) = _
  simp only [obl, eff]
  rw [ex_const]
  cases cellsOf (s.ev x) <;> simp
theorem a_build (d : Option Nat) (T : TypeId) (parts : Array (Nat × Operand)) : aops P fl (⟨d, .build T parts, none⟩ :: os) Q s = (match zeros P T with
    | some cs => (tplaces P T).isSome = true ∧ match fillA (tplace P T) cs (pairs s parts.toList) with
      | some cells => aops P fl os Q (s.put d (.agg cells))
      | none => False
    | none => False) := by
  refine (a_only (by intro _ h; exact h)).trans ?_
  show (∃ rs : List RV, obl P (.build T parts) d s rs ∧ aops P fl os Q (eff P (.build T parts) d s rs)) = _
  simp only [obl, eff]
  rw [ex_const]
  cases zeros P T with
  | none => simp
  | some cs =>
    simp only
    cases fillA (tplace P T) cs (pairs s parts.toList) <;> simp
theorem a_bsl (d : Nat) (T : TypeId) (n : Nat) (parts : Array (Nat × Operand)) : aops P fl (⟨some d, .buildSlice T n parts, none⟩ :: os) Q s = (match telem P T with
    | some e => (tok P e = true ∧ n * tsz P e ≤ 16777216 ∧ if n = 0 then parts.size = 0 ∧ aops P fl os Q (((s.setr (d, s.g d) ⟨e, tsz P e, 0, [], 0, true⟩).bump d).set d (.one (.row (d, s.g d) 0))) else
      match bslC s (tsz P e) n (zeros P e) parts.toList with
      | some ds => ((zeros P e).map List.length = some (tsz P e) ∧ 0 < tsz P e) ∧ aops P fl os Q (s.set d (.one (.dt (.sl n ds))))
      | none => False)
    | none => False) := by
  refine (a_only (by intro _ h; exact h)).trans ?_
  show (∃ rs : List RV, obl P (.buildSlice T n parts) (some d) s rs ∧ aops P fl os Q (eff P (.buildSlice T n parts) (some d) s rs)) = _
  simp only [obl, eff]
  rw [ex_const]
  cases telem P T with
  | none => simp
  | some e =>
    simp only
    by_cases hn : n = 0
    · simp [hn, and_assoc]
    · simp only [hn, if_false]
      cases bslC s (tsz P e) n (zeros P e) parts.toList <;> simp [and_assoc]
theorem a_load (d : Option Nat) (T : TypeId) (x : Operand) : aops P fl (⟨d, .load T x, none⟩ :: os) Q s = ((tok P T = true ∧ ldO (tagg P T) (tsz P T) (acells s (s.ev x))) ∧ aops P fl os Q (s.put d (ldV (tagg P T) (tsz P T) (acells s (s.ev x))))) := a_of (fun _ => rfl) (fun _ => rfl)
theorem a_store (d : Option Nat) (T : TypeId) (x y : Operand) : aops P fl (⟨d, .store T x y, none⟩ :: os) Q s = (tok P T = true ∧ match cellsOf (s.ev y) with
    | some cs => (cs.length = tsz P T ∧ stO s cs (s.ev x)) ∧ aops P fl os Q ((stS s cs (s.ev x)).put d .no)
    | none => False) := by
  refine (a_only (by intro _ h; exact h)).trans ?_
  show (∃ rs : List RV, obl P (.store T x y) d s rs ∧ aops P fl os Q (eff P (.store T x y) d s rs)) = _
  simp only [obl, eff]
  rw [ex_const]
  cases cellsOf (s.ev y) <;> simp [and_assoc]
theorem a_bin (d : Option Nat) (op : BinOp) (T T' : TypeId) (x y : Operand) : aops P fl (⟨d, .binOp op T x y T', none⟩ :: os) Q s = (binO (tbool P T) op (s.ev x) (s.ev y) ∧ aops P fl os Q (s.put d (binV op (s.ev x) (s.ev y)))) := a_of (fun _ => rfl) (fun _ => rfl)
theorem a_un (d : Option Nat) (op : UnOp) (T : TypeId) (x : Operand) : aops P fl (⟨d, .unOp op T x, none⟩ :: os) Q s = (unO op (s.ev x) ∧ aops P fl os Q (s.put d (unV op (s.ev x)))) := a_of (fun _ => rfl) (fun _ => rfl)
theorem a_six (d : Option Nat) (T : TypeId) (x i : Operand) : aops P fl (⟨d, .index T x i, none⟩ :: os) Q s = ((tstr P T = true ∧ sixO (s.ev x) (s.ev i)) ∧ aops P fl os Q (s.put d (sixV (s.ev x) (s.ev i)))) := a_of (fun _ => rfl) (fun _ => rfl)
theorem a_conv (d : Option Nat) (T T' : TypeId) (x : Operand) : aops P fl (⟨d, .convert T T' x, none⟩ :: os) Q s = (((P.underlying T).isSome = true ∧ cvO (tint P T') (s.ev x)) ∧ aops P fl os Q (s.put d (cvV (tint P T') (s.ev x)))) := a_of (fun _ => rfl) (fun _ => rfl)
theorem a_make (d : Nat) (T : TypeId) (l c : Operand) : aops P fl (⟨some d, .makeSlice T l c, none⟩ :: os) Q s = (match telem P T with
    | some e => (tok P e = true ∧ tsz P e = 1 ∧ mkO (tbytes P e) (zeros P e) (s.ev l) (s.ev c)) ∧ aops P fl os Q (mkS s d e (zeros P e) (s.ev l))
    | none => False) := by
  refine (a_only (by intro _ h; exact h)).trans ?_
  show (∃ rs : List RV, obl P (.makeSlice T l c) (some d) s rs ∧ aops P fl os Q (eff P (.makeSlice T l c) (some d) s rs)) = _
  simp only [obl, eff]
  rw [ex_const]
  cases telem P T <;> simp
theorem a_slice (d : Option Nat) (T : TypeId) (x : Operand) (lo hi mx : Option Operand) : aops P fl (⟨d, .slice T x lo hi mx, none⟩ :: os) Q s = (match telem P T with
    | some e => (tok P e = true ∧ cutO (tsz P e) (lo.map s.ev) (hi.map s.ev) (mx.map s.ev) (s.ev x)) ∧ aops P fl os Q (s.put d (cutV (tsz P e) (lo.map s.ev) (hi.map s.ev) (s.ev x)))
    | none => match tarr P T with
      | some (n, e) => (tok P e = true ∧ acutO s (tsz P e) n (lo.map s.ev) (hi.map s.ev) (mx.map s.ev) (s.ev x)) ∧ aops P fl os Q (s.put d (acutV s (tsz P e) n (lo.map s.ev) (hi.map s.ev) (s.ev x)))
      | none => False) := by
  refine (a_only (by intro _ h; exact h)).trans ?_
  show (∃ rs : List RV, obl P (.slice T x lo hi mx) d s rs ∧ aops P fl os Q (eff P (.slice T x lo hi mx) d s rs)) = _
  simp only [obl, eff]
  rw [ex_const]
  cases telem P T with
  | some e => rfl
  | none =>
    cases tarr P T with
    | none => simp
    | some ne => rfl
theorem a_fld (d : Option Nat) (T : TypeId) (x : Operand) (f : Nat) : aops P fl (⟨d, .fieldAddr T x f, none⟩ :: os) Q s = (fldO s (foff P T f) (s.ev x) ∧ aops P fl os Q (s.put d (fldV (foff P T f) (s.ev x)))) := a_of (fun _ => rfl) (fun _ => rfl)
theorem a_idx (d : Option Nat) (T : TypeId) (x i : Operand) : aops P fl (⟨d, .indexAddr T x i, none⟩ :: os) Q s = (match telem P T with
    | some e => (tok P e = true ∧ idxO s (tsz P e) (s.ev x) (s.ev i)) ∧ aops P fl os Q (s.put d (idxV (tsz P e) (s.ev x) (s.ev i)))
    | none => match tarr P T with
      | some (n, e) => (tok P e = true ∧ arrO n (s.ev x) (s.ev i)) ∧ aops P fl os Q (s.put d (arrV (tsz P e) (s.ev x) (s.ev i)))
      | none => False) := by
  refine (a_only (by intro _ h; exact h)).trans ?_
  show (∃ rs : List RV, obl P (.indexAddr T x i) d s rs ∧ aops P fl os Q (eff P (.indexAddr T x i) d s rs)) = _
  simp only [obl, eff]
  rw [ex_const]
  cases telem P T with
  | some e => rfl
  | none =>
    cases tarr P T with
    | none => simp
    | some ne => rfl
theorem a_ext (d : Option Nat) (x : Operand) (j : Nat) : aops P fl (⟨d, .extract x j, none⟩ :: os) Q s = (extO (s.ev x) j ∧ aops P fl os Q (s.put d (extV (s.ev x) j))) := a_of (fun _ => rfl) (fun _ => rfl)
theorem a_len (d : Option Nat) (x : Operand) (T : TypeId) : aops P fl (⟨d, .call ⟨.builtin .len, #[x], #[T]⟩, none⟩ :: os) Q s = (((telem P T).isSome = true ∧ lenO s (s.ev x)) ∧ aops P fl os Q (s.put d (lenV s (s.ev x)))) := a_of (fun _ => rfl) (fun _ => rfl)
theorem a_max (d : Option Nat) (x y : Operand) (Ts : Array TypeId) : aops P fl (⟨d, .call ⟨.builtin .max, #[x, y], Ts⟩, none⟩ :: os) Q s = (mxO (s.ev x) (s.ev y) ∧ aops P fl os Q (s.put d (mxV (fun x y => if y > x then y else x) (s.ev x) (s.ev y)))) := a_of (fun _ => rfl) (fun _ => rfl)
theorem a_min (d : Option Nat) (x y : Operand) (Ts : Array TypeId) : aops P fl (⟨d, .call ⟨.builtin .min, #[x, y], Ts⟩, none⟩ :: os) Q s = (mxO (s.ev x) (s.ev y) ∧ aops P fl os Q (s.put d (mxV (fun x y => if y < x then y else x) (s.ev x) (s.ev y)))) := a_of (fun _ => rfl) (fun _ => rfl)
theorem a_append (d : Nat) (x y : Operand) (T : TypeId) : aops P fl (⟨some d, .call ⟨.builtin .append, #[x, y], #[T, T]⟩, none⟩ :: os) Q s = (match telem P T with
    | some e => (tok P e = true ∧ 0 < tsz P e ∧ (tzero P e).map List.length = some (tsz P e) ∧ appO s e (tsz P e) (tbytes P e) (srcD s (s.ev y)) (s.ev x)) ∧ aops P fl os Q (appS s d e (tsz P e) (srcD s (s.ev y)) (s.ev x))
    | none => False) := by
  refine (a_only (by intro _ h; exact h)).trans ?_
  show (∃ rs : List RV, (T = T ∧ match telem P T with
        | some e => (some d).isSome = true ∧ tok P e = true ∧ 0 < tsz P e ∧ (tzero P e).map List.length = some (tsz P e) ∧ appO s e (tsz P e) (tbytes P e) (srcD s (s.ev y)) (s.ev x)
        | none => False) ∧ aops P fl os Q (match telem P T with
        | some e => appS s d e (tsz P e) (srcD s (s.ev y)) (s.ev x)
        | none => s)) = _
  rw [ex_const]
  cases telem P T <;> simp
theorem a_copy (d : Option Nat) (x y : Operand) (T T' : TypeId) : aops P fl (⟨d, .call ⟨.builtin .copy, #[x, y], #[T, T']⟩, none⟩ :: os) Q s = ((match telem P T with
    | some e => tok P e = true ∧ tsz P e = 1 ∧ cpO s (srcD s (s.ev y)) (s.ev x)
    | none => False) ∧ aops P fl os Q (cpS s d (srcD s (s.ev y)) (s.ev x))) := a_of (fun _ => rfl) (fun _ => rfl)
theorem a_call {d : Option Nat} {f : Nat} {args : Array Operand} {Ts : Array TypeId} (avs rs : List RV) (h : AFun P f avs rs) (h1 : toRVs s (evs s args.toList) = some avs) (h2 : aops P fl os Q (s.put d (resAV rs))) :
    aops P fl (⟨d, .call ⟨.value (.func f), args, Ts⟩, none⟩ :: os) Q s := .inl ⟨rs, ⟨avs, h1, h⟩, h2⟩
theorem a_ocall {d : Nat} {f : Nat} {args : Array Operand} {Ts : Array TypeId} (avs : List RV) (l : List Int) (h : OFun P f avs l) (h1 : toRVs s (evs s args.toList) = some avs) (h2 : aops P true os Q (((s.setv (d, s.g d) (u32s l)).bump d).set d (.sv (d, s.g d) 0 l.length))) :
    aops P true (⟨some d, .call ⟨.value (.func f), args, Ts⟩, none⟩ :: os) Q s := .inr ⟨rfl, _, .inl ⟨d, avs, l, rfl, h1, h, rfl⟩, h2⟩
theorem a_tcall {d : Nat} {f : Nat} {args : Array Operand} {Ts : Array TypeId} (avs : List RV) (l0 l1 : List Int) (T : TypeId) (c : Int) (h : TFun P f avs l0 l1 T c) (h1 : toRVs s (evs s args.toList) = some avs) (h2 : aops P true os Q (((s.setr (d, s.g d) ⟨T, 1, l1.length, i64s l1, 0, true⟩).bump d).set d (.pr [.dt (.sl l0.length (i64s l0)), .row (d, s.g d) 0] (.dt (.lit (.int .i64 c)))))) :
    aops P true (⟨some d, .call ⟨.value (.func f), args, Ts⟩, none⟩ :: os) Q s := .inr ⟨rfl, _, .inr (.inl ⟨d, avs, l0, l1, T, c, rfl, h1, h, rfl⟩), h2⟩
theorem a_wcall {d : Option Nat} {f : Nat} {a0 : Operand} {xs : List Operand} {Ts : Array TypeId} (x : Nat × Nat) (off n : Nat) (l : List Int) (avs : List RV) (l' : List Int) (rs : List RV) (h : WFun P f l off n avs l' rs) (h0 : s.ev a0 = .sv x off n) (hv : s.v x = some (u32s l)) (hf : s.f x = false) (h1 : toRVs s (evs s xs) = some avs) (h2 : aops P true os Q ((s.setv x (u32s l')).put d (resAV rs))) {args : Array Operand} (ha : args.toList = a0 :: xs) :
    aops P true (⟨d, .call ⟨.value (.func f), args, Ts⟩, none⟩ :: os) Q s := .inr ⟨rfl, _, .inr (.inr ⟨a0, xs, x, off, n, l, avs, l', rs, ha, h0, hv, hf, h1, h, rfl⟩), h2⟩
theorem a_guard (d : Option Nat) (op : Op) (t : Nat) (want : Bool) : aops P fl (⟨d, op, some (t, want)⟩ :: os) Q s = (match asB (s.t t) with
    | some b => if b = want then aops P fl (⟨d, op, none⟩ :: os) Q s else aops P fl os Q (s.put d .no)
    | none => False) := by
  show ((∃ rs : List RV, (match asB (s.t t) with
      | some b => if b = want then obl P op d s rs else True
      | none => False) ∧ aops P fl os Q (match asB (s.t t) with
      | some b => if b = want then eff P op d s rs else s.put d .no
      | none => s)) ∨ (fl = true ∧ ∃ s', (asB (s.t t) = some want ∧ spec0 P d op s s') ∧ aops P fl os Q s')) = _
  cases asB (s.t t) with
  | none => simp
  | some b =>
    simp only
    by_cases e : b = want
    · simp only [e, if_true, true_and]; rfl
    · simp [e]
def guardA (P : Program) (fl : Bool) (b : Option Bool) (want : Bool) (d : Option Nat) (op : Op) (os : List AO) (Q : AS → Prop) (s : AS) : Prop := match b with
  | some b => if b = want then aops P fl (⟨d, op, none⟩ :: os) Q s else aops P fl os Q (s.put d .no)
  | none => False
theorem a_grd (d : Option Nat) (op : Op) (t : Nat) (want : Bool) : aops P fl (⟨d, op, some (t, want)⟩ :: os) Q s = guardA P fl (asB (s.t t)) want d op os Q s := a_guard d op t want
theorem g_tt (d : Option Nat) (op : Op) : guardA P fl (some true) true d op os Q s = aops P fl (⟨d, op, none⟩ :: os) Q s := rfl
theorem g_ff (d : Option Nat) (op : Op) : guardA P fl (some false) false d op os Q s = aops P fl (⟨d, op, none⟩ :: os) Q s := rfl
theorem g_tf (d : Option Nat) (op : Op) : guardA P fl (some true) false d op os Q s = aops P fl os Q (s.put d .no) := rfl
theorem g_ft (d : Option Nat) (op : Op) : guardA P fl (some false) true d op os Q s = aops P fl os Q (s.put d .no) := rfl
theorem g_split {p : Prop} [Decidable p] {want : Bool} {d : Option Nat} {op : Op} (h1 : p → guardA P fl (some true) want d op os Q s) (h2 : ¬p → guardA P fl (some false) want d op os Q s) : guardA P fl (some (decide p)) want d op os Q s := by
  by_cases h : p
  · rw [decide_eq_true h]; exact h1 h
  · rw [decide_eq_false h]; exact h2 h
theorem a_yes {d : Option Nat} {op : Op} {t : Nat} {want : Bool} (h : asB (s.t t) = some want) (h1 : aops P fl (⟨d, op, none⟩ :: os) Q s) : aops P fl (⟨d, op, some (t, want)⟩ :: os) Q s := by
  rw [a_guard, h]; simpa using h1
theorem a_no {d : Option Nat} {op : Op} {t : Nat} {want b : Bool} (h : asB (s.t t) = some b) (hb : b ≠ want) (h1 : aops P fl os Q (s.put d .no)) : aops P fl (⟨d, op, some (t, want)⟩ :: os) Q s := by
  rw [a_guard, h]; simpa [hb] using h1
end
end Go.Proofs.Ytnlmfdojnacofaa.E

set_option linter.unusedSimpArgs false
set_option linter.unusedVariables false
namespace Go.Proofs.Ytnlmfdojnacofaa.E
open Go.RowKit

def shl (k : IntKind) (x y : Int) : Int := k.wrap (x * 2 ^ (min y.toNat k.bits))
def shr (k : IntKind) (x y : Int) : Int := x.fdiv (2 ^ (min y.toNat k.bits))
section
variable {s : AS} {k k' : IntKind} {x y : Int} {tb b b' : Bool}

theorem src_sl (n : Nat) (cells : List Dt) : srcD s (.one (.dt (.sl n cells))) = some (n, cells) := rfl
theorem cd_nil : ceDs [] = some [] := rfl
theorem cd_cons (c : Ce) (cs : List Ce) : ceDs (c :: cs) = (match ceD c, ceDs cs with | some d, some ds => some (d :: ds) | _, _ => none) := rfl
theorem cd_dt (d : Dt) : ceD (.dt d) = some d := rfl
theorem cd_z : ceD .z = some (.sl 0 []) := rfl
theorem bsl_some (sz n : Nat) (cs : List Ce) (parts : List (Nat × Operand)) : bslC s sz n (some cs) parts = (match fillA (fun i => some (i * sz, sz)) ((List.replicate n cs).flatten) (pairs s parts) with | some cells => ceDs cells | none => none) := rfl
theorem o_add : binO tb .add (.one (.dt (.lit (.int k x)))) (.one (.dt (.lit (.int k' y)))) = (k = k') := rfl
theorem v_add : binV .add (.one (.dt (.lit (.int k x)))) (.one (.dt (.lit (.int k' y)))) = (.one (.dt (.lit (.int k (k.wrap (x + y)))))) := rfl
theorem o_sub : binO tb .sub (.one (.dt (.lit (.int k x)))) (.one (.dt (.lit (.int k' y)))) = (k = k') := rfl
theorem v_sub : binV .sub (.one (.dt (.lit (.int k x)))) (.one (.dt (.lit (.int k' y)))) = (.one (.dt (.lit (.int k (k.wrap (x - y)))))) := rfl
theorem o_mul : binO tb .mul (.one (.dt (.lit (.int k x)))) (.one (.dt (.lit (.int k' y)))) = (k = k') := rfl
theorem v_mul : binV .mul (.one (.dt (.lit (.int k x)))) (.one (.dt (.lit (.int k' y)))) = (.one (.dt (.lit (.int k (k.wrap (x * y)))))) := rfl
theorem o_quo : binO tb .quo (.one (.dt (.lit (.int k x)))) (.one (.dt (.lit (.int k' y)))) = (k = k' ∧ ¬ y = 0) := rfl
theorem v_quo : binV .quo (.one (.dt (.lit (.int k x)))) (.one (.dt (.lit (.int k' y)))) = (.one (.dt (.lit (.int k (k.wrap (x.tdiv y)))))) := rfl
theorem o_rem : binO tb .rem (.one (.dt (.lit (.int k x)))) (.one (.dt (.lit (.int k' y)))) = (k = k' ∧ ¬ y = 0) := rfl
theorem v_rem : binV .rem (.one (.dt (.lit (.int k x)))) (.one (.dt (.lit (.int k' y)))) = (.one (.dt (.lit (.int k (x.tmod y))))) := rfl
theorem o_and : binO tb .and (.one (.dt (.lit (.int k x)))) (.one (.dt (.lit (.int k' y)))) = (k = k') := rfl
theorem v_and : binV .and (.one (.dt (.lit (.int k x)))) (.one (.dt (.lit (.int k' y)))) = (.one (.dt (.lit (.int k (bits .and k x y))))) := rfl
theorem o_or : binO tb .or (.one (.dt (.lit (.int k x)))) (.one (.dt (.lit (.int k' y)))) = (k = k') := rfl
theorem v_or : binV .or (.one (.dt (.lit (.int k x)))) (.one (.dt (.lit (.int k' y)))) = (.one (.dt (.lit (.int k (bits .or k x y))))) := rfl
theorem o_shl : binO tb .shl (.one (.dt (.lit (.int k x)))) (.one (.dt (.lit (.int k' y)))) = (0 ≤ y) := rfl
theorem v_shl : binV .shl (.one (.dt (.lit (.int k x)))) (.one (.dt (.lit (.int k' y)))) = (.one (.dt (.lit (.int k (shl k x y))))) := rfl
theorem o_shr : binO tb .shr (.one (.dt (.lit (.int k x)))) (.one (.dt (.lit (.int k' y)))) = (0 ≤ y) := rfl
theorem v_shr : binV .shr (.one (.dt (.lit (.int k x)))) (.one (.dt (.lit (.int k' y)))) = (.one (.dt (.lit (.int k (shr k x y))))) := rfl
theorem o_eql : binO tb .eql (.one (.dt (.lit (.int k x)))) (.one (.dt (.lit (.int k' y)))) = (k = k') := rfl
theorem o_neq : binO tb .neq (.one (.dt (.lit (.int k x)))) (.one (.dt (.lit (.int k' y)))) = (k = k') := rfl
theorem v_eql : binV .eql (.one (.dt (.lit (.int k x)))) (.one (.dt (.lit (.int k' y)))) = (.one (.dt (.lit (.bool (decide (x = y)))))) := by
  show litV (.bool (x == y)) = _
  by_cases h : x = y <;> simp [h, litV]
theorem v_neq : binV .neq (.one (.dt (.lit (.int k x)))) (.one (.dt (.lit (.int k' y)))) = (.one (.dt (.lit (.bool (decide (¬ x = y)))))) := by
  show litV (.bool (x != y)) = _
  by_cases h : x = y <;> simp [h, litV]
theorem o_lss : binO tb .lss (.one (.dt (.lit (.int k x)))) (.one (.dt (.lit (.int k' y)))) = (k = k') := rfl
theorem v_lss : binV .lss (.one (.dt (.lit (.int k x)))) (.one (.dt (.lit (.int k' y)))) = (.one (.dt (.lit (.bool (decide (x < y)))))) := rfl
theorem o_leq : binO tb .leq (.one (.dt (.lit (.int k x)))) (.one (.dt (.lit (.int k' y)))) = (k = k') := rfl
theorem v_leq : binV .leq (.one (.dt (.lit (.int k x)))) (.one (.dt (.lit (.int k' y)))) = (.one (.dt (.lit (.bool (decide (x ≤ y)))))) := rfl
theorem o_gtr : binO tb .gtr (.one (.dt (.lit (.int k x)))) (.one (.dt (.lit (.int k' y)))) = (k = k') := rfl
theorem v_gtr : binV .gtr (.one (.dt (.lit (.int k x)))) (.one (.dt (.lit (.int k' y)))) = (.one (.dt (.lit (.bool (decide (y < x)))))) := rfl
theorem o_geq : binO tb .geq (.one (.dt (.lit (.int k x)))) (.one (.dt (.lit (.int k' y)))) = (k = k') := rfl
theorem v_geq : binV .geq (.one (.dt (.lit (.int k x)))) (.one (.dt (.lit (.int k' y)))) = (.one (.dt (.lit (.bool (decide (y ≤ x)))))) := rfl
theorem o_eqlb : binO tb .eql (.one (.dt (.lit (.bool b)))) (.one (.dt (.lit (.bool b')))) = (tb = true) := rfl
theorem o_neqb : binO tb .neq (.one (.dt (.lit (.bool b)))) (.one (.dt (.lit (.bool b')))) = (tb = true) := rfl
theorem v_eqlb : binV .eql (.one (.dt (.lit (.bool b)))) (.one (.dt (.lit (.bool b')))) = (.one (.dt (.lit (.bool (b == b'))))) := rfl
theorem v_neqb : binV .neq (.one (.dt (.lit (.bool b)))) (.one (.dt (.lit (.bool b')))) = (.one (.dt (.lit (.bool (!(b == b')))))) := rfl
theorem o_pick : pickO (.one (.dt (.lit (.bool b)))) = True := rfl
theorem v_pick (u v : AV) : pickV (.one (.dt (.lit (.bool b)))) u v = if b = true then u else v := rfl
theorem o_not : unO .not (.one (.dt (.lit (.bool b)))) = True := rfl
theorem v_not {p : Prop} [Decidable p] : unV .not (.one (.dt (.lit (.bool (decide p))))) = (.one (.dt (.lit (.bool (decide (¬p)))))) := by
  show litV (.bool (!decide p)) = _
  by_cases h : p <;> simp [h, litV]
theorem v_nott : unV .not (.one (.dt (.lit (.bool true)))) = (.one (.dt (.lit (.bool false)))) := rfl
theorem v_notf : unV .not (.one (.dt (.lit (.bool false)))) = (.one (.dt (.lit (.bool true)))) := rfl
theorem o_neg : unO .neg (.one (.dt (.lit (.int k x)))) = True := rfl
theorem v_neg : unV .neg (.one (.dt (.lit (.int k x)))) = (.one (.dt (.lit (.int k (k.wrap (0 - x)))))) := rfl
theorem o_cv : cvO (some k') (.one (.dt (.lit (.int k x)))) = True := rfl
theorem v_cv : cvV (some k') (.one (.dt (.lit (.int k x)))) = (.one (.dt (.lit (.int k' (k'.wrap x))))) := rfl
theorem as_b : asB (.one (.dt (.lit (.bool b)))) = some b := rfl
theorem cl_one (c : Ce) : cellsOf (.one c) = some [c] := rfl
theorem cl_agg (cs : List Ce) : cellsOf (.agg cs) = some cs := rfl
theorem ld_of (sz : Nat) (c : Ce) (cs : List Ce) : ldO false sz (some (c :: cs)) = True := by simp [ldO]
theorem ld_ot (sz : Nat) (cs : List Ce) : ldO true sz (some cs) = (sz ≤ cs.length) := rfl
theorem ld_vf (sz : Nat) (c : Ce) (cs : List Ce) : ldV false sz (some (c :: cs)) = .one c := rfl
theorem ld_vt (sz : Nat) (cs : List Ce) : ldV true sz (some cs) = .agg (cs.take sz) := rfl
theorem ac_ptr (y : Nat × Nat) (off : Nat) : acells s (.ptr y off) = (match s.v y with | some cs => some (cs.drop off) | none => none) := rfl
theorem ac_el (ds : List Dt) : acells s (.el ds) = some (ds.map .dt) := rfl
theorem ac_rel (r : Nat × Nat) (ver j : Nat) : acells s (.rel r ver j) = (match s.r r with | some row => if row.ver = ver then some ((row.cells.drop j).map .dt) else none | none => none) := rfl
theorem fo_ptr (o : Nat) (y : Nat × Nat) (off : Nat) : fldO s (some o) (.ptr y off) = True := rfl
theorem fo_el (o : Nat) (ds : List Dt) : fldO s (some o) (.el ds) = (o ≤ ds.length) := rfl
theorem fv_ptr (o : Nat) (y : Nat × Nat) (off : Nat) : fldV (some o) (.ptr y off) = .ptr y (off + o) := rfl
theorem fv_el (o : Nat) (ds : List Dt) : fldV (some o) (.el ds) = .el (ds.drop o) := rfl
theorem io_row (sz : Nat) (r : Nat × Nat) (ver : Nat) : idxO s sz (.one (.row r ver)) (.one (.dt (.lit (.int k x)))) = (match s.r r with | some row => row.ver = ver ∧ 0 ≤ x ∧ x < row.n | none => False) := rfl
theorem iv_row (sz : Nat) (r : Nat × Nat) (ver : Nat) : idxV sz (.one (.row r ver)) (.one (.dt (.lit (.int k x)))) = .rel r ver (x.toNat * sz) := rfl
theorem xo (rs : List RV) (j : Nat) : extO (.tup rs) j = (j < rs.length) := rfl
theorem xv (rs : List RV) (j : Nat) : extV (.tup rs) j = (match rs[j]? with | some r => r.toAV | none => .no) := rfl
theorem lo_z : lenO s (.one .z) = True := rfl
theorem lv_z : lenV s (.one .z) = (.one (.dt (.lit (.int .i64 0)))) := rfl
theorem lo_row (r : Nat × Nat) (ver : Nat) : lenO s (.one (.row r ver)) = (match s.r r with | some row => row.ver = ver | none => False) := rfl
theorem lv_row (r : Nat × Nat) (ver : Nat) : lenV s (.one (.row r ver)) = (match s.r r with | some row => (.one (.dt (.lit (.int .i64 row.n)))) | none => .no) := rfl
theorem mo : mxO (.one (.dt (.lit (.int k x)))) (.one (.dt (.lit (.int k' y)))) = (k = k') := rfl
theorem mv (f : Int → Int → Int) : mxV f (.one (.dt (.lit (.int k x)))) (.one (.dt (.lit (.int k' y)))) = (.one (.dt (.lit (.int k (f x y))))) := rfl
theorem st_ptr (cs : List Ce) (y : Nat × Nat) (off : Nat) : stO s cs (.ptr y off) = (match s.v y with | some cs0 => s.f y = false ∧ off + cs.length ≤ cs0.length | none => False) := rfl
theorem ss_ptr (cs : List Ce) (y : Nat × Nat) (off : Nat) : stS s cs (.ptr y off) = (match s.v y with | some cs0 => s.setv y (cs0.take off ++ cs ++ cs0.drop (off + cs.length)) | none => s) := rfl
theorem st_rel (d : Dt) (r : Nat × Nat) (ver j : Nat) : stO s [.dt d] (.rel r ver j) = (match s.r r with | some row => row.ver = ver ∧ row.live = true ∧ [Ce.dt d].length = 1 ∧ j < row.n * row.sz | none => False) := by
  simp only [stO, ceDs, ceD]
  cases s.r r <;> rfl
theorem ss_rel (d : Dt) (r : Nat × Nat) (ver j : Nat) : stS s [.dt d] (.rel r ver j) = (match s.r r with | some row => s.setr r { row with cells := row.cells.set j d } | none => s) := by
  simp only [stS, ceDs, ceD]
  cases s.r r <;> rfl
theorem td_dt (d : Dt) : toD s (.dt d) = some d := rfl
theorem td_z : toD s .z = some (.sl 0 []) := rfl
theorem td_row (r : Nat × Nat) (ver : Nat) : toD s (.row r ver) = (match s.r r with | some row => if row.ver = ver ∧ row.live = false then some (.sl row.n row.cells) else none | none => none) := rfl
theorem tds_nil : toDs s [] = some [] := rfl
theorem tds_cons (c : Ce) (cs : List Ce) : toDs s (c :: cs) = (match toD s c, toDs s cs with | some d, some ds => some (d :: ds) | _, _ => none) := rfl
theorem tr_one (c : Ce) : toRV s (.one c) = (toD s c).map .one := rfl
theorem tr_agg (cs : List Ce) : toRV s (.agg cs) = (toDs s cs).map .agg := rfl
theorem trs_nil : toRVs s [] = some [] := rfl
theorem trs_cons (u : AV) (us : List AV) : toRVs s (u :: us) = (match toRV s u, toRVs s us with | some r, some rs => some (r :: rs) | _, _ => none) := rfl
theorem ev_nil' : evs s [] = [] := rfl
theorem ev_cons (u : Operand) (us : List Operand) : evs s (u :: us) = s.ev u :: evs s us := rfl
theorem pr_nil : pairs s [] = [] := rfl
theorem pr_cons (i : Nat) (u : Operand) (us : List (Nat × Operand)) : pairs s ((i, u) :: us) = (i, s.ev u) :: pairs s us := rfl
theorem fl_nil (pl : Nat → Option (Nat × Nat)) (cells : List Ce) : fillA pl cells [] = some cells := rfl
theorem fl_cons (pl : Nat → Option (Nat × Nat)) (cells : List Ce) (i : Nat) (u : AV) (us : List (Nat × AV)) : fillA pl cells ((i, u) :: us) = (match pl i, cellsOf u with | some (off, size), some cs => if cs.length = size ∧ off + size ≤ cells.length then fillA pl (cells.take off ++ cs ++ cells.drop (off + size)) us else none | _, _ => none) := rfl
theorem cast0 : ((0 : Nat) : Int) = 0 := rfl
theorem ap_o (e : TypeId) (sz bytes m ver : Nat) (cells : List Dt) (r : Nat × Nat) : appO s e sz bytes (some (m, cells)) (.one (.row r ver)) = (match s.r r with | some row => row.ver = ver ∧ row.live = true ∧ row.e = e ∧ row.sz = sz ∧ cells.length = m * sz ∧ row.n + m ≤ 9223372036854775807 ∧ (row.n + m) * bytes ≤ 140737488355328 | none => False) := by
  simp only [appO]
  cases s.r r <;> rfl
theorem ap_s (d : Nat) (e : TypeId) (sz m ver : Nat) (cells : List Dt) (r : Nat × Nat) : appS s d e sz (some (m, cells)) (.one (.row r ver)) = (match s.r r with | some row => (s.setr r { row with n := row.n + m, cells := row.cells ++ cells, ver := ver + 1 }).set d (.one (.row r (ver + 1))) | none => s) := by
  simp only [appS]
  cases s.r r <;> rfl
theorem tn_p (i : Nat) : ((i : Int) + 1).toNat = i + 1 := by omega
theorem tn_m (i : Nat) : ((i : Int) - 1).toNat = i - 1 := by omega
theorem tn_a (i j : Nat) : ((i : Int) + (j : Int)).toNat = i + j := by omega
theorem castS (i : Nat) : ((i + 1 : Nat) : Int) = (i : Int) + 1 := rfl
theorem rs_nil (P : Program) : resRs P s [] [] = True := rfl
theorem rs_cons (P : Program) (u : ResultVar) (us : List ResultVar) (r : RV) (rs : List RV) : resRs P s (u :: us) (r :: rs) = (resR P s u r ∧ resRs P s us rs) := rfl
theorem rr_tmp (P : Program) (t : Nat) (r : RV) : resR P s (.tmp t) r = (toRV s (s.t t) = some r) := rfl
theorem rr_cell (P : Program) (t : Nat) (T : TypeId) (r : RV) : resR P s (.cell t T) r = (tok P T = true ∧ ldO (tagg P T) (tsz P T) (acells s (s.t t)) ∧ toRV s (ldV (tagg P T) (tsz P T) (acells s (s.t t))) = some r) := rfl
theorem f_ret (P : Program) (res : List ResultVar) (rs : List RV) (h : resRs P s res rs) : fend P res rs .ret s := ⟨[], h⟩
theorem f_retg (P : Program) (res : List ResultVar) (rs : List RV) (gs : List Gh) (h : ghs gs (fun s => resRs P s res rs) s) : fend P res rs .ret s := ⟨gs, h⟩
theorem f_nrm (P : Program) (res : List ResultVar) (rs : List RV) (h : resRs P s res rs) : fend P res rs .normal s := ⟨[], h⟩
theorem gh_frz (t : Nat) : ghE (.frz t) s = (match s.t t with | .one (.row r _) => s.freeze r | _ => s) := rfl
theorem gh_frzc (t i : Nat) : ghE (.frzc t i) s = (match s.t t with | .ptr xx _ => (match s.v xx with | some cs => frzC s cs[i]? | none => s) | _ => s) := rfl
theorem gh_frzv (t : Nat) : ghE (.frzv t) s = (match s.t t with | .ptr xx _ => (match s.v xx with | some _ => s.freezev xx | none => s) | .sv xx _ _ => (match s.v xx with | some _ => s.freezev xx | none => s) | _ => s) := rfl
theorem io_sv (sz : Nat) (xx : Nat × Nat) (off n : Nat) : idxO s sz (.sv xx off n) (.one (.dt (.lit (.int k x)))) = (sz = 1 ∧ 0 ≤ x ∧ x < n) := rfl
theorem iv_sv (sz : Nat) (xx : Nat × Nat) (off n : Nat) : idxV sz (.sv xx off n) (.one (.dt (.lit (.int k x)))) = .ptr xx (off + x.toNat) := rfl
theorem lo_sv (xx : Nat × Nat) (off n : Nat) : lenO s (.sv xx off n) = True := rfl
theorem lv_sv (xx : Nat × Nat) (off n : Nat) : lenV s (.sv xx off n) = (.one (.dt (.lit (.int .i64 n)))) := rfl
theorem cs_a (xx : Nat × Nat) (off n : Nat) : cutO 1 none (some (.one (.dt (.lit (.int k x))))) none (.sv xx off n) = (0 ≤ x ∧ x ≤ n) := by
  simp [cutO, bnd]
theorem cs_b (xx : Nat × Nat) (off n : Nat) : cutO 1 (some (.one (.dt (.lit (.int k x))))) (some (.one (.dt (.lit (.int k' y))))) none (.sv xx off n) = (0 ≤ x ∧ x ≤ y ∧ y ≤ n) := by
  simp [cutO, bnd]
theorem cs_c (xx : Nat × Nat) (off n : Nat) : cutV 1 none (some (.one (.dt (.lit (.int k x))))) (.sv xx off n) = .sv xx off x.toNat := by
  simp [cutV, bnd]
theorem cs_d (xx : Nat × Nat) (off n : Nat) : cutV 1 (some (.one (.dt (.lit (.int k x))))) (some (.one (.dt (.lit (.int k' y))))) (.sv xx off n) = .sv xx (off + x.toNat) (y.toNat - x.toNat) := by
  simp [cutV, bnd]
theorem tr_sv (xx : Nat × Nat) (off n : Nat) : toRV s (.sv xx off n) = (match s.v xx with | some cs => if s.f xx = true ∧ off + n ≤ cs.length then (ceDs cs).map fun ds => .one (.sl n ((ds.drop off).take n)) else none | none => none) := rfl
theorem f_retw (P : Program) (res : List ResultVar) (l' : List Int) (rs : List RV) (h : resRs P s res rs ∧ s.v (0, 0) = some (u32s l')) : fendW P res l' rs .ret s := h
theorem f_nrmw (P : Program) (res : List ResultVar) (l' : List Int) (rs : List RV) (h : resRs P s res rs ∧ s.v (0, 0) = some (u32s l')) : fendW P res l' rs .normal s := h
theorem f_reto (res : List ResultVar) (l : List Int) (t : Nat) (r : Nat × Nat) (ver : Nat) (row : Row) (h0 : res = [.tmp t]) (h1 : s.t t = .one (.row r ver)) (h2 : s.r r = some row) (h3 : row.ver = ver ∧ row.sz = 1 ∧ row.n = l.length ∧ row.cells = l.map (fun n => Dt.lit (.int .u32 n)) ∧ l ≠ []) : fendO res l .ret s := ⟨t, r, ver, row, h0, h1, h2, h3⟩
theorem six_o (b : ByteArray) : sixO (.one (.dt (.lit (.string b)))) (.one (.dt (.lit (.int k x)))) = (0 ≤ x ∧ x < b.size) := rfl
theorem six_v (b : ByteArray) : sixV (.one (.dt (.lit (.string b)))) (.one (.dt (.lit (.int k x)))) = (.one (.dt (.lit (.int .u8 (sbyte b x))))) := rfl
theorem xo_pr (cs : List Ce) (c : Ce) (j : Nat) : extO (.pr cs c) j = (j < 2) := rfl
theorem xv_pr0 (cs : List Ce) (c : Ce) : extV (.pr cs c) 0 = .agg cs := rfl
theorem xv_pr1 (cs : List Ce) (c : Ce) : extV (.pr cs c) 1 = .one c := rfl
theorem gh_nilt (t : Nat) (e : TypeId) (sz : Nat) : ghE (.nilt t e sz) s = ((s.setr (t, s.g t) ⟨e, sz, 0, [], 0, true⟩).bump t).set t (.one (.row (t, s.g t) 0)) := rfl
theorem gh_nilv (t i k : Nat) (e : TypeId) (sz : Nat) : ghE (.nilv t i k e sz) s = (match s.t t with | .ptr xx _ => (match s.v xx with | some cs => ((s.setr (k, s.g k) ⟨e, sz, 0, [], 0, true⟩).bump k).setv xx (cs.set i (.row (k, s.g k) 0)) | none => s) | _ => s) := rfl
theorem go_nilv (t i k : Nat) (e : TypeId) (sz : Nat) : ghO (.nilv t i k e sz) s = (match s.t t with | .ptr xx _ => s.f xx = false ∧ (match s.v xx with | some cs => cs[i]? = some .z | none => False) | _ => False) := rfl
theorem frzC_row (r : Nat × Nat) (v : Nat) : frzC s (some (.row r v)) = s.freeze r := rfl
theorem frzC_z : frzC s (some .z) = s := rfl
theorem frzC_dt (d : Dt) : frzC s (some (.dt d)) = s := rfl
theorem go_frz (t : Nat) : ghO (.frz t) s = True := rfl
theorem go_frzc (t i : Nat) : ghO (.frzc t i) s = True := rfl
theorem go_frzv (t : Nat) : ghO (.frzv t) s = True := rfl
theorem go_nilt (t : Nat) (e : TypeId) (sz : Nat) : ghO (.nilt t e sz) s = (match s.t t with | .one .z => True | _ => False) := rfl
end

/-! ### numbers -/
theorem wi64 {n : Int} (h : -9223372036854775808 ≤ n) (h' : n < 9223372036854775808) : IntKind.i64.wrap n = n := by rw [IntKind.wrap_i64]; omega
theorem wu64 {n : Int} (h : 0 ≤ n) (h' : n < 18446744073709551616) : IntKind.u64.wrap n = n := by rw [IntKind.wrap_u64]; omega
theorem and_m32 {n : Int} (h : 0 ≤ n) (h' : n < 18446744073709551616) : bits .and .u64 n 4294967295 = n % 4294967296 := by
  have := bits_mask .u64 64 (by decide) (fun n h1 h2 => wu64 h1 (by simpa using h2)) 32 (by decide) n h (by simpa using h')
  simpa using this
theorem shr_32 (n : Int) : shr .u64 n 32 = n / 4294967296 := by
  unfold shr
  rw [show (2 : Int) ^ (min (Int.toNat 32) IntKind.u64.bits) = 4294967296 from rfl, Int.fdiv_eq_ediv_of_nonneg _ (by decide)]
theorem shl_32 {n : Int} (h : 0 ≤ n) (h' : n < 4294967296) : shl .u64 n 32 = n * 4294967296 := by
  unfold shl
  rw [show (2 : Int) ^ (min (Int.toNat 32) IntKind.u64.bits) = 4294967296 from rfl, wu64 (by omega) (by omega)]
theorem or_hi {r a : Int} (h : 0 ≤ r) (h1 : r < 4294967296) (h2 : 0 ≤ a) (h3 : a < 4294967296) : bits .or .u64 (r * 4294967296) a = r * 4294967296 + a := by
  have := bits_join .u64 64 (by decide) (fun n h1 h2 => wu64 h1 (by simpa using h2)) 32 (r * 4294967296) a (by omega) (by simp) (by simp; omega) h2 (by simpa using h3) (by simp; omega)
  exact this
theorem td_nn {x y : Int} (h : 0 ≤ x) : x.tdiv y = x / y := Int.tdiv_eq_ediv_of_nonneg h
theorem tm_nn {x y : Int} (h : 0 ≤ x) : x.tmod y = x % y := Int.tmod_eq_emod_of_nonneg h
theorem wu32 {n : Int} (h : 0 ≤ n) (h' : n < 4294967296) : IntKind.u32.wrap n = n := by rw [IntKind.wrap_u32]; omega

/-! ### rows of data -/
section
variable {α : Type}
/-- a row of things, each of which is some cells -/
def rowC (f : α → List Dt) (l : List α) : List Dt := l.flatMap f
def rowD (f : α → List Dt) (l : List α) : Dt := .sl l.length (rowC f l)
variable {f : α → List Dt} {sz : Nat}
theorem rowC_len (hf : ∀ x, (f x).length = sz) (l : List α) : (rowC f l).length = l.length * sz := by
  unfold rowC
  induction l with
  | nil => simp
  | cons x l ih => simp [ih, hf, Nat.add_mul]; omega
theorem rowC_drop (hf : ∀ x, (f x).length = sz) (l : List α) (i : Nat) : (rowC f l).drop (i * sz) = rowC f (l.drop i) := by
  unfold rowC
  induction l generalizing i with
  | nil => simp
  | cons x l ih =>
    cases i with
    | zero => simp
    | succ i =>
      have e : (i + 1) * sz = sz + i * sz := by rw [Nat.add_mul]; omega
      rw [List.flatMap_cons, e, ← hf x, List.drop_append, hf x]
      simp [ih, hf]
theorem rowC_take (hf : ∀ x, (f x).length = sz) (l : List α) (i : Nat) : (rowC f l).take (i * sz) = rowC f (l.take i) := by
  unfold rowC
  induction l generalizing i with
  | nil => simp
  | cons x l ih =>
    cases i with
    | zero => simp
    | succ i =>
      have e : (i + 1) * sz = (f x).length + i * sz := by rw [Nat.add_mul, hf]; omega
      rw [List.flatMap_cons, e, List.take_append, List.take_succ_cons, List.flatMap_cons]
      have : (f x).take ((f x).length + i * sz) = f x := List.take_of_length_le (by omega)
      rw [this, Nat.add_sub_cancel_left, ih]
theorem rowC_at (hf : ∀ x, (f x).length = sz) (l : List α) (d0 : α) (i : Nat) (h : i < l.length) : ((rowC f l).drop (i * sz)).take sz = f (l.getD i d0) := by
  rw [rowC_drop hf]
  have hd : l.drop i = l[i] :: l.drop (i + 1) := List.drop_eq_getElem_cons h
  rw [hd]
  unfold rowC
  rw [List.flatMap_cons, List.take_append]
  have : (f l[i]).take sz = f l[i] := List.take_of_length_le (by rw [hf]; omega)
  rw [this, hf, Nat.sub_self, List.take_zero, List.append_nil]
  simp [List.getD_eq_getElem?_getD, h]
theorem io_rowD {s : AS} {k : IntKind} {x : Int} (hf : ∀ x, (f x).length = sz) (hz : 0 < sz) (l : List α) : idxO s sz (.one (.dt (rowD f l))) (.one (.dt (.lit (.int k x)))) = (0 ≤ x ∧ x < l.length) := by
  show (0 ≤ x ∧ x < (l.length : Int) ∧ (rowC f l).length = l.length * sz ∧ 0 < sz) = _
  simp [rowC_len hf, hz]
theorem iv_rowD {k : IntKind} {x : Int} (hf : ∀ x, (f x).length = sz) (l : List α) (d0 : α) (h : 0 ≤ x) (h' : x < l.length) : idxV sz (.one (.dt (rowD f l))) (.one (.dt (.lit (.int k x)))) = .el (f (l.getD x.toNat d0)) := by
  show AV.el (((rowC f l).drop (x.toNat * sz)).take sz) = _
  rw [rowC_at hf l d0 _ (by omega)]
theorem lo_rowD {s : AS} (l : List α) : lenO s (.one (.dt (rowD f l))) = True := rfl
theorem lv_rowD {s : AS} (l : List α) : lenV s (.one (.dt (rowD f l))) = .one (.dt (.lit (.int .i64 l.length))) := rfl
theorem rowD_nil : (Dt.sl 0 [] : Dt) = rowD f [] := rfl
theorem rowD_of (l : List α) (n : Nat) (h : n = l.length) : Dt.sl n (rowC f l) = rowD f l := by rw [h]; rfl
theorem rowC_app (l m : List α) : rowC f l ++ rowC f m = rowC f (l ++ m) := by unfold rowC; simp
/-- cuts of rows -/
def cutP (a b c : Option Int) (q : Prop) (n : Nat) : Prop := match a, b, c with
  | some i, some j, some m => (0 ≤ i ∧ i ≤ j ∧ j ≤ m ∧ m ≤ n) ∧ q
  | _, _, _ => False
theorem cp_some {i j m : Int} {q : Prop} {n : Nat} (h : 0 ≤ i) (h1 : i ≤ j) (h2 : j ≤ m) (h3 : m ≤ n) : cutP (some i) (some j) (some m) q n = q := by simp [cutP, h, h1, h2, h3]
def cutW (a b : Option Int) (l : List α) (f : α → List Dt) : AV := match a, b with
  | some i, some j => .one (.dt (.sl (j.toNat - i.toNat) (((rowC f l).take (j.toNat)).drop (i.toNat))))
  | _, _ => .no
theorem cut_p {lo hi mx : Option AV} (hf : ∀ x, (f x).length = 1) (l : List α) : cutO 1 lo hi mx (.one (.dt (rowD f l))) = cutP (bnd lo 0) (bnd hi l.length) (bnd mx l.length) (mx.isSome = true → hi.isSome = true) l.length := by
  show (match bnd lo 0, bnd hi l.length, bnd mx l.length with
    | some i, some j, some m => 0 ≤ i ∧ i ≤ j ∧ j ≤ m ∧ m ≤ (l.length : Int) ∧ (rowC f l).length = l.length * 1 ∧ (mx.isSome = true → hi.isSome = true)
    | _, _, _ => False) = _
  unfold cutP
  cases bnd lo 0 <;> cases bnd hi l.length <;> cases bnd mx l.length <;> simp [rowC_len hf, and_assoc]
theorem cut_w {lo hi : Option AV} (_hf : ∀ x, (f x).length = 1) (l : List α) : cutV 1 lo hi (.one (.dt (rowD f l))) = cutW (bnd lo 0) (bnd hi l.length) l f := by
  show (match bnd lo 0, bnd hi l.length with
    | some i, some j => AV.one (.dt (.sl (j.toNat - i.toNat) (((rowC f l).take (j.toNat * 1)).drop (i.toNat * 1))))
    | _, _ => .no) = _
  unfold cutW
  cases bnd lo 0 <;> cases bnd hi l.length <;> simp
theorem cut_y (hf : ∀ x, (f x).length = 1) (l : List α) {i j : Int} (h : 0 ≤ i) (h1 : i ≤ j) (h2 : j ≤ l.length) : cutW (some i) (some j) l f = .one (.dt (rowD f ((l.take j.toNat).drop i.toNat))) := by
  unfold cutW
  have e1 := rowC_take hf l j.toNat
  have e2 := rowC_drop hf (l.take j.toNat) i.toNat
  rw [Nat.mul_one] at e1 e2
  simp only [e1, e2]
  rw [rowD_of _ _ (by simp; omega)]
theorem bnd_n (d : Int) : bnd none d = some d := rfl
theorem bnd_s (k : IntKind) (i d : Int) : bnd (some (.one (.dt (.lit (.int k i))))) d = some i := rfl
end

/-- machine words -/
def u32c (n : Int) : List Dt := [.lit (.int .u32 n)]
def i64c (n : Int) : List Dt := [.lit (.int .i64 n)]
theorem u32c_len (n : Int) : (u32c n).length = 1 := rfl
theorem i64c_len (n : Int) : (i64c n).length = 1 := rfl
/-- a row of limbs, as data -/
def natD (l : List Int) : Dt := rowD u32c l
def natC (l : List Int) : List Dt := rowC u32c l
def natc (l : List Int) : List Dt := [natD l]
theorem natc_len (l : List Int) : (natc l).length = 1 := rfl
def intsD (l : List Int) : Dt := rowD i64c l
def intsC (l : List Int) : List Dt := rowC i64c l
def natsD (l : List (List Int)) : Dt := rowD natc l
def natsC (l : List (List Int)) : List Dt := rowC natc l
section
variable {s : AS} {k : IntKind} {x : Int}

theorem io_natD (l : List (Int)) (h : 0 ≤ x) (h' : x < l.length) : idxO s 1 (.one (.dt (natD l))) (.one (.dt (.lit (.int k x)))) = True := by
  rw [show natD l = rowD u32c l from rfl, io_rowD u32c_len (by decide) l]; simp [h, h']
theorem co_natD {lo hi mx : Option AV} (l : List (Int)) : cutO 1 lo hi mx (.one (.dt (natD l))) = cutP (bnd lo 0) (bnd hi l.length) (bnd mx l.length) (mx.isSome = true → hi.isSome = true) l.length := cut_p u32c_len l
theorem cv_natD {lo hi : Option AV} (l : List (Int)) : cutV 1 lo hi (.one (.dt (natD l))) = cutW (bnd lo 0) (bnd hi l.length) l u32c := cut_w u32c_len l
theorem cw_natD {i j : Int} (l : List (Int)) (h : 0 ≤ i) (h1 : i ≤ j) (h2 : j ≤ l.length) : cutW (some i) (some j) l u32c = .one (.dt (natD ((l.take j.toNat).drop i.toNat))) := cut_y u32c_len l h h1 h2
theorem iv_natD (l : List (Int)) (h : 0 ≤ x) (h' : x < l.length) : idxV 1 (.one (.dt (natD l))) (.one (.dt (.lit (.int k x)))) = .el (u32c (l.getD x.toNat 0)) := iv_rowD u32c_len l 0 h h'
theorem lo_natD (l : List (Int)) : lenO s (.one (.dt (natD l))) = True := rfl
theorem lv_natD (l : List (Int)) : lenV s (.one (.dt (natD l))) = (.one (.dt (.lit (.int .i64 l.length)))) := rfl
theorem nil_natD : (Dt.sl 0 [] : Dt) = natD [] := rfl
theorem of_natD (l : List (Int)) (n : Nat) (h : n = l.length) : Dt.sl n (natC l) = natD l := rowD_of l n h
theorem len_natC (l : List (Int)) : (natC l).length = l.length := by rw [show natC l = rowC u32c l from rfl, rowC_len u32c_len]; omega
theorem app_natC (l m : List (Int)) : natC l ++ natC m = natC (l ++ m) := rowC_app l m
theorem src_natD (l : List (Int)) : srcD s (.one (.dt (natD l))) = some (l.length, natC l) := rfl
theorem io_intsD (l : List (Int)) (h : 0 ≤ x) (h' : x < l.length) : idxO s 1 (.one (.dt (intsD l))) (.one (.dt (.lit (.int k x)))) = True := by
  rw [show intsD l = rowD i64c l from rfl, io_rowD i64c_len (by decide) l]; simp [h, h']
theorem co_intsD {lo hi mx : Option AV} (l : List (Int)) : cutO 1 lo hi mx (.one (.dt (intsD l))) = cutP (bnd lo 0) (bnd hi l.length) (bnd mx l.length) (mx.isSome = true → hi.isSome = true) l.length := cut_p i64c_len l
theorem cv_intsD {lo hi : Option AV} (l : List (Int)) : cutV 1 lo hi (.one (.dt (intsD l))) = cutW (bnd lo 0) (bnd hi l.length) l i64c := cut_w i64c_len l
theorem cw_intsD {i j : Int} (l : List (Int)) (h : 0 ≤ i) (h1 : i ≤ j) (h2 : j ≤ l.length) : cutW (some i) (some j) l i64c = .one (.dt (intsD ((l.take j.toNat).drop i.toNat))) := cut_y i64c_len l h h1 h2
theorem iv_intsD (l : List (Int)) (h : 0 ≤ x) (h' : x < l.length) : idxV 1 (.one (.dt (intsD l))) (.one (.dt (.lit (.int k x)))) = .el (i64c (l.getD x.toNat 0)) := iv_rowD i64c_len l 0 h h'
theorem lo_intsD (l : List (Int)) : lenO s (.one (.dt (intsD l))) = True := rfl
theorem lv_intsD (l : List (Int)) : lenV s (.one (.dt (intsD l))) = (.one (.dt (.lit (.int .i64 l.length)))) := rfl
theorem nil_intsD : (Dt.sl 0 [] : Dt) = intsD [] := rfl
theorem of_intsD (l : List (Int)) (n : Nat) (h : n = l.length) : Dt.sl n (intsC l) = intsD l := rowD_of l n h
theorem len_intsC (l : List (Int)) : (intsC l).length = l.length := by rw [show intsC l = rowC i64c l from rfl, rowC_len i64c_len]; omega
theorem app_intsC (l m : List (Int)) : intsC l ++ intsC m = intsC (l ++ m) := rowC_app l m
theorem src_intsD (l : List (Int)) : srcD s (.one (.dt (intsD l))) = some (l.length, intsC l) := rfl
theorem io_natsD (l : List (List Int)) (h : 0 ≤ x) (h' : x < l.length) : idxO s 1 (.one (.dt (natsD l))) (.one (.dt (.lit (.int k x)))) = True := by
  rw [show natsD l = rowD natc l from rfl, io_rowD natc_len (by decide) l]; simp [h, h']
theorem co_natsD {lo hi mx : Option AV} (l : List (List Int)) : cutO 1 lo hi mx (.one (.dt (natsD l))) = cutP (bnd lo 0) (bnd hi l.length) (bnd mx l.length) (mx.isSome = true → hi.isSome = true) l.length := cut_p natc_len l
theorem cv_natsD {lo hi : Option AV} (l : List (List Int)) : cutV 1 lo hi (.one (.dt (natsD l))) = cutW (bnd lo 0) (bnd hi l.length) l natc := cut_w natc_len l
theorem cw_natsD {i j : Int} (l : List (List Int)) (h : 0 ≤ i) (h1 : i ≤ j) (h2 : j ≤ l.length) : cutW (some i) (some j) l natc = .one (.dt (natsD ((l.take j.toNat).drop i.toNat))) := cut_y natc_len l h h1 h2
theorem iv_natsD (l : List (List Int)) (h : 0 ≤ x) (h' : x < l.length) : idxV 1 (.one (.dt (natsD l))) (.one (.dt (.lit (.int k x)))) = .el (natc (l.getD x.toNat [])) := iv_rowD natc_len l [] h h'
theorem lo_natsD (l : List (List Int)) : lenO s (.one (.dt (natsD l))) = True := rfl
theorem lv_natsD (l : List (List Int)) : lenV s (.one (.dt (natsD l))) = (.one (.dt (.lit (.int .i64 l.length)))) := rfl
theorem nil_natsD : (Dt.sl 0 [] : Dt) = natsD [] := rfl
theorem of_natsD (l : List (List Int)) (n : Nat) (h : n = l.length) : Dt.sl n (natsC l) = natsD l := rowD_of l n h
theorem len_natsC (l : List (List Int)) : (natsC l).length = l.length := by rw [show natsC l = rowC natc l from rfl, rowC_len natc_len]; omega
theorem app_natsC (l m : List (List Int)) : natsC l ++ natsC m = natsC (l ++ m) := rowC_app l m
theorem src_natsD (l : List (List Int)) : srcD s (.one (.dt (natsD l))) = some (l.length, natsC l) := rfl

theorem ac_u32 (n : Int) : acells s (.el (u32c n)) = some [.dt (.lit (.int .u32 n))] := rfl
theorem ac_i64 (n : Int) : acells s (.el (i64c n)) = some [.dt (.lit (.int .i64 n))] := rfl
theorem ac_nat (l : List Int) : acells s (.el (natc l)) = some [.dt (natD l)] := rfl
end
theorem natC_map (l : List Int) : natC l = l.map fun n => .lit (.int .u32 n) := by
  unfold natC rowC u32c
  induction l with
  | nil => rfl
  | cons x l ih => simp only [List.flatMap_cons, ih]; rfl
theorem natC_set (l : List Int) (i : Nat) (x : Int) : (natC l).set i (.lit (.int .u32 x)) = natC (l.set i x) := by simp only [natC_map, List.map_set]
theorem natC_copy (a b : List Int) (i : Nat) : (natC a).take i ++ (natC b).drop i = natC (a.take i ++ b.drop i) := by simp only [natC_map, List.map_append, List.map_take, List.map_drop]
theorem natC_get (l : List Int) (i : Nat) (h : i < l.length) : ((natC l).drop i).map Ce.dt = .dt (.lit (.int .u32 (l.getD i 0))) :: ((natC l).drop (i + 1)).map Ce.dt := by
  simp only [natC_map, ← List.map_drop]
  rw [List.drop_eq_getElem_cons h, List.map_cons, List.map_cons]
  simp [List.getD_eq_getElem?_getD, h]
theorem lo_rel (sz : Nat) (l : List Int) (i : Nat) (h : i < l.length) : ldO false sz (some (((natC l).drop i).map Ce.dt)) = True := by rw [natC_get l i h]; simp [ldO]
theorem lv_rel (sz : Nat) (l : List Int) (i : Nat) (h : i < l.length) : ldV false sz (some (((natC l).drop i).map Ce.dt)) = .one (.dt (.lit (.int .u32 (l.getD i 0)))) := by rw [natC_get l i h]; rfl
theorem mk_o {b : Nat} {z : Dt} {n m : Int} {k k' : IntKind} (h : 0 ≤ n) (h0 : n ≤ m) (h' : (b : Int) * m ≤ 281474976710656) (h2 : m ≤ 9223372036854775807) : mkO b (some [.dt z]) (.one (.dt (.lit (.int k n)))) (.one (.dt (.lit (.int k' m)))) = True := by
  simp [mkO, h, h0, h', h2, ceDs, ceD]
theorem mk_s {s : AS} {k : IntKind} (d : Nat) (e : TypeId) (n : Int) : mkS s d e (some [.dt (.lit (.int .u32 0))]) (.one (.dt (.lit (.int k n)))) = ((s.setr (d, s.g d) ⟨e, 1, n.toNat, natC (List.replicate n.toNat 0), 0, true⟩).bump d).set d (.one (.row (d, s.g d) 0)) := by
  simp [mkS, ceDs, ceD, natC_map]
theorem cp_o {s : AS} (m ver : Nat) (cells : List Dt) (r : Nat × Nat) : cpO s (some (m, cells)) (.one (.row r ver)) = (match s.r r with | some row => row.ver = ver ∧ row.live = true ∧ row.sz = 1 ∧ cells.length = m | none => False) := by
  simp only [cpO]
  cases s.r r <;> rfl
theorem cp_s {s : AS} (d : Option Nat) (m ver : Nat) (cells : List Dt) (r : Nat × Nat) : cpS s d (some (m, cells)) (.one (.row r ver)) = (match s.r r with | some row => (s.setr r { row with cells := cells.take (min m row.n) ++ row.cells.drop (min m row.n) }).put d (litV (.int .i64 (min m row.n : Nat))) | none => s) := by
  simp only [cpS]
  cases s.r r <;> rfl
theorem natC_rep (n : Nat) : List.replicate n (Dt.lit (.int .u32 0)) = natC (List.replicate n 0) := by simp only [natC_map, List.map_replicate]
theorem natC_drop (l : List Int) (i : Nat) (h : i < l.length) : (natC l).drop i = .lit (.int .u32 (l.getD i 0)) :: natC (l.drop (i + 1)) := by
  simp only [natC_map, ← List.map_drop]
  rw [List.drop_eq_getElem_cons h, List.map_cons]
  simp [List.getD_eq_getElem?_getD, h]
theorem intsC_map (l : List Int) : intsC l = l.map fun n => .lit (.int .i64 n) := by
  unfold intsC rowC i64c
  induction l with
  | nil => rfl
  | cons x l ih => simp only [List.flatMap_cons, ih]; rfl
theorem natC_app1 (l : List Int) (x : Int) : natC l ++ [.lit (.int .u32 x)] = natC (l ++ [x]) := by unfold natC rowC u32c; simp
theorem intsC_app1 (l : List Int) (x : Int) : intsC l ++ [.lit (.int .i64 x)] = intsC (l ++ [x]) := by unfold intsC rowC i64c; simp
theorem natsC_app1 (l : List (List Int)) (x : List Int) : natsC l ++ [natD x] = natsC (l ++ [x]) := by unfold natsC rowC natc; simp
theorem u32s_nat (l : List Int) : u32s l = (natC l).map Ce.dt := by simp only [u32s, natC_map, List.map_map]; rfl
theorem us_len (l : List Int) : (u32s l).length = l.length := by simp [u32s]
theorem us_ds (l : List Int) : ceDs (u32s l) = some (natC l) := by
  rw [u32s_nat]
  induction natC l with
  | nil => rfl
  | cons d ds ih => simp only [List.map_cons, ceDs, ceD, ih]
theorem us_lo (sz : Nat) (l : List Int) (i : Nat) (h : i < l.length) : ldO false sz (some ((u32s l).drop i)) = True := by rw [u32s_nat, ← List.map_drop]; exact lo_rel sz l i h
theorem us_lv (sz : Nat) (l : List Int) (i : Nat) (h : i < l.length) : ldV false sz (some ((u32s l).drop i)) = .one (.dt (.lit (.int .u32 (l.getD i 0)))) := by rw [u32s_nat, ← List.map_drop]; exact lv_rel sz l i h
theorem us_set (l : List Int) (i : Nat) (x : Int) (h : i < l.length) : (u32s l).take i ++ [.dt (.lit (.int .u32 x))] ++ (u32s l).drop (i + 1) = u32s (l.set i x) := by
  unfold u32s
  rw [List.map_set, List.set_eq_take_append_cons_drop, if_pos (by simpa using h)]
  simp
theorem us_cut (l : List Int) (o n : Nat) : ((natC l).drop o).take n = natC ((l.drop o).take n) := by simp only [natC_map, List.map_drop, List.map_take]
theorem natC_nil : natC [] = [] := rfl
theorem intsC_nil : intsC [] = [] := rfl
theorem intsC_set (l : List Int) (i : Nat) (x : Int) : (intsC l).set i (.lit (.int .i64 x)) = intsC (l.set i x) := by simp only [intsC_map, List.map_set]
theorem i64s_ints (l : List Int) : i64s l = intsC l := (intsC_map l).symm
theorem natsC_nil : natsC [] = [] := rfl
theorem natsC_map (l : List (List Int)) : natsC l = l.map natD := by
  unfold natsC rowC natc
  induction l with
  | nil => rfl
  | cons x l ih => simp only [List.flatMap_cons, ih]; rfl

theorem W : (∀ {s : AS} (t : Nat), s.ev (.tmp t) = s.t t) ∧
  (∀ {s : AS} (k : IntKind) (n : Int), s.ev (.const (.int k n)) = .one (.dt (.lit (.int k n)))) ∧
  (∀ {s : AS} (b : Bool), s.ev (.const (.bool b)) = .one (.dt (.lit (.bool b)))) ∧
  (∀ {s : AS} (b : ByteArray), s.ev (.const (.string b)) = .one (.dt (.lit (.string b)))) ∧
  (∀ {s : AS}, s.ev (.const (.slice none 0 0)) = .one .z) ∧
  (∀ {s : AS} (d n : Nat) (x : AV), (s.set d x).t n = if n = d then x else s.t n) ∧
  (∀ {s : AS} (d : Nat) (x : AV), (s.set d x).v = s.v) ∧
  (∀ {s : AS} (d : Nat) (x : AV), (s.set d x).r = s.r) ∧
  (∀ {s : AS} (d : Nat) (x : AV), (s.set d x).g = s.g) ∧
  (∀ {s : AS} (d : Nat) (x : AV), (s.set d x).f = s.f) ∧
  (∀ {s : AS} (y : Nat × Nat) (cs : List Ce), (s.setv y cs).t = s.t) ∧
  (∀ {s : AS} (y z : Nat × Nat) (cs : List Ce), (s.setv y cs).v z = if z = y then some cs else s.v z) ∧
  (∀ {s : AS} (y : Nat × Nat) (cs : List Ce), (s.setv y cs).r = s.r) ∧
  (∀ {s : AS} (y : Nat × Nat) (cs : List Ce), (s.setv y cs).g = s.g) ∧
  (∀ {s : AS} (y : Nat × Nat) (cs : List Ce), (s.setv y cs).f = s.f) ∧
  (∀ {s : AS} (y : Nat × Nat) (row : Row), (s.setr y row).t = s.t) ∧
  (∀ {s : AS} (y : Nat × Nat) (row : Row), (s.setr y row).v = s.v) ∧
  (∀ {s : AS} (y z : Nat × Nat) (row : Row), (s.setr y row).r z = if z = y then some row else s.r z) ∧
  (∀ {s : AS} (y : Nat × Nat) (row : Row), (s.setr y row).g = s.g) ∧
  (∀ {s : AS} (y : Nat × Nat) (row : Row), (s.setr y row).f = s.f) ∧
  (∀ {s : AS} (d : Nat), (s.bump d).t = s.t) ∧
  (∀ {s : AS} (d : Nat), (s.bump d).v = s.v) ∧
  (∀ {s : AS} (d : Nat), (s.bump d).r = s.r) ∧
  (∀ {s : AS} (d n : Nat), (s.bump d).g n = if n = d then s.g n + 1 else s.g n) ∧
  (∀ {s : AS} (d : Nat), (s.bump d).f = s.f) ∧
  (∀ {s : AS} (y : Nat × Nat), (s.freeze y).t = s.t) ∧
  (∀ {s : AS} (y : Nat × Nat), (s.freeze y).v = s.v) ∧
  (∀ {s : AS} (y z : Nat × Nat), (s.freeze y).r z = if z = y then (s.r z).map (fun row => { row with live := false }) else s.r z) ∧
  (∀ {s : AS} (y : Nat × Nat), (s.freeze y).g = s.g) ∧
  (∀ {s : AS} (y : Nat × Nat), (s.freeze y).f = s.f) ∧
  (∀ {s : AS} (y : Nat × Nat), (s.freezev y).t = s.t) ∧
  (∀ {s : AS} (y : Nat × Nat), (s.freezev y).v = s.v) ∧
  (∀ {s : AS} (y : Nat × Nat), (s.freezev y).r = s.r) ∧
  (∀ {s : AS} (y : Nat × Nat), (s.freezev y).g = s.g) ∧
  (∀ {s : AS} (y z : Nat × Nat), (s.freezev y).f z = if z = y then true else s.f z) ∧
  (∀ {s : AS} (d : Nat) (x : AV), s.put (some d) x = s.set d x) ∧
  (∀ {s : AS} (x : AV), s.put none x = s) ∧
  (∀ (r : RV) (rs : List RV), (start (r :: rs)).t 0 = r.toAV) ∧
  (∀ (r r1 : RV) (rs : List RV), (start (r :: r1 :: rs)).t 1 = r1.toAV) ∧
  (∀ (r r1 r2 : RV) (rs : List RV), (start (r :: r1 :: r2 :: rs)).t 2 = r2.toAV) ∧
  (∀ (r r1 r2 r3 : RV) (rs : List RV), (start (r :: r1 :: r2 :: r3 :: rs)).t 3 = r3.toAV) ∧
  (∀ (r r1 r2 r3 r4 : RV) (rs : List RV), (start (r :: r1 :: r2 :: r3 :: r4 :: rs)).t 4 = r4.toAV) ∧
  (∀ (rs : List RV), (start rs).v = fun _ => none) ∧
  (∀ (rs : List RV), (start rs).r = fun _ => none) ∧
  (∀ (rs : List RV), (start rs).g = fun _ => 0) ∧
  (∀ (rs : List RV), (start rs).f = fun _ => false) ∧
  (∀ (l : List Int) (off n : Nat) (rs : List RV), (startw l off n rs).t 0 = .sv (0, 0) off n) ∧
  (∀ (l : List Int) (off n : Nat) (r : RV) (rs : List RV), (startw l off n (r :: rs)).t 1 = r.toAV) ∧
  (∀ (l : List Int) (off n : Nat) (r r1 : RV) (rs : List RV), (startw l off n (r :: r1 :: rs)).t 2 = r1.toAV) ∧
  (∀ (l : List Int) (off n : Nat) (r r1 r2 : RV) (rs : List RV), (startw l off n (r :: r1 :: r2 :: rs)).t 3 = r2.toAV) ∧
  (∀ (l : List Int) (off n : Nat) (rs : List RV) (y : Nat × Nat), (startw l off n rs).v y = if y = (0, 0) then some (u32s l) else none) ∧
  (∀ (l : List Int) (off n : Nat) (rs : List RV), (startw l off n rs).r = fun _ => none) ∧
  (∀ (l : List Int) (off n : Nat) (rs : List RV) (d : Nat), (startw l off n rs).g d = if d = 0 then 1 else 0) ∧
  (∀ (l : List Int) (off n : Nat) (rs : List RV), (startw l off n rs).f = fun _ => false) ∧
  (∀ (d : Dt), RV.toAV (.one d) = .one (.dt d)) ∧
  (∀ (ds : List Dt), RV.toAV (.agg ds) = .agg (ds.map .dt)) ∧
  (∀ (r : RV), resAV [r] = r.toAV) ∧
  (resAV [] = .tup []) ∧
  (∀ (r r1 : RV) (rs : List RV), resAV (r :: r1 :: rs) = .tup (r :: r1 :: rs)) ∧
  (∀ {P : Program} {K : AEx → AS → Prop} {s : AS}, awp P .skip K s = K .normal s) ∧
  (∀ {P : Program} {K : AEx → AS → Prop} {s : AS} (l : List AO), awp P (.reg l) K s = aops P true l (K .normal) s) ∧
  (∀ {P : Program} {K : AEx → AS → Prop} {s : AS} (l : List AO), awp P (.dreg l) K s = aops P false l (K .normal) s) ∧
  (∀ {P : Program} {K : AEx → AS → Prop} {s : AS} (gs : List Gh), awp P (.gh gs) K s = ghs gs (K .normal) s) ∧
  (∀ {P : Program} {K : AEx → AS → Prop} {s : AS} (x y : AC), awp P (.seq x y) K s = awp P x (AEx.then (awp P y K) K) s) ∧
  (∀ {P : Program} {K : AEx → AS → Prop} {s : AS} (id : Nat) (x : AC), awp P (.block id x) K s = awp P x (AEx.blk id K) s) ∧
  (∀ {P : Program} {K : AEx → AS → Prop} {s : AS} (id : Nat), awp P (.exit id) K s = K (.exit id) s) ∧
  (∀ {P : Program} {K : AEx → AS → Prop} {s : AS}, awp P .ret K s = K .ret s) ∧
  (∀ {K : AEx → AS → Prop} {s : AS} (y : AS → Prop), AEx.then y K .normal s = y s) ∧
  (∀ {K : AEx → AS → Prop} {s : AS} (y : AS → Prop) (id : Nat), AEx.then y K (.exit id) s = K (.exit id) s) ∧
  (∀ {K : AEx → AS → Prop} {s : AS} (y : AS → Prop), AEx.then y K .ret s = K .ret s) ∧
  (∀ {K : AEx → AS → Prop} {s : AS} (id : Nat), AEx.blk id K .normal s = K .normal s) ∧
  (∀ {K : AEx → AS → Prop} {s : AS} (id i : Nat), AEx.blk id K (.exit i) s = if i = id then K .normal s else K (.exit i) s) ∧
  (∀ {K : AEx → AS → Prop} {s : AS} (id : Nat), AEx.blk id K .ret s = K .ret s) ∧
  (∀ {P : Program} {K : AEx → AS → Prop} {s : AS} (c : Operand) (x y : AC), awp P (.cond c x y) K s = condA P (asB (s.ev c)) x y K s) ∧
  (∀ {P : Program} {K : AEx → AS → Prop} {s : AS} (x y : AC), condA P (some true) x y K s = awp P x K s) ∧
  (∀ {P : Program} {K : AEx → AS → Prop} {s : AS} (x y : AC), condA P (some false) x y K s = awp P y K s) ∧
  (∀ {Q : AS → Prop} {s : AS}, ghs [] Q s = Q s) ∧
  (∀ {Q : AS → Prop} {s : AS} (g : Gh) (gs : List Gh), ghs (g :: gs) Q s = (ghO g s ∧ ghs gs Q (ghE g s))) ∧
  (∀ {P : Program} {fl : Bool} {Q : AS → Prop} {s : AS}, aops P fl [] Q s = Q s) ∧
  (∀ {P : Program} {fl : Bool} {Q : AS → Prop} {s : AS} {os : List AO} (d : Option Nat) (x : Operand), aops P fl (⟨d, .move x, none⟩ :: os) Q s = aops P fl os Q (s.put d (s.ev x))) ∧
  (∀ {P : Program} {fl : Bool} {Q : AS → Prop} {s : AS} {os : List AO} (d : Option Nat) (x : Operand), aops P fl (⟨d, .assign x, none⟩ :: os) Q s = aops P fl os Q (s.put d (s.ev x))) ∧
  (∀ {P : Program} {fl : Bool} {Q : AS → Prop} {s : AS} {os : List AO} (d : Option Nat) (c x y : Operand), aops P fl (⟨d, .pick c x y, none⟩ :: os) Q s = (pickO (s.ev c) ∧ aops P fl os Q (s.put d (pickV (s.ev c) (s.ev x) (s.ev y))))) ∧
  (∀ {P : Program} {fl : Bool} {Q : AS → Prop} {s : AS} {os : List AO} (d : Nat) (T : TypeId), aops P fl (⟨some d, .alloc T, none⟩ :: os) Q s = (match zeros P T with
    | some cs => aops P fl os Q (((s.setv (d, s.g d) cs).bump d).set d (.ptr (d, s.g d) 0))
    | none => False)) ∧
  (∀ {P : Program} {fl : Bool} {Q : AS → Prop} {s : AS} {os : List AO} (d : Nat) (T : TypeId) (x : Operand), aops P fl (⟨some d, .box T x, none⟩ :: os) Q s = (match cellsOf (s.ev x) with
    | some cs => aops P fl os Q (((s.setv (d, s.g d) cs).bump d).set d (.ptr (d, s.g d) 0))
    | none => False)) ∧
  (∀ {P : Program} {fl : Bool} {Q : AS → Prop} {s : AS} {os : List AO} (d : Option Nat) (T : TypeId) (parts : Array (Nat × Operand)), aops P fl (⟨d, .build T parts, none⟩ :: os) Q s = (match zeros P T with
    | some cs => (tplaces P T).isSome = true ∧ match fillA (tplace P T) cs (pairs s parts.toList) with
      | some cells => aops P fl os Q (s.put d (.agg cells))
      | none => False
    | none => False)) ∧
  (∀ {P : Program} {fl : Bool} {Q : AS → Prop} {s : AS} {os : List AO} (d : Nat) (T : TypeId) (n : Nat) (parts : Array (Nat × Operand)), aops P fl (⟨some d, .buildSlice T n parts, none⟩ :: os) Q s = (match telem P T with
    | some e => (tok P e = true ∧ n * tsz P e ≤ 16777216 ∧ if n = 0 then parts.size = 0 ∧ aops P fl os Q (((s.setr (d, s.g d) ⟨e, tsz P e, 0, [], 0, true⟩).bump d).set d (.one (.row (d, s.g d) 0))) else
      match bslC s (tsz P e) n (zeros P e) parts.toList with
      | some ds => ((zeros P e).map List.length = some (tsz P e) ∧ 0 < tsz P e) ∧ aops P fl os Q (s.set d (.one (.dt (.sl n ds))))
      | none => False)
    | none => False)) ∧
  (∀ {P : Program} {fl : Bool} {Q : AS → Prop} {s : AS} {os : List AO} (d : Option Nat) (T : TypeId) (x : Operand), aops P fl (⟨d, .load T x, none⟩ :: os) Q s = ((tok P T = true ∧ ldO (tagg P T) (tsz P T) (acells s (s.ev x))) ∧ aops P fl os Q (s.put d (ldV (tagg P T) (tsz P T) (acells s (s.ev x)))))) ∧
  (∀ {P : Program} {fl : Bool} {Q : AS → Prop} {s : AS} {os : List AO} (d : Option Nat) (T : TypeId) (x y : Operand), aops P fl (⟨d, .store T x y, none⟩ :: os) Q s = (tok P T = true ∧ match cellsOf (s.ev y) with
    | some cs => (cs.length = tsz P T ∧ stO s cs (s.ev x)) ∧ aops P fl os Q ((stS s cs (s.ev x)).put d .no)
    | none => False)) ∧
  (∀ {P : Program} {fl : Bool} {Q : AS → Prop} {s : AS} {os : List AO} (d : Option Nat) (op : BinOp) (T T' : TypeId) (x y : Operand), aops P fl (⟨d, .binOp op T x y T', none⟩ :: os) Q s = (binO (tbool P T) op (s.ev x) (s.ev y) ∧ aops P fl os Q (s.put d (binV op (s.ev x) (s.ev y))))) ∧
  (∀ {P : Program} {fl : Bool} {Q : AS → Prop} {s : AS} {os : List AO} (d : Option Nat) (op : UnOp) (T : TypeId) (x : Operand), aops P fl (⟨d, .unOp op T x, none⟩ :: os) Q s = (unO op (s.ev x) ∧ aops P fl os Q (s.put d (unV op (s.ev x))))) ∧
  (∀ {P : Program} {fl : Bool} {Q : AS → Prop} {s : AS} {os : List AO} (d : Option Nat) (T : TypeId) (x i : Operand), aops P fl (⟨d, .index T x i, none⟩ :: os) Q s = ((tstr P T = true ∧ sixO (s.ev x) (s.ev i)) ∧ aops P fl os Q (s.put d (sixV (s.ev x) (s.ev i))))) ∧
  (∀ {P : Program} {fl : Bool} {Q : AS → Prop} {s : AS} {os : List AO} (d : Option Nat) (T T' : TypeId) (x : Operand), aops P fl (⟨d, .convert T T' x, none⟩ :: os) Q s = (((P.underlying T).isSome = true ∧ cvO (tint P T') (s.ev x)) ∧ aops P fl os Q (s.put d (cvV (tint P T') (s.ev x))))) ∧
  (∀ {P : Program} {fl : Bool} {Q : AS → Prop} {s : AS} {os : List AO} (d : Nat) (T : TypeId) (l c : Operand), aops P fl (⟨some d, .makeSlice T l c, none⟩ :: os) Q s = (match telem P T with
    | some e => (tok P e = true ∧ tsz P e = 1 ∧ mkO (tbytes P e) (zeros P e) (s.ev l) (s.ev c)) ∧ aops P fl os Q (mkS s d e (zeros P e) (s.ev l))
    | none => False)) ∧
  (∀ {P : Program} {fl : Bool} {Q : AS → Prop} {s : AS} {os : List AO} (d : Option Nat) (T : TypeId) (x : Operand) (lo hi mx : Option Operand), aops P fl (⟨d, .slice T x lo hi mx, none⟩ :: os) Q s = (match telem P T with
    | some e => (tok P e = true ∧ cutO (tsz P e) (lo.map s.ev) (hi.map s.ev) (mx.map s.ev) (s.ev x)) ∧ aops P fl os Q (s.put d (cutV (tsz P e) (lo.map s.ev) (hi.map s.ev) (s.ev x)))
    | none => match tarr P T with
      | some (n, e) => (tok P e = true ∧ acutO s (tsz P e) n (lo.map s.ev) (hi.map s.ev) (mx.map s.ev) (s.ev x)) ∧ aops P fl os Q (s.put d (acutV s (tsz P e) n (lo.map s.ev) (hi.map s.ev) (s.ev x)))
      | none => False)) ∧
  (∀ {P : Program} {fl : Bool} {Q : AS → Prop} {s : AS} {os : List AO} (d : Option Nat) (T : TypeId) (x : Operand) (f : Nat), aops P fl (⟨d, .fieldAddr T x f, none⟩ :: os) Q s = (fldO s (foff P T f) (s.ev x) ∧ aops P fl os Q (s.put d (fldV (foff P T f) (s.ev x))))) ∧
  (∀ {P : Program} {fl : Bool} {Q : AS → Prop} {s : AS} {os : List AO} (d : Option Nat) (T : TypeId) (x i : Operand), aops P fl (⟨d, .indexAddr T x i, none⟩ :: os) Q s = (match telem P T with
    | some e => (tok P e = true ∧ idxO s (tsz P e) (s.ev x) (s.ev i)) ∧ aops P fl os Q (s.put d (idxV (tsz P e) (s.ev x) (s.ev i)))
    | none => match tarr P T with
      | some (n, e) => (tok P e = true ∧ arrO n (s.ev x) (s.ev i)) ∧ aops P fl os Q (s.put d (arrV (tsz P e) (s.ev x) (s.ev i)))
      | none => False)) ∧
  (∀ {P : Program} {fl : Bool} {Q : AS → Prop} {s : AS} {os : List AO} (d : Option Nat) (x : Operand) (j : Nat), aops P fl (⟨d, .extract x j, none⟩ :: os) Q s = (extO (s.ev x) j ∧ aops P fl os Q (s.put d (extV (s.ev x) j)))) ∧
  (∀ {P : Program} {fl : Bool} {Q : AS → Prop} {s : AS} {os : List AO} (d : Option Nat) (x : Operand) (T : TypeId), aops P fl (⟨d, .call ⟨.builtin .len, #[x], #[T]⟩, none⟩ :: os) Q s = (((telem P T).isSome = true ∧ lenO s (s.ev x)) ∧ aops P fl os Q (s.put d (lenV s (s.ev x))))) ∧
  (∀ {P : Program} {fl : Bool} {Q : AS → Prop} {s : AS} {os : List AO} (d : Option Nat) (x y : Operand) (Ts : Array TypeId), aops P fl (⟨d, .call ⟨.builtin .max, #[x, y], Ts⟩, none⟩ :: os) Q s = (mxO (s.ev x) (s.ev y) ∧ aops P fl os Q (s.put d (mxV (fun x y => if y > x then y else x) (s.ev x) (s.ev y))))) ∧
  (∀ {P : Program} {fl : Bool} {Q : AS → Prop} {s : AS} {os : List AO} (d : Option Nat) (x y : Operand) (Ts : Array TypeId), aops P fl (⟨d, .call ⟨.builtin .min, #[x, y], Ts⟩, none⟩ :: os) Q s = (mxO (s.ev x) (s.ev y) ∧ aops P fl os Q (s.put d (mxV (fun x y => if y < x then y else x) (s.ev x) (s.ev y))))) ∧
  (∀ {P : Program} {fl : Bool} {Q : AS → Prop} {s : AS} {os : List AO} (d : Nat) (x y : Operand) (T : TypeId), aops P fl (⟨some d, .call ⟨.builtin .append, #[x, y], #[T, T]⟩, none⟩ :: os) Q s = (match telem P T with
    | some e => (tok P e = true ∧ 0 < tsz P e ∧ (tzero P e).map List.length = some (tsz P e) ∧ appO s e (tsz P e) (tbytes P e) (srcD s (s.ev y)) (s.ev x)) ∧ aops P fl os Q (appS s d e (tsz P e) (srcD s (s.ev y)) (s.ev x))
    | none => False)) ∧
  (∀ {P : Program} {fl : Bool} {Q : AS → Prop} {s : AS} {os : List AO} (d : Option Nat) (x y : Operand) (T T' : TypeId), aops P fl (⟨d, .call ⟨.builtin .copy, #[x, y], #[T, T']⟩, none⟩ :: os) Q s = ((match telem P T with
    | some e => tok P e = true ∧ tsz P e = 1 ∧ cpO s (srcD s (s.ev y)) (s.ev x)
    | none => False) ∧ aops P fl os Q (cpS s d (srcD s (s.ev y)) (s.ev x)))) ∧
  (∀ {P : Program} {fl : Bool} {Q : AS → Prop} {s : AS} {os : List AO} (d : Option Nat) (op : Op) (t : Nat) (want : Bool), aops P fl (⟨d, op, some (t, want)⟩ :: os) Q s = guardA P fl (asB (s.t t)) want d op os Q s) ∧
  (∀ {P : Program} {fl : Bool} {Q : AS → Prop} {s : AS} {os : List AO} (d : Option Nat) (op : Op), guardA P fl (some true) true d op os Q s = aops P fl (⟨d, op, none⟩ :: os) Q s) ∧
  (∀ {P : Program} {fl : Bool} {Q : AS → Prop} {s : AS} {os : List AO} (d : Option Nat) (op : Op), guardA P fl (some false) false d op os Q s = aops P fl (⟨d, op, none⟩ :: os) Q s) ∧
  (∀ {P : Program} {fl : Bool} {Q : AS → Prop} {s : AS} {os : List AO} (d : Option Nat) (op : Op), guardA P fl (some true) false d op os Q s = aops P fl os Q (s.put d .no)) ∧
  (∀ {P : Program} {fl : Bool} {Q : AS → Prop} {s : AS} {os : List AO} (d : Option Nat) (op : Op), guardA P fl (some false) true d op os Q s = aops P fl os Q (s.put d .no)) :=
  ⟨@ev_t, @ev_int, @ev_bool, @ev_str, @ev_nil, @set_t, @set_v, @set_r, @set_g, @set_f, @setv_t, @setv_v, @setv_r, @setv_g, @setv_f, @setr_t, @setr_v, @setr_r, @setr_g, @setr_f, @bump_t, @bump_v, @bump_r, @bump_g, @bump_f, @frz_t, @frz_v, @frz_r, @frz_g, @frz_f, @frzv_t, @frzv_v, @frzv_r, @frzv_g, @frzv_f, @put_some, @put_none, @start_t0, @start_t1, @start_t2, @start_t3, @start_t4, @start_v, @start_r, @start_g, @start_f, @startw_t0, @startw_t1, @startw_t2, @startw_t3, @startw_v, @startw_r, @startw_g, @startw_f, @rv_one, @rv_agg, @res_one, @res_nil, @res_two, @w_skip, @w_reg, @w_dreg, @w_gh, @w_seq, @w_block, @w_exit, @w_ret, @t_n, @t_e, @t_r, @b_n, @b_e, @b_r, @w_cnd, @c_t, @c_f, @g_nil, @g_cons, @a_nil, @a_move, @a_assign, @a_pick, @a_alloc, @a_box, @a_build, @a_bsl, @a_load, @a_store, @a_bin, @a_un, @a_six, @a_conv, @a_make, @a_slice, @a_fld, @a_idx, @a_ext, @a_len, @a_max, @a_min, @a_append, @a_copy, @a_grd, @g_tt, @g_ff, @g_tf, @g_ft⟩
theorem V : (∀ {s : AS} (n : Nat) (cells : List Dt), srcD s (.one (.dt (.sl n cells))) = some (n, cells)) ∧
  (ceDs [] = some []) ∧
  (∀ (c : Ce) (cs : List Ce), ceDs (c :: cs) = (match ceD c, ceDs cs with | some d, some ds => some (d :: ds) | _, _ => none)) ∧
  (∀ (d : Dt), ceD (.dt d) = some d) ∧
  (ceD .z = some (.sl 0 [])) ∧
  (∀ {s : AS} (sz n : Nat) (cs : List Ce) (parts : List (Nat × Operand)), bslC s sz n (some cs) parts = (match fillA (fun i => some (i * sz, sz)) ((List.replicate n cs).flatten) (pairs s parts) with | some cells => ceDs cells | none => none)) ∧
  (∀ {k : IntKind} {k' : IntKind} {x : Int} {y : Int} {tb : Bool}, binO tb .add (.one (.dt (.lit (.int k x)))) (.one (.dt (.lit (.int k' y)))) = (k = k')) ∧
  (∀ {k : IntKind} {k' : IntKind} {x : Int} {y : Int}, binV .add (.one (.dt (.lit (.int k x)))) (.one (.dt (.lit (.int k' y)))) = (.one (.dt (.lit (.int k (k.wrap (x + y))))))) ∧
  (∀ {k : IntKind} {k' : IntKind} {x : Int} {y : Int} {tb : Bool}, binO tb .sub (.one (.dt (.lit (.int k x)))) (.one (.dt (.lit (.int k' y)))) = (k = k')) ∧
  (∀ {k : IntKind} {k' : IntKind} {x : Int} {y : Int}, binV .sub (.one (.dt (.lit (.int k x)))) (.one (.dt (.lit (.int k' y)))) = (.one (.dt (.lit (.int k (k.wrap (x - y))))))) ∧
  (∀ {k : IntKind} {k' : IntKind} {x : Int} {y : Int} {tb : Bool}, binO tb .mul (.one (.dt (.lit (.int k x)))) (.one (.dt (.lit (.int k' y)))) = (k = k')) ∧
  (∀ {k : IntKind} {k' : IntKind} {x : Int} {y : Int}, binV .mul (.one (.dt (.lit (.int k x)))) (.one (.dt (.lit (.int k' y)))) = (.one (.dt (.lit (.int k (k.wrap (x * y))))))) ∧
  (∀ {k : IntKind} {k' : IntKind} {x : Int} {y : Int} {tb : Bool}, binO tb .quo (.one (.dt (.lit (.int k x)))) (.one (.dt (.lit (.int k' y)))) = (k = k' ∧ ¬ y = 0)) ∧
  (∀ {k : IntKind} {k' : IntKind} {x : Int} {y : Int}, binV .quo (.one (.dt (.lit (.int k x)))) (.one (.dt (.lit (.int k' y)))) = (.one (.dt (.lit (.int k (k.wrap (x.tdiv y))))))) ∧
  (∀ {k : IntKind} {k' : IntKind} {x : Int} {y : Int} {tb : Bool}, binO tb .rem (.one (.dt (.lit (.int k x)))) (.one (.dt (.lit (.int k' y)))) = (k = k' ∧ ¬ y = 0)) ∧
  (∀ {k : IntKind} {k' : IntKind} {x : Int} {y : Int}, binV .rem (.one (.dt (.lit (.int k x)))) (.one (.dt (.lit (.int k' y)))) = (.one (.dt (.lit (.int k (x.tmod y)))))) ∧
  (∀ {k : IntKind} {k' : IntKind} {x : Int} {y : Int} {tb : Bool}, binO tb .and (.one (.dt (.lit (.int k x)))) (.one (.dt (.lit (.int k' y)))) = (k = k')) ∧
  (∀ {k : IntKind} {k' : IntKind} {x : Int} {y : Int}, binV .and (.one (.dt (.lit (.int k x)))) (.one (.dt (.lit (.int k' y)))) = (.one (.dt (.lit (.int k (bits .and k x y)))))) ∧
  (∀ {k : IntKind} {k' : IntKind} {x : Int} {y : Int} {tb : Bool}, binO tb .or (.one (.dt (.lit (.int k x)))) (.one (.dt (.lit (.int k' y)))) = (k = k')) ∧
  (∀ {k : IntKind} {k' : IntKind} {x : Int} {y : Int}, binV .or (.one (.dt (.lit (.int k x)))) (.one (.dt (.lit (.int k' y)))) = (.one (.dt (.lit (.int k (bits .or k x y)))))) ∧
  (∀ {k : IntKind} {k' : IntKind} {x : Int} {y : Int} {tb : Bool}, binO tb .shl (.one (.dt (.lit (.int k x)))) (.one (.dt (.lit (.int k' y)))) = (0 ≤ y)) ∧
  (∀ {k : IntKind} {k' : IntKind} {x : Int} {y : Int}, binV .shl (.one (.dt (.lit (.int k x)))) (.one (.dt (.lit (.int k' y)))) = (.one (.dt (.lit (.int k (shl k x y)))))) ∧
  (∀ {k : IntKind} {k' : IntKind} {x : Int} {y : Int} {tb : Bool}, binO tb .shr (.one (.dt (.lit (.int k x)))) (.one (.dt (.lit (.int k' y)))) = (0 ≤ y)) ∧
  (∀ {k : IntKind} {k' : IntKind} {x : Int} {y : Int}, binV .shr (.one (.dt (.lit (.int k x)))) (.one (.dt (.lit (.int k' y)))) = (.one (.dt (.lit (.int k (shr k x y)))))) ∧
  (∀ {k : IntKind} {k' : IntKind} {x : Int} {y : Int} {tb : Bool}, binO tb .eql (.one (.dt (.lit (.int k x)))) (.one (.dt (.lit (.int k' y)))) = (k = k')) ∧
  (∀ {k : IntKind} {k' : IntKind} {x : Int} {y : Int} {tb : Bool}, binO tb .neq (.one (.dt (.lit (.int k x)))) (.one (.dt (.lit (.int k' y)))) = (k = k')) ∧
  (∀ {k : IntKind} {k' : IntKind} {x : Int} {y : Int}, binV .eql (.one (.dt (.lit (.int k x)))) (.one (.dt (.lit (.int k' y)))) = (.one (.dt (.lit (.bool (decide (x = y))))))) ∧
  (∀ {k : IntKind} {k' : IntKind} {x : Int} {y : Int}, binV .neq (.one (.dt (.lit (.int k x)))) (.one (.dt (.lit (.int k' y)))) = (.one (.dt (.lit (.bool (decide (¬ x = y))))))) ∧
  (∀ {k : IntKind} {k' : IntKind} {x : Int} {y : Int} {tb : Bool}, binO tb .lss (.one (.dt (.lit (.int k x)))) (.one (.dt (.lit (.int k' y)))) = (k = k')) ∧
  (∀ {k : IntKind} {k' : IntKind} {x : Int} {y : Int}, binV .lss (.one (.dt (.lit (.int k x)))) (.one (.dt (.lit (.int k' y)))) = (.one (.dt (.lit (.bool (decide (x < y))))))) ∧
  (∀ {k : IntKind} {k' : IntKind} {x : Int} {y : Int} {tb : Bool}, binO tb .leq (.one (.dt (.lit (.int k x)))) (.one (.dt (.lit (.int k' y)))) = (k = k')) ∧
  (∀ {k : IntKind} {k' : IntKind} {x : Int} {y : Int}, binV .leq (.one (.dt (.lit (.int k x)))) (.one (.dt (.lit (.int k' y)))) = (.one (.dt (.lit (.bool (decide (x ≤ y))))))) ∧
  (∀ {k : IntKind} {k' : IntKind} {x : Int} {y : Int} {tb : Bool}, binO tb .gtr (.one (.dt (.lit (.int k x)))) (.one (.dt (.lit (.int k' y)))) = (k = k')) ∧
  (∀ {k : IntKind} {k' : IntKind} {x : Int} {y : Int}, binV .gtr (.one (.dt (.lit (.int k x)))) (.one (.dt (.lit (.int k' y)))) = (.one (.dt (.lit (.bool (decide (y < x))))))) ∧
  (∀ {k : IntKind} {k' : IntKind} {x : Int} {y : Int} {tb : Bool}, binO tb .geq (.one (.dt (.lit (.int k x)))) (.one (.dt (.lit (.int k' y)))) = (k = k')) ∧
  (∀ {k : IntKind} {k' : IntKind} {x : Int} {y : Int}, binV .geq (.one (.dt (.lit (.int k x)))) (.one (.dt (.lit (.int k' y)))) = (.one (.dt (.lit (.bool (decide (y ≤ x))))))) ∧
  (∀ {tb : Bool} {b : Bool} {b' : Bool}, binO tb .eql (.one (.dt (.lit (.bool b)))) (.one (.dt (.lit (.bool b')))) = (tb = true)) ∧
  (∀ {tb : Bool} {b : Bool} {b' : Bool}, binO tb .neq (.one (.dt (.lit (.bool b)))) (.one (.dt (.lit (.bool b')))) = (tb = true)) ∧
  (∀ {b : Bool} {b' : Bool}, binV .eql (.one (.dt (.lit (.bool b)))) (.one (.dt (.lit (.bool b')))) = (.one (.dt (.lit (.bool (b == b')))))) ∧
  (∀ {b : Bool} {b' : Bool}, binV .neq (.one (.dt (.lit (.bool b)))) (.one (.dt (.lit (.bool b')))) = (.one (.dt (.lit (.bool (!(b == b'))))))) ∧
  (∀ {b : Bool}, pickO (.one (.dt (.lit (.bool b)))) = True) ∧
  (∀ {b : Bool} (u v : AV), pickV (.one (.dt (.lit (.bool b)))) u v = if b = true then u else v) ∧
  (∀ {b : Bool}, unO .not (.one (.dt (.lit (.bool b)))) = True) ∧
  (∀ {p : Prop} [Decidable p], unV .not (.one (.dt (.lit (.bool (decide p))))) = (.one (.dt (.lit (.bool (decide (¬p))))))) ∧
  (unV .not (.one (.dt (.lit (.bool true)))) = (.one (.dt (.lit (.bool false))))) ∧
  (unV .not (.one (.dt (.lit (.bool false)))) = (.one (.dt (.lit (.bool true))))) ∧
  (∀ {k : IntKind} {x : Int}, unO .neg (.one (.dt (.lit (.int k x)))) = True) ∧
  (∀ {k : IntKind} {x : Int}, unV .neg (.one (.dt (.lit (.int k x)))) = (.one (.dt (.lit (.int k (k.wrap (0 - x))))))) ∧
  (∀ {k : IntKind} {k' : IntKind} {x : Int}, cvO (some k') (.one (.dt (.lit (.int k x)))) = True) ∧
  (∀ {k : IntKind} {k' : IntKind} {x : Int}, cvV (some k') (.one (.dt (.lit (.int k x)))) = (.one (.dt (.lit (.int k' (k'.wrap x)))))) ∧
  (∀ {b : Bool}, asB (.one (.dt (.lit (.bool b)))) = some b) ∧
  (∀ (c : Ce), cellsOf (.one c) = some [c]) ∧
  (∀ (cs : List Ce), cellsOf (.agg cs) = some cs) ∧
  (∀ (sz : Nat) (c : Ce) (cs : List Ce), ldO false sz (some (c :: cs)) = True) ∧
  (∀ (sz : Nat) (cs : List Ce), ldO true sz (some cs) = (sz ≤ cs.length)) ∧
  (∀ (sz : Nat) (c : Ce) (cs : List Ce), ldV false sz (some (c :: cs)) = .one c) ∧
  (∀ (sz : Nat) (cs : List Ce), ldV true sz (some cs) = .agg (cs.take sz)) ∧
  (∀ {s : AS} (y : Nat × Nat) (off : Nat), acells s (.ptr y off) = (match s.v y with | some cs => some (cs.drop off) | none => none)) ∧
  (∀ {s : AS} (r : Nat × Nat) (ver j : Nat), acells s (.rel r ver j) = (match s.r r with | some row => if row.ver = ver then some ((row.cells.drop j).map .dt) else none | none => none)) ∧
  (∀ {s : AS} (o : Nat) (y : Nat × Nat) (off : Nat), fldO s (some o) (.ptr y off) = True) ∧
  (∀ {s : AS} (o : Nat) (ds : List Dt), fldO s (some o) (.el ds) = (o ≤ ds.length)) ∧
  (∀ (o : Nat) (y : Nat × Nat) (off : Nat), fldV (some o) (.ptr y off) = .ptr y (off + o)) ∧
  (∀ (o : Nat) (ds : List Dt), fldV (some o) (.el ds) = .el (ds.drop o)) ∧
  (∀ {s : AS} {k : IntKind} {x : Int} (sz : Nat) (r : Nat × Nat) (ver : Nat), idxO s sz (.one (.row r ver)) (.one (.dt (.lit (.int k x)))) = (match s.r r with | some row => row.ver = ver ∧ 0 ≤ x ∧ x < row.n | none => False)) ∧
  (∀ {k : IntKind} {x : Int} (sz : Nat) (r : Nat × Nat) (ver : Nat), idxV sz (.one (.row r ver)) (.one (.dt (.lit (.int k x)))) = .rel r ver (x.toNat * sz)) ∧
  (∀ (rs : List RV) (j : Nat), extO (.tup rs) j = (j < rs.length)) ∧
  (∀ (rs : List RV) (j : Nat), extV (.tup rs) j = (match rs[j]? with | some r => r.toAV | none => .no)) ∧
  (∀ {s : AS}, lenO s (.one .z) = True) ∧
  (∀ {s : AS}, lenV s (.one .z) = (.one (.dt (.lit (.int .i64 0))))) ∧
  (∀ {s : AS} (r : Nat × Nat) (ver : Nat), lenO s (.one (.row r ver)) = (match s.r r with | some row => row.ver = ver | none => False)) ∧
  (∀ {s : AS} (r : Nat × Nat) (ver : Nat), lenV s (.one (.row r ver)) = (match s.r r with | some row => (.one (.dt (.lit (.int .i64 row.n)))) | none => .no)) ∧
  (∀ {k : IntKind} {k' : IntKind} {x : Int} {y : Int}, mxO (.one (.dt (.lit (.int k x)))) (.one (.dt (.lit (.int k' y)))) = (k = k')) ∧
  (∀ {k : IntKind} {k' : IntKind} {x : Int} {y : Int} (f : Int → Int → Int), mxV f (.one (.dt (.lit (.int k x)))) (.one (.dt (.lit (.int k' y)))) = (.one (.dt (.lit (.int k (f x y)))))) ∧
  (∀ {s : AS} (cs : List Ce) (y : Nat × Nat) (off : Nat), stO s cs (.ptr y off) = (match s.v y with | some cs0 => s.f y = false ∧ off + cs.length ≤ cs0.length | none => False)) ∧
  (∀ {s : AS} (cs : List Ce) (y : Nat × Nat) (off : Nat), stS s cs (.ptr y off) = (match s.v y with | some cs0 => s.setv y (cs0.take off ++ cs ++ cs0.drop (off + cs.length)) | none => s)) ∧
  (∀ {s : AS} (d : Dt) (r : Nat × Nat) (ver j : Nat), stO s [.dt d] (.rel r ver j) = (match s.r r with | some row => row.ver = ver ∧ row.live = true ∧ [Ce.dt d].length = 1 ∧ j < row.n * row.sz | none => False)) ∧
  (∀ {s : AS} (d : Dt) (r : Nat × Nat) (ver j : Nat), stS s [.dt d] (.rel r ver j) = (match s.r r with | some row => s.setr r { row with cells := row.cells.set j d } | none => s)) ∧
  (∀ {s : AS} (d : Dt), toD s (.dt d) = some d) ∧
  (∀ {s : AS}, toD s .z = some (.sl 0 [])) ∧
  (∀ {s : AS} (r : Nat × Nat) (ver : Nat), toD s (.row r ver) = (match s.r r with | some row => if row.ver = ver ∧ row.live = false then some (.sl row.n row.cells) else none | none => none)) ∧
  (∀ {s : AS}, toDs s [] = some []) ∧
  (∀ {s : AS} (c : Ce) (cs : List Ce), toDs s (c :: cs) = (match toD s c, toDs s cs with | some d, some ds => some (d :: ds) | _, _ => none)) ∧
  (∀ {s : AS} (c : Ce), toRV s (.one c) = (toD s c).map .one) ∧
  (∀ {s : AS} (cs : List Ce), toRV s (.agg cs) = (toDs s cs).map .agg) ∧
  (∀ {s : AS}, toRVs s [] = some []) ∧
  (∀ {s : AS} (u : AV) (us : List AV), toRVs s (u :: us) = (match toRV s u, toRVs s us with | some r, some rs => some (r :: rs) | _, _ => none)) ∧
  (∀ {s : AS}, evs s [] = []) ∧
  (∀ {s : AS} (u : Operand) (us : List Operand), evs s (u :: us) = s.ev u :: evs s us) ∧
  (∀ {s : AS}, pairs s [] = []) ∧
  (∀ {s : AS} (i : Nat) (u : Operand) (us : List (Nat × Operand)), pairs s ((i, u) :: us) = (i, s.ev u) :: pairs s us) ∧
  (∀ (pl : Nat → Option (Nat × Nat)) (cells : List Ce), fillA pl cells [] = some cells) ∧
  (∀ (pl : Nat → Option (Nat × Nat)) (cells : List Ce) (i : Nat) (u : AV) (us : List (Nat × AV)), fillA pl cells ((i, u) :: us) = (match pl i, cellsOf u with | some (off, size), some cs => if cs.length = size ∧ off + size ≤ cells.length then fillA pl (cells.take off ++ cs ++ cells.drop (off + size)) us else none | _, _ => none)) ∧
  (((0 : Nat) : Int) = 0) ∧
  (∀ {s : AS} (e : TypeId) (sz bytes m ver : Nat) (cells : List Dt) (r : Nat × Nat), appO s e sz bytes (some (m, cells)) (.one (.row r ver)) = (match s.r r with | some row => row.ver = ver ∧ row.live = true ∧ row.e = e ∧ row.sz = sz ∧ cells.length = m * sz ∧ row.n + m ≤ 9223372036854775807 ∧ (row.n + m) * bytes ≤ 140737488355328 | none => False)) ∧
  (∀ {s : AS} (d : Nat) (e : TypeId) (sz m ver : Nat) (cells : List Dt) (r : Nat × Nat), appS s d e sz (some (m, cells)) (.one (.row r ver)) = (match s.r r with | some row => (s.setr r { row with n := row.n + m, cells := row.cells ++ cells, ver := ver + 1 }).set d (.one (.row r (ver + 1))) | none => s)) ∧
  (∀ (i : Nat), ((i : Int) + 1).toNat = i + 1) ∧
  (∀ (i : Nat), ((i : Int) - 1).toNat = i - 1) ∧
  (∀ (i j : Nat), ((i : Int) + (j : Int)).toNat = i + j) ∧
  (∀ (i : Nat), ((i + 1 : Nat) : Int) = (i : Int) + 1) ∧
  (∀ {s : AS} (P : Program), resRs P s [] [] = True) ∧
  (∀ {s : AS} (P : Program) (u : ResultVar) (us : List ResultVar) (r : RV) (rs : List RV), resRs P s (u :: us) (r :: rs) = (resR P s u r ∧ resRs P s us rs)) ∧
  (∀ {s : AS} (P : Program) (t : Nat) (r : RV), resR P s (.tmp t) r = (toRV s (s.t t) = some r)) ∧
  (∀ {s : AS} (P : Program) (t : Nat) (T : TypeId) (r : RV), resR P s (.cell t T) r = (tok P T = true ∧ ldO (tagg P T) (tsz P T) (acells s (s.t t)) ∧ toRV s (ldV (tagg P T) (tsz P T) (acells s (s.t t))) = some r)) ∧
  (∀ {s : AS} (t : Nat), ghE (.frz t) s = (match s.t t with | .one (.row r _) => s.freeze r | _ => s)) ∧
  (∀ {s : AS} (t i : Nat), ghE (.frzc t i) s = (match s.t t with | .ptr xx _ => (match s.v xx with | some cs => frzC s cs[i]? | none => s) | _ => s)) ∧
  (∀ {s : AS} (t : Nat), ghE (.frzv t) s = (match s.t t with | .ptr xx _ => (match s.v xx with | some _ => s.freezev xx | none => s) | .sv xx _ _ => (match s.v xx with | some _ => s.freezev xx | none => s) | _ => s)) ∧
  (∀ {s : AS} {k : IntKind} {x : Int} (sz : Nat) (xx : Nat × Nat) (off n : Nat), idxO s sz (.sv xx off n) (.one (.dt (.lit (.int k x)))) = (sz = 1 ∧ 0 ≤ x ∧ x < n)) ∧
  (∀ {k : IntKind} {x : Int} (sz : Nat) (xx : Nat × Nat) (off n : Nat), idxV sz (.sv xx off n) (.one (.dt (.lit (.int k x)))) = .ptr xx (off + x.toNat)) ∧
  (∀ {s : AS} (xx : Nat × Nat) (off n : Nat), lenO s (.sv xx off n) = True) ∧
  (∀ {s : AS} (xx : Nat × Nat) (off n : Nat), lenV s (.sv xx off n) = (.one (.dt (.lit (.int .i64 n))))) ∧
  (∀ {k : IntKind} {x : Int} (xx : Nat × Nat) (off n : Nat), cutO 1 none (some (.one (.dt (.lit (.int k x))))) none (.sv xx off n) = (0 ≤ x ∧ x ≤ n)) ∧
  (∀ {k : IntKind} {k' : IntKind} {x : Int} {y : Int} (xx : Nat × Nat) (off n : Nat), cutO 1 (some (.one (.dt (.lit (.int k x))))) (some (.one (.dt (.lit (.int k' y))))) none (.sv xx off n) = (0 ≤ x ∧ x ≤ y ∧ y ≤ n)) ∧
  (∀ {k : IntKind} {x : Int} (xx : Nat × Nat) (off n : Nat), cutV 1 none (some (.one (.dt (.lit (.int k x))))) (.sv xx off n) = .sv xx off x.toNat) ∧
  (∀ {k : IntKind} {k' : IntKind} {x : Int} {y : Int} (xx : Nat × Nat) (off n : Nat), cutV 1 (some (.one (.dt (.lit (.int k x))))) (some (.one (.dt (.lit (.int k' y))))) (.sv xx off n) = .sv xx (off + x.toNat) (y.toNat - x.toNat)) ∧
  (∀ {s : AS} (xx : Nat × Nat) (off n : Nat), toRV s (.sv xx off n) = (match s.v xx with | some cs => if s.f xx = true ∧ off + n ≤ cs.length then (ceDs cs).map fun ds => .one (.sl n ((ds.drop off).take n)) else none | none => none)) ∧
  (∀ {k : IntKind} {x : Int} (b : ByteArray), sixO (.one (.dt (.lit (.string b)))) (.one (.dt (.lit (.int k x)))) = (0 ≤ x ∧ x < b.size)) ∧
  (∀ {k : IntKind} {x : Int} (b : ByteArray), sixV (.one (.dt (.lit (.string b)))) (.one (.dt (.lit (.int k x)))) = (.one (.dt (.lit (.int .u8 (sbyte b x)))))) ∧
  (∀ (cs : List Ce) (c : Ce) (j : Nat), extO (.pr cs c) j = (j < 2)) ∧
  (∀ (cs : List Ce) (c : Ce), extV (.pr cs c) 0 = .agg cs) ∧
  (∀ (cs : List Ce) (c : Ce), extV (.pr cs c) 1 = .one c) ∧
  (∀ {s : AS} (t : Nat) (e : TypeId) (sz : Nat), ghE (.nilt t e sz) s = ((s.setr (t, s.g t) ⟨e, sz, 0, [], 0, true⟩).bump t).set t (.one (.row (t, s.g t) 0))) ∧
  (∀ {s : AS} (t i k : Nat) (e : TypeId) (sz : Nat), ghE (.nilv t i k e sz) s = (match s.t t with | .ptr xx _ => (match s.v xx with | some cs => ((s.setr (k, s.g k) ⟨e, sz, 0, [], 0, true⟩).bump k).setv xx (cs.set i (.row (k, s.g k) 0)) | none => s) | _ => s)) ∧
  (∀ {s : AS} (t i k : Nat) (e : TypeId) (sz : Nat), ghO (.nilv t i k e sz) s = (match s.t t with | .ptr xx _ => s.f xx = false ∧ (match s.v xx with | some cs => cs[i]? = some .z | none => False) | _ => False)) ∧
  (∀ {s : AS} (r : Nat × Nat) (v : Nat), frzC s (some (.row r v)) = s.freeze r) ∧
  (∀ {s : AS}, frzC s (some .z) = s) ∧
  (∀ {s : AS} (d : Dt), frzC s (some (.dt d)) = s) ∧
  (∀ {s : AS} (t : Nat), ghO (.frz t) s = True) ∧
  (∀ {s : AS} (t i : Nat), ghO (.frzc t i) s = True) ∧
  (∀ {s : AS} (t : Nat), ghO (.frzv t) s = True) ∧
  (∀ {s : AS} (t : Nat) (e : TypeId) (sz : Nat), ghO (.nilt t e sz) s = (match s.t t with | .one .z => True | _ => False)) ∧
  (∀ {n : Int} (h : -9223372036854775808 ≤ n) (h' : n < 9223372036854775808), IntKind.i64.wrap n = n) ∧
  (∀ {n : Int} (h : 0 ≤ n) (h' : n < 18446744073709551616), IntKind.u64.wrap n = n) ∧
  (∀ {n : Int} (h : 0 ≤ n) (h' : n < 18446744073709551616), bits .and .u64 n 4294967295 = n % 4294967296) ∧
  (∀ (n : Int), shr .u64 n 32 = n / 4294967296) ∧
  (∀ {n : Int} (h : 0 ≤ n) (h' : n < 4294967296), shl .u64 n 32 = n * 4294967296) ∧
  (∀ {r a : Int} (h : 0 ≤ r) (h1 : r < 4294967296) (h2 : 0 ≤ a) (h3 : a < 4294967296), bits .or .u64 (r * 4294967296) a = r * 4294967296 + a) ∧
  (∀ {x y : Int} (h : 0 ≤ x), x.tdiv y = x / y) ∧
  (∀ {x y : Int} (h : 0 ≤ x), x.tmod y = x % y) ∧
  (∀ {n : Int} (h : 0 ≤ n) (h' : n < 4294967296), IntKind.u32.wrap n = n) ∧
  (∀ {i j m : Int} {q : Prop} {n : Nat} (h : 0 ≤ i) (h1 : i ≤ j) (h2 : j ≤ m) (h3 : m ≤ n), cutP (some i) (some j) (some m) q n = q) ∧
  (∀ (d : Int), bnd none d = some d) ∧
  (∀ (k : IntKind) (i d : Int), bnd (some (.one (.dt (.lit (.int k i))))) d = some i) ∧
  (∀ {s : AS} {k : IntKind} {x : Int} (l : List (Int)) (h : 0 ≤ x) (h' : x < l.length), idxO s 1 (.one (.dt (natD l))) (.one (.dt (.lit (.int k x)))) = True) ∧
  (∀ {lo hi mx : Option AV} (l : List (Int)), cutO 1 lo hi mx (.one (.dt (natD l))) = cutP (bnd lo 0) (bnd hi l.length) (bnd mx l.length) (mx.isSome = true → hi.isSome = true) l.length) ∧
  (∀ {lo hi : Option AV} (l : List (Int)), cutV 1 lo hi (.one (.dt (natD l))) = cutW (bnd lo 0) (bnd hi l.length) l u32c) ∧
  (∀ {i j : Int} (l : List (Int)) (h : 0 ≤ i) (h1 : i ≤ j) (h2 : j ≤ l.length), cutW (some i) (some j) l u32c = .one (.dt (natD ((l.take j.toNat).drop i.toNat)))) ∧
  (∀ {k : IntKind} {x : Int} (l : List (Int)) (h : 0 ≤ x) (h' : x < l.length), idxV 1 (.one (.dt (natD l))) (.one (.dt (.lit (.int k x)))) = .el (u32c (l.getD x.toNat 0))) ∧
  (∀ {s : AS} (l : List (Int)), lenO s (.one (.dt (natD l))) = True) ∧
  (∀ {s : AS} (l : List (Int)), lenV s (.one (.dt (natD l))) = (.one (.dt (.lit (.int .i64 l.length))))) ∧
  (∀ (l : List (Int)) (n : Nat) (h : n = l.length), Dt.sl n (natC l) = natD l) ∧
  (∀ (l : List (Int)), (natC l).length = l.length) ∧
  (∀ {s : AS} (l : List (Int)), srcD s (.one (.dt (natD l))) = some (l.length, natC l)) ∧
  (∀ {s : AS} {k : IntKind} {x : Int} (l : List (Int)) (h : 0 ≤ x) (h' : x < l.length), idxO s 1 (.one (.dt (intsD l))) (.one (.dt (.lit (.int k x)))) = True) ∧
  (∀ {lo hi mx : Option AV} (l : List (Int)), cutO 1 lo hi mx (.one (.dt (intsD l))) = cutP (bnd lo 0) (bnd hi l.length) (bnd mx l.length) (mx.isSome = true → hi.isSome = true) l.length) ∧
  (∀ {lo hi : Option AV} (l : List (Int)), cutV 1 lo hi (.one (.dt (intsD l))) = cutW (bnd lo 0) (bnd hi l.length) l i64c) ∧
  (∀ {i j : Int} (l : List (Int)) (h : 0 ≤ i) (h1 : i ≤ j) (h2 : j ≤ l.length), cutW (some i) (some j) l i64c = .one (.dt (intsD ((l.take j.toNat).drop i.toNat)))) ∧
  (∀ {k : IntKind} {x : Int} (l : List (Int)) (h : 0 ≤ x) (h' : x < l.length), idxV 1 (.one (.dt (intsD l))) (.one (.dt (.lit (.int k x)))) = .el (i64c (l.getD x.toNat 0))) ∧
  (∀ {s : AS} (l : List (Int)), lenO s (.one (.dt (intsD l))) = True) ∧
  (∀ {s : AS} (l : List (Int)), lenV s (.one (.dt (intsD l))) = (.one (.dt (.lit (.int .i64 l.length))))) ∧
  (∀ (l : List (Int)) (n : Nat) (h : n = l.length), Dt.sl n (intsC l) = intsD l) ∧
  (∀ (l : List (Int)), (intsC l).length = l.length) ∧
  (∀ {s : AS} (l : List (Int)), srcD s (.one (.dt (intsD l))) = some (l.length, intsC l)) ∧
  (∀ {s : AS} {k : IntKind} {x : Int} (l : List (List Int)) (h : 0 ≤ x) (h' : x < l.length), idxO s 1 (.one (.dt (natsD l))) (.one (.dt (.lit (.int k x)))) = True) ∧
  (∀ {lo hi mx : Option AV} (l : List (List Int)), cutO 1 lo hi mx (.one (.dt (natsD l))) = cutP (bnd lo 0) (bnd hi l.length) (bnd mx l.length) (mx.isSome = true → hi.isSome = true) l.length) ∧
  (∀ {lo hi : Option AV} (l : List (List Int)), cutV 1 lo hi (.one (.dt (natsD l))) = cutW (bnd lo 0) (bnd hi l.length) l natc) ∧
  (∀ {i j : Int} (l : List (List Int)) (h : 0 ≤ i) (h1 : i ≤ j) (h2 : j ≤ l.length), cutW (some i) (some j) l natc = .one (.dt (natsD ((l.take j.toNat).drop i.toNat)))) ∧
  (∀ {k : IntKind} {x : Int} (l : List (List Int)) (h : 0 ≤ x) (h' : x < l.length), idxV 1 (.one (.dt (natsD l))) (.one (.dt (.lit (.int k x)))) = .el (natc (l.getD x.toNat []))) ∧
  (∀ {s : AS} (l : List (List Int)), lenO s (.one (.dt (natsD l))) = True) ∧
  (∀ {s : AS} (l : List (List Int)), lenV s (.one (.dt (natsD l))) = (.one (.dt (.lit (.int .i64 l.length))))) ∧
  (∀ (l : List (List Int)) (n : Nat) (h : n = l.length), Dt.sl n (natsC l) = natsD l) ∧
  (∀ (l : List (List Int)), (natsC l).length = l.length) ∧
  (∀ {s : AS} (l : List (List Int)), srcD s (.one (.dt (natsD l))) = some (l.length, natsC l)) ∧
  (∀ {s : AS} (n : Int), acells s (.el (u32c n)) = some [.dt (.lit (.int .u32 n))]) ∧
  (∀ {s : AS} (n : Int), acells s (.el (i64c n)) = some [.dt (.lit (.int .i64 n))]) ∧
  (∀ {s : AS} (l : List Int), acells s (.el (natc l)) = some [.dt (natD l)]) ∧
  (∀ (l : List Int) (i : Nat) (x : Int), (natC l).set i (.lit (.int .u32 x)) = natC (l.set i x)) ∧
  (∀ (a b : List Int) (i : Nat), (natC a).take i ++ (natC b).drop i = natC (a.take i ++ b.drop i)) ∧
  (∀ (sz : Nat) (l : List Int) (i : Nat) (h : i < l.length), ldO false sz (some (((natC l).drop i).map Ce.dt)) = True) ∧
  (∀ (sz : Nat) (l : List Int) (i : Nat) (h : i < l.length), ldV false sz (some (((natC l).drop i).map Ce.dt)) = .one (.dt (.lit (.int .u32 (l.getD i 0))))) ∧
  (∀ {b : Nat} {z : Dt} {n m : Int} {k k' : IntKind} (h : 0 ≤ n) (h0 : n ≤ m) (h' : (b : Int) * m ≤ 281474976710656) (h2 : m ≤ 9223372036854775807), mkO b (some [.dt z]) (.one (.dt (.lit (.int k n)))) (.one (.dt (.lit (.int k' m)))) = True) ∧
  (∀ {s : AS} {k : IntKind} (d : Nat) (e : TypeId) (n : Int), mkS s d e (some [.dt (.lit (.int .u32 0))]) (.one (.dt (.lit (.int k n)))) = ((s.setr (d, s.g d) ⟨e, 1, n.toNat, natC (List.replicate n.toNat 0), 0, true⟩).bump d).set d (.one (.row (d, s.g d) 0))) ∧
  (∀ {s : AS} (m ver : Nat) (cells : List Dt) (r : Nat × Nat), cpO s (some (m, cells)) (.one (.row r ver)) = (match s.r r with | some row => row.ver = ver ∧ row.live = true ∧ row.sz = 1 ∧ cells.length = m | none => False)) ∧
  (∀ {s : AS} (d : Option Nat) (m ver : Nat) (cells : List Dt) (r : Nat × Nat), cpS s d (some (m, cells)) (.one (.row r ver)) = (match s.r r with | some row => (s.setr r { row with cells := cells.take (min m row.n) ++ row.cells.drop (min m row.n) }).put d (litV (.int .i64 (min m row.n : Nat))) | none => s)) ∧
  (∀ (n : Nat), List.replicate n (Dt.lit (.int .u32 0)) = natC (List.replicate n 0)) ∧
  (∀ (l : List Int) (x : Int), natC l ++ [.lit (.int .u32 x)] = natC (l ++ [x])) ∧
  (∀ (l : List Int) (x : Int), intsC l ++ [.lit (.int .i64 x)] = intsC (l ++ [x])) ∧
  (∀ (l : List (List Int)) (x : List Int), natsC l ++ [natD x] = natsC (l ++ [x])) ∧
  (∀ (l : List Int), (u32s l).length = l.length) ∧
  (∀ (l : List Int), ceDs (u32s l) = some (natC l)) ∧
  (∀ (sz : Nat) (l : List Int) (i : Nat) (h : i < l.length), ldO false sz (some ((u32s l).drop i)) = True) ∧
  (∀ (sz : Nat) (l : List Int) (i : Nat) (h : i < l.length), ldV false sz (some ((u32s l).drop i)) = .one (.dt (.lit (.int .u32 (l.getD i 0))))) ∧
  (∀ (l : List Int) (i : Nat) (x : Int) (h : i < l.length), (u32s l).take i ++ [.dt (.lit (.int .u32 x))] ++ (u32s l).drop (i + 1) = u32s (l.set i x)) ∧
  (∀ (l : List Int) (o n : Nat), ((natC l).drop o).take n = natC ((l.drop o).take n)) ∧
  (natC [] = []) ∧
  (intsC [] = []) ∧
  (∀ (l : List Int) (i : Nat) (x : Int), (intsC l).set i (.lit (.int .i64 x)) = intsC (l.set i x)) ∧
  (∀ (l : List Int), i64s l = intsC l) ∧
  (natsC [] = []) :=
  ⟨@src_sl, @cd_nil, @cd_cons, @cd_dt, @cd_z, @bsl_some, @o_add, @v_add, @o_sub, @v_sub, @o_mul, @v_mul, @o_quo, @v_quo, @o_rem, @v_rem, @o_and, @v_and, @o_or, @v_or, @o_shl, @v_shl, @o_shr, @v_shr, @o_eql, @o_neq, @v_eql, @v_neq, @o_lss, @v_lss, @o_leq, @v_leq, @o_gtr, @v_gtr, @o_geq, @v_geq, @o_eqlb, @o_neqb, @v_eqlb, @v_neqb, @o_pick, @v_pick, @o_not, @v_not, @v_nott, @v_notf, @o_neg, @v_neg, @o_cv, @v_cv, @as_b, @cl_one, @cl_agg, @ld_of, @ld_ot, @ld_vf, @ld_vt, @ac_ptr, @ac_rel, @fo_ptr, @fo_el, @fv_ptr, @fv_el, @io_row, @iv_row, @xo, @xv, @lo_z, @lv_z, @lo_row, @lv_row, @mo, @mv, @st_ptr, @ss_ptr, @st_rel, @ss_rel, @td_dt, @td_z, @td_row, @tds_nil, @tds_cons, @tr_one, @tr_agg, @trs_nil, @trs_cons, @ev_nil', @ev_cons, @pr_nil, @pr_cons, @fl_nil, @fl_cons, @cast0, @ap_o, @ap_s, @tn_p, @tn_m, @tn_a, @castS, @rs_nil, @rs_cons, @rr_tmp, @rr_cell, @gh_frz, @gh_frzc, @gh_frzv, @io_sv, @iv_sv, @lo_sv, @lv_sv, @cs_a, @cs_b, @cs_c, @cs_d, @tr_sv, @six_o, @six_v, @xo_pr, @xv_pr0, @xv_pr1, @gh_nilt, @gh_nilv, @go_nilv, @frzC_row, @frzC_z, @frzC_dt, @go_frz, @go_frzc, @go_frzv, @go_nilt, @wi64, @wu64, @and_m32, @shr_32, @shl_32, @or_hi, @td_nn, @tm_nn, @wu32, @cp_some, @bnd_n, @bnd_s, @io_natD, @co_natD, @cv_natD, @cw_natD, @iv_natD, @lo_natD, @lv_natD, @of_natD, @len_natC, @src_natD, @io_intsD, @co_intsD, @cv_intsD, @cw_intsD, @iv_intsD, @lo_intsD, @lv_intsD, @of_intsD, @len_intsC, @src_intsD, @io_natsD, @co_natsD, @cv_natsD, @cw_natsD, @iv_natsD, @lo_natsD, @lv_natsD, @of_natsD, @len_natsC, @src_natsD, @ac_u32, @ac_i64, @ac_nat, @natC_set, @natC_copy, @lo_rel, @lv_rel, @mk_o, @mk_s, @cp_o, @cp_s, @natC_rep, @natC_app1, @intsC_app1, @natsC_app1, @us_len, @us_ds, @us_lo, @us_lv, @us_set, @us_cut, @natC_nil, @intsC_nil, @intsC_set, @i64s_ints, @natsC_nil⟩
theorem CC : (∀ {α : Type} {a : α}, (some a).isSome = true) ∧
  (∀ (p : Prop), (True ∧ p) = p) ∧
  (∀ (p : Prop), (p ∧ True) = p) ∧
  (∀ (p : Prop), (p ∧ p) = p) ∧
  (∀ (p : Prop), (False ∧ p) = False) ∧
  (∀ (p : Prop), (p ∧ False) = False) ∧
  (∀ (h : Decidable True), @decide True h = true) ∧
  (∀ (h : Decidable False), @decide False h = false) ∧
  (∀ {α : Type} {h : Decidable True} (t e : α), (@ite α True h t e) = t) ∧
  (∀ {α : Type} {h : Decidable False} (t e : α), (@ite α False h t e) = e) ∧
  (∀ {h : Decidable True} (t e : Prop), (@ite Prop True h t e) = t) ∧
  (∀ {h : Decidable False} (t e : Prop), (@ite Prop False h t e) = e) ∧
  ((false = true) = False) ∧
  ((true = false) = False) ∧
  (∀ {α β : Type} (a : α) (f : α → β), (some a).map f = some (f a)) ∧
  (∀ {α β : Type} (f : α → β), (none : Option α).map f = none) ∧
  (∀ {α : Type} (a b : α), (some a = some b) = (a = b)) ∧
  (∀ {α : Type} (a : α), (a = a) = True) ∧
  (∀ (n : Nat), ((n : Int)).toNat = n) ∧
  (∀ {α : Type} {a : α} {xs : List α}, (a :: xs).length = xs.length + 1) ∧
  (∀ {α : Type}, ([] : List α).length = 0) ∧
  (∀ (n : Nat), 0 + n = n) ∧
  (∀ {α : Type} {i : Nat} {a : α} {xs : List α}, (a :: xs).take (i + 1) = a :: xs.take i) ∧
  (∀ {α : Type} {l : List α}, l.take 0 = []) ∧
  (∀ {α : Type} {i : Nat} {a : α} {xs : List α}, (a :: xs).drop (i + 1) = xs.drop i) ∧
  (∀ {α : Type} {l : List α}, l.drop 0 = l) ∧
  ((0 : Int).toNat = 0) ∧
  (∀ {α : Type} {a b : α} {l : List α}, (a :: l).set 0 b = b :: l) ∧
  (∀ {α : Type} {a b : α} {i : Nat} {l : List α}, (a :: l).set (i + 1) b = a :: l.set i b) ∧
  (∀ (p : Prop), (p → p) = True) ∧
  (∀ (p : Prop), (p → True) = True) ∧
  (∀ (p : Prop), (True → p) = p) ∧
  (∀ (p : Prop), (false = true → p) = True) ∧
  (∀ {α : Type} {n : Nat} {a : α}, List.replicate (n + 1) a = a :: List.replicate n a) ∧
  (∀ {α : Type} {a : α}, List.replicate 0 a = []) ∧
  (∀ {α : Type} {l : List α} {L : List (List α)}, (l :: L).flatten = l ++ L.flatten) ∧
  (∀ {α : Type}, ([] : List (List α)).flatten = []) ∧
  (∀ {α : Type} {a : α} {xs ys : List α}, a :: xs ++ ys = a :: (xs ++ ys)) ∧
  (∀ {α : Type} (xs : List α), [] ++ xs = xs) ∧
  (∀ {α : Type} (xs : List α), xs ++ [] = xs) ∧
  (∀ (n : Nat), 0 * n = 0) ∧
  (∀ (n : Nat), 1 * n = n) ∧
  (∀ (n : Nat), n * 1 = n) ∧
  (∀ {α : Type} (xs : List α), xs.toArray.toList = xs) ∧
  (∀ {α : Type} (xs : List α), xs.toArray.size = xs.length) ∧
  (∀ (a b : Int), a + b - b = a) ∧
  (∀ {α : Type} {l : List α}, l.take l.length = l) ∧
  (∀ {α : Type} {i : Nat} {l : List α}, (l.drop i).length = l.length - i) ∧
  (∀ {α β : Type} {f : α → β} {a : α} {l : List α}, (a :: l).map f = f a :: l.map f) ∧
  (∀ {α β : Type} {f : α → β}, ([] : List α).map f = []) ∧
  (∀ (p : Prop), (¬¬p) = p) ∧
  ((¬True) = False) ∧
  ((¬False) = True) ∧
  (∀ {α : Type} {xs : List α} {i : Nat} {a : α}, (xs.set i a).length = xs.length) ∧
  (∀ {α : Type} {n : Nat} {a : α}, (List.replicate n a).length = n) ∧
  (∀ {α : Type} {a : α} {l : List α}, (a :: l)[0]? = some a) ∧
  (∀ {α : Type} {a : α} {i : Nat} {l : List α}, (a :: l)[i + 1]? = l[i]?) ∧
  (∀ {α : Type} {d a : α} {l : List α}, (a :: l).getD 0 d = a) ∧
  (∀ {α β : Type} (a : α) (b : β) (c : α) (d : β), ((a, b) = (c, d)) = (a = c ∧ b = d)) := by
  refine ⟨?_, ?_, ?_, ?_, ?_, ?_, ?_, ?_, ?_, ?_, ?_, ?_, ?_, ?_, ?_, ?_, ?_, ?_, ?_, ?_, ?_, ?_, ?_, ?_, ?_, ?_, ?_, ?_, ?_, ?_, ?_, ?_, ?_, ?_, ?_, ?_, ?_, ?_, ?_, ?_, ?_, ?_, ?_, ?_, ?_, ?_, ?_, ?_, ?_, ?_, ?_, ?_, ?_, ?_, ?_, ?_, ?_, ?_, ?_⟩ <;> intros <;> first | rfl | (simp; done) | skip
theorem LL : (∀ {α : Type} {xs : List α} {i : Nat} {a : α}, (xs.set i a).length = xs.length) ∧
  (∀ {α : Type} {xs ys : List α}, (xs ++ ys).length = xs.length + ys.length) ∧
  (∀ {α : Type} {n : Nat} {a : α}, (List.replicate n a).length = n) ∧
  (∀ {α : Type} {i : Nat} {l : List α}, (l.take i).length = min i l.length) ∧
  (∀ {α : Type} {i : Nat} {l : List α}, (l.drop i).length = l.length - i) ∧
  (∀ {α : Type} {a : α} {xs : List α}, (a :: xs).length = xs.length + 1) ∧
  (∀ {α : Type}, ([] : List α).length = 0) ∧
  (∀ {α β : Type} {xs : List α} (f : α → β), (xs.map f).length = xs.length) := by
  refine ⟨?_, ?_, ?_, ?_, ?_, ?_, ?_, ?_⟩ <;> intros <;> first | rfl | (simp; done) | skip
end Go.Proofs.Ytnlmfdojnacofaa.E

set_option linter.unusedSimpArgs false
set_option linter.unusedVariables false
namespace Go.Proofs.Ytnlmfdojnacofaa.E
open Go.RowKit Go.ChangeShapes Go.WideShapes Go.Deep

section
variable {H : Type} {enc : TypeId × Value → H} {P : Program} {w : World} {base : Nat} {sp : Nat → Bool} {hd : Bool}

theorem cell_block {a : Addr} {j : Nat} {u : Value} (h : w.cell? (a.add j) = some u) : a.block < w.heap.size := by
  have e := block_of_add a j
  rcases Nat.lt_or_ge a.block w.heap.size with h1 | h1
  · exact h1
  · exfalso
    unfold World.cell? at h
    rw [e, Array.getElem?_eq_none h1] at h
    simp at h

theorem rd_slice {α : Type} [Inhabited α] (g : α → Dt) (Good : α → Prop) {t e : TypeId} (ht : P.underlying t = some (.slice e)) (hc : P.cellsOf e = 1)
    (hel : ∀ n V D Pl, DataW.trod enc P w base sp hd n e [V] = some (D, Pl) → ∃ x, Good x ∧ Rep w (fun k => k < w.heap.size) (g x) V) {fuel : Nat} {cs : List Value} {y : DataW H × List MemPlace}
    (h : DataW.trod enc P w base sp hd fuel t cs = some y) : ∃ l : List α, (∀ x ∈ l, Good x) ∧ ∃ v, cs = [v] ∧ Rep w (fun k => k < w.heap.size) (rowD (fun x => [g x]) l) v := by
  rcases open_slice1 ht hc h with ⟨rfl, _⟩ | ⟨a, len, cap, m, n, V, D, Pl, rfl, _, hl, _, hm, _, hx⟩
  · exact ⟨[], fun x hx => by simp at hx, _, rfl, .sl none 0 0 [] [] rfl (Nat.le_refl _) (fun j u hj => by simp at hj) (fun j u d hj => by simp at hj)⟩
  · have hle : len ≤ m := by rw [hm]; split <;> omega
    obtain ⟨X, hX⟩ := choose_lt (n := len) (α := α) (p := fun i x => Good x ∧ Rep w (fun k => k < w.heap.size) (g x) (V i)) (fun i hi => hel n _ _ _ (hx i (by omega)).2)
    refine ⟨(List.range len).map X, fun x hxm => ?_, _, rfl, ?_⟩
    · obtain ⟨i, hi, rfl⟩ := List.mem_map.1 hxm
      exact (hX i (by simpa using hi)).1
    · have hr : rowD (fun x => [g x]) ((List.range len).map X) = .sl len ((List.range len).map fun i => g (X i)) := by
        unfold rowD rowC
        congr 1
        · simp
        · rw [List.flatMap_map]
          induction List.range len with
          | nil => rfl
          | cons i l ih => simp only [List.flatMap_cons, List.map_cons, ih]; rfl
      rw [hr]
      refine .sl (some a) len cap _ ((List.range len).map V) (by simp) hl (fun j u hj => ?_) (fun j u d hj hd' => ?_)
      · rw [List.getElem?_map] at hj
        cases hq : (List.range len)[j]? with
        | none => rw [hq] at hj; simp at hj
        | some i =>
          rw [hq] at hj
          obtain ⟨hlt, hi⟩ := List.getElem?_eq_some_iff.1 hq
          simp only [List.length_range] at hlt
          simp only [List.getElem_range] at hi
          subst hi
          simp only [Option.map_some, Option.some.injEq] at hj
          subst hj
          have := (hx j (by omega)).1
          exact ⟨a, rfl, cell_block this, this⟩
      · rw [List.getElem?_map] at hj hd'
        cases hq : (List.range len)[j]? with
        | none => rw [hq] at hj; simp at hj
        | some i =>
          rw [hq] at hj hd'
          obtain ⟨hlt, hi⟩ := List.getElem?_eq_some_iff.1 hq
          simp only [List.length_range] at hlt
          simp only [Option.map_some, Option.some.injEq] at hj hd'
          subst hj; subst hd'
          have : i < len := by simp at hi; omega
          exact (hX i this).2

theorem rd_ints {t e : TypeId} (ht : P.underlying t = some (.slice e)) (he : P.underlying e = some (.int .i64)) (hc : P.cellsOf e = 1) {fuel : Nat} {cs : List Value} {y : DataW H × List MemPlace}
    (h : DataW.trod enc P w base sp hd fuel t cs = some y) : ∃ l : List Int, (∀ x ∈ l, -9223372036854775808 ≤ x ∧ x ≤ 9223372036854775807) ∧ ∃ v, cs = [v] ∧ Rep w (fun k => k < w.heap.size) (intsD l) v :=
  rd_slice (fun n => .lit (.int .i64 n)) (fun x => -9223372036854775808 ≤ x ∧ x ≤ 9223372036854775807) ht hc (fun n V D Pl hV => by
    obtain ⟨x, hx, _, hw⟩ := DataW.trod_int he hV
    cases hx
    exact ⟨x, bounds_i64 hw, .lit _ rfl⟩) h
theorem rd_nat {t e : TypeId} (ht : P.underlying t = some (.slice e)) (he : P.underlying e = some (.int .u32)) (hc : P.cellsOf e = 1) {fuel : Nat} {cs : List Value} {y : DataW H × List MemPlace}
    (h : DataW.trod enc P w base sp hd fuel t cs = some y) : ∃ l : List Int, (∀ x ∈ l, 0 ≤ x ∧ x < 4294967296) ∧ ∃ v, cs = [v] ∧ Rep w (fun k => k < w.heap.size) (natD l) v :=
  rd_slice (fun n => .lit (.int .u32 n)) (fun x => 0 ≤ x ∧ x < 4294967296) ht hc (fun n V D Pl hV => by
    obtain ⟨x, hx, _, hw⟩ := DataW.trod_int he hV
    cases hx
    have := bounds_u32 hw
    exact ⟨x, ⟨this.1, by omega⟩, .lit _ rfl⟩) h
theorem rd_nats {t e q : TypeId} (ht : P.underlying t = some (.slice e)) (he : P.underlying e = some (.slice q)) (hq : P.underlying q = some (.int .u32)) (hc : P.cellsOf e = 1) (hc' : P.cellsOf q = 1) {fuel : Nat} {cs : List Value} {y : DataW H × List MemPlace}
    (h : DataW.trod enc P w base sp hd fuel t cs = some y) : ∃ l : List (List Int), (∀ x ∈ l, ∀ z ∈ x, 0 ≤ z ∧ z < 4294967296) ∧ ∃ v, cs = [v] ∧ Rep w (fun k => k < w.heap.size) (natsD l) v :=
  rd_slice natD (fun x => ∀ z ∈ x, 0 ≤ z ∧ z < 4294967296) ht hc (fun n V D Pl hV => by
    obtain ⟨x, hx, v, hv, hr⟩ := rd_nat he hq hc' hV
    cases hv
    exact ⟨x, hx, hr⟩) h

/-- a struct of two rows of numbers -/
theorem rd_grid {t t1 e : TypeId} {f0 f1 : Field} (ht : P.underlying t = some (.struct #[f0, f1])) (h0 : f0.type = t1 ∧ f0.offset = 0) (h1 : f1.type = t1 ∧ f1.offset = 1) (hct : P.cellsOf t = 2) (hc1 : P.cellsOf t1 = 1)
    (hs : P.underlying t1 = some (.slice e)) (he : P.underlying e = some (.int .i64)) (hc : P.cellsOf e = 1) {r : Reach} {b0 : Nat} {v : Value} {d : DataW H} {ps : List MemPlace} (hval : Value.okWide P w r b0 t v) (h : DataW.Trod enc P w base sp hd t v d ps) :
    ∃ p q : List Int, (∀ x ∈ p, -9223372036854775808 ≤ x ∧ x ≤ 9223372036854775807) ∧ (∀ x ∈ q, -9223372036854775808 ≤ x ∧ x ≤ 9223372036854775807) ∧ MR w (fun k => k < w.heap.size) (.agg [intsD p, intsD q]) v := by
  obtain ⟨cs, rfl, hsz⟩ := okWide_struct ht hval
  obtain ⟨fuel, hf⟩ := h
  have hcs : (Value.agg cs).cells.toList = cs.toList := rfl
  rw [hcs] at hf
  obtain ⟨y0, y1, n, _, hl, k0, k1⟩ := trod_struct2 ht hf
  rw [h0.1, h0.2, hc1] at k0
  rw [h1.1, h1.2, hc1] at k1
  obtain ⟨p, hp, v0, e0, r0⟩ := rd_ints hs he hc k0
  obtain ⟨q, hq, v1, e1, r1⟩ := rd_ints hs he hc k1
  refine ⟨p, q, hp, hq, cs.toList, by simp, ?_⟩
  rw [hct] at hl
  match hcl : cs.toList, hl with
  | [u0, u1], _ =>
    rw [hcl] at e0 e1
    simp at e0 e1
    subst e0; subst e1
    exact Fits.cons r0 (Fits.cons r1 (Fits.nil _))
end

/-- from a contract to the call: a function that gives one boolean -/
theorem calls_bool {P : Program} {f : Nat} {args : List RV} {b : Bool} (h : AFun P f args [.one (.lit (.bool b))]) (w : World) (vs : List Value) (hf : Fits (MR w (fun k => k < w.heap.size)) args vs) :
    Calls P f vs.toArray w fun e w' => e = .returned (.bool b) ∧ Below w.heap.size w w' := by
  refine (h.2 _ w vs (fun k hk => hk) hf).mono fun e w' ⟨v, he, hm, hb⟩ => ?_
  have : v = .bool b := by
    cases hm with
    | lit v hv => rfl
  rw [he, this]
  exact ⟨rfl, hb⟩
end Go.Proofs.Ytnlmfdojnacofaa.E

set_option linter.unusedSimpArgs false
set_option linter.unusedVariables false
namespace Go.Proofs.Ytnlmfdojnacofaa.Limbs
/-- the value of limbs of 32 bits, the least significant one first -/
def val : List Int → Int
  | [] => 0
  | x :: xs => x + 4294967296 * val xs
def Lim (l : List Int) : Prop := ∀ x, x ∈ l → 0 ≤ x ∧ x < 4294967296
def Nrm (l : List Int) : Prop := l.getLast? ≠ some 0
def bp (n : Nat) : Int := 4294967296 ^ n
theorem bp_zero : bp 0 = 1 := rfl
theorem bp_succ (n : Nat) : bp (n + 1) = 4294967296 * bp n := by unfold bp; rw [Int.pow_succ]; omega
theorem bp_add (m n : Nat) : bp (m + n) = bp m * bp n := by unfold bp; exact Int.pow_add ..
theorem bp_pos (n : Nat) : 0 < bp n := by unfold bp; exact Int.pow_pos (by omega)
theorem bp_le {m n : Nat} (h : m ≤ n) : bp m ≤ bp n := by
  obtain ⟨k, rfl⟩ := Nat.exists_eq_add_of_le h
  rw [bp_add]
  have h1 := bp_pos m
  have h2 := bp_pos k
  have := Int.mul_le_mul_of_nonneg_left (show (1 : Int) ≤ bp k by omega) (show 0 ≤ bp m by omega)
  omega
theorem bp_lt {m n : Nat} (h : m < n) : bp m < bp n := by
  have h1 := bp_le (show m + 1 ≤ n from h)
  rw [bp_succ] at h1
  have := bp_pos m
  omega
theorem Lim.nil : Lim [] := by intro x h; simp at h
theorem Lim.cons {x : Int} {l : List Int} (h0 : 0 ≤ x) (h1 : x < 4294967296) (h : Lim l) : Lim (x :: l) := by
  intro y hy
  rcases List.mem_cons.1 hy with rfl | hy
  · exact ⟨h0, h1⟩
  · exact h y hy
theorem Lim.head {x : Int} {l : List Int} (h : Lim (x :: l)) : 0 ≤ x ∧ x < 4294967296 := h x (by simp)
theorem Lim.tail {x : Int} {l : List Int} (h : Lim (x :: l)) : Lim l := fun y hy => h y (by simp [hy])
theorem Lim.append {a b : List Int} (ha : Lim a) (hb : Lim b) : Lim (a ++ b) := by
  intro y hy
  rcases List.mem_append.1 hy with h | h
  · exact ha y h
  · exact hb y h
theorem Lim.one {x : Int} (h0 : 0 ≤ x) (h1 : x < 4294967296) : Lim [x] := Lim.cons h0 h1 Lim.nil
theorem Lim.take {l : List Int} (h : Lim l) (n : Nat) : Lim (l.take n) := fun y hy => h y (List.mem_of_mem_take hy)
theorem Lim.drop {l : List Int} (h : Lim l) (n : Nat) : Lim (l.drop n) := fun y hy => h y (List.mem_of_mem_drop hy)
theorem Lim.set {l : List Int} (h : Lim l) (n : Nat) {x : Int} (h0 : 0 ≤ x) (h1 : x < 4294967296) : Lim (l.set n x) := by
  intro y hy
  rcases List.mem_or_eq_of_mem_set hy with h2 | rfl
  · exact h y h2
  · exact ⟨h0, h1⟩
theorem Lim.replicate (n : Nat) : Lim (List.replicate n 0) := by
  intro y hy
  rw [(List.mem_replicate.1 hy).2]
  omega
theorem val_nil : val [] = 0 := rfl
theorem val_cons (x : Int) (l : List Int) : val (x :: l) = x + 4294967296 * val l := rfl
theorem val_append (a b : List Int) : val (a ++ b) = val a + bp a.length * val b := by
  induction a with
  | nil => simp [val, bp_zero]
  | cons x l ih =>
    rw [List.cons_append, val_cons, ih, val_cons, List.length_cons, bp_succ, Int.mul_assoc]
    omega
theorem val_one (x : Int) : val [x] = x := by simp [val]
theorem val_snoc (l : List Int) (x : Int) : val (l ++ [x]) = val l + bp l.length * x := by rw [val_append, val_one]
theorem val_replicate (n : Nat) : val (List.replicate n 0) = 0 := by
  induction n with
  | zero => rfl
  | succ n ih => rw [List.replicate_succ, val_cons, ih]; rfl
theorem val_nonneg {l : List Int} (h : Lim l) : 0 ≤ val l := by
  induction l with
  | nil => simp [val]
  | cons x l ih =>
    have := ih h.tail
    have := h.head
    rw [val_cons]; omega
theorem val_lt {l : List Int} (h : Lim l) : val l < bp l.length := by
  induction l with
  | nil => simp [val, bp_zero]
  | cons x l ih =>
    have := ih h.tail
    have := h.head
    rw [val_cons, List.length_cons, bp_succ]; omega
theorem Nrm.nil : Nrm [] := by simp [Nrm]
theorem Nrm.tail {x y : Int} {l : List Int} (h : Nrm (x :: y :: l)) : Nrm (y :: l) := by
  unfold Nrm at h ⊢
  rwa [List.getLast?_cons_cons] at h
theorem val_pos_of_nrm {l : List Int} (hl : Lim l) (hn : Nrm l) (h : l ≠ []) : bp (l.length - 1) ≤ val l := by
  induction l with
  | nil => exact absurd rfl h
  | cons x l ih =>
    cases l with
    | nil =>
      have := hl.head
      have : x ≠ 0 := by intro e; subst e; simp [Nrm] at hn
      simp [bp_zero, val]; omega
    | cons y l =>
      have := ih hl.tail hn.tail (by simp)
      have h2 := hl.head
      rw [val_cons, show (x :: y :: l).length - 1 = ((y :: l).length - 1) + 1 by simp, bp_succ]
      omega
theorem val_pos {l : List Int} (hl : Lim l) (hn : Nrm l) (h : l ≠ []) : 0 < val l := by
  have := val_pos_of_nrm hl hn h
  have := bp_pos (l.length - 1)
  omega
theorem nrm_zero {l : List Int} (hl : Lim l) (hn : Nrm l) (h : val l = 0) : l = [] := by
  by_cases e : l = []
  · exact e
  · have := val_pos hl hn e; omega
/-- limbs in normal form are told by their value -/
theorem val_inj {a b : List Int} (ha : Lim a) (hb : Lim b) (na : Nrm a) (nb : Nrm b) (h : val a = val b) : a = b := by
  induction a generalizing b with
  | nil => exact (nrm_zero hb nb (by rw [← h]; rfl)).symm
  | cons x a ih =>
    cases b with
    | nil => exact nrm_zero ha na (by rw [h]; rfl)
    | cons y b =>
      have h1 := ha.head
      have h2 := hb.head
      rw [val_cons, val_cons] at h
      have e : x = y := by omega
      have e2 : val a = val b := by omega
      subst e
      have na' : Nrm a := by cases a with
        | nil => exact Nrm.nil
        | cons => exact na.tail
      have nb' : Nrm b := by cases b with
        | nil => exact Nrm.nil
        | cons => exact nb.tail
      rw [ih ha.tail hb.tail na' nb' e2]
theorem len_le_of_val {l : List Int} (hl : Lim l) (hn : Nrm l) {n : Nat} (h : val l < bp n) : l.length ≤ n := by
  by_cases e : l = []
  · subst e; simp
  · have h1 := val_pos_of_nrm hl hn e
    have h0 : 0 < l.length := List.length_pos_iff.2 e
    by_cases h2 : l.length ≤ n
    · exact h2
    · have := bp_le (show n ≤ l.length - 1 by omega)
      omega
theorem val_take_succ {l : List Int} {i : Nat} (h : i < l.length) : val (l.take (i + 1)) = val (l.take i) + bp i * l[i] := by
  rw [List.take_succ_eq_append_getElem h, val_snoc, List.length_take, Nat.min_eq_left (by omega)]
theorem val_split (l : List Int) (i : Nat) (h : i ≤ l.length) : val l = val (l.take i) + bp i * val (l.drop i) := by
  conv => lhs; rw [← List.take_append_drop i l]
  rw [val_append, List.length_take, Nat.min_eq_left h]
theorem val_drop {l : List Int} {i : Nat} (h : i < l.length) : val (l.drop i) = l[i] + 4294967296 * val (l.drop (i + 1)) := by
  rw [List.drop_eq_getElem_cons h, val_cons]
theorem val_set {l : List Int} {i : Nat} (h : i < l.length) (x : Int) : val (l.set i x) = val l + bp i * (x - l[i]) := by
  induction l generalizing i with
  | nil => simp at h
  | cons y l ih =>
    cases i with
    | zero => simp [val_cons, bp_zero]; omega
    | succ i =>
      simp only [List.set_cons_succ, val_cons, List.getElem_cons_succ]
      rw [ih (by simpa using h), bp_succ, Int.mul_add, Int.mul_assoc]
      omega

/-- the limbs of a natural number, in normal form -/
def nl (n : Nat) : List Int := if h : n = 0 then [] else ((n % 4294967296 : Nat) : Int) :: nl (n / 4294967296)
termination_by n
decreasing_by omega
theorem nl_zero : nl 0 = [] := by rw [nl]; rfl
theorem nl_pos {n : Nat} (h : n ≠ 0) : nl n = ((n % 4294967296 : Nat) : Int) :: nl (n / 4294967296) := by rw [nl]; rw [dif_neg h]
theorem nl_lim (n : Nat) : Lim (nl n) := by
  induction n using Nat.strongRecOn with
  | _ n ih =>
    by_cases h : n = 0
    · subst h; rw [nl_zero]; exact Lim.nil
    · rw [nl_pos h]
      exact Lim.cons (by omega) (by omega) (ih _ (by omega))
theorem val_nl (n : Nat) : val (nl n) = n := by
  induction n using Nat.strongRecOn with
  | _ n ih =>
    by_cases h : n = 0
    · subst h; rw [nl_zero]; rfl
    · rw [nl_pos h, val_cons, ih _ (by omega)]
      omega
theorem nl_ne_nil {n : Nat} (h : n ≠ 0) : nl n ≠ [] := by rw [nl_pos h]; simp
theorem nl_nrm (n : Nat) : Nrm (nl n) := by
  induction n using Nat.strongRecOn with
  | _ n ih =>
    by_cases h : n = 0
    · subst h; rw [nl_zero]; exact Nrm.nil
    · rw [nl_pos h]
      by_cases h2 : n / 4294967296 = 0
      · rw [h2, nl_zero]; unfold Nrm; simp; omega
      · have := ih (n / 4294967296) (by omega)
        rw [nl_pos h2] at this ⊢
        unfold Nrm at this ⊢
        rwa [List.getLast?_cons_cons]
/-- the value as a natural number -/
def nv (l : List Int) : Nat := (val l).toNat
theorem nv_eq {l : List Int} (h : Lim l) : (nv l : Int) = val l := by unfold nv; have := val_nonneg h; omega
theorem nv_nl (n : Nat) : nv (nl n) = n := by unfold nv; rw [val_nl]; omega
theorem nl_nv {l : List Int} (h : Lim l) (hn : Nrm l) : nl (nv l) = l := val_inj (nl_lim _) h (nl_nrm _) hn (by rw [val_nl, nv_eq h])
theorem eq_nl {l : List Int} (h : Lim l) (hn : Nrm l) {n : Nat} (e : val l = n) : l = nl n := val_inj h (nl_lim _) hn (nl_nrm _) (by rw [val_nl, e])
theorem nl_inj {a b : Nat} (h : nl a = nl b) : a = b := by rw [← nv_nl a, h, nv_nl]
theorem nl_eq_nil {n : Nat} : nl n = [] ↔ n = 0 := ⟨fun h => by rw [← nv_nl n, h]; rfl, fun h => by rw [h, nl_zero]⟩
theorem nl_len {n m : Nat} (h : n < 4294967296 ^ m) : (nl n).length ≤ m := by
  refine len_le_of_val (nl_lim n) (nl_nrm n) ?_
  rw [val_nl]; unfold bp
  have : ((4294967296 ^ m : Nat) : Int) = (4294967296 : Int) ^ m := by simp
  omega
theorem nv_lt {l : List Int} (h : Lim l) : nv l < 4294967296 ^ l.length := by
  have h1 := val_lt h
  rw [← nv_eq h] at h1; unfold bp at h1
  have : ((4294967296 ^ l.length : Nat) : Int) = (4294967296 : Int) ^ l.length := by simp
  omega
theorem nl_len_iff {n m : Nat} : (nl n).length ≤ m ↔ n < 4294967296 ^ m := by
  refine ⟨fun h => ?_, nl_len⟩
  have h1 := nv_lt (nl_lim n)
  rw [nv_nl] at h1
  exact Nat.lt_of_lt_of_le h1 (Nat.pow_le_pow_right (by omega) h)
/-- without the high limbs that are 0 -/
def tr (l : List Int) : List Int := nl (nv l)
theorem tr_of_take {l : List Int} (h : Lim l) {i : Nat} (hi : i ≤ l.length) (hz : val (l.drop i) = 0) (hn : Nrm (l.take i)) : l.take i = tr l := by
  refine eq_nl (h.take i) hn ?_
  rw [nv_eq h, val_split l i hi, hz]; omega
theorem nrm_take {l : List Int} {i : Nat} (h0 : 0 < i) (h : i ≤ l.length) (hx : ¬ l.getD (i - 1) 0 = 0) : Nrm (l.take i) := by
  unfold Nrm
  have hi1 : i - 1 < l.length := by omega
  rw [List.getLast?_eq_getElem?, List.length_take, Nat.min_eq_left h, List.getElem?_take, if_pos (by omega), List.getElem?_eq_getElem hi1]
  rw [List.getD_eq_getElem?_getD, List.getElem?_eq_getElem hi1] at hx
  intro e
  exact hx (by simpa using e)
theorem getD_eq {l : List Int} {i : Nat} (h : i < l.length) : l.getD i 0 = l[i] := by rw [List.getD_eq_getElem?_getD, List.getElem?_eq_getElem h]; rfl
theorem Lim.getD {l : List Int} (h : Lim l) (i : Nat) : 0 ≤ l.getD i 0 ∧ l.getD i 0 < 4294967296 := by
  by_cases hi : i < l.length
  · rw [getD_eq hi]; exact h _ (List.getElem_mem hi)
  · rw [List.getD_eq_getElem?_getD, List.getElem?_eq_none (by omega)]; simp
theorem val_take_getD {l : List Int} {i : Nat} (h : i < l.length) : val (l.take (i + 1)) = val (l.take i) + bp i * l.getD i 0 := by rw [val_take_succ h, getD_eq h]
theorem val_drop_getD {l : List Int} {i : Nat} (h : i < l.length) : val (l.drop i) = l.getD i 0 + 4294967296 * val (l.drop (i + 1)) := by rw [val_drop h, getD_eq h]
theorem lt_of_len {x y : List Int} (hx : Lim x) (hy : Lim y) (ny : Nrm y) (h : x.length < y.length) : val x < val y := by
  have h1 := val_lt hx
  have h2 := val_pos_of_nrm hy ny (by intro e; subst e; simp at h)
  have h3 := bp_le (show x.length ≤ y.length - 1 by omega)
  omega
theorem lt_of_at {x y : List Int} (hx : Lim x) (hy : Lim y) {i : Nat} (hi : i < x.length) (hi' : i < y.length) (hd : val (x.drop (i + 1)) = val (y.drop (i + 1))) (h : x.getD i 0 < y.getD i 0) : val x < val y := by
  rw [val_split x i (by omega), val_split y i (by omega), val_drop_getD hi, val_drop_getD hi', hd]
  have h1 := val_lt (hx.take i)
  rw [List.length_take, Nat.min_eq_left (by omega)] at h1
  have h2 := val_nonneg (hy.take i)
  have h3 : bp i * (x.getD i 0 + 4294967296 * val (y.drop (i + 1)) + 1) ≤ bp i * (y.getD i 0 + 4294967296 * val (y.drop (i + 1))) := Int.mul_le_mul_of_nonneg_left (by omega) (by have := bp_pos i; omega)
  rw [Int.mul_add, Int.mul_one] at h3
  omega
theorem nrm_of_val {l : List Int} (h : Lim l) (hv : l ≠ [] → bp (l.length - 1) ≤ val l) : Nrm l := by
  intro e
  by_cases h0 : l = []
  · subst h0; simp at e
  · have h1 := hv h0
    have h2 : l = l.dropLast ++ [0] := by
      have := List.dropLast_concat_getLast h0
      rw [List.getLast?_eq_some_getLast h0] at e
      have e2 : l.getLast h0 = 0 := Option.some.inj e
      rw [e2] at this; exact this.symm
    have h3 : val l = val l.dropLast := by
      conv => lhs; rw [h2]
      rw [val_append, val_one]; omega
    have h4 : Lim l.dropLast := fun x hx => h x ((List.dropLast_sublist l).subset hx)
    have h5 := val_lt h4
    rw [List.length_dropLast] at h5
    omega
theorem take_getD_over {l : List Int} {i : Nat} (h : l.length ≤ i) : l.take (i + 1) = l.take i := by rw [List.take_of_length_le (by omega), List.take_of_length_le h]
theorem Lim.snoc {l : List Int} (h : Lim l) {x : Int} (h0 : 0 ≤ x) (h1 : x < 4294967296) : Lim (l ++ [x]) := Lim.append h (Lim.one h0 h1)
theorem take_set_succ {l : List Int} {i : Nat} (h : i < l.length) (x : Int) : (l.set i x).take (i + 1) = l.take i ++ [x] := by
  rw [List.take_succ_eq_append_getElem (by simpa using h), List.getElem_set_self, List.take_set_of_le (Nat.le_refl i)]
theorem getD_set_ne {l : List Int} {i j : Nat} (h : i ≠ j) (x : Int) : (l.set i x).getD j 0 = l.getD j 0 := by simp only [List.getD_eq_getElem?_getD, List.getElem?_set_ne h]
theorem val_set_getD {l : List Int} {i : Nat} (h : i < l.length) (x : Int) : val (l.set i x) = val l + bp i * (x - l.getD i 0) := by rw [val_set h, getD_eq h]
theorem mul_bound {p q : Int} (h1 : 0 ≤ p) (h2 : p < 4294967296) (h3 : 0 ≤ q) (h4 : q < 4294967296) : 0 ≤ p * q ∧ p * q ≤ 18446744065119617025 := by
  refine ⟨Int.mul_nonneg h1 h3, ?_⟩
  have := Int.mul_le_mul (show p ≤ 4294967295 by omega) (show q ≤ 4294967295 by omega) h3 (by omega)
  omega
theorem getD_over {l : List Int} {i : Nat} (h : l.length ≤ i) : l.getD i 0 = 0 := by rw [List.getD_eq_getElem?_getD, List.getElem?_eq_none h]; rfl
theorem val_split' (l : List Int) (i : Nat) : val l = val (l.take i) + bp i * val (l.drop i) := by
  by_cases h : i ≤ l.length
  · exact val_split l i h
  · rw [List.take_of_length_le (by omega), List.drop_of_length_le (by omega), val_nil]; omega
theorem val_drop' (l : List Int) (i : Nat) : val (l.drop i) = l.getD i 0 + 4294967296 * val (l.drop (i + 1)) := by
  by_cases h : i < l.length
  · exact val_drop_getD h
  · rw [getD_over (by omega), List.drop_of_length_le (by omega), List.drop_of_length_le (by omega), val_nil]; omega
theorem val_take' (l : List Int) (i : Nat) : val (l.take (i + 1)) = val (l.take i) + bp i * l.getD i 0 := by
  by_cases h : i < l.length
  · exact val_take_getD h
  · rw [getD_over (by omega), List.take_of_length_le (by omega), List.take_of_length_le (by omega)]; omega
theorem val_take_lt {l : List Int} (h : Lim l) (i : Nat) : val (l.take i) < bp i := by
  have h1 := val_lt (h.take i)
  have h2 := bp_le (show (l.take i).length ≤ i by rw [List.length_take]; omega)
  omega
theorem lt_of_at' {x y : List Int} (hx : Lim x) (hy : Lim y) (i : Nat) (hd : val (x.drop (i + 1)) = val (y.drop (i + 1))) (h : x.getD i 0 < y.getD i 0) : val x < val y := by
  rw [val_split' x i, val_split' y i, val_drop' x i, val_drop' y i, hd]
  have h1 := val_take_lt hx i
  have h2 := val_nonneg (hy.take i)
  have h3 : bp i * (x.getD i 0 + 4294967296 * val (y.drop (i + 1)) + 1) ≤ bp i * (y.getD i 0 + 4294967296 * val (y.drop (i + 1))) := Int.mul_le_mul_of_nonneg_left (by omega) (by have := bp_pos i; omega)
  rw [Int.mul_add, Int.mul_one] at h3
  omega
end Go.Proofs.Ytnlmfdojnacofaa.Limbs

set_option linter.unusedSimpArgs false
set_option linter.unusedVariables false
set_option maxHeartbeats 2000000
namespace Go.Proofs.Ytnlmfdojnacofaa.E
open Go.RowKit
theorem TY : tok Try.prog 2 = true ∧
  tsz Try.prog 2 = 1 ∧
  tagg Try.prog 2 = false ∧
  telem Try.prog 2 = none ∧
  tarr Try.prog 2 = none ∧
  tbool Try.prog 2 = false ∧
  tbytes Try.prog 2 = 8 ∧
  tint Try.prog 2 = some IntKind.i64 ∧
  zeros Try.prog 2 = some [Ce.dt (Dt.lit (Value.int IntKind.i64 (0)))] ∧
  (tzero Try.prog 2).map List.length = some 1 ∧
  (Try.prog.underlying 2).isSome = true ∧
  tok Try.prog 3 = true ∧
  tsz Try.prog 3 = 1 ∧
  tagg Try.prog 3 = false ∧
  telem Try.prog 3 = none ∧
  tarr Try.prog 3 = none ∧
  tbool Try.prog 3 = false ∧
  tbytes Try.prog 3 = 8 ∧
  tint Try.prog 3 = some IntKind.i64 ∧
  zeros Try.prog 3 = some [Ce.dt (Dt.lit (Value.int IntKind.i64 (0)))] ∧
  (tzero Try.prog 3).map List.length = some 1 ∧
  (Try.prog.underlying 3).isSome = true ∧
  tok Try.prog 4 = true ∧
  tsz Try.prog 4 = 1 ∧
  tagg Try.prog 4 = false ∧
  telem Try.prog 4 = none ∧
  tarr Try.prog 4 = none ∧
  tbool Try.prog 4 = true ∧
  tbytes Try.prog 4 = 1 ∧
  tint Try.prog 4 = none ∧
  zeros Try.prog 4 = some [Ce.dt (Dt.lit (Value.bool false))] ∧
  (tzero Try.prog 4).map List.length = some 1 ∧
  (Try.prog.underlying 4).isSome = true ∧
  tok Try.prog 5 = true ∧
  tsz Try.prog 5 = 1 ∧
  tagg Try.prog 5 = false ∧
  telem Try.prog 5 = none ∧
  tarr Try.prog 5 = none ∧
  tbool Try.prog 5 = false ∧
  tbytes Try.prog 5 = 1 ∧
  tint Try.prog 5 = some IntKind.u8 ∧
  zeros Try.prog 5 = some [Ce.dt (Dt.lit (Value.int IntKind.u8 (0)))] ∧
  (tzero Try.prog 5).map List.length = some 1 ∧
  (Try.prog.underlying 5).isSome = true ∧
  tok Try.prog 22 = true ∧
  tsz Try.prog 22 = 1 ∧
  tagg Try.prog 22 = false ∧
  telem Try.prog 22 = some 3 ∧
  tarr Try.prog 22 = none ∧
  tbool Try.prog 22 = false ∧
  tbytes Try.prog 22 = 24 ∧
  tint Try.prog 22 = none ∧
  zeros Try.prog 22 = some [Ce.z] ∧
  (tzero Try.prog 22).map List.length = some 1 ∧
  (Try.prog.underlying 22).isSome = true ∧
  tok Try.prog 24 = true ∧
  tsz Try.prog 24 = 2 ∧
  tagg Try.prog 24 = true ∧
  telem Try.prog 24 = none ∧
  tarr Try.prog 24 = none ∧
  tbool Try.prog 24 = false ∧
  tbytes Try.prog 24 = 48 ∧
  tint Try.prog 24 = none ∧
  zeros Try.prog 24 = some [Ce.z, Ce.z] ∧
  (tzero Try.prog 24).map List.length = some 2 ∧
  (Try.prog.underlying 24).isSome = true ∧
  (tplaces Try.prog 24).isSome = true ∧
  foff Try.prog 24 0 = some 0 ∧
  tplace Try.prog 24 0 = some (0, 1) ∧
  foff Try.prog 24 1 = some 1 ∧
  tplace Try.prog 24 1 = some (1, 1) ∧
  tok Try.prog 25 = true ∧
  tsz Try.prog 25 = 1 ∧
  tagg Try.prog 25 = false ∧
  telem Try.prog 25 = none ∧
  tarr Try.prog 25 = none ∧
  tbool Try.prog 25 = false ∧
  tbytes Try.prog 25 = 8 ∧
  tint Try.prog 25 = some IntKind.i64 ∧
  zeros Try.prog 25 = some [Ce.dt (Dt.lit (Value.int IntKind.i64 (0)))] ∧
  (tzero Try.prog 25).map List.length = some 1 ∧
  (Try.prog.underlying 25).isSome = true ∧
  tok Try.prog 30 = true ∧
  tsz Try.prog 30 = 1 ∧
  tagg Try.prog 30 = false ∧
  telem Try.prog 30 = some 36 ∧
  tarr Try.prog 30 = none ∧
  tbool Try.prog 30 = false ∧
  tbytes Try.prog 30 = 24 ∧
  tint Try.prog 30 = none ∧
  zeros Try.prog 30 = some [Ce.z] ∧
  (tzero Try.prog 30).map List.length = some 1 ∧
  (Try.prog.underlying 30).isSome = true ∧
  tok Try.prog 36 = true ∧
  tsz Try.prog 36 = 1 ∧
  tagg Try.prog 36 = false ∧
  telem Try.prog 36 = some 56 ∧
  tarr Try.prog 36 = none ∧
  tbool Try.prog 36 = false ∧
  tbytes Try.prog 36 = 24 ∧
  tint Try.prog 36 = none ∧
  zeros Try.prog 36 = some [Ce.z] ∧
  (tzero Try.prog 36).map List.length = some 1 ∧
  (Try.prog.underlying 36).isSome = true ∧
  tok Try.prog 39 = true ∧
  tsz Try.prog 39 = 2 ∧
  tagg Try.prog 39 = true ∧
  telem Try.prog 39 = none ∧
  tarr Try.prog 39 = none ∧
  tbool Try.prog 39 = false ∧
  tbytes Try.prog 39 = 32 ∧
  tint Try.prog 39 = none ∧
  zeros Try.prog 39 = some [Ce.dt (Dt.lit (Value.bool false)), Ce.z] ∧
  (tzero Try.prog 39).map List.length = some 2 ∧
  (Try.prog.underlying 39).isSome = true ∧
  (tplaces Try.prog 39).isSome = true ∧
  foff Try.prog 39 0 = some 0 ∧
  tplace Try.prog 39 0 = some (0, 1) ∧
  foff Try.prog 39 1 = some 1 ∧
  tplace Try.prog 39 1 = some (1, 1) ∧
  tok Try.prog 41 = true ∧
  tsz Try.prog 41 = 3 ∧
  tagg Try.prog 41 = true ∧
  telem Try.prog 41 = none ∧
  tarr Try.prog 41 = none ∧
  tbool Try.prog 41 = false ∧
  tbytes Try.prog 41 = 56 ∧
  tint Try.prog 41 = none ∧
  zeros Try.prog 41 = some [Ce.dt (Dt.lit (Value.bool false)), Ce.z, Ce.z] ∧
  (tzero Try.prog 41).map List.length = some 3 ∧
  (Try.prog.underlying 41).isSome = true ∧
  (tplaces Try.prog 41).isSome = true ∧
  foff Try.prog 41 0 = some 0 ∧
  tplace Try.prog 41 0 = some (0, 2) ∧
  foff Try.prog 41 1 = some 2 ∧
  tplace Try.prog 41 1 = some (2, 1) ∧
  tok Try.prog 55 = true ∧
  tsz Try.prog 55 = 1 ∧
  tagg Try.prog 55 = false ∧
  telem Try.prog 55 = none ∧
  tarr Try.prog 55 = none ∧
  tbool Try.prog 55 = false ∧
  tbytes Try.prog 55 = 8 ∧
  tint Try.prog 55 = some IntKind.u64 ∧
  zeros Try.prog 55 = some [Ce.dt (Dt.lit (Value.int IntKind.u64 (0)))] ∧
  (tzero Try.prog 55).map List.length = some 1 ∧
  (Try.prog.underlying 55).isSome = true ∧
  tok Try.prog 56 = true ∧
  tsz Try.prog 56 = 1 ∧
  tagg Try.prog 56 = false ∧
  telem Try.prog 56 = none ∧
  tarr Try.prog 56 = none ∧
  tbool Try.prog 56 = false ∧
  tbytes Try.prog 56 = 4 ∧
  tint Try.prog 56 = some IntKind.u32 ∧
  zeros Try.prog 56 = some [Ce.dt (Dt.lit (Value.int IntKind.u32 (0)))] ∧
  (tzero Try.prog 56).map List.length = some 1 ∧
  (Try.prog.underlying 56).isSome = true ∧
  tok Try.prog 63 = true ∧
  tsz Try.prog 63 = 1 ∧
  tagg Try.prog 63 = false ∧
  telem Try.prog 63 = some 39 ∧
  tarr Try.prog 63 = none ∧
  tbool Try.prog 63 = false ∧
  tbytes Try.prog 63 = 24 ∧
  tint Try.prog 63 = none ∧
  zeros Try.prog 63 = some [Ce.z] ∧
  (tzero Try.prog 63).map List.length = some 1 ∧
  (Try.prog.underlying 63).isSome = true ∧
  tok Try.prog 68 = true ∧
  tsz Try.prog 68 = 1 ∧
  tagg Try.prog 68 = false ∧
  telem Try.prog 68 = none ∧
  tarr Try.prog 68 = none ∧
  tbool Try.prog 68 = false ∧
  tbytes Try.prog 68 = 8 ∧
  tint Try.prog 68 = some IntKind.u64 ∧
  zeros Try.prog 68 = some [Ce.dt (Dt.lit (Value.int IntKind.u64 (0)))] ∧
  (tzero Try.prog 68).map List.length = some 1 ∧
  (Try.prog.underlying 68).isSome = true :=
  ⟨by kernel_rfl, by kernel_rfl, by kernel_rfl, by kernel_rfl, by kernel_rfl, by kernel_rfl, by kernel_rfl, by kernel_rfl, by kernel_rfl, by kernel_rfl, by kernel_rfl, by kernel_rfl, by kernel_rfl, by kernel_rfl, by kernel_rfl, by kernel_rfl, by kernel_rfl, by kernel_rfl, by kernel_rfl, by kernel_rfl, by kernel_rfl, by kernel_rfl, by kernel_rfl, by kernel_rfl, by kernel_rfl, by kernel_rfl, by kernel_rfl, by kernel_rfl, by kernel_rfl, by kernel_rfl, by kernel_rfl, by kernel_rfl, by kernel_rfl, by kernel_rfl, by kernel_rfl, by kernel_rfl, by kernel_rfl, by kernel_rfl, by kernel_rfl, by kernel_rfl, by kernel_rfl, by kernel_rfl, by kernel_rfl, by kernel_rfl, by kernel_rfl, by kernel_rfl, by kernel_rfl, by kernel_rfl, by kernel_rfl, by kernel_rfl, by kernel_rfl, by kernel_rfl, by kernel_rfl, by kernel_rfl, by kernel_rfl, by kernel_rfl, by kernel_rfl, by kernel_rfl, by kernel_rfl, by kernel_rfl, by kernel_rfl, by kernel_rfl, by kernel_rfl, by kernel_rfl, by kernel_rfl, by kernel_rfl, by kernel_rfl, by kernel_rfl, by kernel_rfl, by kernel_rfl, by kernel_rfl, by kernel_rfl, by kernel_rfl, by kernel_rfl, by kernel_rfl, by kernel_rfl, by kernel_rfl, by kernel_rfl, by kernel_rfl, by kernel_rfl, by kernel_rfl, by kernel_rfl, by kernel_rfl, by kernel_rfl, by kernel_rfl, by kernel_rfl, by kernel_rfl, by kernel_rfl, by kernel_rfl, by kernel_rfl, by kernel_rfl, by kernel_rfl, by kernel_rfl, by kernel_rfl, by kernel_rfl, by kernel_rfl, by kernel_rfl, by kernel_rfl, by kernel_rfl, by kernel_rfl, by kernel_rfl, by kernel_rfl, by kernel_rfl, by kernel_rfl, by kernel_rfl, by kernel_rfl, by kernel_rfl, by kernel_rfl, by kernel_rfl, by kernel_rfl, by kernel_rfl, by kernel_rfl, by kernel_rfl, by kernel_rfl, by kernel_rfl, by kernel_rfl, by kernel_rfl, by kernel_rfl, by kernel_rfl, by kernel_rfl, by kernel_rfl, by kernel_rfl, by kernel_rfl, by kernel_rfl, by kernel_rfl, by kernel_rfl, by kernel_rfl, by kernel_rfl, by kernel_rfl, by kernel_rfl, by kernel_rfl, by kernel_rfl, by kernel_rfl, by kernel_rfl, by kernel_rfl, by kernel_rfl, by kernel_rfl, by kernel_rfl, by kernel_rfl, by kernel_rfl, by kernel_rfl, by kernel_rfl, by kernel_rfl, by kernel_rfl, by kernel_rfl, by kernel_rfl, by kernel_rfl, by kernel_rfl, by kernel_rfl, by kernel_rfl, by kernel_rfl, by kernel_rfl, by kernel_rfl, by kernel_rfl, by kernel_rfl, by kernel_rfl, by kernel_rfl, by kernel_rfl, by kernel_rfl, by kernel_rfl, by kernel_rfl, by kernel_rfl, by kernel_rfl, by kernel_rfl, by kernel_rfl, by kernel_rfl, by kernel_rfl, by kernel_rfl, by kernel_rfl, by kernel_rfl, by kernel_rfl, by kernel_rfl, by kernel_rfl, by kernel_rfl, by kernel_rfl, by kernel_rfl, by kernel_rfl, by kernel_rfl, by kernel_rfl, by kernel_rfl⟩
end Go.Proofs.Ytnlmfdojnacofaa.E

set_option linter.unusedSimpArgs false
set_option linter.unusedVariables false
set_option maxHeartbeats 2000000
namespace Go.Proofs.Ytnlmfdojnacofaa.E
open Go.RowKit Limbs
/-- examboard/nat.trim -/
def b48 : AF := ⟨22, 1, [.tmp 2],
  (.seq (.reg [
    ⟨some 2, .assign (.const (.slice none 0 0)), none⟩])
  (.seq (.reg [
    ⟨some 4, .move (.tmp 0), none⟩,
    ⟨some 5, .call ⟨(.builtin .len), #[(.tmp 4)], #[36]⟩, none⟩,
    ⟨some 3, .assign (.tmp 5), none⟩])
  (.seq (.block 0 (.loop (.seq (.seq (.reg [
    ⟨some 6, .move (.tmp 3), none⟩,
    ⟨some 7, .binOp .gtr 3 (.tmp 6) (.const (.int .i64 0)) 3, none⟩,
    ⟨some 8, .move (.tmp 7), none⟩,
    ⟨some 9, .move (.tmp 0), some (8, true)⟩,
    ⟨some 10, .move (.tmp 3), some (8, true)⟩,
    ⟨some 11, .binOp .sub 3 (.tmp 10) (.const (.int .i64 1)) 3, some (8, true)⟩,
    ⟨some 12, .indexAddr 36 (.tmp 9) (.tmp 11), some (8, true)⟩,
    ⟨some 13, .load 56 (.tmp 12), some (8, true)⟩,
    ⟨some 14, .binOp .eql 56 (.tmp 13) (.const (.int .u32 0)) 56, some (8, true)⟩,
    ⟨some 15, .pick (.tmp 8) (.tmp 14) (.const (.bool false)), none⟩])
  (.cond (.tmp 15)
    .skip
    (.exit 0)))
  (.block 1 (.reg [
    ⟨some 16, .move (.tmp 3), none⟩,
    ⟨some 17, .binOp .sub 3 (.tmp 16) (.const (.int .i64 1)) 3, none⟩,
    ⟨some 3, .assign (.tmp 17), none⟩])))))
  (.seq (.reg [
    ⟨some 18, .move (.tmp 0), none⟩,
    ⟨some 19, .move (.tmp 3), none⟩,
    ⟨some 20, .move (.tmp 3), none⟩,
    ⟨some 21, .slice 36 (.tmp 18) none (some (.tmp 19)) (some (.tmp 20)), none⟩,
    ⟨some 2, .assign (.tmp 21), none⟩])
  .ret))))⟩
theorem c48 : fcomp Try.prog 48 = ⟨b48.n, b48.np, b48.res, b48.body.bare⟩ := by kernel_rfl
theorem k48 : fok Try.prog 48 = true := by kernel_rfl
theorem mo_ : Try.prog.follows .mixedOrders = true := by kernel_rfl
theorem nat_trim (l : List Int) (hl : Lim l) (hb : l.length < 4611686018427387904) : AFun Try.prog 48 [.one (natD l)] [.one (natD (tr l))] := by
  refine afun_intro mo_ 48 b48 c48 k48 _ _ rfl (by decide) ?_
  unfold b48
  simp (maxSteps := 1000000) (disch := first | omega | (simp only [LL]; omega)) only [W, V, TY, CC, reduceIte, Nat.reduceEqDiff, Nat.reduceAdd, Nat.reduceLeDiff, Nat.reduceLT, Int.reduceLE, Int.reduceLT, Int.reduceAdd, Int.reduceSub, Int.reduceToNat, Nat.reduceMul]
  refine w_loop (fun n s => ∃ i : Nat, n = i ∧ s.t 0 = .one (.dt (natD l)) ∧ s.t 3 = .one (.dt (.lit (.int .i64 i))) ∧ i ≤ l.length ∧ val (l.drop i) = 0) l.length ⟨l.length, rfl, ?_, ?_, Nat.le_refl _, by simp [val]⟩ ?_
  · simp (maxSteps := 1000000) (disch := first | omega | (simp only [LL]; omega)) only [W, V, TY, CC, reduceIte, Nat.reduceEqDiff, Nat.reduceAdd, Nat.reduceLeDiff, Nat.reduceLT, Int.reduceLE, Int.reduceLT, Int.reduceAdd, Int.reduceSub, Int.reduceToNat, Nat.reduceMul]
  · simp (maxSteps := 1000000) (disch := first | omega | (simp only [LL]; omega)) only [W, V, TY, CC, reduceIte, Nat.reduceEqDiff, Nat.reduceAdd, Nat.reduceLeDiff, Nat.reduceLT, Int.reduceLE, Int.reduceLT, Int.reduceAdd, Int.reduceSub, Int.reduceToNat, Nat.reduceMul]
  intro n s _ ⟨i, e, h0, h3, hi, hz⟩
  simp (maxSteps := 1000000) (disch := first | omega | (simp only [LL]; omega)) only [W, V, TY, CC, reduceIte, Nat.reduceEqDiff, Nat.reduceAdd, Nat.reduceLeDiff, Nat.reduceLT, Int.reduceLE, Int.reduceLT, Int.reduceAdd, Int.reduceSub, Int.reduceToNat, Nat.reduceMul, h0, h3]
  refine g_split (fun hc => ?_) (fun hc => ?_)
  · simp (maxSteps := 1000000) (disch := first | omega | (simp only [LL]; omega)) only [W, V, TY, CC, reduceIte, Nat.reduceEqDiff, Nat.reduceAdd, Nat.reduceLeDiff, Nat.reduceLT, Int.reduceLE, Int.reduceLT, Int.reduceAdd, Int.reduceSub, Int.reduceToNat, Nat.reduceMul, h0, h3, hc]
    refine c_split (fun hx => ?_) (fun hx => ?_)
    · simp (maxSteps := 1000000) (disch := first | omega | (simp only [LL]; omega)) only [W, V, TY, CC, reduceIte, Nat.reduceEqDiff, Nat.reduceAdd, Nat.reduceLeDiff, Nat.reduceLT, Int.reduceLE, Int.reduceLT, Int.reduceAdd, Int.reduceSub, Int.reduceToNat, Nat.reduceMul, h0, h3]
      refine ⟨i - 1, by omega, i - 1, rfl, ?_⟩
      refine ⟨by rw [show (((i - 1 : Nat) : Int)) = i - 1 by omega], by omega, ?_⟩
      have hi1 : i - 1 < l.length := by omega
      rw [val_drop hi1, show i - 1 + 1 = i by omega, hz]
      rw [List.getD_eq_getElem?_getD, List.getElem?_eq_getElem hi1] at hx
      simp only [Option.getD_some] at hx
      omega
    · simp (maxSteps := 1000000) (disch := first | omega | (simp only [LL]; omega)) only [W, V, TY, CC, reduceIte, Nat.reduceEqDiff, Nat.reduceAdd, Nat.reduceLeDiff, Nat.reduceLT, Int.reduceLE, Int.reduceLT, Int.reduceAdd, Int.reduceSub, Int.reduceToNat, Nat.reduceMul, h0, h3]
      refine f_ret _ _ _ ?_
      simp (maxSteps := 1000000) (disch := first | omega | (simp only [LL]; omega)) only [W, V, TY, CC, reduceIte, Nat.reduceEqDiff, Nat.reduceAdd, Nat.reduceLeDiff, Nat.reduceLT, Int.reduceLE, Int.reduceLT, Int.reduceAdd, Int.reduceSub, Int.reduceToNat, Nat.reduceMul]
      rw [tr_of_take hl hi hz (nrm_take (by omega) hi hx)]
  · simp (maxSteps := 1000000) (disch := first | omega | (simp only [LL]; omega)) only [W, V, TY, CC, reduceIte, Nat.reduceEqDiff, Nat.reduceAdd, Nat.reduceLeDiff, Nat.reduceLT, Int.reduceLE, Int.reduceLT, Int.reduceAdd, Int.reduceSub, Int.reduceToNat, Nat.reduceMul, h0, h3, hc]
    refine f_ret _ _ _ ?_
    simp (maxSteps := 1000000) (disch := first | omega | (simp only [LL]; omega)) only [W, V, TY, CC, reduceIte, Nat.reduceEqDiff, Nat.reduceAdd, Nat.reduceLeDiff, Nat.reduceLT, Int.reduceLE, Int.reduceLT, Int.reduceAdd, Int.reduceSub, Int.reduceToNat, Nat.reduceMul]
    have : i = 0 := by omega
    subst this
    rw [tr_of_take hl hi hz (by simp [Nrm])]
end Go.Proofs.Ytnlmfdojnacofaa.E

set_option linter.unusedSimpArgs false
set_option linter.unusedVariables false
set_option maxHeartbeats 2000000
namespace Go.Proofs.Ytnlmfdojnacofaa.E
open Go.RowKit Limbs
/-- examboard/grid.within -/
def b31 : AF := ⟨15, 3, [.tmp 6],
  (.seq (.reg [
    ⟨some 6, .assign (.const (.bool false)), none⟩])
  (.seq (.reg [
    ⟨some 7, .move (.tmp 0), none⟩,
    ⟨some 8, .move (.tmp 1), none⟩,
    ⟨some 9, .binOp .geq 3 (.tmp 7) (.tmp 8) 3, none⟩,
    ⟨some 10, .move (.tmp 9), none⟩,
    ⟨some 11, .move (.tmp 0), some (10, true)⟩,
    ⟨some 12, .move (.tmp 2), some (10, true)⟩,
    ⟨some 13, .binOp .leq 3 (.tmp 11) (.tmp 12) 3, some (10, true)⟩,
    ⟨some 14, .pick (.tmp 10) (.tmp 13) (.const (.bool false)), none⟩,
    ⟨some 6, .assign (.tmp 14), none⟩])
  .ret))⟩
theorem c31 : fcomp Try.prog 31 = ⟨b31.n, b31.np, b31.res, b31.body.bare⟩ := by kernel_rfl
theorem k31 : fok Try.prog 31 = true := by kernel_rfl
/-- examboard/nat.Of -/
def b29 : AF := ⟨11, 1, [.tmp 2],
  (.seq (.reg [
    ⟨some 2, .assign (.const (.slice none 0 0)), none⟩])
  (.seq (.reg [
    ⟨some 3, .move (.tmp 0), none⟩,
    ⟨some 4, .binOp .and 55 (.tmp 3) (.const (.int .u64 4294967295)) 55, none⟩,
    ⟨some 5, .convert 55 56 (.tmp 4), none⟩,
    ⟨some 6, .move (.tmp 0), none⟩,
    ⟨some 7, .binOp .shr 55 (.tmp 6) (.const (.int .u64 32)) 68, none⟩,
    ⟨some 8, .convert 55 56 (.tmp 7), none⟩,
    ⟨some 9, .buildSlice 36 2 #[(0, (.tmp 5)), (1, (.tmp 8))], none⟩,
    ⟨some 10, .call ⟨(.value (.func 48)), #[(.tmp 9)], #[36]⟩, none⟩,
    ⟨some 2, .assign (.tmp 10), none⟩])
  .ret))⟩
theorem c29 : fcomp Try.prog 29 = ⟨b29.n, b29.np, b29.res, b29.body.bare⟩ := by kernel_rfl
theorem k29 : fok Try.prog 29 = true := by kernel_rfl
theorem grid_within (a lo hi : Int) : AFun Try.prog 31 [.one (.lit (.int .i64 a)), .one (.lit (.int .i64 lo)), .one (.lit (.int .i64 hi))] [.one (.lit (.bool (decide (lo ≤ a ∧ a ≤ hi))))] := by
  refine afun_intro mo_ _ _ c31 k31 _ _ rfl (by decide) ?_
  unfold b31
  simp (maxSteps := 1000000) (disch := first | omega | (simp only [LL]; omega)) only [W, V, TY, CC, reduceIte, Nat.reduceEqDiff, Nat.reduceAdd, Nat.reduceLeDiff, Nat.reduceLT, Int.reduceLE, Int.reduceLT, Int.reduceAdd, Int.reduceSub, Int.reduceToNat, Nat.reduceMul]
  refine g_split (fun hc => ?_) (fun hc => ?_)
  · simp (maxSteps := 1000000) (disch := first | omega | (simp only [LL]; omega)) only [W, V, TY, CC, reduceIte, Nat.reduceEqDiff, Nat.reduceAdd, Nat.reduceLeDiff, Nat.reduceLT, Int.reduceLE, Int.reduceLT, Int.reduceAdd, Int.reduceSub, Int.reduceToNat, Nat.reduceMul, hc]
    refine f_ret _ _ _ ?_
    simp (maxSteps := 1000000) (disch := first | omega | (simp only [LL]; omega)) only [W, V, TY, CC, reduceIte, Nat.reduceEqDiff, Nat.reduceAdd, Nat.reduceLeDiff, Nat.reduceLT, Int.reduceLE, Int.reduceLT, Int.reduceAdd, Int.reduceSub, Int.reduceToNat, Nat.reduceMul]
  · simp (maxSteps := 1000000) (disch := first | omega | (simp only [LL]; omega)) only [W, V, TY, CC, reduceIte, Nat.reduceEqDiff, Nat.reduceAdd, Nat.reduceLeDiff, Nat.reduceLT, Int.reduceLE, Int.reduceLT, Int.reduceAdd, Int.reduceSub, Int.reduceToNat, Nat.reduceMul, hc]
    refine f_ret _ _ _ ?_
    simp (maxSteps := 1000000) (disch := first | omega | (simp only [LL]; omega)) only [W, V, TY, CC, reduceIte, Nat.reduceEqDiff, Nat.reduceAdd, Nat.reduceLeDiff, Nat.reduceLT, Int.reduceLE, Int.reduceLT, Int.reduceAdd, Int.reduceSub, Int.reduceToNat, Nat.reduceMul, false_and]
theorem nat_Of (n : Int) (h0 : 0 ≤ n) (h1 : n < 18446744073709551616) : AFun Try.prog 29 [.one (.lit (.int .u64 n))] [.one (natD (nl n.toNat))] := by
  refine afun_intro mo_ _ _ c29 k29 _ _ rfl (by decide) ?_
  unfold b29
  simp (maxSteps := 1000000) (disch := first | omega | (simp only [LL]; omega)) only [W, V, TY, CC, reduceIte, Nat.reduceEqDiff, Nat.reduceAdd, Nat.reduceLeDiff, Nat.reduceLT, Int.reduceLE, Int.reduceLT, Int.reduceAdd, Int.reduceSub, Int.reduceToNat, Nat.reduceMul]
  refine a_call _ _ (nat_trim [n % 4294967296, n / 4294967296] (Lim.cons (by omega) (by omega) (Lim.one (by omega) (by omega))) (by simp)) rfl ?_
  simp (maxSteps := 1000000) (disch := first | omega | (simp only [LL]; omega)) only [W, V, TY, CC, reduceIte, Nat.reduceEqDiff, Nat.reduceAdd, Nat.reduceLeDiff, Nat.reduceLT, Int.reduceLE, Int.reduceLT, Int.reduceAdd, Int.reduceSub, Int.reduceToNat, Nat.reduceMul]
  refine f_ret _ _ _ ?_
  simp (maxSteps := 1000000) (disch := first | omega | (simp only [LL]; omega)) only [W, V, TY, CC, reduceIte, Nat.reduceEqDiff, Nat.reduceAdd, Nat.reduceLeDiff, Nat.reduceLT, Int.reduceLE, Int.reduceLT, Int.reduceAdd, Int.reduceSub, Int.reduceToNat, Nat.reduceMul]
  rw [show tr [n % 4294967296, n / 4294967296] = nl n.toNat by unfold tr nv; simp only [val]; congr 1; omega]

/-- examboard/examboardref01.Norm -/
def b49 : AF := ⟨25, 1, [.tmp 2],
  (.seq (.reg [
    ⟨some 2, .assign (.const (.slice none 0 0)), none⟩])
  (.seq (.reg [
    ⟨some 5, .move (.tmp 0), none⟩,
    ⟨some 6, .call ⟨(.builtin .len), #[(.tmp 5)], #[36]⟩, none⟩,
    ⟨some 3, .assign (.tmp 6), none⟩])
  (.seq (.block 0 (.loop (.seq (.seq (.reg [
    ⟨some 7, .move (.tmp 3), none⟩,
    ⟨some 8, .binOp .gtr 3 (.tmp 7) (.const (.int .i64 0)) 3, none⟩,
    ⟨some 9, .move (.tmp 8), none⟩,
    ⟨some 10, .move (.tmp 0), some (9, true)⟩,
    ⟨some 11, .move (.tmp 3), some (9, true)⟩,
    ⟨some 12, .binOp .sub 3 (.tmp 11) (.const (.int .i64 1)) 3, some (9, true)⟩,
    ⟨some 13, .indexAddr 36 (.tmp 10) (.tmp 12), some (9, true)⟩,
    ⟨some 14, .load 56 (.tmp 13), some (9, true)⟩,
    ⟨some 15, .binOp .eql 56 (.tmp 14) (.const (.int .u32 0)) 56, some (9, true)⟩,
    ⟨some 16, .pick (.tmp 9) (.tmp 15) (.const (.bool false)), none⟩])
  (.cond (.tmp 16)
    .skip
    (.exit 0)))
  (.block 1 (.reg [
    ⟨some 17, .move (.tmp 3), none⟩,
    ⟨some 18, .binOp .sub 3 (.tmp 17) (.const (.int .i64 1)) 3, none⟩,
    ⟨some 3, .assign (.tmp 18), none⟩])))))
  (.seq (.reg [
    ⟨some 19, .move (.tmp 3), none⟩,
    ⟨some 20, .makeSlice 36 (.tmp 19) (.tmp 19), none⟩,
    ⟨some 4, .assign (.tmp 20), none⟩])
  (.seq (.reg [
    ⟨some 21, .move (.tmp 4), none⟩,
    ⟨some 22, .move (.tmp 0), none⟩,
    ⟨some 23, .call ⟨(.builtin .copy), #[(.tmp 21), (.tmp 22)], #[36, 36]⟩, none⟩])
  (.seq (.reg [
    ⟨some 24, .move (.tmp 4), none⟩,
    ⟨some 2, .assign (.tmp 24), none⟩])
  .ret))))))⟩
theorem c49 : fcomp Try.prog 49 = ⟨b49.n, b49.np, b49.res, b49.body.bare⟩ := by kernel_rfl
theorem k49 : fok Try.prog 49 = true := by kernel_rfl
theorem ref_Norm (l : List Int) (hl : Lim l) (hb : l.length < 17592186044416) : AFun Try.prog 49 [.one (natD l)] [.one (natD (tr l))] := by
  refine afun_intro mo_ _ _ c49 k49 _ _ rfl (by decide) ?_
  unfold b49
  simp (maxSteps := 1000000) (disch := first | omega | (simp only [LL]; omega)) only [W, V, TY, CC, reduceIte, Nat.reduceEqDiff, Nat.reduceAdd, Nat.reduceLeDiff, Nat.reduceLT, Int.reduceLE, Int.reduceLT, Int.reduceAdd, Int.reduceSub, Int.reduceToNat, Nat.reduceMul]
  refine w_loop (fun n s => ∃ i : Nat, n = i ∧ s.t 0 = .one (.dt (natD l)) ∧ s.t 3 = .one (.dt (.lit (.int .i64 i))) ∧ i ≤ l.length ∧ val (l.drop i) = 0 ∧ s.g 20 = 0) l.length ⟨l.length, rfl, ?_, ?_, Nat.le_refl _, by simp [val], ?_⟩ ?_
  · simp (maxSteps := 1000000) (disch := first | omega | (simp only [LL]; omega)) only [W, V, TY, CC, reduceIte, Nat.reduceEqDiff, Nat.reduceAdd, Nat.reduceLeDiff, Nat.reduceLT, Int.reduceLE, Int.reduceLT, Int.reduceAdd, Int.reduceSub, Int.reduceToNat, Nat.reduceMul]
  · simp (maxSteps := 1000000) (disch := first | omega | (simp only [LL]; omega)) only [W, V, TY, CC, reduceIte, Nat.reduceEqDiff, Nat.reduceAdd, Nat.reduceLeDiff, Nat.reduceLT, Int.reduceLE, Int.reduceLT, Int.reduceAdd, Int.reduceSub, Int.reduceToNat, Nat.reduceMul]
  · simp (maxSteps := 1000000) (disch := first | omega | (simp only [LL]; omega)) only [W, V, TY, CC, reduceIte, Nat.reduceEqDiff, Nat.reduceAdd, Nat.reduceLeDiff, Nat.reduceLT, Int.reduceLE, Int.reduceLT, Int.reduceAdd, Int.reduceSub, Int.reduceToNat, Nat.reduceMul]
  intro n s _ ⟨i, e, h0, h3, hi, hz, hg⟩
  simp (maxSteps := 1000000) (disch := first | omega | (simp only [LL]; omega)) only [W, V, TY, CC, reduceIte, Nat.reduceEqDiff, Nat.reduceAdd, Nat.reduceLeDiff, Nat.reduceLT, Int.reduceLE, Int.reduceLT, Int.reduceAdd, Int.reduceSub, Int.reduceToNat, Nat.reduceMul, h0, h3]
  refine g_split (fun hc => ?_) (fun hc => ?_)
  · simp (maxSteps := 1000000) (disch := first | omega | (simp only [LL]; omega)) only [W, V, TY, CC, reduceIte, Nat.reduceEqDiff, Nat.reduceAdd, Nat.reduceLeDiff, Nat.reduceLT, Int.reduceLE, Int.reduceLT, Int.reduceAdd, Int.reduceSub, Int.reduceToNat, Nat.reduceMul, h0, h3, hc]
    refine c_split (fun hx => ?_) (fun hx => ?_)
    · simp (maxSteps := 1000000) (disch := first | omega | (simp only [LL]; omega)) only [W, V, TY, CC, reduceIte, Nat.reduceEqDiff, Nat.reduceAdd, Nat.reduceLeDiff, Nat.reduceLT, Int.reduceLE, Int.reduceLT, Int.reduceAdd, Int.reduceSub, Int.reduceToNat, Nat.reduceMul, h0, h3]
      refine ⟨i - 1, by omega, i - 1, rfl, ?_⟩
      refine ⟨by rw [show (((i - 1 : Nat) : Int)) = i - 1 by omega], by omega, ?_, hg⟩
      have hi1 : i - 1 < l.length := by omega
      rw [val_drop hi1, show i - 1 + 1 = i by omega, hz]
      rw [List.getD_eq_getElem?_getD, List.getElem?_eq_getElem hi1] at hx
      simp only [Option.getD_some] at hx
      omega
    · simp (maxSteps := 1000000) (disch := first | omega | (simp only [LL]; omega)) only [W, V, TY, CC, reduceIte, Nat.reduceEqDiff, Nat.reduceAdd, Nat.reduceLeDiff, Nat.reduceLT, Int.reduceLE, Int.reduceLT, Int.reduceAdd, Int.reduceSub, Int.reduceToNat, Nat.reduceMul, h0, h3, hg]
      refine f_retg _ _ _ [.frz 2] ?_
      simp (maxSteps := 1000000) (disch := first | omega | (simp only [LL]; omega)) only [W, V, TY, CC, reduceIte, Nat.reduceEqDiff, Nat.reduceAdd, Nat.reduceLeDiff, Nat.reduceLT, Int.reduceLE, Int.reduceLT, Int.reduceAdd, Int.reduceSub, Int.reduceToNat, Nat.reduceMul]
      rw [Nat.min_eq_right hi, List.drop_replicate, Nat.sub_self, List.replicate_zero, List.append_nil, tr_of_take hl hi hz (nrm_take (by omega) hi hx)]
  · simp (maxSteps := 1000000) (disch := first | omega | (simp only [LL]; omega)) only [W, V, TY, CC, reduceIte, Nat.reduceEqDiff, Nat.reduceAdd, Nat.reduceLeDiff, Nat.reduceLT, Int.reduceLE, Int.reduceLT, Int.reduceAdd, Int.reduceSub, Int.reduceToNat, Nat.reduceMul, h0, h3, hc, hg]
    refine f_retg _ _ _ [.frz 2] ?_
    simp (maxSteps := 1000000) (disch := first | omega | (simp only [LL]; omega)) only [W, V, TY, CC, reduceIte, Nat.reduceEqDiff, Nat.reduceAdd, Nat.reduceLeDiff, Nat.reduceLT, Int.reduceLE, Int.reduceLT, Int.reduceAdd, Int.reduceSub, Int.reduceToNat, Nat.reduceMul]
    have : i = 0 := by omega
    subst this
    rw [Nat.min_eq_right hi, List.drop_replicate, Nat.sub_self, List.replicate_zero, List.append_nil, tr_of_take hl hi hz (by simp [Nrm])]

/-- examboard/examboardref01.Of -/
def b30 : AF := ⟨10, 1, [.tmp 2],
  (.seq (.reg [
    ⟨some 2, .assign (.const (.slice none 0 0)), none⟩])
  (.seq (.reg [
    ⟨some 3, .move (.tmp 0), none⟩,
    ⟨some 4, .convert 55 56 (.tmp 3), none⟩,
    ⟨some 5, .move (.tmp 0), none⟩,
    ⟨some 6, .binOp .shr 55 (.tmp 5) (.const (.int .u64 32)) 68, none⟩,
    ⟨some 7, .convert 55 56 (.tmp 6), none⟩,
    ⟨some 8, .buildSlice 36 2 #[(0, (.tmp 4)), (1, (.tmp 7))], none⟩,
    ⟨some 9, .call ⟨(.value (.func 49)), #[(.tmp 8)], #[36]⟩, none⟩,
    ⟨some 2, .assign (.tmp 9), none⟩])
  .ret))⟩
theorem c30 : fcomp Try.prog 30 = ⟨b30.n, b30.np, b30.res, b30.body.bare⟩ := by kernel_rfl
theorem k30 : fok Try.prog 30 = true := by kernel_rfl
theorem ref_Of (n : Int) (h0 : 0 ≤ n) (h1 : n < 18446744073709551616) : AFun Try.prog 30 [.one (.lit (.int .u64 n))] [.one (natD (nl n.toNat))] := by
  refine afun_intro mo_ _ _ c30 k30 _ _ rfl (by decide) ?_
  unfold b30
  simp (maxSteps := 1000000) (disch := first | omega | (simp only [LL]; omega)) only [W, V, TY, CC, reduceIte, Nat.reduceEqDiff, Nat.reduceAdd, Nat.reduceLeDiff, Nat.reduceLT, Int.reduceLE, Int.reduceLT, Int.reduceAdd, Int.reduceSub, Int.reduceToNat, Nat.reduceMul, IntKind.wrap_u32]
  refine a_call _ _ (ref_Norm [n % 4294967296, n / 4294967296] (Lim.cons (by omega) (by omega) (Lim.one (by omega) (by omega))) (by simp)) rfl ?_
  simp (maxSteps := 1000000) (disch := first | omega | (simp only [LL]; omega)) only [W, V, TY, CC, reduceIte, Nat.reduceEqDiff, Nat.reduceAdd, Nat.reduceLeDiff, Nat.reduceLT, Int.reduceLE, Int.reduceLT, Int.reduceAdd, Int.reduceSub, Int.reduceToNat, Nat.reduceMul]
  refine f_ret _ _ _ ?_
  simp (maxSteps := 1000000) (disch := first | omega | (simp only [LL]; omega)) only [W, V, TY, CC, reduceIte, Nat.reduceEqDiff, Nat.reduceAdd, Nat.reduceLeDiff, Nat.reduceLT, Int.reduceLE, Int.reduceLT, Int.reduceAdd, Int.reduceSub, Int.reduceToNat, Nat.reduceMul]
  rw [show tr [n % 4294967296, n / 4294967296] = nl n.toNat by unfold tr nv; simp only [val]; congr 1; omega]

/-- what both checks of a grid say -/
def gridOK (p w : List Int) : Prop := ∀ i : Nat, i < p.length → (-1000 ≤ p.getD i 0 ∧ p.getD i 0 ≤ 1000) ∧ (1 ≤ w.getD i 0 ∧ w.getD i 0 ≤ 1000)
def gridUp (p : List Int) : Prop := ∀ i : Nat, i + 1 < p.length → p.getD i 0 < p.getD (i + 1) 0
open Classical in
noncomputable def gridV (p w : List Int) : Int := if 21 < (p.length : Int) then 5 else if (p.length : Int) = 0 then 20 else if ¬ (w.length : Int) = p.length then 1 else if ¬ gridOK p w then 3 else if ¬ gridUp p then 23 else 0

end Go.Proofs.Ytnlmfdojnacofaa.E

set_option linter.unusedSimpArgs false
set_option linter.unusedVariables false
set_option maxHeartbeats 2000000
namespace Go.Proofs.Ytnlmfdojnacofaa.E
open Go.RowKit Limbs
/-- examboard/grid.Valid -/
def b15 : AF := ⟨65, 1, [.tmp 2],
  (.seq (.reg [
    ⟨some 1, .box 24 (.tmp 0), none⟩,
    ⟨some 2, .assign (.const (.int .i64 0)), none⟩])
  (.seq (.block 0 (.seq (.reg [
    ⟨some 7, .fieldAddr 24 (.tmp 1) 0, none⟩,
    ⟨some 8, .load 22 (.tmp 7), none⟩,
    ⟨some 9, .call ⟨(.builtin .len), #[(.tmp 8)], #[22]⟩, none⟩,
    ⟨some 10, .binOp .gtr 3 (.tmp 9) (.const (.int .i64 21)) 3, none⟩,
    ⟨some 6, .assign (.tmp 10), none⟩])
  (.cond (.tmp 6)
    (.seq (.reg [
      ⟨some 2, .assign (.const (.int .i64 5)), none⟩])
    .ret)
    (.seq (.reg [
      ⟨some 12, .fieldAddr 24 (.tmp 1) 0, none⟩,
      ⟨some 13, .load 22 (.tmp 12), none⟩,
      ⟨some 14, .call ⟨(.builtin .len), #[(.tmp 13)], #[22]⟩, none⟩,
      ⟨some 15, .binOp .eql 3 (.tmp 14) (.const (.int .i64 0)) 3, none⟩,
      ⟨some 11, .assign (.tmp 15), none⟩])
    (.cond (.tmp 11)
      (.seq (.reg [
        ⟨some 2, .assign (.const (.int .i64 20)), none⟩])
      .ret)
      (.seq (.reg [
        ⟨some 17, .fieldAddr 24 (.tmp 1) 1, none⟩,
        ⟨some 18, .load 22 (.tmp 17), none⟩,
        ⟨some 19, .call ⟨(.builtin .len), #[(.tmp 18)], #[22]⟩, none⟩,
        ⟨some 20, .fieldAddr 24 (.tmp 1) 0, none⟩,
        ⟨some 21, .load 22 (.tmp 20), none⟩,
        ⟨some 22, .call ⟨(.builtin .len), #[(.tmp 21)], #[22]⟩, none⟩,
        ⟨some 23, .binOp .neq 3 (.tmp 19) (.tmp 22) 3, none⟩,
        ⟨some 16, .assign (.tmp 23), none⟩])
      (.cond (.tmp 16)
        (.seq (.reg [
          ⟨some 2, .assign (.const (.int .i64 1)), none⟩])
        .ret)
        .skip)))))))
  (.seq (.seq (.reg [
    ⟨some 24, .fieldAddr 24 (.tmp 1) 0, none⟩,
    ⟨some 25, .load 22 (.tmp 24), none⟩,
    ⟨some 26, .call ⟨(.builtin .len), #[(.tmp 25)], #[22]⟩, none⟩,
    ⟨some 27, .move (.const (.int .i64 0)), none⟩])
  (.block 1 (.loop (.seq (.reg [
    ⟨some 28, .binOp .lss 3 (.tmp 27) (.tmp 26) 3, none⟩])
  (.seq (.cond (.tmp 28)
    .skip
    (.exit 1))
  (.seq (.block 2 (.seq (.reg [
    ⟨some 29, .move (.tmp 27), none⟩,
    ⟨some 30, .indexAddr 22 (.tmp 25) (.tmp 27), none⟩,
    ⟨some 31, .load 3 (.tmp 30), none⟩,
    ⟨some 3, .assign (.tmp 29), none⟩,
    ⟨some 4, .assign (.tmp 31), none⟩])
  (.seq (.reg [
    ⟨some 32, .move (.tmp 4), none⟩,
    ⟨some 33, .call ⟨(.value (.func 31)), #[(.tmp 32), (.const (.int .i64 (-1000))), (.const (.int .i64 1000))], #[3, 3, 3]⟩, none⟩,
    ⟨some 34, .unOp .not 4 (.tmp 33), none⟩,
    ⟨some 35, .move (.tmp 34), none⟩,
    ⟨some 36, .fieldAddr 24 (.tmp 1) 1, some (35, false)⟩,
    ⟨some 37, .load 22 (.tmp 36), some (35, false)⟩,
    ⟨some 38, .move (.tmp 3), some (35, false)⟩,
    ⟨some 39, .indexAddr 22 (.tmp 37) (.tmp 38), some (35, false)⟩,
    ⟨some 40, .load 3 (.tmp 39), some (35, false)⟩,
    ⟨some 41, .call ⟨(.value (.func 31)), #[(.tmp 40), (.const (.int .i64 1)), (.const (.int .i64 1000))], #[3, 3, 3]⟩, some (35, false)⟩,
    ⟨some 42, .unOp .not 4 (.tmp 41), some (35, false)⟩,
    ⟨some 43, .pick (.tmp 35) (.const (.bool true)) (.tmp 42), none⟩])
  (.cond (.tmp 43)
    (.seq (.reg [
      ⟨some 2, .assign (.const (.int .i64 3)), none⟩])
    .ret)
    .skip))))
  (.reg [
    ⟨some 44, .binOp .add 3 (.tmp 27) (.const (.int .i64 1)) 3, none⟩,
    ⟨some 27, .move (.tmp 44), none⟩])))))))
  (.seq (.seq (.reg [
    ⟨some 45, .fieldAddr 24 (.tmp 1) 0, none⟩,
    ⟨some 46, .load 22 (.tmp 45), none⟩,
    ⟨some 47, .slice 22 (.tmp 46) (some (.const (.int .i64 1))) none none, none⟩,
    ⟨some 48, .call ⟨(.builtin .len), #[(.tmp 47)], #[22]⟩, none⟩,
    ⟨some 49, .move (.const (.int .i64 0)), none⟩])
  (.block 3 (.loop (.seq (.reg [
    ⟨some 50, .binOp .lss 3 (.tmp 49) (.tmp 48) 3, none⟩])
  (.seq (.cond (.tmp 50)
    .skip
    (.exit 3))
  (.seq (.block 4 (.seq (.reg [
    ⟨some 51, .move (.tmp 49), none⟩,
    ⟨some 5, .assign (.tmp 51), none⟩])
  (.seq (.dreg [
    ⟨some 52, .fieldAddr 24 (.tmp 1) 0, none⟩,
    ⟨some 53, .load 22 (.tmp 52), none⟩,
    ⟨some 54, .move (.tmp 5), none⟩,
    ⟨some 55, .indexAddr 22 (.tmp 53) (.tmp 54), none⟩,
    ⟨some 56, .load 3 (.tmp 55), none⟩,
    ⟨some 57, .fieldAddr 24 (.tmp 1) 0, none⟩,
    ⟨some 58, .load 22 (.tmp 57), none⟩,
    ⟨some 59, .move (.tmp 5), none⟩,
    ⟨some 60, .binOp .add 3 (.tmp 59) (.const (.int .i64 1)) 3, none⟩,
    ⟨some 61, .indexAddr 22 (.tmp 58) (.tmp 60), none⟩,
    ⟨some 62, .load 3 (.tmp 61), none⟩,
    ⟨some 63, .binOp .geq 3 (.tmp 56) (.tmp 62) 3, none⟩])
  (.cond (.tmp 63)
    (.seq (.reg [
      ⟨some 2, .assign (.const (.int .i64 23)), none⟩])
    .ret)
    .skip))))
  (.reg [
    ⟨some 64, .binOp .add 3 (.tmp 49) (.const (.int .i64 1)) 3, none⟩,
    ⟨some 49, .move (.tmp 64), none⟩])))))))
  (.seq (.reg [
    ⟨some 2, .assign (.const (.int .i64 0)), none⟩])
  .ret)))))⟩
theorem c15 : fcomp Try.prog 15 = ⟨b15.n, b15.np, b15.res, b15.body.bare⟩ := by kernel_rfl
theorem k15 : fok Try.prog 15 = true := by kernel_rfl
theorem grid_Valid (p w : List Int) : AFun Try.prog 15 [.agg [intsD p, intsD w]] [.one (.lit (.int .i64 (gridV p w)))] := by
  refine afun_intro mo_ _ _ c15 k15 _ _ rfl (by decide) ?_
  unfold b15
  simp (maxSteps := 1000000) (disch := first | omega | (simp only [LL]; omega)) only [W, V, TY, CC, reduceIte, Nat.reduceEqDiff, Nat.reduceAdd, Nat.reduceLeDiff, Nat.reduceLT, Int.reduceLE, Int.reduceLT, Int.reduceAdd, Int.reduceSub, Int.reduceToNat, Nat.reduceMul]
  refine c_split (fun h1 => ?_) (fun h1 => ?_)
  · simp (maxSteps := 1000000) (disch := first | omega | (simp only [LL]; omega)) only [W, V, TY, CC, reduceIte, Nat.reduceEqDiff, Nat.reduceAdd, Nat.reduceLeDiff, Nat.reduceLT, Int.reduceLE, Int.reduceLT, Int.reduceAdd, Int.reduceSub, Int.reduceToNat, Nat.reduceMul]
    refine f_ret _ _ _ ?_
    simp (maxSteps := 1000000) (disch := first | omega | (simp only [LL]; omega)) only [W, V, TY, CC, reduceIte, Nat.reduceEqDiff, Nat.reduceAdd, Nat.reduceLeDiff, Nat.reduceLT, Int.reduceLE, Int.reduceLT, Int.reduceAdd, Int.reduceSub, Int.reduceToNat, Nat.reduceMul, gridV, h1]
  simp (maxSteps := 1000000) (disch := first | omega | (simp only [LL]; omega)) only [W, V, TY, CC, reduceIte, Nat.reduceEqDiff, Nat.reduceAdd, Nat.reduceLeDiff, Nat.reduceLT, Int.reduceLE, Int.reduceLT, Int.reduceAdd, Int.reduceSub, Int.reduceToNat, Nat.reduceMul]
  refine c_split (fun h2 => ?_) (fun h2 => ?_)
  · simp (maxSteps := 1000000) (disch := first | omega | (simp only [LL]; omega)) only [W, V, TY, CC, reduceIte, Nat.reduceEqDiff, Nat.reduceAdd, Nat.reduceLeDiff, Nat.reduceLT, Int.reduceLE, Int.reduceLT, Int.reduceAdd, Int.reduceSub, Int.reduceToNat, Nat.reduceMul]
    refine f_ret _ _ _ ?_
    simp (maxSteps := 1000000) (disch := first | omega | (simp only [LL]; omega)) only [W, V, TY, CC, reduceIte, Nat.reduceEqDiff, Nat.reduceAdd, Nat.reduceLeDiff, Nat.reduceLT, Int.reduceLE, Int.reduceLT, Int.reduceAdd, Int.reduceSub, Int.reduceToNat, Nat.reduceMul, gridV, h1, h2]
  simp (maxSteps := 1000000) (disch := first | omega | (simp only [LL]; omega)) only [W, V, TY, CC, reduceIte, Nat.reduceEqDiff, Nat.reduceAdd, Nat.reduceLeDiff, Nat.reduceLT, Int.reduceLE, Int.reduceLT, Int.reduceAdd, Int.reduceSub, Int.reduceToNat, Nat.reduceMul]
  refine c_split (fun h3 => ?_) (fun h3 => ?_)
  · simp (maxSteps := 1000000) (disch := first | omega | (simp only [LL]; omega)) only [W, V, TY, CC, reduceIte, Nat.reduceEqDiff, Nat.reduceAdd, Nat.reduceLeDiff, Nat.reduceLT, Int.reduceLE, Int.reduceLT, Int.reduceAdd, Int.reduceSub, Int.reduceToNat, Nat.reduceMul]
    refine f_ret _ _ _ ?_
    simp (maxSteps := 1000000) (disch := first | omega | (simp only [LL]; omega)) only [W, V, TY, CC, reduceIte, Nat.reduceEqDiff, Nat.reduceAdd, Nat.reduceLeDiff, Nat.reduceLT, Int.reduceLE, Int.reduceLT, Int.reduceAdd, Int.reduceSub, Int.reduceToNat, Nat.reduceMul, gridV, h1, h2, h3]
  simp (maxSteps := 1000000) (disch := first | omega | (simp only [LL]; omega)) only [W, V, TY, CC, reduceIte, Nat.reduceEqDiff, Nat.reduceAdd, Nat.reduceLeDiff, Nat.reduceLT, Int.reduceLE, Int.reduceLT, Int.reduceAdd, Int.reduceSub, Int.reduceToNat, Nat.reduceMul]
  have hl : w.length = p.length := by omega
  refine w_loop (fun n s => ∃ i : Nat, n + i = p.length ∧ s.t 1 = .ptr (1, 0) 0 ∧ s.v (1, 0) = some [.dt (intsD p), .dt (intsD w)] ∧ s.t 25 = .one (.dt (intsD p)) ∧ s.t 26 = .one (.dt (.lit (.int .i64 p.length))) ∧ s.t 27 = .one (.dt (.lit (.int .i64 i))) ∧ ∀ j : Nat, j < i → (-1000 ≤ p.getD j 0 ∧ p.getD j 0 ≤ 1000) ∧ (1 ≤ w.getD j 0 ∧ w.getD j 0 ≤ 1000)) p.length ⟨0, rfl, ?_, ?_, ?_, ?_, ?_, fun j hj => by omega⟩ ?_
  · simp (maxSteps := 1000000) (disch := first | omega | (simp only [LL]; omega)) only [W, V, TY, CC, reduceIte, Nat.reduceEqDiff, Nat.reduceAdd, Nat.reduceLeDiff, Nat.reduceLT, Int.reduceLE, Int.reduceLT, Int.reduceAdd, Int.reduceSub, Int.reduceToNat, Nat.reduceMul]
  · simp (maxSteps := 1000000) (disch := first | omega | (simp only [LL]; omega)) only [W, V, TY, CC, reduceIte, Nat.reduceEqDiff, Nat.reduceAdd, Nat.reduceLeDiff, Nat.reduceLT, Int.reduceLE, Int.reduceLT, Int.reduceAdd, Int.reduceSub, Int.reduceToNat, Nat.reduceMul]
  · simp (maxSteps := 1000000) (disch := first | omega | (simp only [LL]; omega)) only [W, V, TY, CC, reduceIte, Nat.reduceEqDiff, Nat.reduceAdd, Nat.reduceLeDiff, Nat.reduceLT, Int.reduceLE, Int.reduceLT, Int.reduceAdd, Int.reduceSub, Int.reduceToNat, Nat.reduceMul]
  · simp (maxSteps := 1000000) (disch := first | omega | (simp only [LL]; omega)) only [W, V, TY, CC, reduceIte, Nat.reduceEqDiff, Nat.reduceAdd, Nat.reduceLeDiff, Nat.reduceLT, Int.reduceLE, Int.reduceLT, Int.reduceAdd, Int.reduceSub, Int.reduceToNat, Nat.reduceMul]
  · simp (maxSteps := 1000000) (disch := first | omega | (simp only [LL]; omega)) only [W, V, TY, CC, reduceIte, Nat.reduceEqDiff, Nat.reduceAdd, Nat.reduceLeDiff, Nat.reduceLT, Int.reduceLE, Int.reduceLT, Int.reduceAdd, Int.reduceSub, Int.reduceToNat, Nat.reduceMul]
  intro n s _ ⟨i, e, t1, v1, t25, t26, t27, ho⟩
  simp (maxSteps := 1000000) (disch := first | omega | (simp only [LL]; omega)) only [W, V, TY, CC, reduceIte, Nat.reduceEqDiff, Nat.reduceAdd, Nat.reduceLeDiff, Nat.reduceLT, Int.reduceLE, Int.reduceLT, Int.reduceAdd, Int.reduceSub, Int.reduceToNat, Nat.reduceMul, t1, v1, t25, t26, t27]
  refine c_split (fun hi => ?_) (fun hi => ?_)
  · simp (maxSteps := 1000000) (disch := first | omega | (simp only [LL]; omega)) only [W, V, TY, CC, reduceIte, Nat.reduceEqDiff, Nat.reduceAdd, Nat.reduceLeDiff, Nat.reduceLT, Int.reduceLE, Int.reduceLT, Int.reduceAdd, Int.reduceSub, Int.reduceToNat, Nat.reduceMul, t1, v1, t25, t26, t27]
    refine a_call _ _ (grid_within (p.getD i 0) (-1000) 1000) rfl ?_
    simp (maxSteps := 1000000) (disch := first | omega | (simp only [LL]; omega)) only [W, V, TY, CC, reduceIte, Nat.reduceEqDiff, Nat.reduceAdd, Nat.reduceLeDiff, Nat.reduceLT, Int.reduceLE, Int.reduceLT, Int.reduceAdd, Int.reduceSub, Int.reduceToNat, Nat.reduceMul, t1, v1, t25, t26, t27]
    refine g_split (fun h4 => ?_) (fun h4 => ?_)
    · simp (maxSteps := 1000000) (disch := first | omega | (simp only [LL]; omega)) only [W, V, TY, CC, reduceIte, Nat.reduceEqDiff, Nat.reduceAdd, Nat.reduceLeDiff, Nat.reduceLT, Int.reduceLE, Int.reduceLT, Int.reduceAdd, Int.reduceSub, Int.reduceToNat, Nat.reduceMul, t1, v1, t25, t26, t27, h4]
      refine f_ret _ _ _ ?_
      simp (maxSteps := 1000000) (disch := first | omega | (simp only [LL]; omega)) only [W, V, TY, CC, reduceIte, Nat.reduceEqDiff, Nat.reduceAdd, Nat.reduceLeDiff, Nat.reduceLT, Int.reduceLE, Int.reduceLT, Int.reduceAdd, Int.reduceSub, Int.reduceToNat, Nat.reduceMul, gridV, h1, h2, h3]
      rw [if_pos (fun h => h4 (h i (by omega)).1)]
    simp (maxSteps := 1000000) (disch := first | omega | (simp only [LL]; omega)) only [W, V, TY, CC, reduceIte, Nat.reduceEqDiff, Nat.reduceAdd, Nat.reduceLeDiff, Nat.reduceLT, Int.reduceLE, Int.reduceLT, Int.reduceAdd, Int.reduceSub, Int.reduceToNat, Nat.reduceMul, t1, v1, t25, t26, t27, h4]
    refine a_call _ _ (grid_within (w.getD i 0) 1 1000) (by simp (maxSteps := 1000000) (disch := first | omega | (simp only [LL]; omega)) only [W, V, TY, CC, reduceIte, Nat.reduceEqDiff, Nat.reduceAdd, Nat.reduceLeDiff, Nat.reduceLT, Int.reduceLE, Int.reduceLT, Int.reduceAdd, Int.reduceSub, Int.reduceToNat, Nat.reduceMul, t1, v1, t25, t26, t27, h4]) ?_
    simp (maxSteps := 1000000) (disch := first | omega | (simp only [LL]; omega)) only [W, V, TY, CC, reduceIte, Nat.reduceEqDiff, Nat.reduceAdd, Nat.reduceLeDiff, Nat.reduceLT, Int.reduceLE, Int.reduceLT, Int.reduceAdd, Int.reduceSub, Int.reduceToNat, Nat.reduceMul, t1, v1, t25, t26, t27, h4]
    refine c_split (fun h5 => ?_) (fun h5 => ?_)
    · simp (maxSteps := 1000000) (disch := first | omega | (simp only [LL]; omega)) only [W, V, TY, CC, reduceIte, Nat.reduceEqDiff, Nat.reduceAdd, Nat.reduceLeDiff, Nat.reduceLT, Int.reduceLE, Int.reduceLT, Int.reduceAdd, Int.reduceSub, Int.reduceToNat, Nat.reduceMul, t1, v1, t25, t26, t27, h4]
      refine f_ret _ _ _ ?_
      simp (maxSteps := 1000000) (disch := first | omega | (simp only [LL]; omega)) only [W, V, TY, CC, reduceIte, Nat.reduceEqDiff, Nat.reduceAdd, Nat.reduceLeDiff, Nat.reduceLT, Int.reduceLE, Int.reduceLT, Int.reduceAdd, Int.reduceSub, Int.reduceToNat, Nat.reduceMul, gridV, h1, h2, h3]
      rw [if_pos (fun h => h5 (h i (by omega)).2)]
    simp (maxSteps := 1000000) (disch := first | omega | (simp only [LL]; omega)) only [W, V, TY, CC, reduceIte, Nat.reduceEqDiff, Nat.reduceAdd, Nat.reduceLeDiff, Nat.reduceLT, Int.reduceLE, Int.reduceLT, Int.reduceAdd, Int.reduceSub, Int.reduceToNat, Nat.reduceMul, t1, v1, t25, t26, t27, h4]
    refine ⟨n - 1, by omega, i + 1, by omega, rfl, fun j hj => ?_⟩
    by_cases hji : j = i
    · subst hji; exact ⟨Classical.not_not.1 h4, Classical.not_not.1 h5⟩
    · exact ho j (by omega)
  · simp (maxSteps := 1000000) (disch := first | omega | (simp only [LL]; omega)) only [W, V, TY, CC, reduceIte, Nat.reduceEqDiff, Nat.reduceAdd, Nat.reduceLeDiff, Nat.reduceLT, Int.reduceLE, Int.reduceLT, Int.reduceAdd, Int.reduceSub, Int.reduceToNat, Nat.reduceMul, t1, v1, t25, t26, t27]
    have hok : gridOK p w := fun j hj => ho j (by omega)
    refine w_loop (fun n s => ∃ i : Nat, n + i = p.length ∧ s.t 1 = .ptr (1, 0) 0 ∧ s.v (1, 0) = some [.dt (intsD p), .dt (intsD w)] ∧ s.t 48 = .one (.dt (.lit (.int .i64 (p.length - 1 : Nat)))) ∧ s.t 49 = .one (.dt (.lit (.int .i64 i))) ∧ ∀ j : Nat, j < i → p.getD j 0 < p.getD (j + 1) 0) p.length ⟨0, rfl, ?_, ?_, ?_, ?_, fun j hj => by omega⟩ ?_
    · simp (maxSteps := 1000000) (disch := first | omega | (simp only [LL]; omega)) only [W, V, TY, CC, reduceIte, Nat.reduceEqDiff, Nat.reduceAdd, Nat.reduceLeDiff, Nat.reduceLT, Int.reduceLE, Int.reduceLT, Int.reduceAdd, Int.reduceSub, Int.reduceToNat, Nat.reduceMul, t1, v1, t25, t26, t27]
    · simp (maxSteps := 1000000) (disch := first | omega | (simp only [LL]; omega)) only [W, V, TY, CC, reduceIte, Nat.reduceEqDiff, Nat.reduceAdd, Nat.reduceLeDiff, Nat.reduceLT, Int.reduceLE, Int.reduceLT, Int.reduceAdd, Int.reduceSub, Int.reduceToNat, Nat.reduceMul, t1, v1, t25, t26, t27]
    · simp (maxSteps := 1000000) (disch := first | omega | (simp only [LL]; omega)) only [W, V, TY, CC, reduceIte, Nat.reduceEqDiff, Nat.reduceAdd, Nat.reduceLeDiff, Nat.reduceLT, Int.reduceLE, Int.reduceLT, Int.reduceAdd, Int.reduceSub, Int.reduceToNat, Nat.reduceMul, t1, v1, t25, t26, t27]
    · simp (maxSteps := 1000000) (disch := first | omega | (simp only [LL]; omega)) only [W, V, TY, CC, reduceIte, Nat.reduceEqDiff, Nat.reduceAdd, Nat.reduceLeDiff, Nat.reduceLT, Int.reduceLE, Int.reduceLT, Int.reduceAdd, Int.reduceSub, Int.reduceToNat, Nat.reduceMul, t1, v1, t25, t26, t27]
    clear t1 v1 t25 t26 t27 ho hi e
    intro n s _ ⟨i, e, t1, v1, t48, t49, ho⟩
    simp (maxSteps := 1000000) (disch := first | omega | (simp only [LL]; omega)) only [W, V, TY, CC, reduceIte, Nat.reduceEqDiff, Nat.reduceAdd, Nat.reduceLeDiff, Nat.reduceLT, Int.reduceLE, Int.reduceLT, Int.reduceAdd, Int.reduceSub, Int.reduceToNat, Nat.reduceMul, t1, v1, t48, t49]
    refine c_split (fun hi => ?_) (fun hi => ?_)
    · simp (maxSteps := 1000000) (disch := first | omega | (simp only [LL]; omega)) only [W, V, TY, CC, reduceIte, Nat.reduceEqDiff, Nat.reduceAdd, Nat.reduceLeDiff, Nat.reduceLT, Int.reduceLE, Int.reduceLT, Int.reduceAdd, Int.reduceSub, Int.reduceToNat, Nat.reduceMul, t1, v1, t48, t49]
      refine c_split (fun h6 => ?_) (fun h6 => ?_)
      · simp (maxSteps := 1000000) (disch := first | omega | (simp only [LL]; omega)) only [W, V, TY, CC, reduceIte, Nat.reduceEqDiff, Nat.reduceAdd, Nat.reduceLeDiff, Nat.reduceLT, Int.reduceLE, Int.reduceLT, Int.reduceAdd, Int.reduceSub, Int.reduceToNat, Nat.reduceMul, t1, v1, t48, t49]
        refine f_ret _ _ _ ?_
        simp (maxSteps := 1000000) (disch := first | omega | (simp only [LL]; omega)) only [W, V, TY, CC, reduceIte, Nat.reduceEqDiff, Nat.reduceAdd, Nat.reduceLeDiff, Nat.reduceLT, Int.reduceLE, Int.reduceLT, Int.reduceAdd, Int.reduceSub, Int.reduceToNat, Nat.reduceMul, gridV, h1, h2, h3, hok]
        rw [if_pos (fun h => ?_)]
        have := h i (by omega)
        omega
      · simp (maxSteps := 1000000) (disch := first | omega | (simp only [LL]; omega)) only [W, V, TY, CC, reduceIte, Nat.reduceEqDiff, Nat.reduceAdd, Nat.reduceLeDiff, Nat.reduceLT, Int.reduceLE, Int.reduceLT, Int.reduceAdd, Int.reduceSub, Int.reduceToNat, Nat.reduceMul, t1, v1, t48, t49]
        refine ⟨n - 1, by omega, i + 1, by omega, rfl, fun j hj => ?_⟩
        by_cases hji : j = i
        · subst hji; omega
        · exact ho j (by omega)
    · simp (maxSteps := 1000000) (disch := first | omega | (simp only [LL]; omega)) only [W, V, TY, CC, reduceIte, Nat.reduceEqDiff, Nat.reduceAdd, Nat.reduceLeDiff, Nat.reduceLT, Int.reduceLE, Int.reduceLT, Int.reduceAdd, Int.reduceSub, Int.reduceToNat, Nat.reduceMul, t1, v1, t48, t49]
      refine f_ret _ _ _ ?_
      simp (maxSteps := 1000000) (disch := first | omega | (simp only [LL]; omega)) only [W, V, TY, CC, reduceIte, Nat.reduceEqDiff, Nat.reduceAdd, Nat.reduceLeDiff, Nat.reduceLT, Int.reduceLE, Int.reduceLT, Int.reduceAdd, Int.reduceSub, Int.reduceToNat, Nat.reduceMul, gridV, h1, h2, h3, hok]
      rw [if_neg (fun h => h (fun j hj => ho j (by omega)))]
end Go.Proofs.Ytnlmfdojnacofaa.E

set_option linter.unusedSimpArgs false
set_option linter.unusedVariables false
set_option maxHeartbeats 2000000
namespace Go.Proofs.Ytnlmfdojnacofaa.E
open Go.RowKit Limbs
/-- examboard/examboardref18.Valid -/
def b16 : AF := ⟨70, 1, [.tmp 2],
  (.seq (.reg [
    ⟨some 1, .box 24 (.tmp 0), none⟩,
    ⟨some 2, .assign (.const (.int .i64 0)), none⟩])
  (.seq (.reg [
    ⟨some 6, .fieldAddr 24 (.tmp 1) 0, none⟩,
    ⟨some 7, .load 22 (.tmp 6), none⟩,
    ⟨some 8, .call ⟨(.builtin .len), #[(.tmp 7)], #[22]⟩, none⟩,
    ⟨some 3, .assign (.tmp 8), none⟩])
  (.seq (.seq (.reg [
    ⟨some 9, .move (.tmp 3), none⟩,
    ⟨some 10, .binOp .gtr 3 (.tmp 9) (.const (.int .i64 21)) 3, none⟩])
  (.cond (.tmp 10)
    (.seq (.reg [
      ⟨some 2, .assign (.const (.int .i64 5)), none⟩])
    .ret)
    .skip))
  (.seq (.seq (.reg [
    ⟨some 11, .move (.tmp 3), none⟩,
    ⟨some 12, .binOp .eql 3 (.tmp 11) (.const (.int .i64 0)) 3, none⟩])
  (.cond (.tmp 12)
    (.seq (.reg [
      ⟨some 2, .assign (.const (.int .i64 20)), none⟩])
    .ret)
    .skip))
  (.seq (.seq (.reg [
    ⟨some 13, .fieldAddr 24 (.tmp 1) 1, none⟩,
    ⟨some 14, .load 22 (.tmp 13), none⟩,
    ⟨some 15, .call ⟨(.builtin .len), #[(.tmp 14)], #[22]⟩, none⟩,
    ⟨some 16, .move (.tmp 3), none⟩,
    ⟨some 17, .binOp .neq 3 (.tmp 15) (.tmp 16) 3, none⟩])
  (.cond (.tmp 17)
    (.seq (.reg [
      ⟨some 2, .assign (.const (.int .i64 1)), none⟩])
    .ret)
    .skip))
  (.seq (.seq (.reg [
    ⟨some 4, .assign (.const (.int .i64 0)), none⟩])
  (.block 0 (.loop (.seq (.seq (.reg [
    ⟨some 18, .move (.tmp 4), none⟩,
    ⟨some 19, .move (.tmp 3), none⟩,
    ⟨some 20, .binOp .lss 3 (.tmp 18) (.tmp 19) 3, none⟩])
  (.cond (.tmp 20)
    .skip
    (.exit 0)))
  (.seq (.block 1 (.seq (.reg [
    ⟨some 23, .fieldAddr 24 (.tmp 1) 0, none⟩,
    ⟨some 24, .load 22 (.tmp 23), none⟩,
    ⟨some 25, .move (.tmp 4), none⟩,
    ⟨some 26, .indexAddr 22 (.tmp 24) (.tmp 25), none⟩,
    ⟨some 27, .load 3 (.tmp 26), none⟩,
    ⟨some 28, .binOp .lss 3 (.tmp 27) (.const (.int .i64 (-1000))) 3, none⟩,
    ⟨some 29, .move (.tmp 28), none⟩,
    ⟨some 30, .fieldAddr 24 (.tmp 1) 0, some (29, false)⟩,
    ⟨some 31, .load 22 (.tmp 30), some (29, false)⟩,
    ⟨some 32, .move (.tmp 4), some (29, false)⟩,
    ⟨some 33, .indexAddr 22 (.tmp 31) (.tmp 32), some (29, false)⟩,
    ⟨some 34, .load 3 (.tmp 33), some (29, false)⟩,
    ⟨some 35, .binOp .gtr 3 (.tmp 34) (.const (.int .i64 1000)) 3, some (29, false)⟩,
    ⟨some 36, .pick (.tmp 29) (.const (.bool true)) (.tmp 35), none⟩,
    ⟨some 37, .move (.tmp 36), none⟩,
    ⟨some 38, .fieldAddr 24 (.tmp 1) 1, some (37, false)⟩,
    ⟨some 39, .load 22 (.tmp 38), some (37, false)⟩,
    ⟨some 40, .move (.tmp 4), some (37, false)⟩,
    ⟨some 41, .indexAddr 22 (.tmp 39) (.tmp 40), some (37, false)⟩,
    ⟨some 42, .load 3 (.tmp 41), some (37, false)⟩,
    ⟨some 43, .binOp .lss 3 (.tmp 42) (.const (.int .i64 1)) 3, some (37, false)⟩,
    ⟨some 44, .pick (.tmp 37) (.const (.bool true)) (.tmp 43), none⟩,
    ⟨some 45, .move (.tmp 44), none⟩,
    ⟨some 46, .fieldAddr 24 (.tmp 1) 1, some (45, false)⟩,
    ⟨some 47, .load 22 (.tmp 46), some (45, false)⟩,
    ⟨some 48, .move (.tmp 4), some (45, false)⟩,
    ⟨some 49, .indexAddr 22 (.tmp 47) (.tmp 48), some (45, false)⟩,
    ⟨some 50, .load 3 (.tmp 49), some (45, false)⟩,
    ⟨some 51, .binOp .gtr 3 (.tmp 50) (.const (.int .i64 1000)) 3, some (45, false)⟩,
    ⟨some 52, .pick (.tmp 45) (.const (.bool true)) (.tmp 51), none⟩])
  (.cond (.tmp 52)
    (.seq (.reg [
      ⟨some 2, .assign (.const (.int .i64 3)), none⟩])
    .ret)
    .skip)))
  (.reg [
    ⟨some 21, .move (.tmp 4), none⟩,
    ⟨some 22, .binOp .add 3 (.tmp 21) (.const (.int .i64 1)) 3, none⟩,
    ⟨some 4, .assign (.tmp 22), none⟩]))))))
  (.seq (.seq (.reg [
    ⟨some 5, .assign (.const (.int .i64 1)), none⟩])
  (.block 2 (.loop (.seq (.seq (.reg [
    ⟨some 53, .move (.tmp 5), none⟩,
    ⟨some 54, .move (.tmp 3), none⟩,
    ⟨some 55, .binOp .lss 3 (.tmp 53) (.tmp 54) 3, none⟩])
  (.cond (.tmp 55)
    .skip
    (.exit 2)))
  (.seq (.block 3 (.seq (.dreg [
    ⟨some 58, .fieldAddr 24 (.tmp 1) 0, none⟩,
    ⟨some 59, .load 22 (.tmp 58), none⟩,
    ⟨some 60, .move (.tmp 5), none⟩,
    ⟨some 61, .indexAddr 22 (.tmp 59) (.tmp 60), none⟩,
    ⟨some 62, .load 3 (.tmp 61), none⟩,
    ⟨some 63, .fieldAddr 24 (.tmp 1) 0, none⟩,
    ⟨some 64, .load 22 (.tmp 63), none⟩,
    ⟨some 65, .move (.tmp 5), none⟩,
    ⟨some 66, .binOp .sub 3 (.tmp 65) (.const (.int .i64 1)) 3, none⟩,
    ⟨some 67, .indexAddr 22 (.tmp 64) (.tmp 66), none⟩,
    ⟨some 68, .load 3 (.tmp 67), none⟩,
    ⟨some 69, .binOp .leq 3 (.tmp 62) (.tmp 68) 3, none⟩])
  (.cond (.tmp 69)
    (.seq (.reg [
      ⟨some 2, .assign (.const (.int .i64 23)), none⟩])
    .ret)
    .skip)))
  (.reg [
    ⟨some 56, .move (.tmp 5), none⟩,
    ⟨some 57, .binOp .add 3 (.tmp 56) (.const (.int .i64 1)) 3, none⟩,
    ⟨some 5, .assign (.tmp 57), none⟩]))))))
  (.seq (.reg [
    ⟨some 2, .assign (.const (.int .i64 0)), none⟩])
  .ret))))))))⟩
theorem c16 : fcomp Try.prog 16 = ⟨b16.n, b16.np, b16.res, b16.body.bare⟩ := by kernel_rfl
theorem k16 : fok Try.prog 16 = true := by kernel_rfl
theorem ref_Valid (p w : List Int) : AFun Try.prog 16 [.agg [intsD p, intsD w]] [.one (.lit (.int .i64 (gridV p w)))] := by
  refine afun_intro mo_ _ _ c16 k16 _ _ rfl (by decide) ?_
  unfold b16
  simp (maxSteps := 1000000) (disch := first | omega | (simp only [LL]; omega)) only [W, V, TY, CC, reduceIte, Nat.reduceEqDiff, Nat.reduceAdd, Nat.reduceLeDiff, Nat.reduceLT, Int.reduceLE, Int.reduceLT, Int.reduceAdd, Int.reduceSub, Int.reduceToNat, Nat.reduceMul]
  refine c_split (fun h1 => ?_) (fun h1 => ?_)
  · simp (maxSteps := 1000000) (disch := first | omega | (simp only [LL]; omega)) only [W, V, TY, CC, reduceIte, Nat.reduceEqDiff, Nat.reduceAdd, Nat.reduceLeDiff, Nat.reduceLT, Int.reduceLE, Int.reduceLT, Int.reduceAdd, Int.reduceSub, Int.reduceToNat, Nat.reduceMul]
    refine f_ret _ _ _ ?_
    simp (maxSteps := 1000000) (disch := first | omega | (simp only [LL]; omega)) only [W, V, TY, CC, reduceIte, Nat.reduceEqDiff, Nat.reduceAdd, Nat.reduceLeDiff, Nat.reduceLT, Int.reduceLE, Int.reduceLT, Int.reduceAdd, Int.reduceSub, Int.reduceToNat, Nat.reduceMul, gridV, h1]
  simp (maxSteps := 1000000) (disch := first | omega | (simp only [LL]; omega)) only [W, V, TY, CC, reduceIte, Nat.reduceEqDiff, Nat.reduceAdd, Nat.reduceLeDiff, Nat.reduceLT, Int.reduceLE, Int.reduceLT, Int.reduceAdd, Int.reduceSub, Int.reduceToNat, Nat.reduceMul]
  refine c_split (fun h2 => ?_) (fun h2 => ?_)
  · simp (maxSteps := 1000000) (disch := first | omega | (simp only [LL]; omega)) only [W, V, TY, CC, reduceIte, Nat.reduceEqDiff, Nat.reduceAdd, Nat.reduceLeDiff, Nat.reduceLT, Int.reduceLE, Int.reduceLT, Int.reduceAdd, Int.reduceSub, Int.reduceToNat, Nat.reduceMul]
    refine f_ret _ _ _ ?_
    simp (maxSteps := 1000000) (disch := first | omega | (simp only [LL]; omega)) only [W, V, TY, CC, reduceIte, Nat.reduceEqDiff, Nat.reduceAdd, Nat.reduceLeDiff, Nat.reduceLT, Int.reduceLE, Int.reduceLT, Int.reduceAdd, Int.reduceSub, Int.reduceToNat, Nat.reduceMul, gridV, h1, h2]
  simp (maxSteps := 1000000) (disch := first | omega | (simp only [LL]; omega)) only [W, V, TY, CC, reduceIte, Nat.reduceEqDiff, Nat.reduceAdd, Nat.reduceLeDiff, Nat.reduceLT, Int.reduceLE, Int.reduceLT, Int.reduceAdd, Int.reduceSub, Int.reduceToNat, Nat.reduceMul]
  refine c_split (fun h3 => ?_) (fun h3 => ?_)
  · simp (maxSteps := 1000000) (disch := first | omega | (simp only [LL]; omega)) only [W, V, TY, CC, reduceIte, Nat.reduceEqDiff, Nat.reduceAdd, Nat.reduceLeDiff, Nat.reduceLT, Int.reduceLE, Int.reduceLT, Int.reduceAdd, Int.reduceSub, Int.reduceToNat, Nat.reduceMul]
    refine f_ret _ _ _ ?_
    simp (maxSteps := 1000000) (disch := first | omega | (simp only [LL]; omega)) only [W, V, TY, CC, reduceIte, Nat.reduceEqDiff, Nat.reduceAdd, Nat.reduceLeDiff, Nat.reduceLT, Int.reduceLE, Int.reduceLT, Int.reduceAdd, Int.reduceSub, Int.reduceToNat, Nat.reduceMul, gridV, h1, h2, h3]
  simp (maxSteps := 1000000) (disch := first | omega | (simp only [LL]; omega)) only [W, V, TY, CC, reduceIte, Nat.reduceEqDiff, Nat.reduceAdd, Nat.reduceLeDiff, Nat.reduceLT, Int.reduceLE, Int.reduceLT, Int.reduceAdd, Int.reduceSub, Int.reduceToNat, Nat.reduceMul]
  have hl : w.length = p.length := by omega
  refine w_loop (fun n s => ∃ i : Nat, n + i = p.length ∧ s.t 1 = .ptr (1, 0) 0 ∧ s.v (1, 0) = some [.dt (intsD p), .dt (intsD w)] ∧ s.t 3 = .one (.dt (.lit (.int .i64 p.length))) ∧ s.t 4 = .one (.dt (.lit (.int .i64 i))) ∧ ∀ j : Nat, j < i → (-1000 ≤ p.getD j 0 ∧ p.getD j 0 ≤ 1000) ∧ (1 ≤ w.getD j 0 ∧ w.getD j 0 ≤ 1000)) p.length ⟨0, rfl, ?_, ?_, ?_, ?_, fun j hj => by omega⟩ ?_
  · simp (maxSteps := 1000000) (disch := first | omega | (simp only [LL]; omega)) only [W, V, TY, CC, reduceIte, Nat.reduceEqDiff, Nat.reduceAdd, Nat.reduceLeDiff, Nat.reduceLT, Int.reduceLE, Int.reduceLT, Int.reduceAdd, Int.reduceSub, Int.reduceToNat, Nat.reduceMul]
  · simp (maxSteps := 1000000) (disch := first | omega | (simp only [LL]; omega)) only [W, V, TY, CC, reduceIte, Nat.reduceEqDiff, Nat.reduceAdd, Nat.reduceLeDiff, Nat.reduceLT, Int.reduceLE, Int.reduceLT, Int.reduceAdd, Int.reduceSub, Int.reduceToNat, Nat.reduceMul]
  · simp (maxSteps := 1000000) (disch := first | omega | (simp only [LL]; omega)) only [W, V, TY, CC, reduceIte, Nat.reduceEqDiff, Nat.reduceAdd, Nat.reduceLeDiff, Nat.reduceLT, Int.reduceLE, Int.reduceLT, Int.reduceAdd, Int.reduceSub, Int.reduceToNat, Nat.reduceMul]
  · simp (maxSteps := 1000000) (disch := first | omega | (simp only [LL]; omega)) only [W, V, TY, CC, reduceIte, Nat.reduceEqDiff, Nat.reduceAdd, Nat.reduceLeDiff, Nat.reduceLT, Int.reduceLE, Int.reduceLT, Int.reduceAdd, Int.reduceSub, Int.reduceToNat, Nat.reduceMul]
  intro n s _ ⟨i, e, t1, v1, t3, t4, ho⟩
  simp (maxSteps := 1000000) (disch := first | omega | (simp only [LL]; omega)) only [W, V, TY, CC, reduceIte, Nat.reduceEqDiff, Nat.reduceAdd, Nat.reduceLeDiff, Nat.reduceLT, Int.reduceLE, Int.reduceLT, Int.reduceAdd, Int.reduceSub, Int.reduceToNat, Nat.reduceMul, t1, v1, t3, t4]
  refine c_split (fun hi => ?_) (fun hi => ?_)
  · simp (maxSteps := 1000000) (disch := first | omega | (simp only [LL]; omega)) only [W, V, TY, CC, reduceIte, Nat.reduceEqDiff, Nat.reduceAdd, Nat.reduceLeDiff, Nat.reduceLT, Int.reduceLE, Int.reduceLT, Int.reduceAdd, Int.reduceSub, Int.reduceToNat, Nat.reduceMul, t1, v1, t3, t4]
    by_cases hq : (-1000 ≤ p.getD i 0 ∧ p.getD i 0 ≤ 1000) ∧ (1 ≤ w.getD i 0 ∧ w.getD i 0 ≤ 1000)
    · have q1 : ¬ p.getD i 0 < -1000 := by omega
      have q2 : ¬ 1000 < p.getD i 0 := by omega
      have q3 : ¬ w.getD i 0 < 1 := by omega
      have q4 : ¬ 1000 < w.getD i 0 := by omega
      simp (maxSteps := 1000000) (disch := first | omega | (simp only [LL]; omega)) only [W, V, TY, CC, reduceIte, Nat.reduceEqDiff, Nat.reduceAdd, Nat.reduceLeDiff, Nat.reduceLT, Int.reduceLE, Int.reduceLT, Int.reduceAdd, Int.reduceSub, Int.reduceToNat, Nat.reduceMul, t1, v1, t3, t4, q1, q2, q3, q4]
      refine ⟨n - 1, by omega, i + 1, by omega, rfl, fun j hj => ?_⟩
      by_cases hji : j = i
      · subst hji; exact hq
      · exact ho j (by omega)
    · by_cases q1 : p.getD i 0 < -1000
      · simp (maxSteps := 1000000) (disch := first | omega | (simp only [LL]; omega)) only [W, V, TY, CC, reduceIte, Nat.reduceEqDiff, Nat.reduceAdd, Nat.reduceLeDiff, Nat.reduceLT, Int.reduceLE, Int.reduceLT, Int.reduceAdd, Int.reduceSub, Int.reduceToNat, Nat.reduceMul, t1, v1, t3, t4, q1]
        refine f_ret _ _ _ ?_
        simp (maxSteps := 1000000) (disch := first | omega | (simp only [LL]; omega)) only [W, V, TY, CC, reduceIte, Nat.reduceEqDiff, Nat.reduceAdd, Nat.reduceLeDiff, Nat.reduceLT, Int.reduceLE, Int.reduceLT, Int.reduceAdd, Int.reduceSub, Int.reduceToNat, Nat.reduceMul, gridV, h1, h2, h3]
        rw [if_pos (fun h => hq (h i (by omega)))]
      by_cases q2 : 1000 < p.getD i 0
      · simp (maxSteps := 1000000) (disch := first | omega | (simp only [LL]; omega)) only [W, V, TY, CC, reduceIte, Nat.reduceEqDiff, Nat.reduceAdd, Nat.reduceLeDiff, Nat.reduceLT, Int.reduceLE, Int.reduceLT, Int.reduceAdd, Int.reduceSub, Int.reduceToNat, Nat.reduceMul, t1, v1, t3, t4, q1, q2]
        refine f_ret _ _ _ ?_
        simp (maxSteps := 1000000) (disch := first | omega | (simp only [LL]; omega)) only [W, V, TY, CC, reduceIte, Nat.reduceEqDiff, Nat.reduceAdd, Nat.reduceLeDiff, Nat.reduceLT, Int.reduceLE, Int.reduceLT, Int.reduceAdd, Int.reduceSub, Int.reduceToNat, Nat.reduceMul, gridV, h1, h2, h3]
        rw [if_pos (fun h => hq (h i (by omega)))]
      by_cases q3 : w.getD i 0 < 1
      · simp (maxSteps := 1000000) (disch := first | omega | (simp only [LL]; omega)) only [W, V, TY, CC, reduceIte, Nat.reduceEqDiff, Nat.reduceAdd, Nat.reduceLeDiff, Nat.reduceLT, Int.reduceLE, Int.reduceLT, Int.reduceAdd, Int.reduceSub, Int.reduceToNat, Nat.reduceMul, t1, v1, t3, t4, q1, q2, q3]
        refine f_ret _ _ _ ?_
        simp (maxSteps := 1000000) (disch := first | omega | (simp only [LL]; omega)) only [W, V, TY, CC, reduceIte, Nat.reduceEqDiff, Nat.reduceAdd, Nat.reduceLeDiff, Nat.reduceLT, Int.reduceLE, Int.reduceLT, Int.reduceAdd, Int.reduceSub, Int.reduceToNat, Nat.reduceMul, gridV, h1, h2, h3]
        rw [if_pos (fun h => hq (h i (by omega)))]
      by_cases q4 : 1000 < w.getD i 0
      · simp (maxSteps := 1000000) (disch := first | omega | (simp only [LL]; omega)) only [W, V, TY, CC, reduceIte, Nat.reduceEqDiff, Nat.reduceAdd, Nat.reduceLeDiff, Nat.reduceLT, Int.reduceLE, Int.reduceLT, Int.reduceAdd, Int.reduceSub, Int.reduceToNat, Nat.reduceMul, t1, v1, t3, t4, q1, q2, q3, q4]
        refine f_ret _ _ _ ?_
        simp (maxSteps := 1000000) (disch := first | omega | (simp only [LL]; omega)) only [W, V, TY, CC, reduceIte, Nat.reduceEqDiff, Nat.reduceAdd, Nat.reduceLeDiff, Nat.reduceLT, Int.reduceLE, Int.reduceLT, Int.reduceAdd, Int.reduceSub, Int.reduceToNat, Nat.reduceMul, gridV, h1, h2, h3]
        rw [if_pos (fun h => hq (h i (by omega)))]
      exact absurd ⟨⟨by omega, by omega⟩, ⟨by omega, by omega⟩⟩ hq
  · simp (maxSteps := 1000000) (disch := first | omega | (simp only [LL]; omega)) only [W, V, TY, CC, reduceIte, Nat.reduceEqDiff, Nat.reduceAdd, Nat.reduceLeDiff, Nat.reduceLT, Int.reduceLE, Int.reduceLT, Int.reduceAdd, Int.reduceSub, Int.reduceToNat, Nat.reduceMul, t1, v1, t3, t4]
    have hok : gridOK p w := fun j hj => ho j (by omega)
    refine w_loop (fun n s => ∃ i : Nat, n + i + 1 = p.length ∧ s.t 1 = .ptr (1, 0) 0 ∧ s.v (1, 0) = some [.dt (intsD p), .dt (intsD w)] ∧ s.t 3 = .one (.dt (.lit (.int .i64 p.length))) ∧ s.t 5 = .one (.dt (.lit (.int .i64 (i + 1 : Nat)))) ∧ ∀ j : Nat, j < i → p.getD j 0 < p.getD (j + 1) 0) (p.length - 1) ⟨0, by omega, ?_, ?_, ?_, ?_, fun j hj => by omega⟩ ?_
    · simp (maxSteps := 1000000) (disch := first | omega | (simp only [LL]; omega)) only [W, V, TY, CC, reduceIte, Nat.reduceEqDiff, Nat.reduceAdd, Nat.reduceLeDiff, Nat.reduceLT, Int.reduceLE, Int.reduceLT, Int.reduceAdd, Int.reduceSub, Int.reduceToNat, Nat.reduceMul, t1, v1, t3, t4]
    · simp (maxSteps := 1000000) (disch := first | omega | (simp only [LL]; omega)) only [W, V, TY, CC, reduceIte, Nat.reduceEqDiff, Nat.reduceAdd, Nat.reduceLeDiff, Nat.reduceLT, Int.reduceLE, Int.reduceLT, Int.reduceAdd, Int.reduceSub, Int.reduceToNat, Nat.reduceMul, t1, v1, t3, t4]
    · simp (maxSteps := 1000000) (disch := first | omega | (simp only [LL]; omega)) only [W, V, TY, CC, reduceIte, Nat.reduceEqDiff, Nat.reduceAdd, Nat.reduceLeDiff, Nat.reduceLT, Int.reduceLE, Int.reduceLT, Int.reduceAdd, Int.reduceSub, Int.reduceToNat, Nat.reduceMul, t1, v1, t3, t4]
    · simp (maxSteps := 1000000) (disch := first | omega | (simp only [LL]; omega)) only [W, V, TY, CC, reduceIte, Nat.reduceEqDiff, Nat.reduceAdd, Nat.reduceLeDiff, Nat.reduceLT, Int.reduceLE, Int.reduceLT, Int.reduceAdd, Int.reduceSub, Int.reduceToNat, Nat.reduceMul, t1, v1, t3, t4]
    clear t1 v1 t3 t4 ho hi e
    intro n s _ ⟨i, e, t1, v1, t3, t5, ho⟩
    simp (maxSteps := 1000000) (disch := first | omega | (simp only [LL]; omega)) only [W, V, TY, CC, reduceIte, Nat.reduceEqDiff, Nat.reduceAdd, Nat.reduceLeDiff, Nat.reduceLT, Int.reduceLE, Int.reduceLT, Int.reduceAdd, Int.reduceSub, Int.reduceToNat, Nat.reduceMul, t1, v1, t3, t5]
    refine c_split (fun hi => ?_) (fun hi => ?_)
    · simp (maxSteps := 1000000) (disch := first | omega | (simp only [LL]; omega)) only [W, V, TY, CC, reduceIte, Nat.reduceEqDiff, Nat.reduceAdd, Nat.reduceLeDiff, Nat.reduceLT, Int.reduceLE, Int.reduceLT, Int.reduceAdd, Int.reduceSub, Int.reduceToNat, Nat.reduceMul, t1, v1, t3, t5]
      refine c_split (fun h6 => ?_) (fun h6 => ?_)
      · simp (maxSteps := 1000000) (disch := first | omega | (simp only [LL]; omega)) only [W, V, TY, CC, reduceIte, Nat.reduceEqDiff, Nat.reduceAdd, Nat.reduceLeDiff, Nat.reduceLT, Int.reduceLE, Int.reduceLT, Int.reduceAdd, Int.reduceSub, Int.reduceToNat, Nat.reduceMul, t1, v1, t3, t5]
        refine f_ret _ _ _ ?_
        simp (maxSteps := 1000000) (disch := first | omega | (simp only [LL]; omega)) only [W, V, TY, CC, reduceIte, Nat.reduceEqDiff, Nat.reduceAdd, Nat.reduceLeDiff, Nat.reduceLT, Int.reduceLE, Int.reduceLT, Int.reduceAdd, Int.reduceSub, Int.reduceToNat, Nat.reduceMul, gridV, h1, h2, h3, hok]
        rw [if_pos (fun h => ?_)]
        have := h i (by omega)
        omega
      · simp (maxSteps := 1000000) (disch := first | omega | (simp only [LL]; omega)) only [W, V, TY, CC, reduceIte, Nat.reduceEqDiff, Nat.reduceAdd, Nat.reduceLeDiff, Nat.reduceLT, Int.reduceLE, Int.reduceLT, Int.reduceAdd, Int.reduceSub, Int.reduceToNat, Nat.reduceMul, t1, v1, t3, t5]
        refine ⟨n - 1, by omega, i + 1, by omega, rfl, fun j hj => ?_⟩
        by_cases hji : j = i
        · subst hji; omega
        · exact ho j (by omega)
    · simp (maxSteps := 1000000) (disch := first | omega | (simp only [LL]; omega)) only [W, V, TY, CC, reduceIte, Nat.reduceEqDiff, Nat.reduceAdd, Nat.reduceLeDiff, Nat.reduceLT, Int.reduceLE, Int.reduceLT, Int.reduceAdd, Int.reduceSub, Int.reduceToNat, Nat.reduceMul, t1, v1, t3, t5]
      refine f_ret _ _ _ ?_
      simp (maxSteps := 1000000) (disch := first | omega | (simp only [LL]; omega)) only [W, V, TY, CC, reduceIte, Nat.reduceEqDiff, Nat.reduceAdd, Nat.reduceLeDiff, Nat.reduceLT, Int.reduceLE, Int.reduceLT, Int.reduceAdd, Int.reduceSub, Int.reduceToNat, Nat.reduceMul, gridV, h1, h2, h3, hok]
      rw [if_neg (fun h => h (fun j hj => ho j (by omega)))]

/-- examboard/examboardlaw18.limbs -/
def b17 : AF := ⟨26, 2, [.tmp 4],
  (.seq (.reg [
    ⟨some 4, .assign (.const (.bool false)), none⟩])
  (.seq (.seq (.reg [
    ⟨some 6, .move (.tmp 0), none⟩,
    ⟨some 7, .call ⟨(.builtin .len), #[(.tmp 6)], #[36]⟩, none⟩,
    ⟨some 8, .move (.tmp 1), none⟩,
    ⟨some 9, .call ⟨(.builtin .len), #[(.tmp 8)], #[36]⟩, none⟩,
    ⟨some 10, .binOp .neq 3 (.tmp 7) (.tmp 9) 3, none⟩])
  (.cond (.tmp 10)
    (.seq (.reg [
      ⟨some 4, .assign (.const (.bool false)), none⟩])
    .ret)
    .skip))
  (.seq (.seq (.reg [
    ⟨some 5, .assign (.const (.int .i64 0)), none⟩])
  (.block 0 (.loop (.seq (.seq (.reg [
    ⟨some 11, .move (.tmp 5), none⟩,
    ⟨some 12, .move (.tmp 0), none⟩,
    ⟨some 13, .call ⟨(.builtin .len), #[(.tmp 12)], #[36]⟩, none⟩,
    ⟨some 14, .binOp .lss 3 (.tmp 11) (.tmp 13) 3, none⟩])
  (.cond (.tmp 14)
    .skip
    (.exit 0)))
  (.seq (.block 1 (.seq (.dreg [
    ⟨some 17, .move (.tmp 0), none⟩,
    ⟨some 18, .move (.tmp 5), none⟩,
    ⟨some 19, .indexAddr 36 (.tmp 17) (.tmp 18), none⟩,
    ⟨some 20, .load 56 (.tmp 19), none⟩,
    ⟨some 21, .move (.tmp 1), none⟩,
    ⟨some 22, .move (.tmp 5), none⟩,
    ⟨some 23, .indexAddr 36 (.tmp 21) (.tmp 22), none⟩,
    ⟨some 24, .load 56 (.tmp 23), none⟩,
    ⟨some 25, .binOp .neq 56 (.tmp 20) (.tmp 24) 56, none⟩])
  (.cond (.tmp 25)
    (.seq (.reg [
      ⟨some 4, .assign (.const (.bool false)), none⟩])
    .ret)
    .skip)))
  (.reg [
    ⟨some 15, .move (.tmp 5), none⟩,
    ⟨some 16, .binOp .add 3 (.tmp 15) (.const (.int .i64 1)) 3, none⟩,
    ⟨some 5, .assign (.tmp 16), none⟩]))))))
  (.seq (.reg [
    ⟨some 4, .assign (.const (.bool true)), none⟩])
  .ret))))⟩
theorem c17 : fcomp Try.prog 17 = ⟨b17.n, b17.np, b17.res, b17.body.bare⟩ := by kernel_rfl
theorem k17 : fok Try.prog 17 = true := by kernel_rfl
theorem law_limbs (a b : List Int) (h1 : a.length < 4611686018427387904) : AFun Try.prog 17 [.one (natD a), .one (natD b)] [.one (.lit (.bool (decide (a = b))))] := by
  refine afun_intro mo_ _ _ c17 k17 _ _ rfl (by decide) ?_
  unfold b17
  simp (maxSteps := 1000000) (disch := first | omega | (simp only [LL]; omega)) only [W, V, TY, CC, reduceIte, Nat.reduceEqDiff, Nat.reduceAdd, Nat.reduceLeDiff, Nat.reduceLT, Int.reduceLE, Int.reduceLT, Int.reduceAdd, Int.reduceSub, Int.reduceToNat, Nat.reduceMul]
  refine c_split (fun hl => ?_) (fun hl => ?_)
  · simp (maxSteps := 1000000) (disch := first | omega | (simp only [LL]; omega)) only [W, V, TY, CC, reduceIte, Nat.reduceEqDiff, Nat.reduceAdd, Nat.reduceLeDiff, Nat.reduceLT, Int.reduceLE, Int.reduceLT, Int.reduceAdd, Int.reduceSub, Int.reduceToNat, Nat.reduceMul]
    refine f_ret _ _ _ ?_
    have hn : ¬ a = b := fun e => hl (by rw [e])
    simp (maxSteps := 1000000) (disch := first | omega | (simp only [LL]; omega)) only [W, V, TY, CC, reduceIte, Nat.reduceEqDiff, Nat.reduceAdd, Nat.reduceLeDiff, Nat.reduceLT, Int.reduceLE, Int.reduceLT, Int.reduceAdd, Int.reduceSub, Int.reduceToNat, Nat.reduceMul, hn]
  simp (maxSteps := 1000000) (disch := first | omega | (simp only [LL]; omega)) only [W, V, TY, CC, reduceIte, Nat.reduceEqDiff, Nat.reduceAdd, Nat.reduceLeDiff, Nat.reduceLT, Int.reduceLE, Int.reduceLT, Int.reduceAdd, Int.reduceSub, Int.reduceToNat, Nat.reduceMul]
  have hl' : a.length = b.length := by omega
  refine w_loop (fun n s => ∃ i : Nat, n + i = a.length ∧ s.t 0 = .one (.dt (natD a)) ∧ s.t 1 = .one (.dt (natD b)) ∧ s.t 5 = .one (.dt (.lit (.int .i64 i))) ∧ ∀ j : Nat, j < i → a.getD j 0 = b.getD j 0) a.length ⟨0, by omega, ?_, ?_, ?_, fun j hj => by omega⟩ ?_
  · simp (maxSteps := 1000000) (disch := first | omega | (simp only [LL]; omega)) only [W, V, TY, CC, reduceIte, Nat.reduceEqDiff, Nat.reduceAdd, Nat.reduceLeDiff, Nat.reduceLT, Int.reduceLE, Int.reduceLT, Int.reduceAdd, Int.reduceSub, Int.reduceToNat, Nat.reduceMul]
  · simp (maxSteps := 1000000) (disch := first | omega | (simp only [LL]; omega)) only [W, V, TY, CC, reduceIte, Nat.reduceEqDiff, Nat.reduceAdd, Nat.reduceLeDiff, Nat.reduceLT, Int.reduceLE, Int.reduceLT, Int.reduceAdd, Int.reduceSub, Int.reduceToNat, Nat.reduceMul]
  · simp (maxSteps := 1000000) (disch := first | omega | (simp only [LL]; omega)) only [W, V, TY, CC, reduceIte, Nat.reduceEqDiff, Nat.reduceAdd, Nat.reduceLeDiff, Nat.reduceLT, Int.reduceLE, Int.reduceLT, Int.reduceAdd, Int.reduceSub, Int.reduceToNat, Nat.reduceMul]
  intro n s _ ⟨i, e, t0, t1, t5, ho⟩
  simp (maxSteps := 1000000) (disch := first | omega | (simp only [LL]; omega)) only [W, V, TY, CC, reduceIte, Nat.reduceEqDiff, Nat.reduceAdd, Nat.reduceLeDiff, Nat.reduceLT, Int.reduceLE, Int.reduceLT, Int.reduceAdd, Int.reduceSub, Int.reduceToNat, Nat.reduceMul, t0, t1, t5]
  refine c_split (fun hi => ?_) (fun hi => ?_)
  · simp (maxSteps := 1000000) (disch := first | omega | (simp only [LL]; omega)) only [W, V, TY, CC, reduceIte, Nat.reduceEqDiff, Nat.reduceAdd, Nat.reduceLeDiff, Nat.reduceLT, Int.reduceLE, Int.reduceLT, Int.reduceAdd, Int.reduceSub, Int.reduceToNat, Nat.reduceMul, t0, t1, t5]
    refine c_split (fun h6 => ?_) (fun h6 => ?_)
    · simp (maxSteps := 1000000) (disch := first | omega | (simp only [LL]; omega)) only [W, V, TY, CC, reduceIte, Nat.reduceEqDiff, Nat.reduceAdd, Nat.reduceLeDiff, Nat.reduceLT, Int.reduceLE, Int.reduceLT, Int.reduceAdd, Int.reduceSub, Int.reduceToNat, Nat.reduceMul, t0, t1, t5]
      refine f_ret _ _ _ ?_
      have hn : ¬ a = b := fun e => h6 (by rw [e])
      simp (maxSteps := 1000000) (disch := first | omega | (simp only [LL]; omega)) only [W, V, TY, CC, reduceIte, Nat.reduceEqDiff, Nat.reduceAdd, Nat.reduceLeDiff, Nat.reduceLT, Int.reduceLE, Int.reduceLT, Int.reduceAdd, Int.reduceSub, Int.reduceToNat, Nat.reduceMul, hn]
    · simp (maxSteps := 1000000) (disch := first | omega | (simp only [LL]; omega)) only [W, V, TY, CC, reduceIte, Nat.reduceEqDiff, Nat.reduceAdd, Nat.reduceLeDiff, Nat.reduceLT, Int.reduceLE, Int.reduceLT, Int.reduceAdd, Int.reduceSub, Int.reduceToNat, Nat.reduceMul, t0, t1, t5]
      refine ⟨n - 1, by omega, i + 1, by omega, rfl, fun j hj => ?_⟩
      by_cases hji : j = i
      · subst hji; exact Classical.not_not.1 h6
      · exact ho j (by omega)
  · simp (maxSteps := 1000000) (disch := first | omega | (simp only [LL]; omega)) only [W, V, TY, CC, reduceIte, Nat.reduceEqDiff, Nat.reduceAdd, Nat.reduceLeDiff, Nat.reduceLT, Int.reduceLE, Int.reduceLT, Int.reduceAdd, Int.reduceSub, Int.reduceToNat, Nat.reduceMul, t0, t1, t5]
    refine f_ret _ _ _ ?_
    have hn : a = b := by
      apply List.ext_getElem hl'
      intro j hj hj'
      have := ho j (by omega)
      simpa [List.getD_eq_getElem?_getD, hj, hj'] using this
    simp (maxSteps := 1000000) (disch := first | omega | (simp only [LL]; omega)) only [W, V, TY, CC, reduceIte, Nat.reduceEqDiff, Nat.reduceAdd, Nat.reduceLeDiff, Nat.reduceLT, Int.reduceLE, Int.reduceLT, Int.reduceAdd, Int.reduceSub, Int.reduceToNat, Nat.reduceMul, hn]
end Go.Proofs.Ytnlmfdojnacofaa.E

set_option linter.unusedSimpArgs false
set_option linter.unusedVariables false
set_option maxHeartbeats 2000000
namespace Go.Proofs.Ytnlmfdojnacofaa.E
open Go.RowKit Limbs
def nlz (x : Int) : List Int := nl x.toNat
theorem gridV_zero {p w : List Int} (h : gridV p w = 0) : p.length ≤ 21 ∧ w.length = p.length ∧ gridOK p w ∧ gridUp p := by
  unfold gridV at h
  repeat' split at h
  all_goals first | omega | skip
  rename_i h1 h2 h3 h4 h5
  exact ⟨by omega, by omega, Classical.not_not.1 h4, Classical.not_not.1 h5⟩
/-- what Prior gives -/
noncomputable def priorR (p w : List Int) : List RV := if gridV p w = 0 then [.one (natsD (w.map nlz)), .one (.lit (.int .i64 0))] else [.one (natsD []), .one (.lit (.int .i64 (gridV p w)))]
theorem take_app {α β : Type} (f : α → β) (l : List α) (d : α) (i : Nat) (h : i < l.length) : (l.take i).map f ++ [f (l.getD i d)] = (l.take (i + 1)).map f := by
  rw [List.take_succ_eq_append_getElem h, List.map_append, List.getD_eq_getElem?_getD, List.getElem?_eq_getElem h]
  rfl
/-- examboard/grid.Prior -/
def b13 : AF := ⟨28, 1, [.tmp 2, .tmp 3],
  (.seq (.reg [
    ⟨some 1, .box 24 (.tmp 0), none⟩,
    ⟨some 2, .assign (.const (.slice none 0 0)), none⟩,
    ⟨some 3, .assign (.const (.int .i64 0)), none⟩])
  (.seq (.seq (.reg [
    ⟨some 8, .load 24 (.tmp 1), none⟩,
    ⟨some 9, .call ⟨(.value (.func 15)), #[(.tmp 8)], #[24]⟩, none⟩,
    ⟨some 4, .assign (.tmp 9), none⟩])
  (.seq (.reg [
    ⟨some 10, .move (.tmp 4), none⟩,
    ⟨some 11, .binOp .neq 25 (.tmp 10) (.const (.int .i64 0)) 25, none⟩])
  (.cond (.tmp 11)
    (.seq (.reg [
      ⟨some 12, .move (.tmp 4), none⟩,
      ⟨some 2, .assign (.const (.slice none 0 0)), none⟩,
      ⟨some 3, .assign (.tmp 12), none⟩])
    .ret)
    .skip)))
  (.seq (.reg [
    ⟨some 5, .assign (.const (.slice none 0 0)), none⟩])
  (.seq (.seq (.seq (.gh [.nilt 5 36 1])
  (.reg [
    ⟨some 13, .fieldAddr 24 (.tmp 1) 1, none⟩,
    ⟨some 14, .load 22 (.tmp 13), none⟩,
    ⟨some 15, .call ⟨(.builtin .len), #[(.tmp 14)], #[22]⟩, none⟩,
    ⟨some 16, .move (.const (.int .i64 0)), none⟩]))
  (.block 0 (.loop (.seq (.reg [
    ⟨some 17, .binOp .lss 3 (.tmp 16) (.tmp 15) 3, none⟩])
  (.seq (.cond (.tmp 17)
    .skip
    (.exit 0))
  (.seq (.block 1 (.seq (.reg [
    ⟨some 18, .indexAddr 22 (.tmp 14) (.tmp 16), none⟩,
    ⟨some 19, .load 3 (.tmp 18), none⟩,
    ⟨some 7, .assign (.tmp 19), none⟩])
  (.reg [
    ⟨some 20, .move (.tmp 5), none⟩,
    ⟨some 21, .move (.tmp 7), none⟩,
    ⟨some 22, .convert 3 55 (.tmp 21), none⟩,
    ⟨some 23, .call ⟨(.value (.func 29)), #[(.tmp 22)], #[55]⟩, none⟩,
    ⟨some 24, .buildSlice 30 1 #[(0, (.tmp 23))], none⟩,
    ⟨some 25, .call ⟨(.builtin .append), #[(.tmp 20), (.tmp 24)], #[30, 30]⟩, none⟩,
    ⟨some 5, .assign (.tmp 25), none⟩])))
  (.reg [
    ⟨some 26, .binOp .add 3 (.tmp 16) (.const (.int .i64 1)) 3, none⟩,
    ⟨some 16, .move (.tmp 26), none⟩])))))))
  (.seq (.reg [
    ⟨some 27, .move (.tmp 5), none⟩,
    ⟨some 2, .assign (.tmp 27), none⟩,
    ⟨some 3, .assign (.const (.int .i64 0)), none⟩])
  .ret)))))⟩
theorem c13 : fcomp Try.prog 13 = ⟨b13.n, b13.np, b13.res, b13.body.bare⟩ := by kernel_rfl
theorem k13 : fok Try.prog 13 = true := by kernel_rfl
theorem grid_Prior (p w : List Int) : AFun Try.prog 13 [.agg [intsD p, intsD w]] (priorR p w) := by
  refine afun_intro mo_ _ _ c13 k13 _ _ rfl (by decide) ?_
  unfold b13
  simp (maxSteps := 1000000) (disch := first | omega | (simp only [LL]; omega)) only [W, V, TY, CC, reduceIte, Nat.reduceEqDiff, Nat.reduceAdd, Nat.reduceLeDiff, Nat.reduceLT, Int.reduceLE, Int.reduceLT, Int.reduceAdd, Int.reduceSub, Int.reduceToNat, Nat.reduceMul]
  refine a_call _ _ (grid_Valid p w) rfl ?_
  simp (maxSteps := 1000000) (disch := first | omega | (simp only [LL]; omega)) only [W, V, TY, CC, reduceIte, Nat.reduceEqDiff, Nat.reduceAdd, Nat.reduceLeDiff, Nat.reduceLT, Int.reduceLE, Int.reduceLT, Int.reduceAdd, Int.reduceSub, Int.reduceToNat, Nat.reduceMul]
  refine c_split (fun h1 => ?_) (fun h1 => ?_)
  · simp (maxSteps := 1000000) (disch := first | omega | (simp only [LL]; omega)) only [W, V, TY, CC, reduceIte, Nat.reduceEqDiff, Nat.reduceAdd, Nat.reduceLeDiff, Nat.reduceLT, Int.reduceLE, Int.reduceLT, Int.reduceAdd, Int.reduceSub, Int.reduceToNat, Nat.reduceMul]
    refine f_ret _ _ _ ?_
    unfold priorR
    simp (maxSteps := 1000000) (disch := first | omega | (simp only [LL]; omega)) only [W, V, TY, CC, reduceIte, Nat.reduceEqDiff, Nat.reduceAdd, Nat.reduceLeDiff, Nat.reduceLT, Int.reduceLE, Int.reduceLT, Int.reduceAdd, Int.reduceSub, Int.reduceToNat, Nat.reduceMul, h1]
    rfl
  have h0 : gridV p w = 0 := Classical.not_not.1 h1
  simp (maxSteps := 1000000) (disch := first | omega | (simp only [LL]; omega)) only [W, V, TY, CC, reduceIte, Nat.reduceEqDiff, Nat.reduceAdd, Nat.reduceLeDiff, Nat.reduceLT, Int.reduceLE, Int.reduceLT, Int.reduceAdd, Int.reduceSub, Int.reduceToNat, Nat.reduceMul]
  obtain ⟨g1, g2, g3, g4⟩ := gridV_zero h0
  refine w_loop (fun n s => ∃ i : Nat, n + i = w.length ∧ s.t 14 = .one (.dt (intsD w)) ∧ s.t 15 = .one (.dt (.lit (.int .i64 w.length))) ∧ s.t 16 = .one (.dt (.lit (.int .i64 i))) ∧ s.t 5 = .one (.row (5, 0) i) ∧ s.r (5, 0) = some ⟨36, 1, i, natsC ((w.take i).map nlz), i, true⟩) w.length ⟨0, rfl, ?_, ?_, ?_, ?_, ?_⟩ ?_
  · simp (maxSteps := 1000000) (disch := first | omega | (simp only [LL]; omega)) only [W, V, TY, CC, reduceIte, Nat.reduceEqDiff, Nat.reduceAdd, Nat.reduceLeDiff, Nat.reduceLT, Int.reduceLE, Int.reduceLT, Int.reduceAdd, Int.reduceSub, Int.reduceToNat, Nat.reduceMul]
  · simp (maxSteps := 1000000) (disch := first | omega | (simp only [LL]; omega)) only [W, V, TY, CC, reduceIte, Nat.reduceEqDiff, Nat.reduceAdd, Nat.reduceLeDiff, Nat.reduceLT, Int.reduceLE, Int.reduceLT, Int.reduceAdd, Int.reduceSub, Int.reduceToNat, Nat.reduceMul]
  · simp (maxSteps := 1000000) (disch := first | omega | (simp only [LL]; omega)) only [W, V, TY, CC, reduceIte, Nat.reduceEqDiff, Nat.reduceAdd, Nat.reduceLeDiff, Nat.reduceLT, Int.reduceLE, Int.reduceLT, Int.reduceAdd, Int.reduceSub, Int.reduceToNat, Nat.reduceMul]
  · simp (maxSteps := 1000000) (disch := first | omega | (simp only [LL]; omega)) only [W, V, TY, CC, reduceIte, Nat.reduceEqDiff, Nat.reduceAdd, Nat.reduceLeDiff, Nat.reduceLT, Int.reduceLE, Int.reduceLT, Int.reduceAdd, Int.reduceSub, Int.reduceToNat, Nat.reduceMul]
  · simp (maxSteps := 1000000) (disch := first | omega | (simp only [LL]; omega)) only [W, V, TY, CC, reduceIte, Nat.reduceEqDiff, Nat.reduceAdd, Nat.reduceLeDiff, Nat.reduceLT, Int.reduceLE, Int.reduceLT, Int.reduceAdd, Int.reduceSub, Int.reduceToNat, Nat.reduceMul, List.map_nil]
  intro n s _ ⟨i, e, t14, t15, t16, t5, r5⟩
  simp (maxSteps := 1000000) (disch := first | omega | (simp only [LL]; omega)) only [W, V, TY, CC, reduceIte, Nat.reduceEqDiff, Nat.reduceAdd, Nat.reduceLeDiff, Nat.reduceLT, Int.reduceLE, Int.reduceLT, Int.reduceAdd, Int.reduceSub, Int.reduceToNat, Nat.reduceMul, t14, t15, t16, t5, r5]
  refine c_split (fun hi => ?_) (fun hi => ?_)
  · simp (maxSteps := 1000000) (disch := first | omega | (simp only [LL]; omega)) only [W, V, TY, CC, reduceIte, Nat.reduceEqDiff, Nat.reduceAdd, Nat.reduceLeDiff, Nat.reduceLT, Int.reduceLE, Int.reduceLT, Int.reduceAdd, Int.reduceSub, Int.reduceToNat, Nat.reduceMul, t14, t15, t16, t5, r5]
    have hw := (g3 i (by omega)).2
    simp (maxSteps := 1000000) (disch := first | omega | (simp only [LL]; omega)) only [W, V, TY, CC, reduceIte, Nat.reduceEqDiff, Nat.reduceAdd, Nat.reduceLeDiff, Nat.reduceLT, Int.reduceLE, Int.reduceLT, Int.reduceAdd, Int.reduceSub, Int.reduceToNat, Nat.reduceMul, t14, t15, t16, t5, r5]
    refine a_call _ _ (nat_Of (w.getD i 0) (by omega) (by omega)) (by simp (maxSteps := 1000000) (disch := first | omega | (simp only [LL]; omega)) only [W, V, TY, CC, reduceIte, Nat.reduceEqDiff, Nat.reduceAdd, Nat.reduceLeDiff, Nat.reduceLT, Int.reduceLE, Int.reduceLT, Int.reduceAdd, Int.reduceSub, Int.reduceToNat, Nat.reduceMul, t14, t15, t16, t5, r5]) ?_
    simp (maxSteps := 1000000) (disch := first | omega | (simp only [LL]; omega)) only [W, V, TY, CC, reduceIte, Nat.reduceEqDiff, Nat.reduceAdd, Nat.reduceLeDiff, Nat.reduceLT, Int.reduceLE, Int.reduceLT, Int.reduceAdd, Int.reduceSub, Int.reduceToNat, Nat.reduceMul, t14, t15, t16, t5, r5]
    refine ⟨⟨by omega, by omega⟩, n - 1, by omega, i + 1, by omega, rfl, rfl, ?_⟩
    rw [show List.map nlz (List.take i w) ++ [nl (w.getD i 0).toNat] = List.map nlz (List.take (i + 1) w) from take_app nlz w 0 i (by omega)]
  · simp (maxSteps := 1000000) (disch := first | omega | (simp only [LL]; omega)) only [W, V, TY, CC, reduceIte, Nat.reduceEqDiff, Nat.reduceAdd, Nat.reduceLeDiff, Nat.reduceLT, Int.reduceLE, Int.reduceLT, Int.reduceAdd, Int.reduceSub, Int.reduceToNat, Nat.reduceMul, t14, t15, t16, t5, r5]
    refine f_retg _ _ _ [.frz 2] ?_
    unfold priorR
    simp (maxSteps := 1000000) (disch := first | omega | (simp only [LL]; omega)) only [W, V, TY, CC, reduceIte, Nat.reduceEqDiff, Nat.reduceAdd, Nat.reduceLeDiff, Nat.reduceLT, Int.reduceLE, Int.reduceLT, Int.reduceAdd, Int.reduceSub, Int.reduceToNat, Nat.reduceMul, t14, t15, t16, t5, r5, h0]
    rw [List.take_of_length_le (by omega)]

/-- examboard/examboardref18.Prior -/
def b14 : AF := ⟨30, 1, [.tmp 2, .tmp 3],
  (.seq (.reg [
    ⟨some 1, .box 24 (.tmp 0), none⟩,
    ⟨some 2, .assign (.const (.slice none 0 0)), none⟩,
    ⟨some 3, .assign (.const (.int .i64 0)), none⟩])
  (.seq (.reg [
    ⟨some 7, .load 24 (.tmp 1), none⟩,
    ⟨some 8, .call ⟨(.value (.func 16)), #[(.tmp 7)], #[24]⟩, none⟩,
    ⟨some 4, .assign (.tmp 8), none⟩])
  (.seq (.seq (.reg [
    ⟨some 9, .move (.tmp 4), none⟩,
    ⟨some 10, .binOp .neq 25 (.tmp 9) (.const (.int .i64 0)) 25, none⟩])
  (.cond (.tmp 10)
    (.seq (.reg [
      ⟨some 11, .move (.tmp 4), none⟩,
      ⟨some 2, .assign (.const (.slice none 0 0)), none⟩,
      ⟨some 3, .assign (.tmp 11), none⟩])
    .ret)
    .skip))
  (.seq (.reg [
    ⟨some 5, .assign (.const (.slice none 0 0)), none⟩])
  (.seq (.seq (.seq (.gh [.nilt 5 36 1])
  (.reg [
    ⟨some 6, .assign (.const (.int .i64 0)), none⟩]))
  (.block 0 (.loop (.seq (.seq (.reg [
    ⟨some 12, .move (.tmp 6), none⟩,
    ⟨some 13, .fieldAddr 24 (.tmp 1) 1, none⟩,
    ⟨some 14, .load 22 (.tmp 13), none⟩,
    ⟨some 15, .call ⟨(.builtin .len), #[(.tmp 14)], #[22]⟩, none⟩,
    ⟨some 16, .binOp .lss 3 (.tmp 12) (.tmp 15) 3, none⟩])
  (.cond (.tmp 16)
    .skip
    (.exit 0)))
  (.seq (.block 1 (.reg [
    ⟨some 19, .move (.tmp 5), none⟩,
    ⟨some 20, .fieldAddr 24 (.tmp 1) 1, none⟩,
    ⟨some 21, .load 22 (.tmp 20), none⟩,
    ⟨some 22, .move (.tmp 6), none⟩,
    ⟨some 23, .indexAddr 22 (.tmp 21) (.tmp 22), none⟩,
    ⟨some 24, .load 3 (.tmp 23), none⟩,
    ⟨some 25, .convert 3 55 (.tmp 24), none⟩,
    ⟨some 26, .call ⟨(.value (.func 30)), #[(.tmp 25)], #[55]⟩, none⟩,
    ⟨some 27, .buildSlice 30 1 #[(0, (.tmp 26))], none⟩,
    ⟨some 28, .call ⟨(.builtin .append), #[(.tmp 19), (.tmp 27)], #[30, 30]⟩, none⟩,
    ⟨some 5, .assign (.tmp 28), none⟩]))
  (.reg [
    ⟨some 17, .move (.tmp 6), none⟩,
    ⟨some 18, .binOp .add 3 (.tmp 17) (.const (.int .i64 1)) 3, none⟩,
    ⟨some 6, .assign (.tmp 18), none⟩]))))))
  (.seq (.reg [
    ⟨some 29, .move (.tmp 5), none⟩,
    ⟨some 2, .assign (.tmp 29), none⟩,
    ⟨some 3, .assign (.const (.int .i64 0)), none⟩])
  .ret))))))⟩
theorem c14 : fcomp Try.prog 14 = ⟨b14.n, b14.np, b14.res, b14.body.bare⟩ := by kernel_rfl
theorem k14 : fok Try.prog 14 = true := by kernel_rfl
theorem ref_Prior (p w : List Int) : AFun Try.prog 14 [.agg [intsD p, intsD w]] (priorR p w) := by
  refine afun_intro mo_ _ _ c14 k14 _ _ rfl (by decide) ?_
  unfold b14
  simp (maxSteps := 1000000) (disch := first | omega | (simp only [LL]; omega)) only [W, V, TY, CC, reduceIte, Nat.reduceEqDiff, Nat.reduceAdd, Nat.reduceLeDiff, Nat.reduceLT, Int.reduceLE, Int.reduceLT, Int.reduceAdd, Int.reduceSub, Int.reduceToNat, Nat.reduceMul]
  refine a_call _ _ (ref_Valid p w) rfl ?_
  simp (maxSteps := 1000000) (disch := first | omega | (simp only [LL]; omega)) only [W, V, TY, CC, reduceIte, Nat.reduceEqDiff, Nat.reduceAdd, Nat.reduceLeDiff, Nat.reduceLT, Int.reduceLE, Int.reduceLT, Int.reduceAdd, Int.reduceSub, Int.reduceToNat, Nat.reduceMul]
  refine c_split (fun h1 => ?_) (fun h1 => ?_)
  · simp (maxSteps := 1000000) (disch := first | omega | (simp only [LL]; omega)) only [W, V, TY, CC, reduceIte, Nat.reduceEqDiff, Nat.reduceAdd, Nat.reduceLeDiff, Nat.reduceLT, Int.reduceLE, Int.reduceLT, Int.reduceAdd, Int.reduceSub, Int.reduceToNat, Nat.reduceMul]
    refine f_ret _ _ _ ?_
    unfold priorR
    simp (maxSteps := 1000000) (disch := first | omega | (simp only [LL]; omega)) only [W, V, TY, CC, reduceIte, Nat.reduceEqDiff, Nat.reduceAdd, Nat.reduceLeDiff, Nat.reduceLT, Int.reduceLE, Int.reduceLT, Int.reduceAdd, Int.reduceSub, Int.reduceToNat, Nat.reduceMul, h1]
    rfl
  have h0 : gridV p w = 0 := Classical.not_not.1 h1
  simp (maxSteps := 1000000) (disch := first | omega | (simp only [LL]; omega)) only [W, V, TY, CC, reduceIte, Nat.reduceEqDiff, Nat.reduceAdd, Nat.reduceLeDiff, Nat.reduceLT, Int.reduceLE, Int.reduceLT, Int.reduceAdd, Int.reduceSub, Int.reduceToNat, Nat.reduceMul]
  obtain ⟨g1, g2, g3, g4⟩ := gridV_zero h0
  refine w_loop (fun n s => ∃ i : Nat, n + i = w.length ∧ s.t 1 = .ptr (1, 0) 0 ∧ s.v (1, 0) = some [.dt (intsD p), .dt (intsD w)] ∧ s.t 6 = .one (.dt (.lit (.int .i64 i))) ∧ s.t 5 = .one (.row (5, 0) i) ∧ s.r (5, 0) = some ⟨36, 1, i, natsC ((w.take i).map nlz), i, true⟩) w.length ⟨0, rfl, ?_, ?_, ?_, ?_, ?_⟩ ?_
  · simp (maxSteps := 1000000) (disch := first | omega | (simp only [LL]; omega)) only [W, V, TY, CC, reduceIte, Nat.reduceEqDiff, Nat.reduceAdd, Nat.reduceLeDiff, Nat.reduceLT, Int.reduceLE, Int.reduceLT, Int.reduceAdd, Int.reduceSub, Int.reduceToNat, Nat.reduceMul]
  · simp (maxSteps := 1000000) (disch := first | omega | (simp only [LL]; omega)) only [W, V, TY, CC, reduceIte, Nat.reduceEqDiff, Nat.reduceAdd, Nat.reduceLeDiff, Nat.reduceLT, Int.reduceLE, Int.reduceLT, Int.reduceAdd, Int.reduceSub, Int.reduceToNat, Nat.reduceMul]
  · simp (maxSteps := 1000000) (disch := first | omega | (simp only [LL]; omega)) only [W, V, TY, CC, reduceIte, Nat.reduceEqDiff, Nat.reduceAdd, Nat.reduceLeDiff, Nat.reduceLT, Int.reduceLE, Int.reduceLT, Int.reduceAdd, Int.reduceSub, Int.reduceToNat, Nat.reduceMul]
  · simp (maxSteps := 1000000) (disch := first | omega | (simp only [LL]; omega)) only [W, V, TY, CC, reduceIte, Nat.reduceEqDiff, Nat.reduceAdd, Nat.reduceLeDiff, Nat.reduceLT, Int.reduceLE, Int.reduceLT, Int.reduceAdd, Int.reduceSub, Int.reduceToNat, Nat.reduceMul]
  · simp (maxSteps := 1000000) (disch := first | omega | (simp only [LL]; omega)) only [W, V, TY, CC, reduceIte, Nat.reduceEqDiff, Nat.reduceAdd, Nat.reduceLeDiff, Nat.reduceLT, Int.reduceLE, Int.reduceLT, Int.reduceAdd, Int.reduceSub, Int.reduceToNat, Nat.reduceMul, List.map_nil]
  intro n s _ ⟨i, e, t1, v1, t6, t5, r5⟩
  simp (maxSteps := 1000000) (disch := first | omega | (simp only [LL]; omega)) only [W, V, TY, CC, reduceIte, Nat.reduceEqDiff, Nat.reduceAdd, Nat.reduceLeDiff, Nat.reduceLT, Int.reduceLE, Int.reduceLT, Int.reduceAdd, Int.reduceSub, Int.reduceToNat, Nat.reduceMul, t1, v1, t6, t5, r5]
  refine c_split (fun hi => ?_) (fun hi => ?_)
  · have hw := (g3 i (by omega)).2
    simp (maxSteps := 1000000) (disch := first | omega | (simp only [LL]; omega)) only [W, V, TY, CC, reduceIte, Nat.reduceEqDiff, Nat.reduceAdd, Nat.reduceLeDiff, Nat.reduceLT, Int.reduceLE, Int.reduceLT, Int.reduceAdd, Int.reduceSub, Int.reduceToNat, Nat.reduceMul, t1, v1, t6, t5, r5]
    refine a_call _ _ (ref_Of (w.getD i 0) (by omega) (by omega)) (by simp (maxSteps := 1000000) (disch := first | omega | (simp only [LL]; omega)) only [W, V, TY, CC, reduceIte, Nat.reduceEqDiff, Nat.reduceAdd, Nat.reduceLeDiff, Nat.reduceLT, Int.reduceLE, Int.reduceLT, Int.reduceAdd, Int.reduceSub, Int.reduceToNat, Nat.reduceMul, t1, v1, t6, t5, r5]) ?_
    simp (maxSteps := 1000000) (disch := first | omega | (simp only [LL]; omega)) only [W, V, TY, CC, reduceIte, Nat.reduceEqDiff, Nat.reduceAdd, Nat.reduceLeDiff, Nat.reduceLT, Int.reduceLE, Int.reduceLT, Int.reduceAdd, Int.reduceSub, Int.reduceToNat, Nat.reduceMul, t1, v1, t6, t5, r5]
    refine ⟨⟨by omega, by omega⟩, n - 1, by omega, i + 1, by omega, rfl, rfl, ?_⟩
    rw [show List.map nlz (List.take i w) ++ [nl (w.getD i 0).toNat] = List.map nlz (List.take (i + 1) w) from take_app nlz w 0 i (by omega)]
  · simp (maxSteps := 1000000) (disch := first | omega | (simp only [LL]; omega)) only [W, V, TY, CC, reduceIte, Nat.reduceEqDiff, Nat.reduceAdd, Nat.reduceLeDiff, Nat.reduceLT, Int.reduceLE, Int.reduceLT, Int.reduceAdd, Int.reduceSub, Int.reduceToNat, Nat.reduceMul, t1, v1, t6, t5, r5]
    refine f_retg _ _ _ [.frz 2] ?_
    unfold priorR
    simp (maxSteps := 1000000) (disch := first | omega | (simp only [LL]; omega)) only [W, V, TY, CC, reduceIte, Nat.reduceEqDiff, Nat.reduceAdd, Nat.reduceLeDiff, Nat.reduceLT, Int.reduceLE, Int.reduceLT, Int.reduceAdd, Int.reduceSub, Int.reduceToNat, Nat.reduceMul, t1, v1, t6, t5, r5, h0]
    rw [List.take_of_length_le (by omega)]
end Go.Proofs.Ytnlmfdojnacofaa.E

set_option linter.unusedSimpArgs false
set_option linter.unusedVariables false
set_option maxHeartbeats 2000000
namespace Go.Proofs.Ytnlmfdojnacofaa.E
open Go.RowKit Limbs
theorem getD_mem_or {α : Type} (l : List α) (i : Nat) (d : α) : l.getD i d ∈ l ∨ l.getD i d = d := by
  rw [List.getD_eq_getElem?_getD]
  cases h : l[i]? with
  | none => exact .inr rfl
  | some x => exact .inl (List.mem_of_getElem? h)
theorem priorR_form (p w : List Int) : ∃ (L : List (List Int)) (c : Int), priorR p w = [.one (natsD L), .one (.lit (.int .i64 c))] ∧ L.length ≤ 21 ∧ ∀ l ∈ L, l.length ≤ 1 := by
  unfold priorR
  by_cases h0 : gridV p w = 0
  · obtain ⟨g1, g2, g3, g4⟩ := gridV_zero h0
    rw [if_pos h0]
    refine ⟨_, _, rfl, by simp; omega, fun l hl => ?_⟩
    obtain ⟨x, hx, rfl⟩ := List.mem_map.1 hl
    obtain ⟨i, hi, hix⟩ := List.getElem_of_mem hx
    have := (g3 i (by omega)).2
    rw [List.getD_eq_getElem?_getD, List.getElem?_eq_getElem hi] at this
    simp only [Option.getD_some, hix] at this
    exact nl_len (by omega)
  · rw [if_neg h0]
    exact ⟨_, _, rfl, by simp, fun l hl => by simp at hl⟩
/-- examboard/examboardlaw18.GridValids -/
def b4 : AF := ⟨51, 1, [.tmp 2],
  (.seq (.reg [
    ⟨some 1, .box 24 (.tmp 0), none⟩,
    ⟨some 2, .assign (.const (.bool false)), none⟩])
  (.seq (.reg [
    ⟨some 9, .load 24 (.tmp 1), none⟩,
    ⟨some 10, .call ⟨(.value (.func 13)), #[(.tmp 9)], #[24]⟩, none⟩,
    ⟨some 8, .move (.tmp 10), none⟩,
    ⟨some 11, .extract (.tmp 8) 0, none⟩,
    ⟨some 12, .extract (.tmp 8) 1, none⟩,
    ⟨some 3, .assign (.tmp 11), none⟩,
    ⟨some 4, .assign (.tmp 12), none⟩])
  (.seq (.reg [
    ⟨some 14, .load 24 (.tmp 1), none⟩,
    ⟨some 15, .call ⟨(.value (.func 14)), #[(.tmp 14)], #[24]⟩, none⟩,
    ⟨some 13, .move (.tmp 15), none⟩,
    ⟨some 16, .extract (.tmp 13) 0, none⟩,
    ⟨some 17, .extract (.tmp 13) 1, none⟩,
    ⟨some 5, .assign (.tmp 16), none⟩,
    ⟨some 6, .assign (.tmp 17), none⟩])
  (.seq (.seq (.dreg [
    ⟨some 18, .load 24 (.tmp 1), none⟩,
    ⟨some 19, .call ⟨(.value (.func 15)), #[(.tmp 18)], #[24]⟩, none⟩,
    ⟨some 20, .load 24 (.tmp 1), none⟩,
    ⟨some 21, .call ⟨(.value (.func 16)), #[(.tmp 20)], #[24]⟩, none⟩,
    ⟨some 22, .binOp .neq 25 (.tmp 19) (.tmp 21) 25, none⟩,
    ⟨some 23, .move (.tmp 22), none⟩,
    ⟨some 24, .move (.tmp 4), some (23, false)⟩,
    ⟨some 25, .move (.tmp 6), some (23, false)⟩,
    ⟨some 26, .binOp .neq 25 (.tmp 24) (.tmp 25) 25, some (23, false)⟩,
    ⟨some 27, .pick (.tmp 23) (.const (.bool true)) (.tmp 26), none⟩,
    ⟨some 28, .move (.tmp 27), none⟩,
    ⟨some 29, .move (.tmp 3), some (28, false)⟩,
    ⟨some 30, .call ⟨(.builtin .len), #[(.tmp 29)], #[30]⟩, some (28, false)⟩,
    ⟨some 31, .move (.tmp 5), some (28, false)⟩,
    ⟨some 32, .call ⟨(.builtin .len), #[(.tmp 31)], #[30]⟩, some (28, false)⟩,
    ⟨some 33, .binOp .neq 3 (.tmp 30) (.tmp 32) 3, some (28, false)⟩,
    ⟨some 34, .pick (.tmp 28) (.const (.bool true)) (.tmp 33), none⟩])
  (.cond (.tmp 34)
    (.seq (.reg [
      ⟨some 2, .assign (.const (.bool false)), none⟩])
    .ret)
    .skip))
  (.seq (.seq (.reg [
    ⟨some 7, .assign (.const (.int .i64 0)), none⟩])
  (.block 0 (.loop (.seq (.seq (.reg [
    ⟨some 35, .move (.tmp 7), none⟩,
    ⟨some 36, .move (.tmp 3), none⟩,
    ⟨some 37, .call ⟨(.builtin .len), #[(.tmp 36)], #[30]⟩, none⟩,
    ⟨some 38, .binOp .lss 3 (.tmp 35) (.tmp 37) 3, none⟩])
  (.cond (.tmp 38)
    .skip
    (.exit 0)))
  (.seq (.block 1 (.seq (.dreg [
    ⟨some 41, .move (.tmp 3), none⟩,
    ⟨some 42, .move (.tmp 7), none⟩,
    ⟨some 43, .indexAddr 30 (.tmp 41) (.tmp 42), none⟩,
    ⟨some 44, .load 36 (.tmp 43), none⟩,
    ⟨some 45, .move (.tmp 5), none⟩,
    ⟨some 46, .move (.tmp 7), none⟩,
    ⟨some 47, .indexAddr 30 (.tmp 45) (.tmp 46), none⟩,
    ⟨some 48, .load 36 (.tmp 47), none⟩,
    ⟨some 49, .call ⟨(.value (.func 17)), #[(.tmp 44), (.tmp 48)], #[36, 36]⟩, none⟩,
    ⟨some 50, .unOp .not 4 (.tmp 49), none⟩])
  (.cond (.tmp 50)
    (.seq (.reg [
      ⟨some 2, .assign (.const (.bool false)), none⟩])
    .ret)
    .skip)))
  (.reg [
    ⟨some 39, .move (.tmp 7), none⟩,
    ⟨some 40, .binOp .add 3 (.tmp 39) (.const (.int .i64 1)) 3, none⟩,
    ⟨some 7, .assign (.tmp 40), none⟩]))))))
  (.seq (.reg [
    ⟨some 2, .assign (.const (.bool true)), none⟩])
  .ret))))))⟩
theorem c4 : fcomp Try.prog 4 = ⟨b4.n, b4.np, b4.res, b4.body.bare⟩ := by kernel_rfl
theorem k4 : fok Try.prog 4 = true := by kernel_rfl
theorem law_GridValids (p w : List Int) : AFun Try.prog 4 [.agg [intsD p, intsD w]] [.one (.lit (.bool true))] := by
  refine afun_intro mo_ _ _ c4 k4 _ _ rfl (by decide) ?_
  unfold b4
  obtain ⟨L, c, hp, hL, hE⟩ := priorR_form p w
  simp (maxSteps := 1000000) (disch := first | omega | (simp only [LL]; omega)) only [W, V, TY, CC, reduceIte, Nat.reduceEqDiff, Nat.reduceAdd, Nat.reduceLeDiff, Nat.reduceLT, Int.reduceLE, Int.reduceLT, Int.reduceAdd, Int.reduceSub, Int.reduceToNat, Nat.reduceMul]
  refine a_call _ _ (grid_Prior p w) rfl ?_
  simp (maxSteps := 1000000) (disch := first | omega | (simp only [LL]; omega)) only [W, V, TY, CC, reduceIte, Nat.reduceEqDiff, Nat.reduceAdd, Nat.reduceLeDiff, Nat.reduceLT, Int.reduceLE, Int.reduceLT, Int.reduceAdd, Int.reduceSub, Int.reduceToNat, Nat.reduceMul, hp, List.getElem?_cons_zero, List.getElem?_cons_succ]
  refine a_call _ _ (ref_Prior p w) rfl ?_
  simp (maxSteps := 1000000) (disch := first | omega | (simp only [LL]; omega)) only [W, V, TY, CC, reduceIte, Nat.reduceEqDiff, Nat.reduceAdd, Nat.reduceLeDiff, Nat.reduceLT, Int.reduceLE, Int.reduceLT, Int.reduceAdd, Int.reduceSub, Int.reduceToNat, Nat.reduceMul, hp, List.getElem?_cons_zero, List.getElem?_cons_succ]
  refine a_call _ _ (grid_Valid p w) rfl ?_
  simp (maxSteps := 1000000) (disch := first | omega | (simp only [LL]; omega)) only [W, V, TY, CC, reduceIte, Nat.reduceEqDiff, Nat.reduceAdd, Nat.reduceLeDiff, Nat.reduceLT, Int.reduceLE, Int.reduceLT, Int.reduceAdd, Int.reduceSub, Int.reduceToNat, Nat.reduceMul]
  refine a_call _ _ (ref_Valid p w) rfl ?_
  simp (maxSteps := 1000000) (disch := first | omega | (simp only [LL]; omega)) only [W, V, TY, CC, reduceIte, Nat.reduceEqDiff, Nat.reduceAdd, Nat.reduceLeDiff, Nat.reduceLT, Int.reduceLE, Int.reduceLT, Int.reduceAdd, Int.reduceSub, Int.reduceToNat, Nat.reduceMul]
  refine w_loop (fun n s => ∃ i : Nat, n + i = L.length ∧ s.t 3 = .one (.dt (natsD L)) ∧ s.t 5 = .one (.dt (natsD L)) ∧ s.t 7 = .one (.dt (.lit (.int .i64 i)))) L.length ⟨0, rfl, ?_, ?_, ?_⟩ ?_
  · simp (maxSteps := 1000000) (disch := first | omega | (simp only [LL]; omega)) only [W, V, TY, CC, reduceIte, Nat.reduceEqDiff, Nat.reduceAdd, Nat.reduceLeDiff, Nat.reduceLT, Int.reduceLE, Int.reduceLT, Int.reduceAdd, Int.reduceSub, Int.reduceToNat, Nat.reduceMul]
  · simp (maxSteps := 1000000) (disch := first | omega | (simp only [LL]; omega)) only [W, V, TY, CC, reduceIte, Nat.reduceEqDiff, Nat.reduceAdd, Nat.reduceLeDiff, Nat.reduceLT, Int.reduceLE, Int.reduceLT, Int.reduceAdd, Int.reduceSub, Int.reduceToNat, Nat.reduceMul]
  · simp (maxSteps := 1000000) (disch := first | omega | (simp only [LL]; omega)) only [W, V, TY, CC, reduceIte, Nat.reduceEqDiff, Nat.reduceAdd, Nat.reduceLeDiff, Nat.reduceLT, Int.reduceLE, Int.reduceLT, Int.reduceAdd, Int.reduceSub, Int.reduceToNat, Nat.reduceMul]
  intro n s _ ⟨i, e, t3, t5, t7⟩
  simp (maxSteps := 1000000) (disch := first | omega | (simp only [LL]; omega)) only [W, V, TY, CC, reduceIte, Nat.reduceEqDiff, Nat.reduceAdd, Nat.reduceLeDiff, Nat.reduceLT, Int.reduceLE, Int.reduceLT, Int.reduceAdd, Int.reduceSub, Int.reduceToNat, Nat.reduceMul, t3, t5, t7]
  refine c_split (fun hi => ?_) (fun hi => ?_)
  · simp (maxSteps := 1000000) (disch := first | omega | (simp only [LL]; omega)) only [W, V, TY, CC, reduceIte, Nat.reduceEqDiff, Nat.reduceAdd, Nat.reduceLeDiff, Nat.reduceLT, Int.reduceLE, Int.reduceLT, Int.reduceAdd, Int.reduceSub, Int.reduceToNat, Nat.reduceMul, t3, t5, t7]
    have hl : (L.getD i []).length ≤ 1 := by
      rcases getD_mem_or L i [] with h | h
      · exact hE _ h
      · rw [h]; simp
    refine a_call _ _ (law_limbs (L.getD i []) (L.getD i []) (by omega)) (by simp (maxSteps := 1000000) (disch := first | omega | (simp only [LL]; omega)) only [W, V, TY, CC, reduceIte, Nat.reduceEqDiff, Nat.reduceAdd, Nat.reduceLeDiff, Nat.reduceLT, Int.reduceLE, Int.reduceLT, Int.reduceAdd, Int.reduceSub, Int.reduceToNat, Nat.reduceMul, t3, t5, t7]) ?_
    simp (maxSteps := 1000000) (disch := first | omega | (simp only [LL]; omega)) only [W, V, TY, CC, reduceIte, Nat.reduceEqDiff, Nat.reduceAdd, Nat.reduceLeDiff, Nat.reduceLT, Int.reduceLE, Int.reduceLT, Int.reduceAdd, Int.reduceSub, Int.reduceToNat, Nat.reduceMul, t3, t5, t7]
    exact ⟨n - 1, by omega, i + 1, by omega, rfl⟩
  · simp (maxSteps := 1000000) (disch := first | omega | (simp only [LL]; omega)) only [W, V, TY, CC, reduceIte, Nat.reduceEqDiff, Nat.reduceAdd, Nat.reduceLeDiff, Nat.reduceLT, Int.reduceLE, Int.reduceLT, Int.reduceAdd, Int.reduceSub, Int.reduceToNat, Nat.reduceMul, t3, t5, t7]
    refine f_ret _ _ _ ?_
    simp (maxSteps := 1000000) (disch := first | omega | (simp only [LL]; omega)) only [W, V, TY, CC, reduceIte, Nat.reduceEqDiff, Nat.reduceAdd, Nat.reduceLeDiff, Nat.reduceLT, Int.reduceLE, Int.reduceLT, Int.reduceAdd, Int.reduceSub, Int.reduceToNat, Nat.reduceMul]
end Go.Proofs.Ytnlmfdojnacofaa.E

set_option linter.unusedSimpArgs false
set_option linter.unusedVariables false
set_option maxHeartbeats 2000000
namespace Go.Proofs.Ytnlmfdojnacofaa.E
open Go.RowKit Limbs
theorem tr_lim (l : List Int) : Lim (tr l) := nl_lim _
theorem tr_len {l : List Int} (hl : Lim l) : (tr l).length ≤ l.length := nl_len (nv_lt hl)
theorem val_tr {l : List Int} (hl : Lim l) : val (tr l) = val l := by unfold tr; rw [val_nl, nv_eq hl]
theorem tr_nl (n : Nat) : tr (nl n) = nl n := by unfold tr; rw [nv_nl]
/-- examboard/nat.Norm -/
def b85 : AF := ⟨7, 1, [.tmp 2],
  (.seq (.reg [
    ⟨some 2, .assign (.const (.slice none 0 0)), none⟩])
  (.seq (.reg [
    ⟨some 3, .buildSlice 36 0 #[], none⟩,
    ⟨some 4, .move (.tmp 0), none⟩,
    ⟨some 5, .call ⟨(.value (.func 48)), #[(.tmp 4)], #[36]⟩, none⟩,
    ⟨some 6, .call ⟨(.builtin .append), #[(.tmp 3), (.tmp 5)], #[36, 36]⟩, none⟩,
    ⟨some 2, .assign (.tmp 6), none⟩])
  .ret))⟩
theorem c85 : fcomp Try.prog 85 = ⟨b85.n, b85.np, b85.res, b85.body.bare⟩ := by kernel_rfl
theorem k85 : fok Try.prog 85 = true := by kernel_rfl
theorem nat_Norm (l : List Int) (hl : Lim l) (hb : l.length < 17592186044416) : AFun Try.prog 85 [.one (natD l)] [.one (natD (tr l))] := by
  refine afun_intro mo_ _ _ c85 k85 _ _ rfl (by decide) ?_
  unfold b85
  simp (maxSteps := 1000000) (disch := first | omega | (simp only [LL]; omega)) only [W, V, TY, CC, reduceIte, Nat.reduceEqDiff, Nat.reduceAdd, Nat.reduceLeDiff, Nat.reduceLT, Int.reduceLE, Int.reduceLT, Int.reduceAdd, Int.reduceSub, Int.reduceToNat, Nat.reduceMul]
  refine a_call _ _ (nat_trim l hl (by omega)) rfl ?_
  have := tr_len hl
  simp (maxSteps := 1000000) (disch := first | omega | (simp only [LL]; omega)) only [W, V, TY, CC, reduceIte, Nat.reduceEqDiff, Nat.reduceAdd, Nat.reduceLeDiff, Nat.reduceLT, Int.reduceLE, Int.reduceLT, Int.reduceAdd, Int.reduceSub, Int.reduceToNat, Nat.reduceMul]
  refine ⟨⟨by omega, by omega⟩, f_retg _ _ _ [.frz 2] ?_⟩
  simp (maxSteps := 1000000) (disch := first | omega | (simp only [LL]; omega)) only [W, V, TY, CC, reduceIte, Nat.reduceEqDiff, Nat.reduceAdd, Nat.reduceLeDiff, Nat.reduceLT, Int.reduceLE, Int.reduceLT, Int.reduceAdd, Int.reduceSub, Int.reduceToNat, Nat.reduceMul]
/-- -1, 0 or 1 -/
def cmpZ (m n : Int) : Int := if m < n then -1 else if n < m then 1 else 0
/-- examboard/nat.Cmp -/
def b79 : AF := ⟨47, 2, [.tmp 4],
  (.seq (.reg [
    ⟨some 4, .assign (.const (.int .i64 0)), none⟩])
  (.seq (.reg [
    ⟨some 8, .move (.tmp 0), none⟩,
    ⟨some 9, .call ⟨(.value (.func 48)), #[(.tmp 8)], #[36]⟩, none⟩,
    ⟨some 10, .move (.tmp 1), none⟩,
    ⟨some 11, .call ⟨(.value (.func 48)), #[(.tmp 10)], #[36]⟩, none⟩,
    ⟨some 5, .assign (.tmp 9), none⟩,
    ⟨some 6, .assign (.tmp 11), none⟩])
  (.seq (.seq (.reg [
    ⟨some 12, .move (.tmp 5), none⟩,
    ⟨some 13, .call ⟨(.builtin .len), #[(.tmp 12)], #[36]⟩, none⟩,
    ⟨some 14, .move (.tmp 6), none⟩,
    ⟨some 15, .call ⟨(.builtin .len), #[(.tmp 14)], #[36]⟩, none⟩,
    ⟨some 16, .binOp .neq 3 (.tmp 13) (.tmp 15) 3, none⟩])
  (.cond (.tmp 16)
    (.seq (.seq (.reg [
      ⟨some 17, .move (.tmp 5), none⟩,
      ⟨some 18, .call ⟨(.builtin .len), #[(.tmp 17)], #[36]⟩, none⟩,
      ⟨some 19, .move (.tmp 6), none⟩,
      ⟨some 20, .call ⟨(.builtin .len), #[(.tmp 19)], #[36]⟩, none⟩,
      ⟨some 21, .binOp .lss 3 (.tmp 18) (.tmp 20) 3, none⟩])
    (.cond (.tmp 21)
      (.seq (.reg [
        ⟨some 4, .assign (.const (.int .i64 (-1))), none⟩])
      .ret)
      .skip))
    (.seq (.reg [
      ⟨some 4, .assign (.const (.int .i64 1)), none⟩])
    .ret))
    .skip))
  (.seq (.seq (.reg [
    ⟨some 22, .move (.tmp 5), none⟩,
    ⟨some 23, .call ⟨(.builtin .len), #[(.tmp 22)], #[36]⟩, none⟩,
    ⟨some 24, .binOp .sub 3 (.tmp 23) (.const (.int .i64 1)) 3, none⟩,
    ⟨some 7, .assign (.tmp 24), none⟩])
  (.block 0 (.loop (.seq (.seq (.reg [
    ⟨some 25, .move (.tmp 7), none⟩,
    ⟨some 26, .binOp .geq 3 (.tmp 25) (.const (.int .i64 0)) 3, none⟩])
  (.cond (.tmp 26)
    .skip
    (.exit 0)))
  (.seq (.block 1 (.seq (.seq (.dreg [
    ⟨some 29, .move (.tmp 5), none⟩,
    ⟨some 30, .move (.tmp 7), none⟩,
    ⟨some 31, .indexAddr 36 (.tmp 29) (.tmp 30), none⟩,
    ⟨some 32, .load 56 (.tmp 31), none⟩,
    ⟨some 33, .move (.tmp 6), none⟩,
    ⟨some 34, .move (.tmp 7), none⟩,
    ⟨some 35, .indexAddr 36 (.tmp 33) (.tmp 34), none⟩,
    ⟨some 36, .load 56 (.tmp 35), none⟩,
    ⟨some 37, .binOp .lss 56 (.tmp 32) (.tmp 36) 56, none⟩])
  (.cond (.tmp 37)
    (.seq (.reg [
      ⟨some 4, .assign (.const (.int .i64 (-1))), none⟩])
    .ret)
    .skip))
  (.seq (.dreg [
    ⟨some 38, .move (.tmp 5), none⟩,
    ⟨some 39, .move (.tmp 7), none⟩,
    ⟨some 40, .indexAddr 36 (.tmp 38) (.tmp 39), none⟩,
    ⟨some 41, .load 56 (.tmp 40), none⟩,
    ⟨some 42, .move (.tmp 6), none⟩,
    ⟨some 43, .move (.tmp 7), none⟩,
    ⟨some 44, .indexAddr 36 (.tmp 42) (.tmp 43), none⟩,
    ⟨some 45, .load 56 (.tmp 44), none⟩,
    ⟨some 46, .binOp .gtr 56 (.tmp 41) (.tmp 45) 56, none⟩])
  (.cond (.tmp 46)
    (.seq (.reg [
      ⟨some 4, .assign (.const (.int .i64 1)), none⟩])
    .ret)
    .skip))))
  (.reg [
    ⟨some 27, .move (.tmp 7), none⟩,
    ⟨some 28, .binOp .sub 3 (.tmp 27) (.const (.int .i64 1)) 3, none⟩,
    ⟨some 7, .assign (.tmp 28), none⟩]))))))
  (.seq (.reg [
    ⟨some 4, .assign (.const (.int .i64 0)), none⟩])
  .ret)))))⟩
theorem c79 : fcomp Try.prog 79 = ⟨b79.n, b79.np, b79.res, b79.body.bare⟩ := by kernel_rfl
theorem k79 : fok Try.prog 79 = true := by kernel_rfl
theorem nat_Cmp (a b : List Int) (ha : Lim a) (hb : Lim b) (la : a.length < 4611686018427387904) (lb : b.length < 4611686018427387904) : AFun Try.prog 79 [.one (natD a), .one (natD b)] [.one (.lit (.int .i64 (cmpZ (val a) (val b))))] := by
  refine afun_intro mo_ _ _ c79 k79 _ _ rfl (by decide) ?_
  unfold b79
  have h1 := tr_len ha
  have h2 := tr_len hb
  have n1 : Nrm (tr a) := nl_nrm _
  have n2 : Nrm (tr b) := nl_nrm _
  have l1 := tr_lim a
  have l2 := tr_lim b
  rw [← val_tr ha, ← val_tr hb]
  simp (maxSteps := 1000000) (disch := first | omega | (simp only [LL]; omega)) only [W, V, TY, CC, reduceIte, Nat.reduceEqDiff, Nat.reduceAdd, Nat.reduceLeDiff, Nat.reduceLT, Int.reduceLE, Int.reduceLT, Int.reduceAdd, Int.reduceSub, Int.reduceToNat, Nat.reduceMul]
  refine a_call _ _ (nat_trim a ha la) rfl ?_
  simp (maxSteps := 1000000) (disch := first | omega | (simp only [LL]; omega)) only [W, V, TY, CC, reduceIte, Nat.reduceEqDiff, Nat.reduceAdd, Nat.reduceLeDiff, Nat.reduceLT, Int.reduceLE, Int.reduceLT, Int.reduceAdd, Int.reduceSub, Int.reduceToNat, Nat.reduceMul]
  refine a_call _ _ (nat_trim b hb lb) rfl ?_
  simp (maxSteps := 1000000) (disch := first | omega | (simp only [LL]; omega)) only [W, V, TY, CC, reduceIte, Nat.reduceEqDiff, Nat.reduceAdd, Nat.reduceLeDiff, Nat.reduceLT, Int.reduceLE, Int.reduceLT, Int.reduceAdd, Int.reduceSub, Int.reduceToNat, Nat.reduceMul]
  generalize tr a = x at *
  generalize tr b = y at *
  refine c_split (fun hl => ?_) (fun hl => ?_)
  · simp (maxSteps := 1000000) (disch := first | omega | (simp only [LL]; omega)) only [W, V, TY, CC, reduceIte, Nat.reduceEqDiff, Nat.reduceAdd, Nat.reduceLeDiff, Nat.reduceLT, Int.reduceLE, Int.reduceLT, Int.reduceAdd, Int.reduceSub, Int.reduceToNat, Nat.reduceMul]
    refine c_split (fun hl2 => ?_) (fun hl2 => ?_)
    · simp (maxSteps := 1000000) (disch := first | omega | (simp only [LL]; omega)) only [W, V, TY, CC, reduceIte, Nat.reduceEqDiff, Nat.reduceAdd, Nat.reduceLeDiff, Nat.reduceLT, Int.reduceLE, Int.reduceLT, Int.reduceAdd, Int.reduceSub, Int.reduceToNat, Nat.reduceMul]
      refine f_ret _ _ _ ?_
      have := lt_of_len l1 l2 n2 (by omega)
      simp (maxSteps := 1000000) (disch := first | omega | (simp only [LL]; omega)) only [W, V, TY, CC, reduceIte, Nat.reduceEqDiff, Nat.reduceAdd, Nat.reduceLeDiff, Nat.reduceLT, Int.reduceLE, Int.reduceLT, Int.reduceAdd, Int.reduceSub, Int.reduceToNat, Nat.reduceMul, cmpZ, this]
    · simp (maxSteps := 1000000) (disch := first | omega | (simp only [LL]; omega)) only [W, V, TY, CC, reduceIte, Nat.reduceEqDiff, Nat.reduceAdd, Nat.reduceLeDiff, Nat.reduceLT, Int.reduceLE, Int.reduceLT, Int.reduceAdd, Int.reduceSub, Int.reduceToNat, Nat.reduceMul]
      refine f_ret _ _ _ ?_
      have := lt_of_len l2 l1 n1 (by omega)
      have h' : ¬ val x < val y := by omega
      simp (maxSteps := 1000000) (disch := first | omega | (simp only [LL]; omega)) only [W, V, TY, CC, reduceIte, Nat.reduceEqDiff, Nat.reduceAdd, Nat.reduceLeDiff, Nat.reduceLT, Int.reduceLE, Int.reduceLT, Int.reduceAdd, Int.reduceSub, Int.reduceToNat, Nat.reduceMul, cmpZ, this, h']
  · simp (maxSteps := 1000000) (disch := first | omega | (simp only [LL]; omega)) only [W, V, TY, CC, reduceIte, Nat.reduceEqDiff, Nat.reduceAdd, Nat.reduceLeDiff, Nat.reduceLT, Int.reduceLE, Int.reduceLT, Int.reduceAdd, Int.reduceSub, Int.reduceToNat, Nat.reduceMul]
    have hl' : x.length = y.length := by omega
    refine w_loop (fun n s => ∃ i : Nat, n = i ∧ s.t 5 = .one (.dt (natD x)) ∧ s.t 6 = .one (.dt (natD y)) ∧ s.t 7 = .one (.dt (.lit (.int .i64 (i - 1)))) ∧ i ≤ x.length ∧ val (x.drop i) = val (y.drop i)) x.length ⟨x.length, rfl, ?_, ?_, ?_, Nat.le_refl _, by rw [List.drop_of_length_le (Nat.le_refl _), List.drop_of_length_le (by omega)]⟩ ?_
    · simp (maxSteps := 1000000) (disch := first | omega | (simp only [LL]; omega)) only [W, V, TY, CC, reduceIte, Nat.reduceEqDiff, Nat.reduceAdd, Nat.reduceLeDiff, Nat.reduceLT, Int.reduceLE, Int.reduceLT, Int.reduceAdd, Int.reduceSub, Int.reduceToNat, Nat.reduceMul]
    · simp (maxSteps := 1000000) (disch := first | omega | (simp only [LL]; omega)) only [W, V, TY, CC, reduceIte, Nat.reduceEqDiff, Nat.reduceAdd, Nat.reduceLeDiff, Nat.reduceLT, Int.reduceLE, Int.reduceLT, Int.reduceAdd, Int.reduceSub, Int.reduceToNat, Nat.reduceMul]
    · simp (maxSteps := 1000000) (disch := first | omega | (simp only [LL]; omega)) only [W, V, TY, CC, reduceIte, Nat.reduceEqDiff, Nat.reduceAdd, Nat.reduceLeDiff, Nat.reduceLT, Int.reduceLE, Int.reduceLT, Int.reduceAdd, Int.reduceSub, Int.reduceToNat, Nat.reduceMul]
    intro n s _ ⟨i, e, t5, t6, t7, hi, hd⟩
    simp (maxSteps := 1000000) (disch := first | omega | (simp only [LL]; omega)) only [W, V, TY, CC, reduceIte, Nat.reduceEqDiff, Nat.reduceAdd, Nat.reduceLeDiff, Nat.reduceLT, Int.reduceLE, Int.reduceLT, Int.reduceAdd, Int.reduceSub, Int.reduceToNat, Nat.reduceMul, t5, t6, t7]
    refine c_split (fun hc => ?_) (fun hc => ?_)
    · simp (maxSteps := 1000000) (disch := first | omega | (simp only [LL]; omega)) only [W, V, TY, CC, reduceIte, Nat.reduceEqDiff, Nat.reduceAdd, Nat.reduceLeDiff, Nat.reduceLT, Int.reduceLE, Int.reduceLT, Int.reduceAdd, Int.reduceSub, Int.reduceToNat, Nat.reduceMul, t5, t6, t7]
      have e1 : i - 1 + 1 = i := by omega
      refine c_split (fun h3 => ?_) (fun h3 => ?_)
      · simp (maxSteps := 1000000) (disch := first | omega | (simp only [LL]; omega)) only [W, V, TY, CC, reduceIte, Nat.reduceEqDiff, Nat.reduceAdd, Nat.reduceLeDiff, Nat.reduceLT, Int.reduceLE, Int.reduceLT, Int.reduceAdd, Int.reduceSub, Int.reduceToNat, Nat.reduceMul, t5, t6, t7]
        refine f_ret _ _ _ ?_
        have := lt_of_at l1 l2 (i := i - 1) (by omega) (by omega) (by rw [e1]; exact hd) h3
        simp (maxSteps := 1000000) (disch := first | omega | (simp only [LL]; omega)) only [W, V, TY, CC, reduceIte, Nat.reduceEqDiff, Nat.reduceAdd, Nat.reduceLeDiff, Nat.reduceLT, Int.reduceLE, Int.reduceLT, Int.reduceAdd, Int.reduceSub, Int.reduceToNat, Nat.reduceMul, cmpZ, this]
      · simp (maxSteps := 1000000) (disch := first | omega | (simp only [LL]; omega)) only [W, V, TY, CC, reduceIte, Nat.reduceEqDiff, Nat.reduceAdd, Nat.reduceLeDiff, Nat.reduceLT, Int.reduceLE, Int.reduceLT, Int.reduceAdd, Int.reduceSub, Int.reduceToNat, Nat.reduceMul, t5, t6, t7]
        refine c_split (fun h4 => ?_) (fun h4 => ?_)
        · simp (maxSteps := 1000000) (disch := first | omega | (simp only [LL]; omega)) only [W, V, TY, CC, reduceIte, Nat.reduceEqDiff, Nat.reduceAdd, Nat.reduceLeDiff, Nat.reduceLT, Int.reduceLE, Int.reduceLT, Int.reduceAdd, Int.reduceSub, Int.reduceToNat, Nat.reduceMul, t5, t6, t7]
          refine f_ret _ _ _ ?_
          have := lt_of_at l2 l1 (i := i - 1) (by omega) (by omega) (by rw [e1]; exact hd.symm) h4
          have h' : ¬ val x < val y := by omega
          simp (maxSteps := 1000000) (disch := first | omega | (simp only [LL]; omega)) only [W, V, TY, CC, reduceIte, Nat.reduceEqDiff, Nat.reduceAdd, Nat.reduceLeDiff, Nat.reduceLT, Int.reduceLE, Int.reduceLT, Int.reduceAdd, Int.reduceSub, Int.reduceToNat, Nat.reduceMul, cmpZ, this, h']
        · simp (maxSteps := 1000000) (disch := first | omega | (simp only [LL]; omega)) only [W, V, TY, CC, reduceIte, Nat.reduceEqDiff, Nat.reduceAdd, Nat.reduceLeDiff, Nat.reduceLT, Int.reduceLE, Int.reduceLT, Int.reduceAdd, Int.reduceSub, Int.reduceToNat, Nat.reduceMul, t5, t6, t7]
          refine ⟨i - 1, by omega, i - 1, rfl, by rw [show ((i - 1 : Nat) : Int) = i - 1 by omega], by omega, ?_⟩
          rw [val_drop_getD (i := i - 1) (by omega), val_drop_getD (l := y) (i := i - 1) (by omega), e1, hd]
          omega
    · simp (maxSteps := 1000000) (disch := first | omega | (simp only [LL]; omega)) only [W, V, TY, CC, reduceIte, Nat.reduceEqDiff, Nat.reduceAdd, Nat.reduceLeDiff, Nat.reduceLT, Int.reduceLE, Int.reduceLT, Int.reduceAdd, Int.reduceSub, Int.reduceToNat, Nat.reduceMul, t5, t6, t7]
      refine f_ret _ _ _ ?_
      have h0 : i = 0 := by omega
      rw [h0, List.drop_zero, List.drop_zero] at hd
      have h' : ¬ val x < val y := by omega
      have h'' : ¬ val y < val x := by omega
      simp (maxSteps := 1000000) (disch := first | omega | (simp only [LL]; omega)) only [W, V, TY, CC, reduceIte, Nat.reduceEqDiff, Nat.reduceAdd, Nat.reduceLeDiff, Nat.reduceLT, Int.reduceLE, Int.reduceLT, Int.reduceAdd, Int.reduceSub, Int.reduceToNat, Nat.reduceMul, cmpZ, h', h'']
end Go.Proofs.Ytnlmfdojnacofaa.E

set_option linter.unusedSimpArgs false
set_option linter.unusedVariables false
set_option maxHeartbeats 2000000
namespace Go.Proofs.Ytnlmfdojnacofaa.E
open Go.RowKit Limbs
def b66_4 : AC :=
  (.seq (.reg [
    ⟨some 22, .move (.tmp 5), none⟩,
    ⟨some 23, .call ⟨(.builtin .len), #[(.tmp 22)], #[36]⟩, none⟩,
    ⟨some 24, .binOp .add 3 (.tmp 23) (.const (.int .i64 1)) 3, none⟩,
    ⟨some 25, .makeSlice 36 (.const (.int .i64 0)) (.tmp 24), none⟩,
    ⟨some 7, .assign (.tmp 25), none⟩])
  (.seq (.reg [
    ⟨some 8, .assign (.const (.int .u64 0)), none⟩])
  (.seq (.seq (.reg [
    ⟨some 26, .move (.tmp 5), none⟩,
    ⟨some 27, .call ⟨(.builtin .len), #[(.tmp 26)], #[36]⟩, none⟩,
    ⟨some 28, .move (.const (.int .i64 0)), none⟩])
  (.block 0 (.loop (.seq (.reg [
    ⟨some 29, .binOp .lss 3 (.tmp 28) (.tmp 27) 3, none⟩])
  (.seq (.cond (.tmp 29)
    .skip
    (.exit 0))
  (.seq (.block 1 (.seq (.reg [
    ⟨some 30, .move (.tmp 28), none⟩,
    ⟨some 31, .indexAddr 36 (.tmp 26) (.tmp 28), none⟩,
    ⟨some 32, .load 56 (.tmp 31), none⟩,
    ⟨some 9, .assign (.tmp 30), none⟩,
    ⟨some 10, .assign (.tmp 32), none⟩])
  (.seq (.reg [
    ⟨some 33, .move (.tmp 8), none⟩,
    ⟨some 34, .move (.tmp 10), none⟩,
    ⟨some 35, .convert 56 55 (.tmp 34), none⟩,
    ⟨some 36, .binOp .add 55 (.tmp 33) (.tmp 35) 55, none⟩,
    ⟨some 8, .assign (.tmp 36), none⟩])
  (.seq (.seq (.reg [
    ⟨some 37, .move (.tmp 9), none⟩,
    ⟨some 38, .move (.tmp 6), none⟩,
    ⟨some 39, .call ⟨(.builtin .len), #[(.tmp 38)], #[36]⟩, none⟩,
    ⟨some 40, .binOp .lss 3 (.tmp 37) (.tmp 39) 3, none⟩])
  (.cond (.tmp 40)
    (.reg [
      ⟨some 41, .move (.tmp 8), none⟩,
      ⟨some 42, .move (.tmp 6), none⟩,
      ⟨some 43, .move (.tmp 9), none⟩,
      ⟨some 44, .indexAddr 36 (.tmp 42) (.tmp 43), none⟩,
      ⟨some 45, .load 56 (.tmp 44), none⟩,
      ⟨some 46, .convert 56 55 (.tmp 45), none⟩,
      ⟨some 47, .binOp .add 55 (.tmp 41) (.tmp 46) 55, none⟩,
      ⟨some 8, .assign (.tmp 47), none⟩])
    .skip))
  (.seq (.reg [
    ⟨some 48, .move (.tmp 7), none⟩,
    ⟨some 49, .move (.tmp 8), none⟩,
    ⟨some 50, .binOp .and 55 (.tmp 49) (.const (.int .u64 4294967295)) 55, none⟩,
    ⟨some 51, .convert 55 56 (.tmp 50), none⟩,
    ⟨some 52, .buildSlice 36 1 #[(0, (.tmp 51))], none⟩,
    ⟨some 53, .call ⟨(.builtin .append), #[(.tmp 48), (.tmp 52)], #[36, 36]⟩, none⟩,
    ⟨some 7, .assign (.tmp 53), none⟩])
  (.reg [
    ⟨some 54, .move (.tmp 8), none⟩,
    ⟨some 55, .binOp .shr 55 (.tmp 54) (.const (.int .u64 32)) 68, none⟩,
    ⟨some 8, .assign (.tmp 55), none⟩]))))))
  (.reg [
    ⟨some 56, .binOp .add 3 (.tmp 28) (.const (.int .i64 1)) 3, none⟩,
    ⟨some 28, .move (.tmp 56), none⟩])))))))
  (.seq (.seq (.reg [
    ⟨some 57, .move (.tmp 8), none⟩,
    ⟨some 58, .binOp .gtr 55 (.tmp 57) (.const (.int .u64 0)) 55, none⟩])
  (.cond (.tmp 58)
    (.reg [
      ⟨some 59, .move (.tmp 7), none⟩,
      ⟨some 60, .move (.tmp 8), none⟩,
      ⟨some 61, .convert 55 56 (.tmp 60), none⟩,
      ⟨some 62, .buildSlice 36 1 #[(0, (.tmp 61))], none⟩,
      ⟨some 63, .call ⟨(.builtin .append), #[(.tmp 59), (.tmp 62)], #[36, 36]⟩, none⟩,
      ⟨some 7, .assign (.tmp 63), none⟩])
    .skip))
  (.seq (.reg [
    ⟨some 64, .move (.tmp 7), none⟩,
    ⟨some 4, .assign (.tmp 64), none⟩])
  .ret)))))
/-- examboard/nat.Add -/
def b66 : AF := ⟨65, 2, [.tmp 4],
  (.seq (.reg [
    ⟨some 4, .assign (.const (.slice none 0 0)), none⟩])
  (.seq (.reg [
    ⟨some 11, .move (.tmp 0), none⟩,
    ⟨some 12, .call ⟨(.value (.func 48)), #[(.tmp 11)], #[36]⟩, none⟩,
    ⟨some 13, .move (.tmp 1), none⟩,
    ⟨some 14, .call ⟨(.value (.func 48)), #[(.tmp 13)], #[36]⟩, none⟩,
    ⟨some 5, .assign (.tmp 12), none⟩,
    ⟨some 6, .assign (.tmp 14), none⟩])
  (.seq (.seq (.reg [
    ⟨some 15, .move (.tmp 5), none⟩,
    ⟨some 16, .call ⟨(.builtin .len), #[(.tmp 15)], #[36]⟩, none⟩,
    ⟨some 17, .move (.tmp 6), none⟩,
    ⟨some 18, .call ⟨(.builtin .len), #[(.tmp 17)], #[36]⟩, none⟩,
    ⟨some 19, .binOp .lss 3 (.tmp 16) (.tmp 18) 3, none⟩])
  (.cond (.tmp 19)
    (.reg [
      ⟨some 20, .move (.tmp 6), none⟩,
      ⟨some 21, .move (.tmp 5), none⟩,
      ⟨some 5, .assign (.tmp 20), none⟩,
      ⟨some 6, .assign (.tmp 21), none⟩])
    .skip))
  b66_4)))⟩
theorem c66 : fcomp Try.prog 66 = ⟨b66.n, b66.np, b66.res, b66.body.bare⟩ := by kernel_rfl
theorem k66 : fok Try.prog 66 = true := by kernel_rfl
theorem nat_Add_rest (X Y : List Int) (hX : Lim X) (hY : Lim Y) (nX : Nrm X) (hXY : Y.length ≤ X.length) (hl : X.length < 8796093022208) (m : Nat) (hm : (m : Int) = val X + val Y) (s : AS) (t5 : s.t 5 = .one (.dt (natD X))) (t6 : s.t 6 = .one (.dt (natD Y))) (g25 : s.g 25 = 0) :
    awp Try.prog b66_4 (fend Try.prog [.tmp 4] [.one (natD (nl m))]) s := by
  unfold b66_4
  simp (maxSteps := 1000000) (disch := first | omega | (simp only [LL]; omega)) only [W, V, TY, CC, reduceIte, Nat.reduceEqDiff, Nat.reduceAdd, Nat.reduceLeDiff, Nat.reduceLT, Int.reduceLE, Int.reduceLT, Int.reduceAdd, Int.reduceSub, Int.reduceToNat, Nat.reduceMul, t5, t6, g25]
  refine w_loop (fun n s => ∃ (i : Nat) (S : List Int) (c : Int), n + i = X.length ∧ s.t 6 = .one (.dt (natD Y)) ∧ s.t 26 = .one (.dt (natD X)) ∧ s.t 27 = .one (.dt (.lit (.int .i64 X.length))) ∧ s.t 28 = .one (.dt (.lit (.int .i64 i))) ∧ s.t 7 = .one (.row (25, 0) i) ∧ s.r (25, 0) = some ⟨56, 1, i, natC S, i, true⟩ ∧ s.t 8 = .one (.dt (.lit (.int .u64 c))) ∧ S.length = i ∧ Lim S ∧ 0 ≤ c ∧ c ≤ 1 ∧ val S + bp i * c = val (X.take i) + val (Y.take i)) X.length ⟨0, [], 0, rfl, ?_, ?_, ?_, ?_, ?_, ?_, ?_, rfl, Lim.nil, by omega, by omega, by simp [val]⟩ ?_
  · simp (maxSteps := 1000000) (disch := first | omega | (simp only [LL]; omega)) only [W, V, TY, CC, reduceIte, Nat.reduceEqDiff, Nat.reduceAdd, Nat.reduceLeDiff, Nat.reduceLT, Int.reduceLE, Int.reduceLT, Int.reduceAdd, Int.reduceSub, Int.reduceToNat, Nat.reduceMul, t5, t6, g25]
  · simp (maxSteps := 1000000) (disch := first | omega | (simp only [LL]; omega)) only [W, V, TY, CC, reduceIte, Nat.reduceEqDiff, Nat.reduceAdd, Nat.reduceLeDiff, Nat.reduceLT, Int.reduceLE, Int.reduceLT, Int.reduceAdd, Int.reduceSub, Int.reduceToNat, Nat.reduceMul, t5, t6, g25]
  · simp (maxSteps := 1000000) (disch := first | omega | (simp only [LL]; omega)) only [W, V, TY, CC, reduceIte, Nat.reduceEqDiff, Nat.reduceAdd, Nat.reduceLeDiff, Nat.reduceLT, Int.reduceLE, Int.reduceLT, Int.reduceAdd, Int.reduceSub, Int.reduceToNat, Nat.reduceMul, t5, t6, g25]
  · simp (maxSteps := 1000000) (disch := first | omega | (simp only [LL]; omega)) only [W, V, TY, CC, reduceIte, Nat.reduceEqDiff, Nat.reduceAdd, Nat.reduceLeDiff, Nat.reduceLT, Int.reduceLE, Int.reduceLT, Int.reduceAdd, Int.reduceSub, Int.reduceToNat, Nat.reduceMul, t5, t6, g25]
  · simp (maxSteps := 1000000) (disch := first | omega | (simp only [LL]; omega)) only [W, V, TY, CC, reduceIte, Nat.reduceEqDiff, Nat.reduceAdd, Nat.reduceLeDiff, Nat.reduceLT, Int.reduceLE, Int.reduceLT, Int.reduceAdd, Int.reduceSub, Int.reduceToNat, Nat.reduceMul, t5, t6, g25]
  · simp (maxSteps := 1000000) (disch := first | omega | (simp only [LL]; omega)) only [W, V, TY, CC, reduceIte, Nat.reduceEqDiff, Nat.reduceAdd, Nat.reduceLeDiff, Nat.reduceLT, Int.reduceLE, Int.reduceLT, Int.reduceAdd, Int.reduceSub, Int.reduceToNat, Nat.reduceMul, t5, t6, g25]
  · simp (maxSteps := 1000000) (disch := first | omega | (simp only [LL]; omega)) only [W, V, TY, CC, reduceIte, Nat.reduceEqDiff, Nat.reduceAdd, Nat.reduceLeDiff, Nat.reduceLT, Int.reduceLE, Int.reduceLT, Int.reduceAdd, Int.reduceSub, Int.reduceToNat, Nat.reduceMul, t5, t6, g25]
  clear t5 t6 g25
  intro n s _ ⟨i, S, c, e, t6, t26, t27, t28, t7, r7, t8, hS, lS, c0, c1, hv⟩
  simp (maxSteps := 1000000) (disch := first | omega | (simp only [LL]; omega)) only [W, V, TY, CC, reduceIte, Nat.reduceEqDiff, Nat.reduceAdd, Nat.reduceLeDiff, Nat.reduceLT, Int.reduceLE, Int.reduceLT, Int.reduceAdd, Int.reduceSub, Int.reduceToNat, Nat.reduceMul, t6, t26, t27, t28, t7, t8]
  refine c_split (fun hi => ?_) (fun hi => ?_)
  · have hx := hX.getD i
    have hy := hY.getD i
    simp (maxSteps := 1000000) (disch := first | omega | (simp only [LL]; omega)) only [W, V, TY, CC, reduceIte, Nat.reduceEqDiff, Nat.reduceAdd, Nat.reduceLeDiff, Nat.reduceLT, Int.reduceLE, Int.reduceLT, Int.reduceAdd, Int.reduceSub, Int.reduceToNat, Nat.reduceMul, t6, t26, t27, t28, t7, t8]
    refine c_split (fun hk => ?_) (fun hk => ?_)
    · simp (maxSteps := 1000000) (disch := first | omega | (simp only [LL]; omega)) only [W, V, TY, CC, reduceIte, Nat.reduceEqDiff, Nat.reduceAdd, Nat.reduceLeDiff, Nat.reduceLT, Int.reduceLE, Int.reduceLT, Int.reduceAdd, Int.reduceSub, Int.reduceToNat, Nat.reduceMul, t6, t26, t27, t28, t7, t8, r7]
      refine ⟨⟨by omega, by omega⟩, n - 1, by omega, i + 1, S ++ [(c + X.getD i 0 + Y.getD i 0) % 4294967296], (c + X.getD i 0 + Y.getD i 0) / 4294967296, by omega, rfl, rfl, rfl, rfl, by simp [hS], lS.snoc (by omega) (by omega), by omega, by omega, ?_⟩
      rw [val_snoc, hS, bp_succ, val_take_getD (show i < X.length by omega), val_take_getD (show i < Y.length by omega)]
      generalize X.getD i 0 = x at *
      generalize Y.getD i 0 = y at *
      have := Int.emod_add_mul_ediv (c + x + y) 4294967296
      grind
    · simp (maxSteps := 1000000) (disch := first | omega | (simp only [LL]; omega)) only [W, V, TY, CC, reduceIte, Nat.reduceEqDiff, Nat.reduceAdd, Nat.reduceLeDiff, Nat.reduceLT, Int.reduceLE, Int.reduceLT, Int.reduceAdd, Int.reduceSub, Int.reduceToNat, Nat.reduceMul, t6, t26, t27, t28, t7, t8, r7]
      refine ⟨⟨by omega, by omega⟩, n - 1, by omega, i + 1, S ++ [(c + X.getD i 0) % 4294967296], (c + X.getD i 0) / 4294967296, by omega, rfl, rfl, rfl, rfl, by simp [hS], lS.snoc (by omega) (by omega), by omega, by omega, ?_⟩
      rw [val_snoc, hS, bp_succ, val_take_getD (show i < X.length by omega), take_getD_over (show Y.length ≤ i by omega)]
      generalize X.getD i 0 = x at *
      have := Int.emod_add_mul_ediv (c + x) 4294967296
      grind
  · have hin : i = X.length := by omega
    rw [List.take_of_length_le (by omega), List.take_of_length_le (by omega)] at hv
    have hp : X ≠ [] → bp (X.length - 1) ≤ val X := fun h => val_pos_of_nrm hX nX h
    have hy := val_nonneg hY
    simp (maxSteps := 1000000) (disch := first | omega | (simp only [LL]; omega)) only [W, V, TY, CC, reduceIte, Nat.reduceEqDiff, Nat.reduceAdd, Nat.reduceLeDiff, Nat.reduceLT, Int.reduceLE, Int.reduceLT, Int.reduceAdd, Int.reduceSub, Int.reduceToNat, Nat.reduceMul, t6, t26, t27, t28, t7, t8]
    refine c_split (fun hc => ?_) (fun hc => ?_)
    · simp (maxSteps := 1000000) (disch := first | omega | (simp only [LL]; omega)) only [W, V, TY, CC, reduceIte, Nat.reduceEqDiff, Nat.reduceAdd, Nat.reduceLeDiff, Nat.reduceLT, Int.reduceLE, Int.reduceLT, Int.reduceAdd, Int.reduceSub, Int.reduceToNat, Nat.reduceMul, t6, t26, t27, t28, t7, t8, r7]
      refine ⟨⟨by omega, by omega⟩, f_retg _ _ _ [.frz 4] ?_⟩
      have hc1 : c = 1 := by omega
      subst hc1
      have hres : S ++ [1] = nl m := by
        refine eq_nl (lS.snoc (by omega) (by omega)) (by unfold Nrm; simp) ?_
        rw [val_snoc, hS, hm]; exact hv
      simp (maxSteps := 1000000) (disch := first | omega | (simp only [LL]; omega)) only [W, V, TY, CC, reduceIte, Nat.reduceEqDiff, Nat.reduceAdd, Nat.reduceLeDiff, Nat.reduceLT, Int.reduceLE, Int.reduceLT, Int.reduceAdd, Int.reduceSub, Int.reduceToNat, Nat.reduceMul, hS]
      rw [hres]
    · simp (maxSteps := 1000000) (disch := first | omega | (simp only [LL]; omega)) only [W, V, TY, CC, reduceIte, Nat.reduceEqDiff, Nat.reduceAdd, Nat.reduceLeDiff, Nat.reduceLT, Int.reduceLE, Int.reduceLT, Int.reduceAdd, Int.reduceSub, Int.reduceToNat, Nat.reduceMul, t6, t26, t27, t28, t7, t8, r7]
      refine f_retg _ _ _ [.frz 4] ?_
      have hc0 : c = 0 := by omega
      subst hc0
      have hv' : val S = val X + val Y := by omega
      have hres : S = nl m := by
        refine eq_nl lS (nrm_of_val lS fun h => ?_) (by rw [hm]; exact hv')
        have h2 : X ≠ [] := by
          intro e; rw [e] at hin
          have : S.length = 0 := by rw [hS, hin]; rfl
          exact h (List.eq_nil_of_length_eq_zero this)
        have := hp h2
        rw [hS, hin]; omega
      simp (maxSteps := 1000000) (disch := first | omega | (simp only [LL]; omega)) only [W, V, TY, CC, reduceIte, Nat.reduceEqDiff, Nat.reduceAdd, Nat.reduceLeDiff, Nat.reduceLT, Int.reduceLE, Int.reduceLT, Int.reduceAdd, Int.reduceSub, Int.reduceToNat, Nat.reduceMul, hS, r7]
      rw [hres]
theorem nat_Add (a b : List Int) (ha : Lim a) (hb : Lim b) (la : a.length < 8796093022208) (lb : b.length < 8796093022208) : AFun Try.prog 66 [.one (natD a), .one (natD b)] [.one (natD (nl (nv a + nv b)))] := by
  refine afun_intro mo_ _ _ c66 k66 _ _ rfl (by decide) ?_
  unfold b66
  have h1 := tr_len ha
  have h2 := tr_len hb
  have n1 : Nrm (tr a) := nl_nrm _
  have n2 : Nrm (tr b) := nl_nrm _
  have l1 := tr_lim a
  have l2 := tr_lim b
  have hm : ((nv a + nv b : Nat) : Int) = val (tr a) + val (tr b) := by rw [val_tr ha, val_tr hb, Int.natCast_add, nv_eq ha, nv_eq hb]
  simp (maxSteps := 1000000) (disch := first | omega | (simp only [LL]; omega)) only [W, V, TY, CC, reduceIte, Nat.reduceEqDiff, Nat.reduceAdd, Nat.reduceLeDiff, Nat.reduceLT, Int.reduceLE, Int.reduceLT, Int.reduceAdd, Int.reduceSub, Int.reduceToNat, Nat.reduceMul]
  refine a_call _ _ (nat_trim a ha (by omega)) rfl ?_
  simp (maxSteps := 1000000) (disch := first | omega | (simp only [LL]; omega)) only [W, V, TY, CC, reduceIte, Nat.reduceEqDiff, Nat.reduceAdd, Nat.reduceLeDiff, Nat.reduceLT, Int.reduceLE, Int.reduceLT, Int.reduceAdd, Int.reduceSub, Int.reduceToNat, Nat.reduceMul]
  refine a_call _ _ (nat_trim b hb (by omega)) rfl ?_
  simp (maxSteps := 1000000) (disch := first | omega | (simp only [LL]; omega)) only [W, V, TY, CC, reduceIte, Nat.reduceEqDiff, Nat.reduceAdd, Nat.reduceLeDiff, Nat.reduceLT, Int.reduceLE, Int.reduceLT, Int.reduceAdd, Int.reduceSub, Int.reduceToNat, Nat.reduceMul]
  generalize tr a = x at *
  generalize tr b = y at *
  refine c_split (fun hl => ?_) (fun hl => ?_)
  · simp (maxSteps := 1000000) (disch := first | omega | (simp only [LL]; omega)) only [W, V, TY, CC, reduceIte, Nat.reduceEqDiff, Nat.reduceAdd, Nat.reduceLeDiff, Nat.reduceLT, Int.reduceLE, Int.reduceLT, Int.reduceAdd, Int.reduceSub, Int.reduceToNat, Nat.reduceMul]
    refine nat_Add_rest y x l2 l1 n2 (by omega) (by omega) _ (by rw [hm, Int.add_comm]) _ ?_ ?_ ?_
    · simp (maxSteps := 1000000) (disch := first | omega | (simp only [LL]; omega)) only [W, V, TY, CC, reduceIte, Nat.reduceEqDiff, Nat.reduceAdd, Nat.reduceLeDiff, Nat.reduceLT, Int.reduceLE, Int.reduceLT, Int.reduceAdd, Int.reduceSub, Int.reduceToNat, Nat.reduceMul]
    · simp (maxSteps := 1000000) (disch := first | omega | (simp only [LL]; omega)) only [W, V, TY, CC, reduceIte, Nat.reduceEqDiff, Nat.reduceAdd, Nat.reduceLeDiff, Nat.reduceLT, Int.reduceLE, Int.reduceLT, Int.reduceAdd, Int.reduceSub, Int.reduceToNat, Nat.reduceMul]
    · simp (maxSteps := 1000000) (disch := first | omega | (simp only [LL]; omega)) only [W, V, TY, CC, reduceIte, Nat.reduceEqDiff, Nat.reduceAdd, Nat.reduceLeDiff, Nat.reduceLT, Int.reduceLE, Int.reduceLT, Int.reduceAdd, Int.reduceSub, Int.reduceToNat, Nat.reduceMul]
  · simp (maxSteps := 1000000) (disch := first | omega | (simp only [LL]; omega)) only [W, V, TY, CC, reduceIte, Nat.reduceEqDiff, Nat.reduceAdd, Nat.reduceLeDiff, Nat.reduceLT, Int.reduceLE, Int.reduceLT, Int.reduceAdd, Int.reduceSub, Int.reduceToNat, Nat.reduceMul]
    refine nat_Add_rest x y l1 l2 n1 (by omega) (by omega) _ hm _ ?_ ?_ ?_
    · simp (maxSteps := 1000000) (disch := first | omega | (simp only [LL]; omega)) only [W, V, TY, CC, reduceIte, Nat.reduceEqDiff, Nat.reduceAdd, Nat.reduceLeDiff, Nat.reduceLT, Int.reduceLE, Int.reduceLT, Int.reduceAdd, Int.reduceSub, Int.reduceToNat, Nat.reduceMul]
    · simp (maxSteps := 1000000) (disch := first | omega | (simp only [LL]; omega)) only [W, V, TY, CC, reduceIte, Nat.reduceEqDiff, Nat.reduceAdd, Nat.reduceLeDiff, Nat.reduceLT, Int.reduceLE, Int.reduceLT, Int.reduceAdd, Int.reduceSub, Int.reduceToNat, Nat.reduceMul]
    · simp (maxSteps := 1000000) (disch := first | omega | (simp only [LL]; omega)) only [W, V, TY, CC, reduceIte, Nat.reduceEqDiff, Nat.reduceAdd, Nat.reduceLeDiff, Nat.reduceLT, Int.reduceLE, Int.reduceLT, Int.reduceAdd, Int.reduceSub, Int.reduceToNat, Nat.reduceMul]
end Go.Proofs.Ytnlmfdojnacofaa.E

set_option linter.unusedSimpArgs false
set_option linter.unusedVariables false
set_option maxHeartbeats 2000000
namespace Go.Proofs.Ytnlmfdojnacofaa.E
open Go.RowKit Limbs
/-- what Sub gives -/
def subR (m n : Nat) : List RV := if n ≤ m then [.one (natD (nl (m - n))), .one (.lit (.bool true))] else [.one (natD []), .one (.lit (.bool false))]
/-- examboard/nat.Sub -/
def b86 : AF := ⟨61, 2, [.tmp 4, .tmp 5],
  (.seq (.reg [
    ⟨some 4, .assign (.const (.slice none 0 0)), none⟩,
    ⟨some 5, .assign (.const (.bool false)), none⟩])
  (.seq (.reg [
    ⟨some 14, .move (.tmp 0), none⟩,
    ⟨some 15, .call ⟨(.value (.func 48)), #[(.tmp 14)], #[36]⟩, none⟩,
    ⟨some 16, .move (.tmp 1), none⟩,
    ⟨some 17, .call ⟨(.value (.func 48)), #[(.tmp 16)], #[36]⟩, none⟩,
    ⟨some 6, .assign (.tmp 15), none⟩,
    ⟨some 7, .assign (.tmp 17), none⟩])
  (.seq (.seq (.reg [
    ⟨some 18, .move (.tmp 6), none⟩,
    ⟨some 19, .move (.tmp 7), none⟩,
    ⟨some 20, .call ⟨(.value (.func 79)), #[(.tmp 18), (.tmp 19)], #[36, 36]⟩, none⟩,
    ⟨some 21, .binOp .lss 3 (.tmp 20) (.const (.int .i64 0)) 3, none⟩])
  (.cond (.tmp 21)
    (.seq (.reg [
      ⟨some 4, .assign (.const (.slice none 0 0)), none⟩,
      ⟨some 5, .assign (.const (.bool false)), none⟩])
    .ret)
    .skip))
  (.seq (.reg [
    ⟨some 22, .move (.tmp 6), none⟩,
    ⟨some 23, .call ⟨(.builtin .len), #[(.tmp 22)], #[36]⟩, none⟩,
    ⟨some 24, .makeSlice 36 (.tmp 23) (.tmp 23), none⟩,
    ⟨some 8, .assign (.tmp 24), none⟩])
  (.seq (.reg [
    ⟨some 9, .assign (.const (.int .u64 0)), none⟩])
  (.seq (.seq (.reg [
    ⟨some 25, .move (.tmp 6), none⟩,
    ⟨some 26, .call ⟨(.builtin .len), #[(.tmp 25)], #[36]⟩, none⟩,
    ⟨some 27, .move (.const (.int .i64 0)), none⟩])
  (.block 0 (.loop (.seq (.reg [
    ⟨some 28, .binOp .lss 3 (.tmp 27) (.tmp 26) 3, none⟩])
  (.seq (.cond (.tmp 28)
    .skip
    (.exit 0))
  (.seq (.block 1 (.seq (.reg [
    ⟨some 29, .move (.tmp 27), none⟩,
    ⟨some 30, .indexAddr 36 (.tmp 25) (.tmp 27), none⟩,
    ⟨some 31, .load 56 (.tmp 30), none⟩,
    ⟨some 10, .assign (.tmp 29), none⟩,
    ⟨some 11, .assign (.tmp 31), none⟩])
  (.seq (.reg [
    ⟨some 32, .move (.tmp 9), none⟩,
    ⟨some 12, .assign (.tmp 32), none⟩])
  (.seq (.seq (.reg [
    ⟨some 33, .move (.tmp 10), none⟩,
    ⟨some 34, .move (.tmp 7), none⟩,
    ⟨some 35, .call ⟨(.builtin .len), #[(.tmp 34)], #[36]⟩, none⟩,
    ⟨some 36, .binOp .lss 3 (.tmp 33) (.tmp 35) 3, none⟩])
  (.cond (.tmp 36)
    (.reg [
      ⟨some 37, .move (.tmp 12), none⟩,
      ⟨some 38, .move (.tmp 7), none⟩,
      ⟨some 39, .move (.tmp 10), none⟩,
      ⟨some 40, .indexAddr 36 (.tmp 38) (.tmp 39), none⟩,
      ⟨some 41, .load 56 (.tmp 40), none⟩,
      ⟨some 42, .convert 56 55 (.tmp 41), none⟩,
      ⟨some 43, .binOp .add 55 (.tmp 37) (.tmp 42) 55, none⟩,
      ⟨some 12, .assign (.tmp 43), none⟩])
    .skip))
  (.seq (.reg [
    ⟨some 44, .move (.tmp 11), none⟩,
    ⟨some 45, .convert 56 55 (.tmp 44), none⟩,
    ⟨some 13, .assign (.tmp 45), none⟩])
  (.seq (.reg [
    ⟨some 9, .assign (.const (.int .u64 0)), none⟩])
  (.seq (.seq (.reg [
    ⟨some 46, .move (.tmp 13), none⟩,
    ⟨some 47, .move (.tmp 12), none⟩,
    ⟨some 48, .binOp .lss 55 (.tmp 46) (.tmp 47) 55, none⟩])
  (.cond (.tmp 48)
    (.seq (.reg [
      ⟨some 49, .move (.tmp 13), none⟩,
      ⟨some 50, .binOp .add 55 (.tmp 49) (.const (.int .u64 4294967296)) 55, none⟩,
      ⟨some 13, .assign (.tmp 50), none⟩])
    (.reg [
      ⟨some 9, .assign (.const (.int .u64 1)), none⟩]))
    .skip))
  (.reg [
    ⟨some 51, .move (.tmp 8), none⟩,
    ⟨some 52, .move (.tmp 10), none⟩,
    ⟨some 53, .move (.tmp 13), none⟩,
    ⟨some 54, .move (.tmp 12), none⟩,
    ⟨some 55, .binOp .sub 55 (.tmp 53) (.tmp 54) 55, none⟩,
    ⟨some 56, .convert 55 56 (.tmp 55), none⟩,
    ⟨some 57, .indexAddr 36 (.tmp 51) (.tmp 52), none⟩,
    ⟨none, .store 56 (.tmp 57) (.tmp 56), none⟩]))))))))
  (.reg [
    ⟨some 58, .binOp .add 3 (.tmp 27) (.const (.int .i64 1)) 3, none⟩,
    ⟨some 27, .move (.tmp 58), none⟩])))))))
  (.seq (.seq (.gh [.frz 8])
  (.reg [
    ⟨some 59, .move (.tmp 8), none⟩,
    ⟨some 60, .call ⟨(.value (.func 48)), #[(.tmp 59)], #[36]⟩, none⟩,
    ⟨some 4, .assign (.tmp 60), none⟩,
    ⟨some 5, .assign (.const (.bool true)), none⟩]))
  .ret)))))))⟩
theorem c86 : fcomp Try.prog 86 = ⟨b86.n, b86.np, b86.res, b86.body.bare⟩ := by kernel_rfl
theorem k86 : fok Try.prog 86 = true := by kernel_rfl
theorem nat_Sub (a b : List Int) (ha : Lim a) (hb : Lim b) (la : a.length < 8796093022208) (lb : b.length < 8796093022208) : AFun Try.prog 86 [.one (natD a), .one (natD b)] (subR (nv a) (nv b)) := by
  refine afun_intro mo_ _ _ c86 k86 _ _ rfl (by decide) ?_
  unfold b86
  have h1 := tr_len ha
  have h2 := tr_len hb
  have n1 : Nrm (tr a) := nl_nrm _
  have n2 : Nrm (tr b) := nl_nrm _
  have l1 := tr_lim a
  have l2 := tr_lim b
  have v1 := val_tr ha
  have v2 := val_tr hb
  have e1 := nv_eq ha
  have e2 := nv_eq hb
  simp (maxSteps := 1000000) (disch := first | omega | (simp only [LL]; omega)) only [W, V, TY, CC, reduceIte, Nat.reduceEqDiff, Nat.reduceAdd, Nat.reduceLeDiff, Nat.reduceLT, Int.reduceLE, Int.reduceLT, Int.reduceAdd, Int.reduceSub, Int.reduceToNat, Nat.reduceMul]
  refine a_call _ _ (nat_trim a ha (by omega)) rfl ?_
  simp (maxSteps := 1000000) (disch := first | omega | (simp only [LL]; omega)) only [W, V, TY, CC, reduceIte, Nat.reduceEqDiff, Nat.reduceAdd, Nat.reduceLeDiff, Nat.reduceLT, Int.reduceLE, Int.reduceLT, Int.reduceAdd, Int.reduceSub, Int.reduceToNat, Nat.reduceMul]
  refine a_call _ _ (nat_trim b hb (by omega)) rfl ?_
  simp (maxSteps := 1000000) (disch := first | omega | (simp only [LL]; omega)) only [W, V, TY, CC, reduceIte, Nat.reduceEqDiff, Nat.reduceAdd, Nat.reduceLeDiff, Nat.reduceLT, Int.reduceLE, Int.reduceLT, Int.reduceAdd, Int.reduceSub, Int.reduceToNat, Nat.reduceMul]
  generalize tr a = x at *
  generalize tr b = y at *
  refine a_call _ _ (nat_Cmp x y l1 l2 (by omega) (by omega)) rfl ?_
  simp (maxSteps := 1000000) (disch := first | omega | (simp only [LL]; omega)) only [W, V, TY, CC, reduceIte, Nat.reduceEqDiff, Nat.reduceAdd, Nat.reduceLeDiff, Nat.reduceLT, Int.reduceLE, Int.reduceLT, Int.reduceAdd, Int.reduceSub, Int.reduceToNat, Nat.reduceMul]
  refine c_split (fun hl => ?_) (fun hl => ?_)
  · have hlt : val x < val y := by
      unfold cmpZ at hl
      split at hl
      · assumption
      · split at hl <;> omega
    simp (maxSteps := 1000000) (disch := first | omega | (simp only [LL]; omega)) only [W, V, TY, CC, reduceIte, Nat.reduceEqDiff, Nat.reduceAdd, Nat.reduceLeDiff, Nat.reduceLT, Int.reduceLE, Int.reduceLT, Int.reduceAdd, Int.reduceSub, Int.reduceToNat, Nat.reduceMul]
    refine f_ret _ _ _ ?_
    unfold subR
    rw [if_neg (by omega)]
    simp (maxSteps := 1000000) (disch := first | omega | (simp only [LL]; omega)) only [W, V, TY, CC, reduceIte, Nat.reduceEqDiff, Nat.reduceAdd, Nat.reduceLeDiff, Nat.reduceLT, Int.reduceLE, Int.reduceLT, Int.reduceAdd, Int.reduceSub, Int.reduceToNat, Nat.reduceMul]
    rfl
  · have hge : val y ≤ val x := by
      unfold cmpZ at hl
      split at hl <;> omega
    have hyx : y.length ≤ x.length := by
      by_cases h : y.length ≤ x.length
      · exact h
      · have := lt_of_len l1 l2 n2 (by omega); omega
    simp (maxSteps := 1000000) (disch := first | omega | (simp only [LL]; omega)) only [W, V, TY, CC, reduceIte, Nat.reduceEqDiff, Nat.reduceAdd, Nat.reduceLeDiff, Nat.reduceLT, Int.reduceLE, Int.reduceLT, Int.reduceAdd, Int.reduceSub, Int.reduceToNat, Nat.reduceMul]
    refine w_loop (fun n s => ∃ (i : Nat) (D : List Int) (c : Int), n + i = x.length ∧ s.t 7 = .one (.dt (natD y)) ∧ s.t 25 = .one (.dt (natD x)) ∧ s.t 26 = .one (.dt (.lit (.int .i64 x.length))) ∧ s.t 27 = .one (.dt (.lit (.int .i64 i))) ∧ s.t 8 = .one (.row (24, 0) 0) ∧ s.r (24, 0) = some ⟨56, 1, x.length, natC D, 0, true⟩ ∧ s.t 9 = .one (.dt (.lit (.int .u64 c))) ∧ D.length = x.length ∧ Lim D ∧ 0 ≤ c ∧ c ≤ 1 ∧ val (D.take i) + val (y.take i) = val (x.take i) + bp i * c) x.length ⟨0, List.replicate x.length 0, 0, rfl, ?_, ?_, ?_, ?_, ?_, ?_, ?_, by simp, Lim.replicate _, by omega, by omega, by simp [val]⟩ ?_
    · simp (maxSteps := 1000000) (disch := first | omega | (simp only [LL]; omega)) only [W, V, TY, CC, reduceIte, Nat.reduceEqDiff, Nat.reduceAdd, Nat.reduceLeDiff, Nat.reduceLT, Int.reduceLE, Int.reduceLT, Int.reduceAdd, Int.reduceSub, Int.reduceToNat, Nat.reduceMul]
    · simp (maxSteps := 1000000) (disch := first | omega | (simp only [LL]; omega)) only [W, V, TY, CC, reduceIte, Nat.reduceEqDiff, Nat.reduceAdd, Nat.reduceLeDiff, Nat.reduceLT, Int.reduceLE, Int.reduceLT, Int.reduceAdd, Int.reduceSub, Int.reduceToNat, Nat.reduceMul]
    · simp (maxSteps := 1000000) (disch := first | omega | (simp only [LL]; omega)) only [W, V, TY, CC, reduceIte, Nat.reduceEqDiff, Nat.reduceAdd, Nat.reduceLeDiff, Nat.reduceLT, Int.reduceLE, Int.reduceLT, Int.reduceAdd, Int.reduceSub, Int.reduceToNat, Nat.reduceMul]
    · simp (maxSteps := 1000000) (disch := first | omega | (simp only [LL]; omega)) only [W, V, TY, CC, reduceIte, Nat.reduceEqDiff, Nat.reduceAdd, Nat.reduceLeDiff, Nat.reduceLT, Int.reduceLE, Int.reduceLT, Int.reduceAdd, Int.reduceSub, Int.reduceToNat, Nat.reduceMul]
    · simp (maxSteps := 1000000) (disch := first | omega | (simp only [LL]; omega)) only [W, V, TY, CC, reduceIte, Nat.reduceEqDiff, Nat.reduceAdd, Nat.reduceLeDiff, Nat.reduceLT, Int.reduceLE, Int.reduceLT, Int.reduceAdd, Int.reduceSub, Int.reduceToNat, Nat.reduceMul]
    · simp (maxSteps := 1000000) (disch := first | omega | (simp only [LL]; omega)) only [W, V, TY, CC, reduceIte, Nat.reduceEqDiff, Nat.reduceAdd, Nat.reduceLeDiff, Nat.reduceLT, Int.reduceLE, Int.reduceLT, Int.reduceAdd, Int.reduceSub, Int.reduceToNat, Nat.reduceMul]
    · simp (maxSteps := 1000000) (disch := first | omega | (simp only [LL]; omega)) only [W, V, TY, CC, reduceIte, Nat.reduceEqDiff, Nat.reduceAdd, Nat.reduceLeDiff, Nat.reduceLT, Int.reduceLE, Int.reduceLT, Int.reduceAdd, Int.reduceSub, Int.reduceToNat, Nat.reduceMul]
    intro n s _ ⟨i, D, c, e, t7, t25, t26, t27, t8, r8, t9, hD, lD, c0, c1, hv⟩
    simp (maxSteps := 1000000) (disch := first | omega | (simp only [LL]; omega)) only [W, V, TY, CC, reduceIte, Nat.reduceEqDiff, Nat.reduceAdd, Nat.reduceLeDiff, Nat.reduceLT, Int.reduceLE, Int.reduceLT, Int.reduceAdd, Int.reduceSub, Int.reduceToNat, Nat.reduceMul, t7, t25, t26, t27, t8, t9]
    refine c_split (fun hi => ?_) (fun hi => ?_)
    · have hx := l1.getD i
      have hy := l2.getD i
      have hb := bp_succ i
      simp (maxSteps := 1000000) (disch := first | omega | (simp only [LL]; omega)) only [W, V, TY, CC, reduceIte, Nat.reduceEqDiff, Nat.reduceAdd, Nat.reduceLeDiff, Nat.reduceLT, Int.reduceLE, Int.reduceLT, Int.reduceAdd, Int.reduceSub, Int.reduceToNat, Nat.reduceMul, t7, t25, t26, t27, t8, t9]
      refine c_split (fun hk => ?_) (fun hk => ?_)
      · simp (maxSteps := 1000000) (disch := first | omega | (simp only [LL]; omega)) only [W, V, TY, CC, reduceIte, Nat.reduceEqDiff, Nat.reduceAdd, Nat.reduceLeDiff, Nat.reduceLT, Int.reduceLE, Int.reduceLT, Int.reduceAdd, Int.reduceSub, Int.reduceToNat, Nat.reduceMul, t7, t25, t26, t27, t8, t9]
        refine c_split (fun hq => ?_) (fun hq => ?_)
        · simp (maxSteps := 1000000) (disch := first | omega | (simp only [LL]; omega)) only [W, V, TY, CC, reduceIte, Nat.reduceEqDiff, Nat.reduceAdd, Nat.reduceLeDiff, Nat.reduceLT, Int.reduceLE, Int.reduceLT, Int.reduceAdd, Int.reduceSub, Int.reduceToNat, Nat.reduceMul, t7, t25, t26, t27, t8, t9, r8]
          refine ⟨⟨by omega, by omega⟩, by omega, n - 1, by omega, i + 1, D.set i (x.getD i 0 + 4294967296 - (c + y.getD i 0)), 1, by omega, rfl, rfl, rfl, by simp [hD], lD.set i (by omega) (by omega), by omega, by omega, ?_⟩
          rw [take_set_succ (by omega), val_snoc, List.length_take, Nat.min_eq_left (by omega), hb, val_take_getD (show i < x.length by omega), val_take_getD (show i < y.length by omega)]
          grind
        · simp (maxSteps := 1000000) (disch := first | omega | (simp only [LL]; omega)) only [W, V, TY, CC, reduceIte, Nat.reduceEqDiff, Nat.reduceAdd, Nat.reduceLeDiff, Nat.reduceLT, Int.reduceLE, Int.reduceLT, Int.reduceAdd, Int.reduceSub, Int.reduceToNat, Nat.reduceMul, t7, t25, t26, t27, t8, t9, r8]
          refine ⟨⟨by omega, by omega⟩, by omega, n - 1, by omega, i + 1, D.set i (x.getD i 0 - (c + y.getD i 0)), 0, by omega, rfl, rfl, rfl, by simp [hD], lD.set i (by omega) (by omega), by omega, by omega, ?_⟩
          rw [take_set_succ (by omega), val_snoc, List.length_take, Nat.min_eq_left (by omega), hb, val_take_getD (show i < x.length by omega), val_take_getD (show i < y.length by omega)]
          grind
      · simp (maxSteps := 1000000) (disch := first | omega | (simp only [LL]; omega)) only [W, V, TY, CC, reduceIte, Nat.reduceEqDiff, Nat.reduceAdd, Nat.reduceLeDiff, Nat.reduceLT, Int.reduceLE, Int.reduceLT, Int.reduceAdd, Int.reduceSub, Int.reduceToNat, Nat.reduceMul, t7, t25, t26, t27, t8, t9]
        refine c_split (fun hq => ?_) (fun hq => ?_)
        · simp (maxSteps := 1000000) (disch := first | omega | (simp only [LL]; omega)) only [W, V, TY, CC, reduceIte, Nat.reduceEqDiff, Nat.reduceAdd, Nat.reduceLeDiff, Nat.reduceLT, Int.reduceLE, Int.reduceLT, Int.reduceAdd, Int.reduceSub, Int.reduceToNat, Nat.reduceMul, t7, t25, t26, t27, t8, t9, r8]
          refine ⟨⟨by omega, by omega⟩, by omega, n - 1, by omega, i + 1, D.set i (x.getD i 0 + 4294967296 - c), 1, by omega, rfl, rfl, rfl, by simp [hD], lD.set i (by omega) (by omega), by omega, by omega, ?_⟩
          rw [take_set_succ (by omega), val_snoc, List.length_take, Nat.min_eq_left (by omega), hb, val_take_getD (show i < x.length by omega), take_getD_over (show y.length ≤ i by omega)]
          grind
        · simp (maxSteps := 1000000) (disch := first | omega | (simp only [LL]; omega)) only [W, V, TY, CC, reduceIte, Nat.reduceEqDiff, Nat.reduceAdd, Nat.reduceLeDiff, Nat.reduceLT, Int.reduceLE, Int.reduceLT, Int.reduceAdd, Int.reduceSub, Int.reduceToNat, Nat.reduceMul, t7, t25, t26, t27, t8, t9, r8]
          refine ⟨⟨by omega, by omega⟩, by omega, n - 1, by omega, i + 1, D.set i (x.getD i 0 - c), 0, by omega, rfl, rfl, rfl, by simp [hD], lD.set i (by omega) (by omega), by omega, by omega, ?_⟩
          rw [take_set_succ (by omega), val_snoc, List.length_take, Nat.min_eq_left (by omega), hb, val_take_getD (show i < x.length by omega), take_getD_over (show y.length ≤ i by omega)]
          grind
    · simp (maxSteps := 1000000) (disch := first | omega | (simp only [LL]; omega)) only [W, V, TY, CC, reduceIte, Nat.reduceEqDiff, Nat.reduceAdd, Nat.reduceLeDiff, Nat.reduceLT, Int.reduceLE, Int.reduceLT, Int.reduceAdd, Int.reduceSub, Int.reduceToNat, Nat.reduceMul, t7, t25, t26, t27, t8, t9, r8]
      rw [List.take_of_length_le (by omega), List.take_of_length_le (by omega), List.take_of_length_le (by omega)] at hv
      have hvd := val_lt lD
      rw [hD, show x.length = i by omega] at hvd
      have hc0 : c = 0 := by
        by_cases h : c = 0
        · exact h
        · have : c = 1 := by omega
          subst this
          omega
      subst hc0
      refine a_call _ _ (nat_trim D lD (by omega)) (by simp (maxSteps := 1000000) (disch := first | omega | (simp only [LL]; omega)) only [W, V, TY, CC, reduceIte, Nat.reduceEqDiff, Nat.reduceAdd, Nat.reduceLeDiff, Nat.reduceLT, Int.reduceLE, Int.reduceLT, Int.reduceAdd, Int.reduceSub, Int.reduceToNat, Nat.reduceMul, t7, t25, t26, t27, t8, t9, r8]) ?_
      simp (maxSteps := 1000000) (disch := first | omega | (simp only [LL]; omega)) only [W, V, TY, CC, reduceIte, Nat.reduceEqDiff, Nat.reduceAdd, Nat.reduceLeDiff, Nat.reduceLT, Int.reduceLE, Int.reduceLT, Int.reduceAdd, Int.reduceSub, Int.reduceToNat, Nat.reduceMul]
      refine f_ret _ _ _ ?_
      unfold subR
      rw [if_pos (by omega)]
      have hres : tr D = nl (nv a - nv b) := by unfold tr; congr 1; have := nv_eq lD; omega
      simp (maxSteps := 1000000) (disch := first | omega | (simp only [LL]; omega)) only [W, V, TY, CC, reduceIte, Nat.reduceEqDiff, Nat.reduceAdd, Nat.reduceLeDiff, Nat.reduceLT, Int.reduceLE, Int.reduceLT, Int.reduceAdd, Int.reduceSub, Int.reduceToNat, Nat.reduceMul, hres]
end Go.Proofs.Ytnlmfdojnacofaa.E
