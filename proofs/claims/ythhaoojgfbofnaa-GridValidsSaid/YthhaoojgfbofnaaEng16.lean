/- The rules by which 'simp' walks through compact code; no condition. -/
import Derived.Test.YthhaoojgfbofnaaEng15
set_option linter.unusedSimpArgs false
set_option linter.unusedVariables false
namespace Go.Proofs.Ythhaoojgfbofnaa.E
open Go.RowKit

section
variable {P : Program} {Q : AS → Prop} {K : AEx → AS → Prop} {s : AS} {os : List AO}

/-! ### looking things up -/
theorem ev_t (t : Nat) : s.ev (.tmp t) = s.t t := rfl
theorem ev_int (k : IntKind) (n : Int) : s.ev (.const (.int k n)) = .one (.dt (.lit (.int k n))) := rfl
theorem ev_bool (b : Bool) : s.ev (.const (.bool b)) = .one (.dt (.lit (.bool b))) := rfl
theorem ev_str (b : ByteArray) : s.ev (.const (.string b)) = .one (.dt (.lit (.string b))) := rfl
theorem ev_nil : s.ev (.const (.slice none 0 0)) = .one .z := rfl
theorem set_t (d n : Nat) (x : AV) : (s.set d x).t n = if n = d then x else s.t n := rfl
theorem set_v (d : Nat) (x : AV) : (s.set d x).v = s.v := rfl
theorem set_r (d : Nat) (x : AV) : (s.set d x).r = s.r := rfl
theorem set_g (d : Nat) (x : AV) : (s.set d x).g = s.g := rfl
theorem set_f (d : Nat) (x : AV) : (s.set d x).f = s.f := rfl
theorem setv_t (y : Nat × Nat) (cs : List Ce) : (s.setv y cs).t = s.t := rfl
theorem setv_v (y z : Nat × Nat) (cs : List Ce) : (s.setv y cs).v z = if z = y then some cs else s.v z := rfl
theorem setv_r (y : Nat × Nat) (cs : List Ce) : (s.setv y cs).r = s.r := rfl
theorem setv_g (y : Nat × Nat) (cs : List Ce) : (s.setv y cs).g = s.g := rfl
theorem setv_f (y : Nat × Nat) (cs : List Ce) : (s.setv y cs).f = s.f := rfl
theorem setr_t (y : Nat × Nat) (row : Row) : (s.setr y row).t = s.t := rfl
theorem setr_v (y : Nat × Nat) (row : Row) : (s.setr y row).v = s.v := rfl
theorem setr_r (y z : Nat × Nat) (row : Row) : (s.setr y row).r z = if z = y then some row else s.r z := rfl
theorem setr_g (y : Nat × Nat) (row : Row) : (s.setr y row).g = s.g := rfl
theorem setr_f (y : Nat × Nat) (row : Row) : (s.setr y row).f = s.f := rfl
theorem bump_t (d : Nat) : (s.bump d).t = s.t := rfl
theorem bump_v (d : Nat) : (s.bump d).v = s.v := rfl
theorem bump_r (d : Nat) : (s.bump d).r = s.r := rfl
theorem bump_g (d n : Nat) : (s.bump d).g n = if n = d then s.g n + 1 else s.g n := rfl
theorem bump_f (d : Nat) : (s.bump d).f = s.f := rfl
theorem frz_t (y : Nat × Nat) : (s.freeze y).t = s.t := rfl
theorem frz_v (y : Nat × Nat) : (s.freeze y).v = s.v := rfl
theorem frz_r (y z : Nat × Nat) : (s.freeze y).r z = if z = y then (s.r z).map (fun row => { row with live := false }) else s.r z := rfl
theorem frz_g (y : Nat × Nat) : (s.freeze y).g = s.g := rfl
theorem frz_f (y : Nat × Nat) : (s.freeze y).f = s.f := rfl
theorem frzv_t (y : Nat × Nat) : (s.freezev y).t = s.t := rfl
theorem frzv_v (y : Nat × Nat) : (s.freezev y).v = s.v := rfl
theorem frzv_r (y : Nat × Nat) : (s.freezev y).r = s.r := rfl
theorem frzv_g (y : Nat × Nat) : (s.freezev y).g = s.g := rfl
theorem frzv_f (y z : Nat × Nat) : (s.freezev y).f z = if z = y then true else s.f z := rfl
theorem put_some (d : Nat) (x : AV) : s.put (some d) x = s.set d x := rfl
theorem put_none (x : AV) : s.put none x = s := rfl
theorem start_t0 (r : RV) (rs : List RV) : (start (r :: rs)).t 0 = r.toAV := rfl
theorem start_ts (r : RV) (rs : List RV) (n : Nat) : (start (r :: rs)).t (n + 1) = (start rs).t n := by
  show (match (r :: rs)[n + 1]? with | some r => r.toAV | none => .no) = _
  rfl
theorem start_t1 (r r1 : RV) (rs : List RV) : (start (r :: r1 :: rs)).t 1 = r1.toAV := rfl
theorem start_t2 (r r1 r2 : RV) (rs : List RV) : (start (r :: r1 :: r2 :: rs)).t 2 = r2.toAV := rfl
theorem start_t3 (r r1 r2 r3 : RV) (rs : List RV) : (start (r :: r1 :: r2 :: r3 :: rs)).t 3 = r3.toAV := rfl
theorem start_t4 (r r1 r2 r3 r4 : RV) (rs : List RV) : (start (r :: r1 :: r2 :: r3 :: r4 :: rs)).t 4 = r4.toAV := rfl
theorem start_v (rs : List RV) : (start rs).v = fun _ => none := rfl
theorem start_r (rs : List RV) : (start rs).r = fun _ => none := rfl
theorem start_g (rs : List RV) : (start rs).g = fun _ => 0 := rfl
theorem start_f (rs : List RV) : (start rs).f = fun _ => false := rfl
theorem rv_one (d : Dt) : RV.toAV (.one d) = .one (.dt d) := rfl
theorem rv_agg (ds : List Dt) : RV.toAV (.agg ds) = .agg (ds.map .dt) := rfl
theorem res_one (r : RV) : resAV [r] = r.toAV := rfl
theorem res_nil : resAV [] = .tup [] := rfl
theorem res_two (r r1 : RV) (rs : List RV) : resAV (r :: r1 :: rs) = .tup (r :: r1 :: rs) := rfl

/-! ### code -/
theorem w_skip : awp P .skip K s = K .normal s := rfl
theorem w_reg (l : List AO) : awp P (.reg l) K s = aops P l (K .normal) s := rfl
theorem w_gh (gs : List Gh) : awp P (.gh gs) K s = ghs gs (K .normal) s := rfl
theorem w_seq (x y : AC) : awp P (.seq x y) K s = awp P x (AEx.then (awp P y K) K) s := rfl
theorem w_block (id : Nat) (x : AC) : awp P (.block id x) K s = awp P x (AEx.blk id K) s := rfl
theorem w_exit (id : Nat) : awp P (.exit id) K s = K (.exit id) s := rfl
theorem w_ret : awp P .ret K s = K .ret s := rfl
theorem t_n (y : AS → Prop) : AEx.then y K .normal s = y s := rfl
theorem t_e (y : AS → Prop) (id : Nat) : AEx.then y K (.exit id) s = K (.exit id) s := rfl
theorem t_r (y : AS → Prop) : AEx.then y K .ret s = K .ret s := rfl
theorem b_n (id : Nat) : AEx.blk id K .normal s = K .normal s := rfl
theorem b_e (id i : Nat) : AEx.blk id K (.exit i) s = if i = id then K .normal s else K (.exit i) s := rfl
theorem b_r (id : Nat) : AEx.blk id K .ret s = K .ret s := rfl
theorem w_cond {c : Operand} {x y : AC} (p : Prop) [Decidable p] (h : asB (s.ev c) = some (decide p)) (h1 : p → awp P x K s) (h2 : ¬p → awp P y K s) : awp P (.cond c x y) K s :=
  ⟨_, h, fun e => h1 (of_decide_eq_true e), fun e => h2 (of_decide_eq_false e)⟩
theorem w_condb {c : Operand} {x y : AC} (b : Bool) (h : asB (s.ev c) = some b) (h1 : b = true → awp P x K s) (h2 : b = false → awp P y K s) : awp P (.cond c x y) K s := ⟨_, h, h1, h2⟩
/-- a test whose outcome is not known yet -/
def condA (P : Program) (b : Option Bool) (x y : AC) (K : AEx → AS → Prop) (s : AS) : Prop := ∃ b', b = some b' ∧ (b' = true → awp P x K s) ∧ (b' = false → awp P y K s)
theorem w_cnd (c : Operand) (x y : AC) : awp P (.cond c x y) K s = condA P (asB (s.ev c)) x y K s := rfl
theorem c_t (x y : AC) : condA P (some true) x y K s = awp P x K s := by simp [condA]
theorem c_f (x y : AC) : condA P (some false) x y K s = awp P y K s := by simp [condA]
theorem c_split {x y : AC} {p : Prop} [Decidable p] (h1 : p → awp P x K s) (h2 : ¬p → awp P y K s) : condA P (some (decide p)) x y K s := ⟨_, rfl, fun e => h1 (of_decide_eq_true e), fun e => h2 (of_decide_eq_false e)⟩
theorem c_splitb {x y : AC} {b : Bool} (h1 : b = true → awp P x K s) (h2 : b = false → awp P y K s) : condA P (some b) x y K s := ⟨_, rfl, h1, h2⟩
theorem w_loop {x : AC} (I : Nat → AS → Prop) (n : Nat) (h0 : I n s) (h : ∀ n s, s.wf → I n s → awp P x (AEx.then (fun s' => ∃ n', n' < n ∧ I n' s') K) s) : awp P (.loop x) K s := ⟨I, n, h0, h⟩
theorem g_nil : ghs [] Q s = Q s := rfl
theorem g_cons (g : Gh) (gs : List Gh) : ghs (g :: gs) Q s = (ghO g s ∧ ghs gs Q (ghE g s)) := rfl

/-! ### operations -/
theorem ex_const {p : Prop} : (∃ _ : List RV, p) = p := propext ⟨fun ⟨_, h⟩ => h, fun h => ⟨[], h⟩⟩
theorem a_of {o : AO} {A : Prop} {s' : AS} (h : ∀ rs, obl' P o s rs = A) (h' : ∀ rs, eff' P o s rs = s') : aops P (o :: os) Q s = (A ∧ aops P os Q s') := by
  show (∃ rs, obl' P o s rs ∧ aops P os Q (eff' P o s rs)) = _
  simp only [h, h']
  exact ex_const
theorem a_nil : aops P [] Q s = Q s := rfl
theorem a_move (d : Option Nat) (x : Operand) : aops P (⟨d, .move x, none⟩ :: os) Q s = aops P os Q (s.put d (s.ev x)) := by
  show (∃ _ : List RV, True ∧ aops P os Q (s.put d (s.ev x))) = _
  rw [ex_const]; simp
theorem a_assign (d : Option Nat) (x : Operand) : aops P (⟨d, .assign x, none⟩ :: os) Q s = aops P os Q (s.put d (s.ev x)) := by
  show (∃ _ : List RV, True ∧ aops P os Q (s.put d (s.ev x))) = _
  rw [ex_const]; simp
theorem a_pick (d : Option Nat) (c x y : Operand) : aops P (⟨d, .pick c x y, none⟩ :: os) Q s = (pickO (s.ev c) ∧ aops P os Q (s.put d (pickV (s.ev c) (s.ev x) (s.ev y)))) := a_of (fun _ => rfl) (fun _ => rfl)
theorem a_alloc (d : Nat) (T : TypeId) : aops P (⟨some d, .alloc T, none⟩ :: os) Q s = (match zeros P T with
    | some cs => aops P os Q (((s.setv (d, s.g d) cs).bump d).set d (.ptr (d, s.g d) 0))
    | none => False) := by
  show (∃ rs : List RV, obl P (.alloc T) (some d) s rs ∧ aops P os Q (eff P (.alloc T) (some d) s rs)) = _
  simp only [obl, eff]
  rw [ex_const]
  cases zeros P T <;> simp
theorem a_box (d : Nat) (T : TypeId) (x : Operand) : aops P (⟨some d, .box T x, none⟩ :: os) Q s = (match cellsOf (s.ev x) with
    | some cs => aops P os Q (((s.setv (d, s.g d) cs).bump d).set d (.ptr (d, s.g d) 0))
    | none => False) := by
  show (∃ rs : List RV, obl P (.box T x) (some d) s rs ∧ aops P os Q (eff P (.box T x) (some d) s rs)) = _
  simp only [obl, eff]
  rw [ex_const]
  cases cellsOf (s.ev x) <;> simp
theorem a_build (d : Option Nat) (T : TypeId) (parts : Array (Nat × Operand)) : aops P (⟨d, .build T parts, none⟩ :: os) Q s = (match zeros P T with
    | some cs => (tplaces P T).isSome = true ∧ match fillA (tplace P T) cs (pairs s parts.toList) with
      | some cells => aops P os Q (s.put d (.agg cells))
      | none => False
    | none => False) := by
  show (∃ rs : List RV, obl P (.build T parts) d s rs ∧ aops P os Q (eff P (.build T parts) d s rs)) = _
  simp only [obl, eff]
  rw [ex_const]
  cases zeros P T with
  | none => simp
  | some cs =>
    simp only
    cases fillA (tplace P T) cs (pairs s parts.toList) <;> simp
theorem a_bsl (d : Nat) (T : TypeId) (n : Nat) (parts : Array (Nat × Operand)) : aops P (⟨some d, .buildSlice T n parts, none⟩ :: os) Q s = (match telem P T with
    | some e => (tok P e = true ∧ n * tsz P e ≤ 16777216 ∧ if n = 0 then parts.size = 0 ∧ aops P os Q (((s.setr (d, s.g d) ⟨e, tsz P e, 0, [], 0, true⟩).bump d).set d (.one (.row (d, s.g d) 0))) else
      match bslC s (tsz P e) n (zeros P e) parts.toList with
      | some ds => ((zeros P e).map List.length = some (tsz P e) ∧ 0 < tsz P e) ∧ aops P os Q (s.set d (.one (.dt (.sl n ds))))
      | none => False)
    | none => False) := by
  show (∃ rs : List RV, obl P (.buildSlice T n parts) (some d) s rs ∧ aops P os Q (eff P (.buildSlice T n parts) (some d) s rs)) = _
  simp only [obl, eff]
  rw [ex_const]
  cases telem P T with
  | none => simp
  | some e =>
    simp only
    by_cases hn : n = 0
    · simp [hn, and_assoc]
    · simp only [hn, if_false]
      cases bslC s (tsz P e) n (zeros P e) parts.toList <;> simp [and_assoc]
theorem a_load (d : Option Nat) (T : TypeId) (x : Operand) : aops P (⟨d, .load T x, none⟩ :: os) Q s = ((tok P T = true ∧ ldO (tagg P T) (tsz P T) (acells s (s.ev x))) ∧ aops P os Q (s.put d (ldV (tagg P T) (tsz P T) (acells s (s.ev x))))) := a_of (fun _ => rfl) (fun _ => rfl)
theorem a_store (d : Option Nat) (T : TypeId) (x y : Operand) : aops P (⟨d, .store T x y, none⟩ :: os) Q s = (tok P T = true ∧ match cellsOf (s.ev y) with
    | some cs => (cs.length = tsz P T ∧ stO s cs (s.ev x)) ∧ aops P os Q ((stS s cs (s.ev x)).put d .no)
    | none => False) := by
  show (∃ rs : List RV, obl P (.store T x y) d s rs ∧ aops P os Q (eff P (.store T x y) d s rs)) = _
  simp only [obl, eff]
  rw [ex_const]
  cases cellsOf (s.ev y) <;> simp [and_assoc]
theorem a_bin (d : Option Nat) (op : BinOp) (T T' : TypeId) (x y : Operand) : aops P (⟨d, .binOp op T x y T', none⟩ :: os) Q s = (binO (tbool P T) op (s.ev x) (s.ev y) ∧ aops P os Q (s.put d (binV op (s.ev x) (s.ev y)))) := a_of (fun _ => rfl) (fun _ => rfl)
theorem a_un (d : Option Nat) (op : UnOp) (T : TypeId) (x : Operand) : aops P (⟨d, .unOp op T x, none⟩ :: os) Q s = (unO op (s.ev x) ∧ aops P os Q (s.put d (unV op (s.ev x)))) := a_of (fun _ => rfl) (fun _ => rfl)
theorem a_conv (d : Option Nat) (T T' : TypeId) (x : Operand) : aops P (⟨d, .convert T T' x, none⟩ :: os) Q s = (((P.underlying T).isSome = true ∧ cvO (tint P T') (s.ev x)) ∧ aops P os Q (s.put d (cvV (tint P T') (s.ev x)))) := a_of (fun _ => rfl) (fun _ => rfl)
theorem a_make (d : Nat) (T : TypeId) (l c : Operand) : aops P (⟨some d, .makeSlice T l c, none⟩ :: os) Q s = (match telem P T with
    | some e => (tok P e = true ∧ tsz P e = 1 ∧ mkO (tbytes P e) (zeros P e) (s.ev l) (s.ev c)) ∧ aops P os Q (mkS s d e (zeros P e) (s.ev l))
    | none => False) := by
  show (∃ rs : List RV, obl P (.makeSlice T l c) (some d) s rs ∧ aops P os Q (eff P (.makeSlice T l c) (some d) s rs)) = _
  simp only [obl, eff]
  rw [ex_const]
  cases telem P T <;> simp
theorem a_slice (d : Option Nat) (T : TypeId) (x : Operand) (lo hi mx : Option Operand) : aops P (⟨d, .slice T x lo hi mx, none⟩ :: os) Q s = (match telem P T with
    | some e => (tok P e = true ∧ cutO (tsz P e) (lo.map s.ev) (hi.map s.ev) (mx.map s.ev) (s.ev x)) ∧ aops P os Q (s.put d (cutV (tsz P e) (lo.map s.ev) (hi.map s.ev) (s.ev x)))
    | none => match tarr P T with
      | some (n, e) => (tok P e = true ∧ acutO s (tsz P e) n (lo.map s.ev) (hi.map s.ev) (mx.map s.ev) (s.ev x)) ∧ aops P os Q (s.put d (acutV s (tsz P e) n (lo.map s.ev) (hi.map s.ev) (s.ev x)))
      | none => False) := by
  show (∃ rs : List RV, obl P (.slice T x lo hi mx) d s rs ∧ aops P os Q (eff P (.slice T x lo hi mx) d s rs)) = _
  simp only [obl, eff]
  rw [ex_const]
  cases telem P T with
  | some e => rfl
  | none =>
    cases tarr P T with
    | none => simp
    | some ne => rfl
theorem a_fld (d : Option Nat) (T : TypeId) (x : Operand) (f : Nat) : aops P (⟨d, .fieldAddr T x f, none⟩ :: os) Q s = (fldO s (foff P T f) (s.ev x) ∧ aops P os Q (s.put d (fldV (foff P T f) (s.ev x)))) := a_of (fun _ => rfl) (fun _ => rfl)
theorem a_idx (d : Option Nat) (T : TypeId) (x i : Operand) : aops P (⟨d, .indexAddr T x i, none⟩ :: os) Q s = (match telem P T with
    | some e => (tok P e = true ∧ idxO s (tsz P e) (s.ev x) (s.ev i)) ∧ aops P os Q (s.put d (idxV (tsz P e) (s.ev x) (s.ev i)))
    | none => match tarr P T with
      | some (n, e) => (tok P e = true ∧ arrO n (s.ev x) (s.ev i)) ∧ aops P os Q (s.put d (arrV (tsz P e) (s.ev x) (s.ev i)))
      | none => False) := by
  show (∃ rs : List RV, obl P (.indexAddr T x i) d s rs ∧ aops P os Q (eff P (.indexAddr T x i) d s rs)) = _
  simp only [obl, eff]
  rw [ex_const]
  cases telem P T with
  | some e => rfl
  | none =>
    cases tarr P T with
    | none => simp
    | some ne => rfl
theorem a_ext (d : Option Nat) (x : Operand) (j : Nat) : aops P (⟨d, .extract x j, none⟩ :: os) Q s = (extO (s.ev x) j ∧ aops P os Q (s.put d (extV (s.ev x) j))) := a_of (fun _ => rfl) (fun _ => rfl)
theorem a_len (d : Option Nat) (x : Operand) (T : TypeId) : aops P (⟨d, .call ⟨.builtin .len, #[x], #[T]⟩, none⟩ :: os) Q s = (((telem P T).isSome = true ∧ lenO s (s.ev x)) ∧ aops P os Q (s.put d (lenV s (s.ev x)))) := a_of (fun _ => rfl) (fun _ => rfl)
theorem a_max (d : Option Nat) (x y : Operand) (Ts : Array TypeId) : aops P (⟨d, .call ⟨.builtin .max, #[x, y], Ts⟩, none⟩ :: os) Q s = (mxO (s.ev x) (s.ev y) ∧ aops P os Q (s.put d (mxV (fun x y => if y > x then y else x) (s.ev x) (s.ev y)))) := a_of (fun _ => rfl) (fun _ => rfl)
theorem a_min (d : Option Nat) (x y : Operand) (Ts : Array TypeId) : aops P (⟨d, .call ⟨.builtin .min, #[x, y], Ts⟩, none⟩ :: os) Q s = (mxO (s.ev x) (s.ev y) ∧ aops P os Q (s.put d (mxV (fun x y => if y < x then y else x) (s.ev x) (s.ev y)))) := a_of (fun _ => rfl) (fun _ => rfl)
theorem a_append (d : Nat) (x y : Operand) (T : TypeId) : aops P (⟨some d, .call ⟨.builtin .append, #[x, y], #[T, T]⟩, none⟩ :: os) Q s = (match telem P T with
    | some e => (tok P e = true ∧ 0 < tsz P e ∧ (tzero P e).map List.length = some (tsz P e) ∧ appO s e (tsz P e) (tbytes P e) (srcD s (s.ev y)) (s.ev x)) ∧ aops P os Q (appS s d e (tsz P e) (srcD s (s.ev y)) (s.ev x))
    | none => False) := by
  show (∃ rs : List RV, (T = T ∧ match telem P T with
        | some e => (some d).isSome = true ∧ tok P e = true ∧ 0 < tsz P e ∧ (tzero P e).map List.length = some (tsz P e) ∧ appO s e (tsz P e) (tbytes P e) (srcD s (s.ev y)) (s.ev x)
        | none => False) ∧ aops P os Q (match telem P T with
        | some e => appS s d e (tsz P e) (srcD s (s.ev y)) (s.ev x)
        | none => s)) = _
  rw [ex_const]
  cases telem P T <;> simp
theorem a_copy (d : Option Nat) (x y : Operand) (T T' : TypeId) : aops P (⟨d, .call ⟨.builtin .copy, #[x, y], #[T, T']⟩, none⟩ :: os) Q s = ((match telem P T with
    | some e => tok P e = true ∧ tsz P e = 1 ∧ cpO s (srcD s (s.ev y)) (s.ev x)
    | none => False) ∧ aops P os Q (cpS s d (srcD s (s.ev y)) (s.ev x))) := a_of (fun _ => rfl) (fun _ => rfl)
theorem a_call {d : Option Nat} {f : Nat} {args : Array Operand} {Ts : Array TypeId} (avs rs : List RV) (h : AFun P f avs rs) (h1 : toRVs s (evs s args.toList) = some avs) (h2 : aops P os Q (s.put d (resAV rs))) :
    aops P (⟨d, .call ⟨.value (.func f), args, Ts⟩, none⟩ :: os) Q s := ⟨rs, ⟨avs, h1, h⟩, h2⟩
theorem a_guard (d : Option Nat) (op : Op) (t : Nat) (want : Bool) : aops P (⟨d, op, some (t, want)⟩ :: os) Q s = (match asB (s.t t) with
    | some b => if b = want then aops P (⟨d, op, none⟩ :: os) Q s else aops P os Q (s.put d .no)
    | none => False) := by
  show (∃ rs : List RV, (match asB (s.t t) with
      | some b => if b = want then obl P op d s rs else True
      | none => False) ∧ aops P os Q (match asB (s.t t) with
      | some b => if b = want then eff P op d s rs else s.put d .no
      | none => s)) = _
  cases asB (s.t t) with
  | none => simp
  | some b =>
    simp only
    by_cases e : b = want
    · simp only [e, if_true]; rfl
    · simp [e]
def guardA (P : Program) (b : Option Bool) (want : Bool) (d : Option Nat) (op : Op) (os : List AO) (Q : AS → Prop) (s : AS) : Prop := match b with
  | some b => if b = want then aops P (⟨d, op, none⟩ :: os) Q s else aops P os Q (s.put d .no)
  | none => False
theorem a_grd (d : Option Nat) (op : Op) (t : Nat) (want : Bool) : aops P (⟨d, op, some (t, want)⟩ :: os) Q s = guardA P (asB (s.t t)) want d op os Q s := a_guard d op t want
theorem g_tt (d : Option Nat) (op : Op) : guardA P (some true) true d op os Q s = aops P (⟨d, op, none⟩ :: os) Q s := rfl
theorem g_ff (d : Option Nat) (op : Op) : guardA P (some false) false d op os Q s = aops P (⟨d, op, none⟩ :: os) Q s := rfl
theorem g_tf (d : Option Nat) (op : Op) : guardA P (some true) false d op os Q s = aops P os Q (s.put d .no) := rfl
theorem g_ft (d : Option Nat) (op : Op) : guardA P (some false) true d op os Q s = aops P os Q (s.put d .no) := rfl
theorem g_split {p : Prop} [Decidable p] {want : Bool} {d : Option Nat} {op : Op} (h1 : p → guardA P (some true) want d op os Q s) (h2 : ¬p → guardA P (some false) want d op os Q s) : guardA P (some (decide p)) want d op os Q s := by
  by_cases h : p
  · rw [decide_eq_true h]; exact h1 h
  · rw [decide_eq_false h]; exact h2 h
theorem a_yes {d : Option Nat} {op : Op} {t : Nat} {want : Bool} (h : asB (s.t t) = some want) (h1 : aops P (⟨d, op, none⟩ :: os) Q s) : aops P (⟨d, op, some (t, want)⟩ :: os) Q s := by
  rw [a_guard, h]; simpa using h1
theorem a_no {d : Option Nat} {op : Op} {t : Nat} {want b : Bool} (h : asB (s.t t) = some b) (hb : b ≠ want) (h1 : aops P os Q (s.put d .no)) : aops P (⟨d, op, some (t, want)⟩ :: os) Q s := by
  rw [a_guard, h]; simpa [hb] using h1
end
end Go.Proofs.Ythhaoojgfbofnaa.E
