/- The rules for values, by which 'simp' computes; no condition. -/
import Derived.Test.YthhaoojgfbofnaaEng16
import Derived.Laws.Bits64
import Derived.Laws.BitsLemmas
set_option linter.unusedSimpArgs false
set_option linter.unusedVariables false
namespace Go.Proofs.Ythhaoojgfbofnaa.E
open Go.RowKit

def shl (k : IntKind) (x y : Int) : Int := k.wrap (x * 2 ^ (min y.toNat k.bits))
def shr (k : IntKind) (x y : Int) : Int := x.fdiv (2 ^ (min y.toNat k.bits))
section
variable {s : AS} {k k' : IntKind} {x y : Int} {tb b b' : Bool}

theorem src_sl (n : Nat) (cells : List Dt) : srcD s (.one (.dt (.sl n cells))) = some (n, cells) := rfl
theorem cd_nil : ceDs [] = some [] := rfl
theorem cd_cons (c : Ce) (cs : List Ce) : ceDs (c :: cs) = (match ceD c, ceDs cs with | some d, some ds => some (d :: ds) | _, _ => none) := rfl
theorem cd_dt (d : Dt) : ceD (.dt d) = some d := rfl
theorem cd_z : ceD .z = some (.sl 0 []) := rfl
theorem bsl_some (sz n : Nat) (cs : List Ce) (parts : List (Nat × Operand)) : bslC s sz n (some cs) parts = (match fillA (fun i => some (i * sz, sz)) ((List.replicate n cs).flatten) (pairs s parts) with | some cells => ceDs cells | none => none) := rfl
theorem o_add : binO tb .add (.one (.dt (.lit (.int k x)))) (.one (.dt (.lit (.int k' y)))) = (k = k') := rfl
theorem v_add : binV .add (.one (.dt (.lit (.int k x)))) (.one (.dt (.lit (.int k' y)))) = (.one (.dt (.lit (.int k (k.wrap (x + y)))))) := rfl
theorem o_sub : binO tb .sub (.one (.dt (.lit (.int k x)))) (.one (.dt (.lit (.int k' y)))) = (k = k') := rfl
theorem v_sub : binV .sub (.one (.dt (.lit (.int k x)))) (.one (.dt (.lit (.int k' y)))) = (.one (.dt (.lit (.int k (k.wrap (x - y)))))) := rfl
theorem o_mul : binO tb .mul (.one (.dt (.lit (.int k x)))) (.one (.dt (.lit (.int k' y)))) = (k = k') := rfl
theorem v_mul : binV .mul (.one (.dt (.lit (.int k x)))) (.one (.dt (.lit (.int k' y)))) = (.one (.dt (.lit (.int k (k.wrap (x * y)))))) := rfl
theorem o_quo : binO tb .quo (.one (.dt (.lit (.int k x)))) (.one (.dt (.lit (.int k' y)))) = (k = k' ∧ ¬ y = 0) := rfl
theorem v_quo : binV .quo (.one (.dt (.lit (.int k x)))) (.one (.dt (.lit (.int k' y)))) = (.one (.dt (.lit (.int k (k.wrap (x.tdiv y)))))) := rfl
theorem o_rem : binO tb .rem (.one (.dt (.lit (.int k x)))) (.one (.dt (.lit (.int k' y)))) = (k = k' ∧ ¬ y = 0) := rfl
theorem v_rem : binV .rem (.one (.dt (.lit (.int k x)))) (.one (.dt (.lit (.int k' y)))) = (.one (.dt (.lit (.int k (x.tmod y))))) := rfl
theorem o_and : binO tb .and (.one (.dt (.lit (.int k x)))) (.one (.dt (.lit (.int k' y)))) = (k = k') := rfl
theorem v_and : binV .and (.one (.dt (.lit (.int k x)))) (.one (.dt (.lit (.int k' y)))) = (.one (.dt (.lit (.int k (bits .and k x y))))) := rfl
theorem o_or : binO tb .or (.one (.dt (.lit (.int k x)))) (.one (.dt (.lit (.int k' y)))) = (k = k') := rfl
theorem v_or : binV .or (.one (.dt (.lit (.int k x)))) (.one (.dt (.lit (.int k' y)))) = (.one (.dt (.lit (.int k (bits .or k x y))))) := rfl
theorem o_shl : binO tb .shl (.one (.dt (.lit (.int k x)))) (.one (.dt (.lit (.int k' y)))) = (0 ≤ y) := rfl
theorem v_shl : binV .shl (.one (.dt (.lit (.int k x)))) (.one (.dt (.lit (.int k' y)))) = (.one (.dt (.lit (.int k (shl k x y))))) := rfl
theorem o_shr : binO tb .shr (.one (.dt (.lit (.int k x)))) (.one (.dt (.lit (.int k' y)))) = (0 ≤ y) := rfl
theorem v_shr : binV .shr (.one (.dt (.lit (.int k x)))) (.one (.dt (.lit (.int k' y)))) = (.one (.dt (.lit (.int k (shr k x y))))) := rfl
theorem o_eql : binO tb .eql (.one (.dt (.lit (.int k x)))) (.one (.dt (.lit (.int k' y)))) = (k = k') := rfl
theorem o_neq : binO tb .neq (.one (.dt (.lit (.int k x)))) (.one (.dt (.lit (.int k' y)))) = (k = k') := rfl
theorem v_eql : binV .eql (.one (.dt (.lit (.int k x)))) (.one (.dt (.lit (.int k' y)))) = (.one (.dt (.lit (.bool (decide (x = y)))))) := by
  show litV (.bool (x == y)) = _
  by_cases h : x = y <;> simp [h, litV]
theorem v_neq : binV .neq (.one (.dt (.lit (.int k x)))) (.one (.dt (.lit (.int k' y)))) = (.one (.dt (.lit (.bool (decide (¬ x = y)))))) := by
  show litV (.bool (x != y)) = _
  by_cases h : x = y <;> simp [h, litV]
theorem o_lss : binO tb .lss (.one (.dt (.lit (.int k x)))) (.one (.dt (.lit (.int k' y)))) = (k = k') := rfl
theorem v_lss : binV .lss (.one (.dt (.lit (.int k x)))) (.one (.dt (.lit (.int k' y)))) = (.one (.dt (.lit (.bool (decide (x < y)))))) := rfl
theorem o_leq : binO tb .leq (.one (.dt (.lit (.int k x)))) (.one (.dt (.lit (.int k' y)))) = (k = k') := rfl
theorem v_leq : binV .leq (.one (.dt (.lit (.int k x)))) (.one (.dt (.lit (.int k' y)))) = (.one (.dt (.lit (.bool (decide (x ≤ y)))))) := rfl
theorem o_gtr : binO tb .gtr (.one (.dt (.lit (.int k x)))) (.one (.dt (.lit (.int k' y)))) = (k = k') := rfl
theorem v_gtr : binV .gtr (.one (.dt (.lit (.int k x)))) (.one (.dt (.lit (.int k' y)))) = (.one (.dt (.lit (.bool (decide (y < x)))))) := rfl
theorem o_geq : binO tb .geq (.one (.dt (.lit (.int k x)))) (.one (.dt (.lit (.int k' y)))) = (k = k') := rfl
theorem v_geq : binV .geq (.one (.dt (.lit (.int k x)))) (.one (.dt (.lit (.int k' y)))) = (.one (.dt (.lit (.bool (decide (y ≤ x)))))) := rfl
theorem o_eqlb : binO tb .eql (.one (.dt (.lit (.bool b)))) (.one (.dt (.lit (.bool b')))) = (tb = true) := rfl
theorem o_neqb : binO tb .neq (.one (.dt (.lit (.bool b)))) (.one (.dt (.lit (.bool b')))) = (tb = true) := rfl
theorem v_eqlb : binV .eql (.one (.dt (.lit (.bool b)))) (.one (.dt (.lit (.bool b')))) = (.one (.dt (.lit (.bool (b == b'))))) := rfl
theorem v_neqb : binV .neq (.one (.dt (.lit (.bool b)))) (.one (.dt (.lit (.bool b')))) = (.one (.dt (.lit (.bool (!(b == b')))))) := rfl
theorem o_pick : pickO (.one (.dt (.lit (.bool b)))) = True := rfl
theorem v_pick (u v : AV) : pickV (.one (.dt (.lit (.bool b)))) u v = if b = true then u else v := rfl
theorem o_not : unO .not (.one (.dt (.lit (.bool b)))) = True := rfl
theorem v_not {p : Prop} [Decidable p] : unV .not (.one (.dt (.lit (.bool (decide p))))) = (.one (.dt (.lit (.bool (decide (¬p)))))) := by
  show litV (.bool (!decide p)) = _
  by_cases h : p <;> simp [h, litV]
theorem v_nott : unV .not (.one (.dt (.lit (.bool true)))) = (.one (.dt (.lit (.bool false)))) := rfl
theorem v_notf : unV .not (.one (.dt (.lit (.bool false)))) = (.one (.dt (.lit (.bool true)))) := rfl
theorem o_neg : unO .neg (.one (.dt (.lit (.int k x)))) = True := rfl
theorem v_neg : unV .neg (.one (.dt (.lit (.int k x)))) = (.one (.dt (.lit (.int k (k.wrap (0 - x)))))) := rfl
theorem o_cv : cvO (some k') (.one (.dt (.lit (.int k x)))) = True := rfl
theorem v_cv : cvV (some k') (.one (.dt (.lit (.int k x)))) = (.one (.dt (.lit (.int k' (k'.wrap x))))) := rfl
theorem as_b : asB (.one (.dt (.lit (.bool b)))) = some b := rfl
theorem cl_one (c : Ce) : cellsOf (.one c) = some [c] := rfl
theorem cl_agg (cs : List Ce) : cellsOf (.agg cs) = some cs := rfl
theorem ld_of (sz : Nat) (c : Ce) (cs : List Ce) : ldO false sz (some (c :: cs)) = True := by simp [ldO]
theorem ld_ot (sz : Nat) (cs : List Ce) : ldO true sz (some cs) = (sz ≤ cs.length) := rfl
theorem ld_vf (sz : Nat) (c : Ce) (cs : List Ce) : ldV false sz (some (c :: cs)) = .one c := rfl
theorem ld_vt (sz : Nat) (cs : List Ce) : ldV true sz (some cs) = .agg (cs.take sz) := rfl
theorem ac_ptr (y : Nat × Nat) (off : Nat) : acells s (.ptr y off) = (match s.v y with | some cs => some (cs.drop off) | none => none) := rfl
theorem ac_el (ds : List Dt) : acells s (.el ds) = some (ds.map .dt) := rfl
theorem ac_rel (r : Nat × Nat) (ver j : Nat) : acells s (.rel r ver j) = (match s.r r with | some row => if row.ver = ver then some ((row.cells.drop j).map .dt) else none | none => none) := rfl
theorem fo_ptr (o : Nat) (y : Nat × Nat) (off : Nat) : fldO s (some o) (.ptr y off) = True := rfl
theorem fo_el (o : Nat) (ds : List Dt) : fldO s (some o) (.el ds) = (o ≤ ds.length) := rfl
theorem fv_ptr (o : Nat) (y : Nat × Nat) (off : Nat) : fldV (some o) (.ptr y off) = .ptr y (off + o) := rfl
theorem fv_el (o : Nat) (ds : List Dt) : fldV (some o) (.el ds) = .el (ds.drop o) := rfl
theorem io_row (sz : Nat) (r : Nat × Nat) (ver : Nat) : idxO s sz (.one (.row r ver)) (.one (.dt (.lit (.int k x)))) = (match s.r r with | some row => row.ver = ver ∧ 0 ≤ x ∧ x < row.n | none => False) := rfl
theorem iv_row (sz : Nat) (r : Nat × Nat) (ver : Nat) : idxV sz (.one (.row r ver)) (.one (.dt (.lit (.int k x)))) = .rel r ver (x.toNat * sz) := rfl
theorem xo (rs : List RV) (j : Nat) : extO (.tup rs) j = (j < rs.length) := rfl
theorem xv (rs : List RV) (j : Nat) : extV (.tup rs) j = (match rs[j]? with | some r => r.toAV | none => .no) := rfl
theorem lo_z : lenO s (.one .z) = True := rfl
theorem lv_z : lenV s (.one .z) = (.one (.dt (.lit (.int .i64 0)))) := rfl
theorem lo_row (r : Nat × Nat) (ver : Nat) : lenO s (.one (.row r ver)) = (match s.r r with | some row => row.ver = ver | none => False) := rfl
theorem lv_row (r : Nat × Nat) (ver : Nat) : lenV s (.one (.row r ver)) = (match s.r r with | some row => (.one (.dt (.lit (.int .i64 row.n)))) | none => .no) := rfl
theorem mo : mxO (.one (.dt (.lit (.int k x)))) (.one (.dt (.lit (.int k' y)))) = (k = k') := rfl
theorem mv (f : Int → Int → Int) : mxV f (.one (.dt (.lit (.int k x)))) (.one (.dt (.lit (.int k' y)))) = (.one (.dt (.lit (.int k (f x y))))) := rfl
theorem st_ptr (cs : List Ce) (y : Nat × Nat) (off : Nat) : stO s cs (.ptr y off) = (match s.v y with | some cs0 => s.f y = false ∧ off + cs.length ≤ cs0.length | none => False) := rfl
theorem ss_ptr (cs : List Ce) (y : Nat × Nat) (off : Nat) : stS s cs (.ptr y off) = (match s.v y with | some cs0 => s.setv y (cs0.take off ++ cs ++ cs0.drop (off + cs.length)) | none => s) := rfl
theorem st_rel (d : Dt) (r : Nat × Nat) (ver j : Nat) : stO s [.dt d] (.rel r ver j) = (match s.r r with | some row => row.ver = ver ∧ row.live = true ∧ [Ce.dt d].length = 1 ∧ j < row.n * row.sz | none => False) := by
  simp only [stO, ceDs, ceD]
  cases s.r r <;> rfl
theorem ss_rel (d : Dt) (r : Nat × Nat) (ver j : Nat) : stS s [.dt d] (.rel r ver j) = (match s.r r with | some row => s.setr r { row with cells := row.cells.set j d } | none => s) := by
  simp only [stS, ceDs, ceD]
  cases s.r r <;> rfl
theorem td_dt (d : Dt) : toD s (.dt d) = some d := rfl
theorem td_z : toD s .z = some (.sl 0 []) := rfl
theorem td_row (r : Nat × Nat) (ver : Nat) : toD s (.row r ver) = (match s.r r with | some row => if row.ver = ver ∧ row.live = false then some (.sl row.n row.cells) else none | none => none) := rfl
theorem tds_nil : toDs s [] = some [] := rfl
theorem tds_cons (c : Ce) (cs : List Ce) : toDs s (c :: cs) = (match toD s c, toDs s cs with | some d, some ds => some (d :: ds) | _, _ => none) := rfl
theorem tr_one (c : Ce) : toRV s (.one c) = (toD s c).map .one := rfl
theorem tr_agg (cs : List Ce) : toRV s (.agg cs) = (toDs s cs).map .agg := rfl
theorem trs_nil : toRVs s [] = some [] := rfl
theorem trs_cons (u : AV) (us : List AV) : toRVs s (u :: us) = (match toRV s u, toRVs s us with | some r, some rs => some (r :: rs) | _, _ => none) := rfl
theorem ev_nil' : evs s [] = [] := rfl
theorem ev_cons (u : Operand) (us : List Operand) : evs s (u :: us) = s.ev u :: evs s us := rfl
theorem pr_nil : pairs s [] = [] := rfl
theorem pr_cons (i : Nat) (u : Operand) (us : List (Nat × Operand)) : pairs s ((i, u) :: us) = (i, s.ev u) :: pairs s us := rfl
theorem fl_nil (pl : Nat → Option (Nat × Nat)) (cells : List Ce) : fillA pl cells [] = some cells := rfl
theorem fl_cons (pl : Nat → Option (Nat × Nat)) (cells : List Ce) (i : Nat) (u : AV) (us : List (Nat × AV)) : fillA pl cells ((i, u) :: us) = (match pl i, cellsOf u with | some (off, size), some cs => if cs.length = size ∧ off + size ≤ cells.length then fillA pl (cells.take off ++ cs ++ cells.drop (off + size)) us else none | _, _ => none) := rfl
theorem cast0 : ((0 : Nat) : Int) = 0 := rfl
theorem ap_o (e : TypeId) (sz bytes m ver : Nat) (cells : List Dt) (r : Nat × Nat) : appO s e sz bytes (some (m, cells)) (.one (.row r ver)) = (match s.r r with | some row => row.ver = ver ∧ row.live = true ∧ row.e = e ∧ row.sz = sz ∧ cells.length = m * sz ∧ row.n + m ≤ 9223372036854775807 ∧ (row.n + m) * bytes ≤ 140737488355328 | none => False) := by
  simp only [appO]
  cases s.r r <;> rfl
theorem ap_s (d : Nat) (e : TypeId) (sz m ver : Nat) (cells : List Dt) (r : Nat × Nat) : appS s d e sz (some (m, cells)) (.one (.row r ver)) = (match s.r r with | some row => (s.setr r { row with n := row.n + m, cells := row.cells ++ cells, ver := ver + 1 }).set d (.one (.row r (ver + 1))) | none => s) := by
  simp only [appS]
  cases s.r r <;> rfl
theorem tn_p (i : Nat) : ((i : Int) + 1).toNat = i + 1 := by omega
theorem tn_m (i : Nat) : ((i : Int) - 1).toNat = i - 1 := by omega
theorem tn_a (i j : Nat) : ((i : Int) + (j : Int)).toNat = i + j := by omega
theorem castS (i : Nat) : ((i + 1 : Nat) : Int) = (i : Int) + 1 := rfl
theorem rs_nil (P : Program) : resRs P s [] [] = True := rfl
theorem rs_cons (P : Program) (u : ResultVar) (us : List ResultVar) (r : RV) (rs : List RV) : resRs P s (u :: us) (r :: rs) = (resR P s u r ∧ resRs P s us rs) := rfl
theorem rr_tmp (P : Program) (t : Nat) (r : RV) : resR P s (.tmp t) r = (toRV s (s.t t) = some r) := rfl
theorem rr_cell (P : Program) (t : Nat) (T : TypeId) (r : RV) : resR P s (.cell t T) r = (tok P T = true ∧ ldO (tagg P T) (tsz P T) (acells s (s.t t)) ∧ toRV s (ldV (tagg P T) (tsz P T) (acells s (s.t t))) = some r) := rfl
theorem f_ret (P : Program) (res : List ResultVar) (rs : List RV) (h : resRs P s res rs) : fend P res rs .ret s := ⟨[], h⟩
theorem f_retg (P : Program) (res : List ResultVar) (rs : List RV) (gs : List Gh) (h : ghs gs (fun s => resRs P s res rs) s) : fend P res rs .ret s := ⟨gs, h⟩
theorem f_nrm (P : Program) (res : List ResultVar) (rs : List RV) (h : resRs P s res rs) : fend P res rs .normal s := ⟨[], h⟩
theorem gh_frz (t : Nat) : ghE (.frz t) s = (match s.t t with | .one (.row r _) => s.freeze r | _ => s) := rfl
theorem gh_frzc (t i : Nat) : ghE (.frzc t i) s = (match s.t t with | .ptr xx _ => (match s.v xx with | some cs => frzC s cs[i]? | none => s) | _ => s) := rfl
theorem gh_frzv (t : Nat) : ghE (.frzv t) s = (match s.t t with | .ptr xx _ => (match s.v xx with | some _ => s.freezev xx | none => s) | _ => s) := rfl
theorem gh_nilt (t : Nat) (e : TypeId) (sz : Nat) : ghE (.nilt t e sz) s = ((s.setr (t, s.g t) ⟨e, sz, 0, [], 0, true⟩).bump t).set t (.one (.row (t, s.g t) 0)) := rfl
theorem frzC_row (r : Nat × Nat) (v : Nat) : frzC s (some (.row r v)) = s.freeze r := rfl
theorem frzC_z : frzC s (some .z) = s := rfl
theorem frzC_dt (d : Dt) : frzC s (some (.dt d)) = s := rfl
theorem go_frz (t : Nat) : ghO (.frz t) s = True := rfl
theorem go_frzc (t i : Nat) : ghO (.frzc t i) s = True := rfl
theorem go_frzv (t : Nat) : ghO (.frzv t) s = True := rfl
theorem go_nilt (t : Nat) (e : TypeId) (sz : Nat) : ghO (.nilt t e sz) s = (match s.t t with | .one .z => True | _ => False) := rfl
end

/-! ### numbers -/
theorem wi64 {n : Int} (h : -9223372036854775808 ≤ n) (h' : n < 9223372036854775808) : IntKind.i64.wrap n = n := by rw [IntKind.wrap_i64]; omega
theorem wu64 {n : Int} (h : 0 ≤ n) (h' : n < 18446744073709551616) : IntKind.u64.wrap n = n := by rw [IntKind.wrap_u64]; omega
theorem and_m32 {n : Int} (h : 0 ≤ n) (h' : n < 18446744073709551616) : bits .and .u64 n 4294967295 = n % 4294967296 := by
  have := bits_mask .u64 64 (by decide) (fun n h1 h2 => wu64 h1 (by simpa using h2)) 32 (by decide) n h (by simpa using h')
  simpa using this
theorem shr_32 (n : Int) : shr .u64 n 32 = n / 4294967296 := by
  unfold shr
  rw [show (2 : Int) ^ (min (Int.toNat 32) IntKind.u64.bits) = 4294967296 from rfl, Int.fdiv_eq_ediv_of_nonneg _ (by decide)]
theorem shl_32 {n : Int} (h : 0 ≤ n) (h' : n < 4294967296) : shl .u64 n 32 = n * 4294967296 := by
  unfold shl
  rw [show (2 : Int) ^ (min (Int.toNat 32) IntKind.u64.bits) = 4294967296 from rfl, wu64 (by omega) (by omega)]
theorem wu32 {n : Int} (h : 0 ≤ n) (h' : n < 4294967296) : IntKind.u32.wrap n = n := by rw [IntKind.wrap_u32]; omega

/-! ### rows of data -/
section
variable {α : Type}
/-- a row of things, each of which is some cells -/
def rowC (f : α → List Dt) (l : List α) : List Dt := l.flatMap f
def rowD (f : α → List Dt) (l : List α) : Dt := .sl l.length (rowC f l)
variable {f : α → List Dt} {sz : Nat}
theorem rowC_len (hf : ∀ x, (f x).length = sz) (l : List α) : (rowC f l).length = l.length * sz := by
  unfold rowC
  induction l with
  | nil => simp
  | cons x l ih => simp [ih, hf, Nat.add_mul]; omega
theorem rowC_drop (hf : ∀ x, (f x).length = sz) (l : List α) (i : Nat) : (rowC f l).drop (i * sz) = rowC f (l.drop i) := by
  unfold rowC
  induction l generalizing i with
  | nil => simp
  | cons x l ih =>
    cases i with
    | zero => simp
    | succ i =>
      have e : (i + 1) * sz = sz + i * sz := by rw [Nat.add_mul]; omega
      rw [List.flatMap_cons, e, ← hf x, List.drop_append, hf x]
      simp [ih, hf]
theorem rowC_take (hf : ∀ x, (f x).length = sz) (l : List α) (i : Nat) : (rowC f l).take (i * sz) = rowC f (l.take i) := by
  unfold rowC
  induction l generalizing i with
  | nil => simp
  | cons x l ih =>
    cases i with
    | zero => simp
    | succ i =>
      have e : (i + 1) * sz = (f x).length + i * sz := by rw [Nat.add_mul, hf]; omega
      rw [List.flatMap_cons, e, List.take_append, List.take_succ_cons, List.flatMap_cons]
      have : (f x).take ((f x).length + i * sz) = f x := List.take_of_length_le (by omega)
      rw [this, Nat.add_sub_cancel_left, ih]
theorem rowC_at (hf : ∀ x, (f x).length = sz) (l : List α) (d0 : α) (i : Nat) (h : i < l.length) : ((rowC f l).drop (i * sz)).take sz = f (l.getD i d0) := by
  rw [rowC_drop hf]
  have hd : l.drop i = l[i] :: l.drop (i + 1) := List.drop_eq_getElem_cons h
  rw [hd]
  unfold rowC
  rw [List.flatMap_cons, List.take_append]
  have : (f l[i]).take sz = f l[i] := List.take_of_length_le (by rw [hf]; omega)
  rw [this, hf, Nat.sub_self, List.take_zero, List.append_nil]
  simp [List.getD_eq_getElem?_getD, h]
theorem io_rowD {s : AS} {k : IntKind} {x : Int} (hf : ∀ x, (f x).length = sz) (hz : 0 < sz) (l : List α) : idxO s sz (.one (.dt (rowD f l))) (.one (.dt (.lit (.int k x)))) = (0 ≤ x ∧ x < l.length) := by
  show (0 ≤ x ∧ x < (l.length : Int) ∧ (rowC f l).length = l.length * sz ∧ 0 < sz) = _
  simp [rowC_len hf, hz]
theorem iv_rowD {k : IntKind} {x : Int} (hf : ∀ x, (f x).length = sz) (l : List α) (d0 : α) (h : 0 ≤ x) (h' : x < l.length) : idxV sz (.one (.dt (rowD f l))) (.one (.dt (.lit (.int k x)))) = .el (f (l.getD x.toNat d0)) := by
  show AV.el (((rowC f l).drop (x.toNat * sz)).take sz) = _
  rw [rowC_at hf l d0 _ (by omega)]
theorem lo_rowD {s : AS} (l : List α) : lenO s (.one (.dt (rowD f l))) = True := rfl
theorem lv_rowD {s : AS} (l : List α) : lenV s (.one (.dt (rowD f l))) = .one (.dt (.lit (.int .i64 l.length))) := rfl
theorem rowD_nil : (Dt.sl 0 [] : Dt) = rowD f [] := rfl
theorem rowD_of (l : List α) (n : Nat) (h : n = l.length) : Dt.sl n (rowC f l) = rowD f l := by rw [h]; rfl
theorem rowC_app (l m : List α) : rowC f l ++ rowC f m = rowC f (l ++ m) := by unfold rowC; simp
/-- cuts of rows -/
def cutP (a b c : Option Int) (q : Prop) (n : Nat) : Prop := match a, b, c with
  | some i, some j, some m => (0 ≤ i ∧ i ≤ j ∧ j ≤ m ∧ m ≤ n) ∧ q
  | _, _, _ => False
theorem cp_some {i j m : Int} {q : Prop} {n : Nat} (h : 0 ≤ i) (h1 : i ≤ j) (h2 : j ≤ m) (h3 : m ≤ n) : cutP (some i) (some j) (some m) q n = q := by simp [cutP, h, h1, h2, h3]
def cutW (a b : Option Int) (l : List α) (f : α → List Dt) : AV := match a, b with
  | some i, some j => .one (.dt (.sl (j.toNat - i.toNat) (((rowC f l).take (j.toNat)).drop (i.toNat))))
  | _, _ => .no
theorem cut_p {lo hi mx : Option AV} (hf : ∀ x, (f x).length = 1) (l : List α) : cutO 1 lo hi mx (.one (.dt (rowD f l))) = cutP (bnd lo 0) (bnd hi l.length) (bnd mx l.length) (mx.isSome = true → hi.isSome = true) l.length := by
  show (match bnd lo 0, bnd hi l.length, bnd mx l.length with
    | some i, some j, some m => 0 ≤ i ∧ i ≤ j ∧ j ≤ m ∧ m ≤ (l.length : Int) ∧ (rowC f l).length = l.length * 1 ∧ (mx.isSome = true → hi.isSome = true)
    | _, _, _ => False) = _
  unfold cutP
  cases bnd lo 0 <;> cases bnd hi l.length <;> cases bnd mx l.length <;> simp [rowC_len hf, and_assoc]
theorem cut_w {lo hi : Option AV} (_hf : ∀ x, (f x).length = 1) (l : List α) : cutV 1 lo hi (.one (.dt (rowD f l))) = cutW (bnd lo 0) (bnd hi l.length) l f := by
  show (match bnd lo 0, bnd hi l.length with
    | some i, some j => AV.one (.dt (.sl (j.toNat - i.toNat) (((rowC f l).take (j.toNat * 1)).drop (i.toNat * 1))))
    | _, _ => .no) = _
  unfold cutW
  cases bnd lo 0 <;> cases bnd hi l.length <;> simp
theorem cut_y (hf : ∀ x, (f x).length = 1) (l : List α) {i j : Int} (h : 0 ≤ i) (h1 : i ≤ j) (h2 : j ≤ l.length) : cutW (some i) (some j) l f = .one (.dt (rowD f ((l.take j.toNat).drop i.toNat))) := by
  unfold cutW
  have e1 := rowC_take hf l j.toNat
  have e2 := rowC_drop hf (l.take j.toNat) i.toNat
  rw [Nat.mul_one] at e1 e2
  simp only [e1, e2]
  rw [rowD_of _ _ (by simp; omega)]
theorem bnd_n (d : Int) : bnd none d = some d := rfl
theorem bnd_s (k : IntKind) (i d : Int) : bnd (some (.one (.dt (.lit (.int k i))))) d = some i := rfl
end

/-- machine words -/
def u32c (n : Int) : List Dt := [.lit (.int .u32 n)]
def i64c (n : Int) : List Dt := [.lit (.int .i64 n)]
theorem u32c_len (n : Int) : (u32c n).length = 1 := rfl
theorem i64c_len (n : Int) : (i64c n).length = 1 := rfl
/-- a row of limbs, as data -/
def natD (l : List Int) : Dt := rowD u32c l
def natC (l : List Int) : List Dt := rowC u32c l
def natc (l : List Int) : List Dt := [natD l]
theorem natc_len (l : List Int) : (natc l).length = 1 := rfl
def intsD (l : List Int) : Dt := rowD i64c l
def intsC (l : List Int) : List Dt := rowC i64c l
def natsD (l : List (List Int)) : Dt := rowD natc l
def natsC (l : List (List Int)) : List Dt := rowC natc l
section
variable {s : AS} {k : IntKind} {x : Int}

theorem io_natD (l : List (Int)) (h : 0 ≤ x) (h' : x < l.length) : idxO s 1 (.one (.dt (natD l))) (.one (.dt (.lit (.int k x)))) = True := by
  rw [show natD l = rowD u32c l from rfl, io_rowD u32c_len (by decide) l]; simp [h, h']
theorem co_natD {lo hi mx : Option AV} (l : List (Int)) : cutO 1 lo hi mx (.one (.dt (natD l))) = cutP (bnd lo 0) (bnd hi l.length) (bnd mx l.length) (mx.isSome = true → hi.isSome = true) l.length := cut_p u32c_len l
theorem cv_natD {lo hi : Option AV} (l : List (Int)) : cutV 1 lo hi (.one (.dt (natD l))) = cutW (bnd lo 0) (bnd hi l.length) l u32c := cut_w u32c_len l
theorem cw_natD {i j : Int} (l : List (Int)) (h : 0 ≤ i) (h1 : i ≤ j) (h2 : j ≤ l.length) : cutW (some i) (some j) l u32c = .one (.dt (natD ((l.take j.toNat).drop i.toNat))) := cut_y u32c_len l h h1 h2
theorem iv_natD (l : List (Int)) (h : 0 ≤ x) (h' : x < l.length) : idxV 1 (.one (.dt (natD l))) (.one (.dt (.lit (.int k x)))) = .el (u32c (l.getD x.toNat 0)) := iv_rowD u32c_len l 0 h h'
theorem lo_natD (l : List (Int)) : lenO s (.one (.dt (natD l))) = True := rfl
theorem lv_natD (l : List (Int)) : lenV s (.one (.dt (natD l))) = (.one (.dt (.lit (.int .i64 l.length)))) := rfl
theorem nil_natD : (Dt.sl 0 [] : Dt) = natD [] := rfl
theorem of_natD (l : List (Int)) (n : Nat) (h : n = l.length) : Dt.sl n (natC l) = natD l := rowD_of l n h
theorem len_natC (l : List (Int)) : (natC l).length = l.length := by rw [show natC l = rowC u32c l from rfl, rowC_len u32c_len]; omega
theorem app_natC (l m : List (Int)) : natC l ++ natC m = natC (l ++ m) := rowC_app l m
theorem src_natD (l : List (Int)) : srcD s (.one (.dt (natD l))) = some (l.length, natC l) := rfl
theorem io_intsD (l : List (Int)) (h : 0 ≤ x) (h' : x < l.length) : idxO s 1 (.one (.dt (intsD l))) (.one (.dt (.lit (.int k x)))) = True := by
  rw [show intsD l = rowD i64c l from rfl, io_rowD i64c_len (by decide) l]; simp [h, h']
theorem co_intsD {lo hi mx : Option AV} (l : List (Int)) : cutO 1 lo hi mx (.one (.dt (intsD l))) = cutP (bnd lo 0) (bnd hi l.length) (bnd mx l.length) (mx.isSome = true → hi.isSome = true) l.length := cut_p i64c_len l
theorem cv_intsD {lo hi : Option AV} (l : List (Int)) : cutV 1 lo hi (.one (.dt (intsD l))) = cutW (bnd lo 0) (bnd hi l.length) l i64c := cut_w i64c_len l
theorem cw_intsD {i j : Int} (l : List (Int)) (h : 0 ≤ i) (h1 : i ≤ j) (h2 : j ≤ l.length) : cutW (some i) (some j) l i64c = .one (.dt (intsD ((l.take j.toNat).drop i.toNat))) := cut_y i64c_len l h h1 h2
theorem iv_intsD (l : List (Int)) (h : 0 ≤ x) (h' : x < l.length) : idxV 1 (.one (.dt (intsD l))) (.one (.dt (.lit (.int k x)))) = .el (i64c (l.getD x.toNat 0)) := iv_rowD i64c_len l 0 h h'
theorem lo_intsD (l : List (Int)) : lenO s (.one (.dt (intsD l))) = True := rfl
theorem lv_intsD (l : List (Int)) : lenV s (.one (.dt (intsD l))) = (.one (.dt (.lit (.int .i64 l.length)))) := rfl
theorem nil_intsD : (Dt.sl 0 [] : Dt) = intsD [] := rfl
theorem of_intsD (l : List (Int)) (n : Nat) (h : n = l.length) : Dt.sl n (intsC l) = intsD l := rowD_of l n h
theorem len_intsC (l : List (Int)) : (intsC l).length = l.length := by rw [show intsC l = rowC i64c l from rfl, rowC_len i64c_len]; omega
theorem app_intsC (l m : List (Int)) : intsC l ++ intsC m = intsC (l ++ m) := rowC_app l m
theorem src_intsD (l : List (Int)) : srcD s (.one (.dt (intsD l))) = some (l.length, intsC l) := rfl
theorem io_natsD (l : List (List Int)) (h : 0 ≤ x) (h' : x < l.length) : idxO s 1 (.one (.dt (natsD l))) (.one (.dt (.lit (.int k x)))) = True := by
  rw [show natsD l = rowD natc l from rfl, io_rowD natc_len (by decide) l]; simp [h, h']
theorem co_natsD {lo hi mx : Option AV} (l : List (List Int)) : cutO 1 lo hi mx (.one (.dt (natsD l))) = cutP (bnd lo 0) (bnd hi l.length) (bnd mx l.length) (mx.isSome = true → hi.isSome = true) l.length := cut_p natc_len l
theorem cv_natsD {lo hi : Option AV} (l : List (List Int)) : cutV 1 lo hi (.one (.dt (natsD l))) = cutW (bnd lo 0) (bnd hi l.length) l natc := cut_w natc_len l
theorem cw_natsD {i j : Int} (l : List (List Int)) (h : 0 ≤ i) (h1 : i ≤ j) (h2 : j ≤ l.length) : cutW (some i) (some j) l natc = .one (.dt (natsD ((l.take j.toNat).drop i.toNat))) := cut_y natc_len l h h1 h2
theorem iv_natsD (l : List (List Int)) (h : 0 ≤ x) (h' : x < l.length) : idxV 1 (.one (.dt (natsD l))) (.one (.dt (.lit (.int k x)))) = .el (natc (l.getD x.toNat [])) := iv_rowD natc_len l [] h h'
theorem lo_natsD (l : List (List Int)) : lenO s (.one (.dt (natsD l))) = True := rfl
theorem lv_natsD (l : List (List Int)) : lenV s (.one (.dt (natsD l))) = (.one (.dt (.lit (.int .i64 l.length)))) := rfl
theorem nil_natsD : (Dt.sl 0 [] : Dt) = natsD [] := rfl
theorem of_natsD (l : List (List Int)) (n : Nat) (h : n = l.length) : Dt.sl n (natsC l) = natsD l := rowD_of l n h
theorem len_natsC (l : List (List Int)) : (natsC l).length = l.length := by rw [show natsC l = rowC natc l from rfl, rowC_len natc_len]; omega
theorem app_natsC (l m : List (List Int)) : natsC l ++ natsC m = natsC (l ++ m) := rowC_app l m
theorem src_natsD (l : List (List Int)) : srcD s (.one (.dt (natsD l))) = some (l.length, natsC l) := rfl

theorem ac_u32 (n : Int) : acells s (.el (u32c n)) = some [.dt (.lit (.int .u32 n))] := rfl
theorem ac_i64 (n : Int) : acells s (.el (i64c n)) = some [.dt (.lit (.int .i64 n))] := rfl
theorem ac_nat (l : List Int) : acells s (.el (natc l)) = some [.dt (natD l)] := rfl
end
theorem natC_map (l : List Int) : natC l = l.map fun n => .lit (.int .u32 n) := by
  unfold natC rowC u32c
  induction l with
  | nil => rfl
  | cons x l ih => simp only [List.flatMap_cons, ih]; rfl
theorem natC_set (l : List Int) (i : Nat) (x : Int) : (natC l).set i (.lit (.int .u32 x)) = natC (l.set i x) := by simp only [natC_map, List.map_set]
theorem natC_copy (a b : List Int) (i : Nat) : (natC a).take i ++ (natC b).drop i = natC (a.take i ++ b.drop i) := by simp only [natC_map, List.map_append, List.map_take, List.map_drop]
theorem natC_get (l : List Int) (i : Nat) (h : i < l.length) : ((natC l).drop i).map Ce.dt = .dt (.lit (.int .u32 (l.getD i 0))) :: ((natC l).drop (i + 1)).map Ce.dt := by
  simp only [natC_map, ← List.map_drop]
  rw [List.drop_eq_getElem_cons h, List.map_cons, List.map_cons]
  simp [List.getD_eq_getElem?_getD, h]
theorem lo_rel (sz : Nat) (l : List Int) (i : Nat) (h : i < l.length) : ldO false sz (some (((natC l).drop i).map Ce.dt)) = True := by rw [natC_get l i h]; simp [ldO]
theorem lv_rel (sz : Nat) (l : List Int) (i : Nat) (h : i < l.length) : ldV false sz (some (((natC l).drop i).map Ce.dt)) = .one (.dt (.lit (.int .u32 (l.getD i 0)))) := by rw [natC_get l i h]; rfl
theorem mk_o {b : Nat} {z : Dt} {n : Int} (h : 0 ≤ n) (h' : (b : Int) * n ≤ 281474976710656) (h2 : n ≤ 9223372036854775807) : mkO b (some [.dt z]) (.one (.dt (.lit (.int .i64 n)))) (.one (.dt (.lit (.int .i64 n)))) = True := by
  simp [mkO, h, h', h2, ceDs, ceD]
theorem mk_s {s : AS} {k : IntKind} (d : Nat) (e : TypeId) (n : Int) : mkS s d e (some [.dt (.lit (.int .u32 0))]) (.one (.dt (.lit (.int k n)))) = ((s.setr (d, s.g d) ⟨e, 1, n.toNat, natC (List.replicate n.toNat 0), 0, true⟩).bump d).set d (.one (.row (d, s.g d) 0)) := by
  simp [mkS, ceDs, ceD, natC_map]
theorem cp_o {s : AS} (m ver : Nat) (cells : List Dt) (r : Nat × Nat) : cpO s (some (m, cells)) (.one (.row r ver)) = (match s.r r with | some row => row.ver = ver ∧ row.live = true ∧ row.sz = 1 ∧ cells.length = m | none => False) := by
  simp only [cpO]
  cases s.r r <;> rfl
theorem cp_s {s : AS} (d : Option Nat) (m ver : Nat) (cells : List Dt) (r : Nat × Nat) : cpS s d (some (m, cells)) (.one (.row r ver)) = (match s.r r with | some row => (s.setr r { row with cells := cells.take (min m row.n) ++ row.cells.drop (min m row.n) }).put d (litV (.int .i64 (min m row.n : Nat))) | none => s) := by
  simp only [cpS]
  cases s.r r <;> rfl
theorem natC_rep (n : Nat) : List.replicate n (Dt.lit (.int .u32 0)) = natC (List.replicate n 0) := by simp only [natC_map, List.map_replicate]
theorem natC_drop (l : List Int) (i : Nat) (h : i < l.length) : (natC l).drop i = .lit (.int .u32 (l.getD i 0)) :: natC (l.drop (i + 1)) := by
  simp only [natC_map, ← List.map_drop]
  rw [List.drop_eq_getElem_cons h, List.map_cons]
  simp [List.getD_eq_getElem?_getD, h]
theorem intsC_map (l : List Int) : intsC l = l.map fun n => .lit (.int .i64 n) := by
  unfold intsC rowC i64c
  induction l with
  | nil => rfl
  | cons x l ih => simp only [List.flatMap_cons, ih]; rfl
theorem natC_app1 (l : List Int) (x : Int) : natC l ++ [.lit (.int .u32 x)] = natC (l ++ [x]) := by unfold natC rowC u32c; simp
theorem intsC_app1 (l : List Int) (x : Int) : intsC l ++ [.lit (.int .i64 x)] = intsC (l ++ [x]) := by unfold intsC rowC i64c; simp
theorem natsC_app1 (l : List (List Int)) (x : List Int) : natsC l ++ [natD x] = natsC (l ++ [x]) := by unfold natsC rowC natc; simp
theorem natC_nil : natC [] = [] := rfl
theorem intsC_nil : intsC [] = [] := rfl
theorem natsC_nil : natsC [] = [] := rfl
theorem natsC_map (l : List (List Int)) : natsC l = l.map natD := by
  unfold natsC rowC natc
  induction l with
  | nil => rfl
  | cons x l ih => simp only [List.flatMap_cons, ih]; rfl

theorem W : (∀ {s : AS} (t : Nat), s.ev (.tmp t) = s.t t) ∧
  (∀ {s : AS} (k : IntKind) (n : Int), s.ev (.const (.int k n)) = .one (.dt (.lit (.int k n)))) ∧
  (∀ {s : AS} (b : Bool), s.ev (.const (.bool b)) = .one (.dt (.lit (.bool b)))) ∧
  (∀ {s : AS} (b : ByteArray), s.ev (.const (.string b)) = .one (.dt (.lit (.string b)))) ∧
  (∀ {s : AS}, s.ev (.const (.slice none 0 0)) = .one .z) ∧
  (∀ {s : AS} (d n : Nat) (x : AV), (s.set d x).t n = if n = d then x else s.t n) ∧
  (∀ {s : AS} (d : Nat) (x : AV), (s.set d x).v = s.v) ∧
  (∀ {s : AS} (d : Nat) (x : AV), (s.set d x).r = s.r) ∧
  (∀ {s : AS} (d : Nat) (x : AV), (s.set d x).g = s.g) ∧
  (∀ {s : AS} (d : Nat) (x : AV), (s.set d x).f = s.f) ∧
  (∀ {s : AS} (y : Nat × Nat) (cs : List Ce), (s.setv y cs).t = s.t) ∧
  (∀ {s : AS} (y z : Nat × Nat) (cs : List Ce), (s.setv y cs).v z = if z = y then some cs else s.v z) ∧
  (∀ {s : AS} (y : Nat × Nat) (cs : List Ce), (s.setv y cs).r = s.r) ∧
  (∀ {s : AS} (y : Nat × Nat) (cs : List Ce), (s.setv y cs).g = s.g) ∧
  (∀ {s : AS} (y : Nat × Nat) (cs : List Ce), (s.setv y cs).f = s.f) ∧
  (∀ {s : AS} (y : Nat × Nat) (row : Row), (s.setr y row).t = s.t) ∧
  (∀ {s : AS} (y : Nat × Nat) (row : Row), (s.setr y row).v = s.v) ∧
  (∀ {s : AS} (y z : Nat × Nat) (row : Row), (s.setr y row).r z = if z = y then some row else s.r z) ∧
  (∀ {s : AS} (y : Nat × Nat) (row : Row), (s.setr y row).g = s.g) ∧
  (∀ {s : AS} (y : Nat × Nat) (row : Row), (s.setr y row).f = s.f) ∧
  (∀ {s : AS} (d : Nat), (s.bump d).t = s.t) ∧
  (∀ {s : AS} (d : Nat), (s.bump d).v = s.v) ∧
  (∀ {s : AS} (d : Nat), (s.bump d).r = s.r) ∧
  (∀ {s : AS} (d n : Nat), (s.bump d).g n = if n = d then s.g n + 1 else s.g n) ∧
  (∀ {s : AS} (d : Nat), (s.bump d).f = s.f) ∧
  (∀ {s : AS} (y : Nat × Nat), (s.freeze y).t = s.t) ∧
  (∀ {s : AS} (y : Nat × Nat), (s.freeze y).v = s.v) ∧
  (∀ {s : AS} (y z : Nat × Nat), (s.freeze y).r z = if z = y then (s.r z).map (fun row => { row with live := false }) else s.r z) ∧
  (∀ {s : AS} (y : Nat × Nat), (s.freeze y).g = s.g) ∧
  (∀ {s : AS} (y : Nat × Nat), (s.freeze y).f = s.f) ∧
  (∀ {s : AS} (y : Nat × Nat), (s.freezev y).t = s.t) ∧
  (∀ {s : AS} (y : Nat × Nat), (s.freezev y).v = s.v) ∧
  (∀ {s : AS} (y : Nat × Nat), (s.freezev y).r = s.r) ∧
  (∀ {s : AS} (y : Nat × Nat), (s.freezev y).g = s.g) ∧
  (∀ {s : AS} (y z : Nat × Nat), (s.freezev y).f z = if z = y then true else s.f z) ∧
  (∀ {s : AS} (d : Nat) (x : AV), s.put (some d) x = s.set d x) ∧
  (∀ {s : AS} (x : AV), s.put none x = s) ∧
  (∀ (r : RV) (rs : List RV), (start (r :: rs)).t 0 = r.toAV) ∧
  (∀ (r r1 : RV) (rs : List RV), (start (r :: r1 :: rs)).t 1 = r1.toAV) ∧
  (∀ (r r1 r2 : RV) (rs : List RV), (start (r :: r1 :: r2 :: rs)).t 2 = r2.toAV) ∧
  (∀ (r r1 r2 r3 : RV) (rs : List RV), (start (r :: r1 :: r2 :: r3 :: rs)).t 3 = r3.toAV) ∧
  (∀ (r r1 r2 r3 r4 : RV) (rs : List RV), (start (r :: r1 :: r2 :: r3 :: r4 :: rs)).t 4 = r4.toAV) ∧
  (∀ (rs : List RV), (start rs).v = fun _ => none) ∧
  (∀ (rs : List RV), (start rs).r = fun _ => none) ∧
  (∀ (rs : List RV), (start rs).g = fun _ => 0) ∧
  (∀ (rs : List RV), (start rs).f = fun _ => false) ∧
  (∀ (d : Dt), RV.toAV (.one d) = .one (.dt d)) ∧
  (∀ (ds : List Dt), RV.toAV (.agg ds) = .agg (ds.map .dt)) ∧
  (∀ (r : RV), resAV [r] = r.toAV) ∧
  (resAV [] = .tup []) ∧
  (∀ (r r1 : RV) (rs : List RV), resAV (r :: r1 :: rs) = .tup (r :: r1 :: rs)) ∧
  (∀ {P : Program} {K : AEx → AS → Prop} {s : AS}, awp P .skip K s = K .normal s) ∧
  (∀ {P : Program} {K : AEx → AS → Prop} {s : AS} (l : List AO), awp P (.reg l) K s = aops P l (K .normal) s) ∧
  (∀ {P : Program} {K : AEx → AS → Prop} {s : AS} (gs : List Gh), awp P (.gh gs) K s = ghs gs (K .normal) s) ∧
  (∀ {P : Program} {K : AEx → AS → Prop} {s : AS} (x y : AC), awp P (.seq x y) K s = awp P x (AEx.then (awp P y K) K) s) ∧
  (∀ {P : Program} {K : AEx → AS → Prop} {s : AS} (id : Nat) (x : AC), awp P (.block id x) K s = awp P x (AEx.blk id K) s) ∧
  (∀ {P : Program} {K : AEx → AS → Prop} {s : AS} (id : Nat), awp P (.exit id) K s = K (.exit id) s) ∧
  (∀ {P : Program} {K : AEx → AS → Prop} {s : AS}, awp P .ret K s = K .ret s) ∧
  (∀ {K : AEx → AS → Prop} {s : AS} (y : AS → Prop), AEx.then y K .normal s = y s) ∧
  (∀ {K : AEx → AS → Prop} {s : AS} (y : AS → Prop) (id : Nat), AEx.then y K (.exit id) s = K (.exit id) s) ∧
  (∀ {K : AEx → AS → Prop} {s : AS} (y : AS → Prop), AEx.then y K .ret s = K .ret s) ∧
  (∀ {K : AEx → AS → Prop} {s : AS} (id : Nat), AEx.blk id K .normal s = K .normal s) ∧
  (∀ {K : AEx → AS → Prop} {s : AS} (id i : Nat), AEx.blk id K (.exit i) s = if i = id then K .normal s else K (.exit i) s) ∧
  (∀ {K : AEx → AS → Prop} {s : AS} (id : Nat), AEx.blk id K .ret s = K .ret s) ∧
  (∀ {P : Program} {K : AEx → AS → Prop} {s : AS} (c : Operand) (x y : AC), awp P (.cond c x y) K s = condA P (asB (s.ev c)) x y K s) ∧
  (∀ {P : Program} {K : AEx → AS → Prop} {s : AS} (x y : AC), condA P (some true) x y K s = awp P x K s) ∧
  (∀ {P : Program} {K : AEx → AS → Prop} {s : AS} (x y : AC), condA P (some false) x y K s = awp P y K s) ∧
  (∀ {Q : AS → Prop} {s : AS}, ghs [] Q s = Q s) ∧
  (∀ {Q : AS → Prop} {s : AS} (g : Gh) (gs : List Gh), ghs (g :: gs) Q s = (ghO g s ∧ ghs gs Q (ghE g s))) ∧
  (∀ {P : Program} {Q : AS → Prop} {s : AS}, aops P [] Q s = Q s) ∧
  (∀ {P : Program} {Q : AS → Prop} {s : AS} {os : List AO} (d : Option Nat) (x : Operand), aops P (⟨d, .move x, none⟩ :: os) Q s = aops P os Q (s.put d (s.ev x))) ∧
  (∀ {P : Program} {Q : AS → Prop} {s : AS} {os : List AO} (d : Option Nat) (x : Operand), aops P (⟨d, .assign x, none⟩ :: os) Q s = aops P os Q (s.put d (s.ev x))) ∧
  (∀ {P : Program} {Q : AS → Prop} {s : AS} {os : List AO} (d : Option Nat) (c x y : Operand), aops P (⟨d, .pick c x y, none⟩ :: os) Q s = (pickO (s.ev c) ∧ aops P os Q (s.put d (pickV (s.ev c) (s.ev x) (s.ev y))))) ∧
  (∀ {P : Program} {Q : AS → Prop} {s : AS} {os : List AO} (d : Nat) (T : TypeId), aops P (⟨some d, .alloc T, none⟩ :: os) Q s = (match zeros P T with
    | some cs => aops P os Q (((s.setv (d, s.g d) cs).bump d).set d (.ptr (d, s.g d) 0))
    | none => False)) ∧
  (∀ {P : Program} {Q : AS → Prop} {s : AS} {os : List AO} (d : Nat) (T : TypeId) (x : Operand), aops P (⟨some d, .box T x, none⟩ :: os) Q s = (match cellsOf (s.ev x) with
    | some cs => aops P os Q (((s.setv (d, s.g d) cs).bump d).set d (.ptr (d, s.g d) 0))
    | none => False)) ∧
  (∀ {P : Program} {Q : AS → Prop} {s : AS} {os : List AO} (d : Option Nat) (T : TypeId) (parts : Array (Nat × Operand)), aops P (⟨d, .build T parts, none⟩ :: os) Q s = (match zeros P T with
    | some cs => (tplaces P T).isSome = true ∧ match fillA (tplace P T) cs (pairs s parts.toList) with
      | some cells => aops P os Q (s.put d (.agg cells))
      | none => False
    | none => False)) ∧
  (∀ {P : Program} {Q : AS → Prop} {s : AS} {os : List AO} (d : Nat) (T : TypeId) (n : Nat) (parts : Array (Nat × Operand)), aops P (⟨some d, .buildSlice T n parts, none⟩ :: os) Q s = (match telem P T with
    | some e => (tok P e = true ∧ n * tsz P e ≤ 16777216 ∧ if n = 0 then parts.size = 0 ∧ aops P os Q (((s.setr (d, s.g d) ⟨e, tsz P e, 0, [], 0, true⟩).bump d).set d (.one (.row (d, s.g d) 0))) else
      match bslC s (tsz P e) n (zeros P e) parts.toList with
      | some ds => ((zeros P e).map List.length = some (tsz P e) ∧ 0 < tsz P e) ∧ aops P os Q (s.set d (.one (.dt (.sl n ds))))
      | none => False)
    | none => False)) ∧
  (∀ {P : Program} {Q : AS → Prop} {s : AS} {os : List AO} (d : Option Nat) (T : TypeId) (x : Operand), aops P (⟨d, .load T x, none⟩ :: os) Q s = ((tok P T = true ∧ ldO (tagg P T) (tsz P T) (acells s (s.ev x))) ∧ aops P os Q (s.put d (ldV (tagg P T) (tsz P T) (acells s (s.ev x)))))) ∧
  (∀ {P : Program} {Q : AS → Prop} {s : AS} {os : List AO} (d : Option Nat) (T : TypeId) (x y : Operand), aops P (⟨d, .store T x y, none⟩ :: os) Q s = (tok P T = true ∧ match cellsOf (s.ev y) with
    | some cs => (cs.length = tsz P T ∧ stO s cs (s.ev x)) ∧ aops P os Q ((stS s cs (s.ev x)).put d .no)
    | none => False)) ∧
  (∀ {P : Program} {Q : AS → Prop} {s : AS} {os : List AO} (d : Option Nat) (op : BinOp) (T T' : TypeId) (x y : Operand), aops P (⟨d, .binOp op T x y T', none⟩ :: os) Q s = (binO (tbool P T) op (s.ev x) (s.ev y) ∧ aops P os Q (s.put d (binV op (s.ev x) (s.ev y))))) ∧
  (∀ {P : Program} {Q : AS → Prop} {s : AS} {os : List AO} (d : Option Nat) (op : UnOp) (T : TypeId) (x : Operand), aops P (⟨d, .unOp op T x, none⟩ :: os) Q s = (unO op (s.ev x) ∧ aops P os Q (s.put d (unV op (s.ev x))))) ∧
  (∀ {P : Program} {Q : AS → Prop} {s : AS} {os : List AO} (d : Option Nat) (T T' : TypeId) (x : Operand), aops P (⟨d, .convert T T' x, none⟩ :: os) Q s = (((P.underlying T).isSome = true ∧ cvO (tint P T') (s.ev x)) ∧ aops P os Q (s.put d (cvV (tint P T') (s.ev x))))) ∧
  (∀ {P : Program} {Q : AS → Prop} {s : AS} {os : List AO} (d : Nat) (T : TypeId) (l c : Operand), aops P (⟨some d, .makeSlice T l c, none⟩ :: os) Q s = (match telem P T with
    | some e => (tok P e = true ∧ tsz P e = 1 ∧ mkO (tbytes P e) (zeros P e) (s.ev l) (s.ev c)) ∧ aops P os Q (mkS s d e (zeros P e) (s.ev l))
    | none => False)) ∧
  (∀ {P : Program} {Q : AS → Prop} {s : AS} {os : List AO} (d : Option Nat) (T : TypeId) (x : Operand) (lo hi mx : Option Operand), aops P (⟨d, .slice T x lo hi mx, none⟩ :: os) Q s = (match telem P T with
    | some e => (tok P e = true ∧ cutO (tsz P e) (lo.map s.ev) (hi.map s.ev) (mx.map s.ev) (s.ev x)) ∧ aops P os Q (s.put d (cutV (tsz P e) (lo.map s.ev) (hi.map s.ev) (s.ev x)))
    | none => match tarr P T with
      | some (n, e) => (tok P e = true ∧ acutO s (tsz P e) n (lo.map s.ev) (hi.map s.ev) (mx.map s.ev) (s.ev x)) ∧ aops P os Q (s.put d (acutV s (tsz P e) n (lo.map s.ev) (hi.map s.ev) (s.ev x)))
      | none => False)) ∧
  (∀ {P : Program} {Q : AS → Prop} {s : AS} {os : List AO} (d : Option Nat) (T : TypeId) (x : Operand) (f : Nat), aops P (⟨d, .fieldAddr T x f, none⟩ :: os) Q s = (fldO s (foff P T f) (s.ev x) ∧ aops P os Q (s.put d (fldV (foff P T f) (s.ev x))))) ∧
  (∀ {P : Program} {Q : AS → Prop} {s : AS} {os : List AO} (d : Option Nat) (T : TypeId) (x i : Operand), aops P (⟨d, .indexAddr T x i, none⟩ :: os) Q s = (match telem P T with
    | some e => (tok P e = true ∧ idxO s (tsz P e) (s.ev x) (s.ev i)) ∧ aops P os Q (s.put d (idxV (tsz P e) (s.ev x) (s.ev i)))
    | none => match tarr P T with
      | some (n, e) => (tok P e = true ∧ arrO n (s.ev x) (s.ev i)) ∧ aops P os Q (s.put d (arrV (tsz P e) (s.ev x) (s.ev i)))
      | none => False)) ∧
  (∀ {P : Program} {Q : AS → Prop} {s : AS} {os : List AO} (d : Option Nat) (x : Operand) (j : Nat), aops P (⟨d, .extract x j, none⟩ :: os) Q s = (extO (s.ev x) j ∧ aops P os Q (s.put d (extV (s.ev x) j)))) ∧
  (∀ {P : Program} {Q : AS → Prop} {s : AS} {os : List AO} (d : Option Nat) (x : Operand) (T : TypeId), aops P (⟨d, .call ⟨.builtin .len, #[x], #[T]⟩, none⟩ :: os) Q s = (((telem P T).isSome = true ∧ lenO s (s.ev x)) ∧ aops P os Q (s.put d (lenV s (s.ev x))))) ∧
  (∀ {P : Program} {Q : AS → Prop} {s : AS} {os : List AO} (d : Option Nat) (x y : Operand) (Ts : Array TypeId), aops P (⟨d, .call ⟨.builtin .max, #[x, y], Ts⟩, none⟩ :: os) Q s = (mxO (s.ev x) (s.ev y) ∧ aops P os Q (s.put d (mxV (fun x y => if y > x then y else x) (s.ev x) (s.ev y))))) ∧
  (∀ {P : Program} {Q : AS → Prop} {s : AS} {os : List AO} (d : Option Nat) (x y : Operand) (Ts : Array TypeId), aops P (⟨d, .call ⟨.builtin .min, #[x, y], Ts⟩, none⟩ :: os) Q s = (mxO (s.ev x) (s.ev y) ∧ aops P os Q (s.put d (mxV (fun x y => if y < x then y else x) (s.ev x) (s.ev y))))) ∧
  (∀ {P : Program} {Q : AS → Prop} {s : AS} {os : List AO} (d : Nat) (x y : Operand) (T : TypeId), aops P (⟨some d, .call ⟨.builtin .append, #[x, y], #[T, T]⟩, none⟩ :: os) Q s = (match telem P T with
    | some e => (tok P e = true ∧ 0 < tsz P e ∧ (tzero P e).map List.length = some (tsz P e) ∧ appO s e (tsz P e) (tbytes P e) (srcD s (s.ev y)) (s.ev x)) ∧ aops P os Q (appS s d e (tsz P e) (srcD s (s.ev y)) (s.ev x))
    | none => False)) ∧
  (∀ {P : Program} {Q : AS → Prop} {s : AS} {os : List AO} (d : Option Nat) (x y : Operand) (T T' : TypeId), aops P (⟨d, .call ⟨.builtin .copy, #[x, y], #[T, T']⟩, none⟩ :: os) Q s = ((match telem P T with
    | some e => tok P e = true ∧ tsz P e = 1 ∧ cpO s (srcD s (s.ev y)) (s.ev x)
    | none => False) ∧ aops P os Q (cpS s d (srcD s (s.ev y)) (s.ev x)))) ∧
  (∀ {P : Program} {Q : AS → Prop} {s : AS} {os : List AO} (d : Option Nat) (op : Op) (t : Nat) (want : Bool), aops P (⟨d, op, some (t, want)⟩ :: os) Q s = guardA P (asB (s.t t)) want d op os Q s) ∧
  (∀ {P : Program} {Q : AS → Prop} {s : AS} {os : List AO} (d : Option Nat) (op : Op), guardA P (some true) true d op os Q s = aops P (⟨d, op, none⟩ :: os) Q s) ∧
  (∀ {P : Program} {Q : AS → Prop} {s : AS} {os : List AO} (d : Option Nat) (op : Op), guardA P (some false) false d op os Q s = aops P (⟨d, op, none⟩ :: os) Q s) ∧
  (∀ {P : Program} {Q : AS → Prop} {s : AS} {os : List AO} (d : Option Nat) (op : Op), guardA P (some true) false d op os Q s = aops P os Q (s.put d .no)) ∧
  (∀ {P : Program} {Q : AS → Prop} {s : AS} {os : List AO} (d : Option Nat) (op : Op), guardA P (some false) true d op os Q s = aops P os Q (s.put d .no)) :=
  ⟨@ev_t, @ev_int, @ev_bool, @ev_str, @ev_nil, @set_t, @set_v, @set_r, @set_g, @set_f, @setv_t, @setv_v, @setv_r, @setv_g, @setv_f, @setr_t, @setr_v, @setr_r, @setr_g, @setr_f, @bump_t, @bump_v, @bump_r, @bump_g, @bump_f, @frz_t, @frz_v, @frz_r, @frz_g, @frz_f, @frzv_t, @frzv_v, @frzv_r, @frzv_g, @frzv_f, @put_some, @put_none, @start_t0, @start_t1, @start_t2, @start_t3, @start_t4, @start_v, @start_r, @start_g, @start_f, @rv_one, @rv_agg, @res_one, @res_nil, @res_two, @w_skip, @w_reg, @w_gh, @w_seq, @w_block, @w_exit, @w_ret, @t_n, @t_e, @t_r, @b_n, @b_e, @b_r, @w_cnd, @c_t, @c_f, @g_nil, @g_cons, @a_nil, @a_move, @a_assign, @a_pick, @a_alloc, @a_box, @a_build, @a_bsl, @a_load, @a_store, @a_bin, @a_un, @a_conv, @a_make, @a_slice, @a_fld, @a_idx, @a_ext, @a_len, @a_max, @a_min, @a_append, @a_copy, @a_grd, @g_tt, @g_ff, @g_tf, @g_ft⟩
theorem V : (∀ {s : AS} (n : Nat) (cells : List Dt), srcD s (.one (.dt (.sl n cells))) = some (n, cells)) ∧
  (ceDs [] = some []) ∧
  (∀ (c : Ce) (cs : List Ce), ceDs (c :: cs) = (match ceD c, ceDs cs with | some d, some ds => some (d :: ds) | _, _ => none)) ∧
  (∀ (d : Dt), ceD (.dt d) = some d) ∧
  (ceD .z = some (.sl 0 [])) ∧
  (∀ {s : AS} (sz n : Nat) (cs : List Ce) (parts : List (Nat × Operand)), bslC s sz n (some cs) parts = (match fillA (fun i => some (i * sz, sz)) ((List.replicate n cs).flatten) (pairs s parts) with | some cells => ceDs cells | none => none)) ∧
  (∀ {k : IntKind} {k' : IntKind} {x : Int} {y : Int} {tb : Bool}, binO tb .add (.one (.dt (.lit (.int k x)))) (.one (.dt (.lit (.int k' y)))) = (k = k')) ∧
  (∀ {k : IntKind} {k' : IntKind} {x : Int} {y : Int}, binV .add (.one (.dt (.lit (.int k x)))) (.one (.dt (.lit (.int k' y)))) = (.one (.dt (.lit (.int k (k.wrap (x + y))))))) ∧
  (∀ {k : IntKind} {k' : IntKind} {x : Int} {y : Int} {tb : Bool}, binO tb .sub (.one (.dt (.lit (.int k x)))) (.one (.dt (.lit (.int k' y)))) = (k = k')) ∧
  (∀ {k : IntKind} {k' : IntKind} {x : Int} {y : Int}, binV .sub (.one (.dt (.lit (.int k x)))) (.one (.dt (.lit (.int k' y)))) = (.one (.dt (.lit (.int k (k.wrap (x - y))))))) ∧
  (∀ {k : IntKind} {k' : IntKind} {x : Int} {y : Int} {tb : Bool}, binO tb .mul (.one (.dt (.lit (.int k x)))) (.one (.dt (.lit (.int k' y)))) = (k = k')) ∧
  (∀ {k : IntKind} {k' : IntKind} {x : Int} {y : Int}, binV .mul (.one (.dt (.lit (.int k x)))) (.one (.dt (.lit (.int k' y)))) = (.one (.dt (.lit (.int k (k.wrap (x * y))))))) ∧
  (∀ {k : IntKind} {k' : IntKind} {x : Int} {y : Int} {tb : Bool}, binO tb .quo (.one (.dt (.lit (.int k x)))) (.one (.dt (.lit (.int k' y)))) = (k = k' ∧ ¬ y = 0)) ∧
  (∀ {k : IntKind} {k' : IntKind} {x : Int} {y : Int}, binV .quo (.one (.dt (.lit (.int k x)))) (.one (.dt (.lit (.int k' y)))) = (.one (.dt (.lit (.int k (k.wrap (x.tdiv y))))))) ∧
  (∀ {k : IntKind} {k' : IntKind} {x : Int} {y : Int} {tb : Bool}, binO tb .rem (.one (.dt (.lit (.int k x)))) (.one (.dt (.lit (.int k' y)))) = (k = k' ∧ ¬ y = 0)) ∧
  (∀ {k : IntKind} {k' : IntKind} {x : Int} {y : Int}, binV .rem (.one (.dt (.lit (.int k x)))) (.one (.dt (.lit (.int k' y)))) = (.one (.dt (.lit (.int k (x.tmod y)))))) ∧
  (∀ {k : IntKind} {k' : IntKind} {x : Int} {y : Int} {tb : Bool}, binO tb .and (.one (.dt (.lit (.int k x)))) (.one (.dt (.lit (.int k' y)))) = (k = k')) ∧
  (∀ {k : IntKind} {k' : IntKind} {x : Int} {y : Int}, binV .and (.one (.dt (.lit (.int k x)))) (.one (.dt (.lit (.int k' y)))) = (.one (.dt (.lit (.int k (bits .and k x y)))))) ∧
  (∀ {k : IntKind} {k' : IntKind} {x : Int} {y : Int} {tb : Bool}, binO tb .or (.one (.dt (.lit (.int k x)))) (.one (.dt (.lit (.int k' y)))) = (k = k')) ∧
  (∀ {k : IntKind} {k' : IntKind} {x : Int} {y : Int}, binV .or (.one (.dt (.lit (.int k x)))) (.one (.dt (.lit (.int k' y)))) = (.one (.dt (.lit (.int k (bits .or k x y)))))) ∧
  (∀ {k : IntKind} {k' : IntKind} {x : Int} {y : Int} {tb : Bool}, binO tb .shl (.one (.dt (.lit (.int k x)))) (.one (.dt (.lit (.int k' y)))) = (0 ≤ y)) ∧
  (∀ {k : IntKind} {k' : IntKind} {x : Int} {y : Int}, binV .shl (.one (.dt (.lit (.int k x)))) (.one (.dt (.lit (.int k' y)))) = (.one (.dt (.lit (.int k (shl k x y)))))) ∧
  (∀ {k : IntKind} {k' : IntKind} {x : Int} {y : Int} {tb : Bool}, binO tb .shr (.one (.dt (.lit (.int k x)))) (.one (.dt (.lit (.int k' y)))) = (0 ≤ y)) ∧
  (∀ {k : IntKind} {k' : IntKind} {x : Int} {y : Int}, binV .shr (.one (.dt (.lit (.int k x)))) (.one (.dt (.lit (.int k' y)))) = (.one (.dt (.lit (.int k (shr k x y)))))) ∧
  (∀ {k : IntKind} {k' : IntKind} {x : Int} {y : Int} {tb : Bool}, binO tb .eql (.one (.dt (.lit (.int k x)))) (.one (.dt (.lit (.int k' y)))) = (k = k')) ∧
  (∀ {k : IntKind} {k' : IntKind} {x : Int} {y : Int} {tb : Bool}, binO tb .neq (.one (.dt (.lit (.int k x)))) (.one (.dt (.lit (.int k' y)))) = (k = k')) ∧
  (∀ {k : IntKind} {k' : IntKind} {x : Int} {y : Int}, binV .eql (.one (.dt (.lit (.int k x)))) (.one (.dt (.lit (.int k' y)))) = (.one (.dt (.lit (.bool (decide (x = y))))))) ∧
  (∀ {k : IntKind} {k' : IntKind} {x : Int} {y : Int}, binV .neq (.one (.dt (.lit (.int k x)))) (.one (.dt (.lit (.int k' y)))) = (.one (.dt (.lit (.bool (decide (¬ x = y))))))) ∧
  (∀ {k : IntKind} {k' : IntKind} {x : Int} {y : Int} {tb : Bool}, binO tb .lss (.one (.dt (.lit (.int k x)))) (.one (.dt (.lit (.int k' y)))) = (k = k')) ∧
  (∀ {k : IntKind} {k' : IntKind} {x : Int} {y : Int}, binV .lss (.one (.dt (.lit (.int k x)))) (.one (.dt (.lit (.int k' y)))) = (.one (.dt (.lit (.bool (decide (x < y))))))) ∧
  (∀ {k : IntKind} {k' : IntKind} {x : Int} {y : Int} {tb : Bool}, binO tb .leq (.one (.dt (.lit (.int k x)))) (.one (.dt (.lit (.int k' y)))) = (k = k')) ∧
  (∀ {k : IntKind} {k' : IntKind} {x : Int} {y : Int}, binV .leq (.one (.dt (.lit (.int k x)))) (.one (.dt (.lit (.int k' y)))) = (.one (.dt (.lit (.bool (decide (x ≤ y))))))) ∧
  (∀ {k : IntKind} {k' : IntKind} {x : Int} {y : Int} {tb : Bool}, binO tb .gtr (.one (.dt (.lit (.int k x)))) (.one (.dt (.lit (.int k' y)))) = (k = k')) ∧
  (∀ {k : IntKind} {k' : IntKind} {x : Int} {y : Int}, binV .gtr (.one (.dt (.lit (.int k x)))) (.one (.dt (.lit (.int k' y)))) = (.one (.dt (.lit (.bool (decide (y < x))))))) ∧
  (∀ {k : IntKind} {k' : IntKind} {x : Int} {y : Int} {tb : Bool}, binO tb .geq (.one (.dt (.lit (.int k x)))) (.one (.dt (.lit (.int k' y)))) = (k = k')) ∧
  (∀ {k : IntKind} {k' : IntKind} {x : Int} {y : Int}, binV .geq (.one (.dt (.lit (.int k x)))) (.one (.dt (.lit (.int k' y)))) = (.one (.dt (.lit (.bool (decide (y ≤ x))))))) ∧
  (∀ {tb : Bool} {b : Bool} {b' : Bool}, binO tb .eql (.one (.dt (.lit (.bool b)))) (.one (.dt (.lit (.bool b')))) = (tb = true)) ∧
  (∀ {tb : Bool} {b : Bool} {b' : Bool}, binO tb .neq (.one (.dt (.lit (.bool b)))) (.one (.dt (.lit (.bool b')))) = (tb = true)) ∧
  (∀ {b : Bool} {b' : Bool}, binV .eql (.one (.dt (.lit (.bool b)))) (.one (.dt (.lit (.bool b')))) = (.one (.dt (.lit (.bool (b == b')))))) ∧
  (∀ {b : Bool} {b' : Bool}, binV .neq (.one (.dt (.lit (.bool b)))) (.one (.dt (.lit (.bool b')))) = (.one (.dt (.lit (.bool (!(b == b'))))))) ∧
  (∀ {b : Bool}, pickO (.one (.dt (.lit (.bool b)))) = True) ∧
  (∀ {b : Bool} (u v : AV), pickV (.one (.dt (.lit (.bool b)))) u v = if b = true then u else v) ∧
  (∀ {b : Bool}, unO .not (.one (.dt (.lit (.bool b)))) = True) ∧
  (∀ {p : Prop} [Decidable p], unV .not (.one (.dt (.lit (.bool (decide p))))) = (.one (.dt (.lit (.bool (decide (¬p))))))) ∧
  (unV .not (.one (.dt (.lit (.bool true)))) = (.one (.dt (.lit (.bool false))))) ∧
  (unV .not (.one (.dt (.lit (.bool false)))) = (.one (.dt (.lit (.bool true))))) ∧
  (∀ {k : IntKind} {x : Int}, unO .neg (.one (.dt (.lit (.int k x)))) = True) ∧
  (∀ {k : IntKind} {x : Int}, unV .neg (.one (.dt (.lit (.int k x)))) = (.one (.dt (.lit (.int k (k.wrap (0 - x))))))) ∧
  (∀ {k : IntKind} {k' : IntKind} {x : Int}, cvO (some k') (.one (.dt (.lit (.int k x)))) = True) ∧
  (∀ {k : IntKind} {k' : IntKind} {x : Int}, cvV (some k') (.one (.dt (.lit (.int k x)))) = (.one (.dt (.lit (.int k' (k'.wrap x)))))) ∧
  (∀ {b : Bool}, asB (.one (.dt (.lit (.bool b)))) = some b) ∧
  (∀ (c : Ce), cellsOf (.one c) = some [c]) ∧
  (∀ (cs : List Ce), cellsOf (.agg cs) = some cs) ∧
  (∀ (sz : Nat) (c : Ce) (cs : List Ce), ldO false sz (some (c :: cs)) = True) ∧
  (∀ (sz : Nat) (cs : List Ce), ldO true sz (some cs) = (sz ≤ cs.length)) ∧
  (∀ (sz : Nat) (c : Ce) (cs : List Ce), ldV false sz (some (c :: cs)) = .one c) ∧
  (∀ (sz : Nat) (cs : List Ce), ldV true sz (some cs) = .agg (cs.take sz)) ∧
  (∀ {s : AS} (y : Nat × Nat) (off : Nat), acells s (.ptr y off) = (match s.v y with | some cs => some (cs.drop off) | none => none)) ∧
  (∀ {s : AS} (r : Nat × Nat) (ver j : Nat), acells s (.rel r ver j) = (match s.r r with | some row => if row.ver = ver then some ((row.cells.drop j).map .dt) else none | none => none)) ∧
  (∀ {s : AS} (o : Nat) (y : Nat × Nat) (off : Nat), fldO s (some o) (.ptr y off) = True) ∧
  (∀ {s : AS} (o : Nat) (ds : List Dt), fldO s (some o) (.el ds) = (o ≤ ds.length)) ∧
  (∀ (o : Nat) (y : Nat × Nat) (off : Nat), fldV (some o) (.ptr y off) = .ptr y (off + o)) ∧
  (∀ (o : Nat) (ds : List Dt), fldV (some o) (.el ds) = .el (ds.drop o)) ∧
  (∀ {s : AS} {k : IntKind} {x : Int} (sz : Nat) (r : Nat × Nat) (ver : Nat), idxO s sz (.one (.row r ver)) (.one (.dt (.lit (.int k x)))) = (match s.r r with | some row => row.ver = ver ∧ 0 ≤ x ∧ x < row.n | none => False)) ∧
  (∀ {k : IntKind} {x : Int} (sz : Nat) (r : Nat × Nat) (ver : Nat), idxV sz (.one (.row r ver)) (.one (.dt (.lit (.int k x)))) = .rel r ver (x.toNat * sz)) ∧
  (∀ (rs : List RV) (j : Nat), extO (.tup rs) j = (j < rs.length)) ∧
  (∀ (rs : List RV) (j : Nat), extV (.tup rs) j = (match rs[j]? with | some r => r.toAV | none => .no)) ∧
  (∀ {s : AS}, lenO s (.one .z) = True) ∧
  (∀ {s : AS}, lenV s (.one .z) = (.one (.dt (.lit (.int .i64 0))))) ∧
  (∀ {s : AS} (r : Nat × Nat) (ver : Nat), lenO s (.one (.row r ver)) = (match s.r r with | some row => row.ver = ver | none => False)) ∧
  (∀ {s : AS} (r : Nat × Nat) (ver : Nat), lenV s (.one (.row r ver)) = (match s.r r with | some row => (.one (.dt (.lit (.int .i64 row.n)))) | none => .no)) ∧
  (∀ {k : IntKind} {k' : IntKind} {x : Int} {y : Int}, mxO (.one (.dt (.lit (.int k x)))) (.one (.dt (.lit (.int k' y)))) = (k = k')) ∧
  (∀ {k : IntKind} {k' : IntKind} {x : Int} {y : Int} (f : Int → Int → Int), mxV f (.one (.dt (.lit (.int k x)))) (.one (.dt (.lit (.int k' y)))) = (.one (.dt (.lit (.int k (f x y)))))) ∧
  (∀ {s : AS} (cs : List Ce) (y : Nat × Nat) (off : Nat), stO s cs (.ptr y off) = (match s.v y with | some cs0 => s.f y = false ∧ off + cs.length ≤ cs0.length | none => False)) ∧
  (∀ {s : AS} (cs : List Ce) (y : Nat × Nat) (off : Nat), stS s cs (.ptr y off) = (match s.v y with | some cs0 => s.setv y (cs0.take off ++ cs ++ cs0.drop (off + cs.length)) | none => s)) ∧
  (∀ {s : AS} (d : Dt) (r : Nat × Nat) (ver j : Nat), stO s [.dt d] (.rel r ver j) = (match s.r r with | some row => row.ver = ver ∧ row.live = true ∧ [Ce.dt d].length = 1 ∧ j < row.n * row.sz | none => False)) ∧
  (∀ {s : AS} (d : Dt) (r : Nat × Nat) (ver j : Nat), stS s [.dt d] (.rel r ver j) = (match s.r r with | some row => s.setr r { row with cells := row.cells.set j d } | none => s)) ∧
  (∀ {s : AS} (d : Dt), toD s (.dt d) = some d) ∧
  (∀ {s : AS}, toD s .z = some (.sl 0 [])) ∧
  (∀ {s : AS} (r : Nat × Nat) (ver : Nat), toD s (.row r ver) = (match s.r r with | some row => if row.ver = ver ∧ row.live = false then some (.sl row.n row.cells) else none | none => none)) ∧
  (∀ {s : AS}, toDs s [] = some []) ∧
  (∀ {s : AS} (c : Ce) (cs : List Ce), toDs s (c :: cs) = (match toD s c, toDs s cs with | some d, some ds => some (d :: ds) | _, _ => none)) ∧
  (∀ {s : AS} (c : Ce), toRV s (.one c) = (toD s c).map .one) ∧
  (∀ {s : AS} (cs : List Ce), toRV s (.agg cs) = (toDs s cs).map .agg) ∧
  (∀ {s : AS}, toRVs s [] = some []) ∧
  (∀ {s : AS} (u : AV) (us : List AV), toRVs s (u :: us) = (match toRV s u, toRVs s us with | some r, some rs => some (r :: rs) | _, _ => none)) ∧
  (∀ {s : AS}, evs s [] = []) ∧
  (∀ {s : AS} (u : Operand) (us : List Operand), evs s (u :: us) = s.ev u :: evs s us) ∧
  (∀ {s : AS}, pairs s [] = []) ∧
  (∀ {s : AS} (i : Nat) (u : Operand) (us : List (Nat × Operand)), pairs s ((i, u) :: us) = (i, s.ev u) :: pairs s us) ∧
  (∀ (pl : Nat → Option (Nat × Nat)) (cells : List Ce), fillA pl cells [] = some cells) ∧
  (∀ (pl : Nat → Option (Nat × Nat)) (cells : List Ce) (i : Nat) (u : AV) (us : List (Nat × AV)), fillA pl cells ((i, u) :: us) = (match pl i, cellsOf u with | some (off, size), some cs => if cs.length = size ∧ off + size ≤ cells.length then fillA pl (cells.take off ++ cs ++ cells.drop (off + size)) us else none | _, _ => none)) ∧
  (((0 : Nat) : Int) = 0) ∧
  (∀ {s : AS} (e : TypeId) (sz bytes m ver : Nat) (cells : List Dt) (r : Nat × Nat), appO s e sz bytes (some (m, cells)) (.one (.row r ver)) = (match s.r r with | some row => row.ver = ver ∧ row.live = true ∧ row.e = e ∧ row.sz = sz ∧ cells.length = m * sz ∧ row.n + m ≤ 9223372036854775807 ∧ (row.n + m) * bytes ≤ 140737488355328 | none => False)) ∧
  (∀ {s : AS} (d : Nat) (e : TypeId) (sz m ver : Nat) (cells : List Dt) (r : Nat × Nat), appS s d e sz (some (m, cells)) (.one (.row r ver)) = (match s.r r with | some row => (s.setr r { row with n := row.n + m, cells := row.cells ++ cells, ver := ver + 1 }).set d (.one (.row r (ver + 1))) | none => s)) ∧
  (∀ (i : Nat), ((i : Int) + 1).toNat = i + 1) ∧
  (∀ (i : Nat), ((i : Int) - 1).toNat = i - 1) ∧
  (∀ (i j : Nat), ((i : Int) + (j : Int)).toNat = i + j) ∧
  (∀ (i : Nat), ((i + 1 : Nat) : Int) = (i : Int) + 1) ∧
  (∀ {s : AS} (P : Program), resRs P s [] [] = True) ∧
  (∀ {s : AS} (P : Program) (u : ResultVar) (us : List ResultVar) (r : RV) (rs : List RV), resRs P s (u :: us) (r :: rs) = (resR P s u r ∧ resRs P s us rs)) ∧
  (∀ {s : AS} (P : Program) (t : Nat) (r : RV), resR P s (.tmp t) r = (toRV s (s.t t) = some r)) ∧
  (∀ {s : AS} (P : Program) (t : Nat) (T : TypeId) (r : RV), resR P s (.cell t T) r = (tok P T = true ∧ ldO (tagg P T) (tsz P T) (acells s (s.t t)) ∧ toRV s (ldV (tagg P T) (tsz P T) (acells s (s.t t))) = some r)) ∧
  (∀ {s : AS} (t : Nat), ghE (.frz t) s = (match s.t t with | .one (.row r _) => s.freeze r | _ => s)) ∧
  (∀ {s : AS} (t i : Nat), ghE (.frzc t i) s = (match s.t t with | .ptr xx _ => (match s.v xx with | some cs => frzC s cs[i]? | none => s) | _ => s)) ∧
  (∀ {s : AS} (t : Nat), ghE (.frzv t) s = (match s.t t with | .ptr xx _ => (match s.v xx with | some _ => s.freezev xx | none => s) | _ => s)) ∧
  (∀ {s : AS} (t : Nat) (e : TypeId) (sz : Nat), ghE (.nilt t e sz) s = ((s.setr (t, s.g t) ⟨e, sz, 0, [], 0, true⟩).bump t).set t (.one (.row (t, s.g t) 0))) ∧
  (∀ {s : AS} (r : Nat × Nat) (v : Nat), frzC s (some (.row r v)) = s.freeze r) ∧
  (∀ {s : AS}, frzC s (some .z) = s) ∧
  (∀ {s : AS} (d : Dt), frzC s (some (.dt d)) = s) ∧
  (∀ {s : AS} (t : Nat), ghO (.frz t) s = True) ∧
  (∀ {s : AS} (t i : Nat), ghO (.frzc t i) s = True) ∧
  (∀ {s : AS} (t : Nat), ghO (.frzv t) s = True) ∧
  (∀ {s : AS} (t : Nat) (e : TypeId) (sz : Nat), ghO (.nilt t e sz) s = (match s.t t with | .one .z => True | _ => False)) ∧
  (∀ {n : Int} (h : -9223372036854775808 ≤ n) (h' : n < 9223372036854775808), IntKind.i64.wrap n = n) ∧
  (∀ {n : Int} (h : 0 ≤ n) (h' : n < 18446744073709551616), IntKind.u64.wrap n = n) ∧
  (∀ {n : Int} (h : 0 ≤ n) (h' : n < 18446744073709551616), bits .and .u64 n 4294967295 = n % 4294967296) ∧
  (∀ (n : Int), shr .u64 n 32 = n / 4294967296) ∧
  (∀ {n : Int} (h : 0 ≤ n) (h' : n < 4294967296), shl .u64 n 32 = n * 4294967296) ∧
  (∀ {n : Int} (h : 0 ≤ n) (h' : n < 4294967296), IntKind.u32.wrap n = n) ∧
  (∀ {i j m : Int} {q : Prop} {n : Nat} (h : 0 ≤ i) (h1 : i ≤ j) (h2 : j ≤ m) (h3 : m ≤ n), cutP (some i) (some j) (some m) q n = q) ∧
  (∀ (d : Int), bnd none d = some d) ∧
  (∀ (k : IntKind) (i d : Int), bnd (some (.one (.dt (.lit (.int k i))))) d = some i) ∧
  (∀ {s : AS} {k : IntKind} {x : Int} (l : List (Int)) (h : 0 ≤ x) (h' : x < l.length), idxO s 1 (.one (.dt (natD l))) (.one (.dt (.lit (.int k x)))) = True) ∧
  (∀ {lo hi mx : Option AV} (l : List (Int)), cutO 1 lo hi mx (.one (.dt (natD l))) = cutP (bnd lo 0) (bnd hi l.length) (bnd mx l.length) (mx.isSome = true → hi.isSome = true) l.length) ∧
  (∀ {lo hi : Option AV} (l : List (Int)), cutV 1 lo hi (.one (.dt (natD l))) = cutW (bnd lo 0) (bnd hi l.length) l u32c) ∧
  (∀ {i j : Int} (l : List (Int)) (h : 0 ≤ i) (h1 : i ≤ j) (h2 : j ≤ l.length), cutW (some i) (some j) l u32c = .one (.dt (natD ((l.take j.toNat).drop i.toNat)))) ∧
  (∀ {k : IntKind} {x : Int} (l : List (Int)) (h : 0 ≤ x) (h' : x < l.length), idxV 1 (.one (.dt (natD l))) (.one (.dt (.lit (.int k x)))) = .el (u32c (l.getD x.toNat 0))) ∧
  (∀ {s : AS} (l : List (Int)), lenO s (.one (.dt (natD l))) = True) ∧
  (∀ {s : AS} (l : List (Int)), lenV s (.one (.dt (natD l))) = (.one (.dt (.lit (.int .i64 l.length))))) ∧
  (∀ (l : List (Int)) (n : Nat) (h : n = l.length), Dt.sl n (natC l) = natD l) ∧
  (∀ (l : List (Int)), (natC l).length = l.length) ∧
  (∀ {s : AS} (l : List (Int)), srcD s (.one (.dt (natD l))) = some (l.length, natC l)) ∧
  (∀ {s : AS} {k : IntKind} {x : Int} (l : List (Int)) (h : 0 ≤ x) (h' : x < l.length), idxO s 1 (.one (.dt (intsD l))) (.one (.dt (.lit (.int k x)))) = True) ∧
  (∀ {lo hi mx : Option AV} (l : List (Int)), cutO 1 lo hi mx (.one (.dt (intsD l))) = cutP (bnd lo 0) (bnd hi l.length) (bnd mx l.length) (mx.isSome = true → hi.isSome = true) l.length) ∧
  (∀ {lo hi : Option AV} (l : List (Int)), cutV 1 lo hi (.one (.dt (intsD l))) = cutW (bnd lo 0) (bnd hi l.length) l i64c) ∧
  (∀ {i j : Int} (l : List (Int)) (h : 0 ≤ i) (h1 : i ≤ j) (h2 : j ≤ l.length), cutW (some i) (some j) l i64c = .one (.dt (intsD ((l.take j.toNat).drop i.toNat)))) ∧
  (∀ {k : IntKind} {x : Int} (l : List (Int)) (h : 0 ≤ x) (h' : x < l.length), idxV 1 (.one (.dt (intsD l))) (.one (.dt (.lit (.int k x)))) = .el (i64c (l.getD x.toNat 0))) ∧
  (∀ {s : AS} (l : List (Int)), lenO s (.one (.dt (intsD l))) = True) ∧
  (∀ {s : AS} (l : List (Int)), lenV s (.one (.dt (intsD l))) = (.one (.dt (.lit (.int .i64 l.length))))) ∧
  (∀ (l : List (Int)) (n : Nat) (h : n = l.length), Dt.sl n (intsC l) = intsD l) ∧
  (∀ (l : List (Int)), (intsC l).length = l.length) ∧
  (∀ {s : AS} (l : List (Int)), srcD s (.one (.dt (intsD l))) = some (l.length, intsC l)) ∧
  (∀ {s : AS} {k : IntKind} {x : Int} (l : List (List Int)) (h : 0 ≤ x) (h' : x < l.length), idxO s 1 (.one (.dt (natsD l))) (.one (.dt (.lit (.int k x)))) = True) ∧
  (∀ {lo hi mx : Option AV} (l : List (List Int)), cutO 1 lo hi mx (.one (.dt (natsD l))) = cutP (bnd lo 0) (bnd hi l.length) (bnd mx l.length) (mx.isSome = true → hi.isSome = true) l.length) ∧
  (∀ {lo hi : Option AV} (l : List (List Int)), cutV 1 lo hi (.one (.dt (natsD l))) = cutW (bnd lo 0) (bnd hi l.length) l natc) ∧
  (∀ {i j : Int} (l : List (List Int)) (h : 0 ≤ i) (h1 : i ≤ j) (h2 : j ≤ l.length), cutW (some i) (some j) l natc = .one (.dt (natsD ((l.take j.toNat).drop i.toNat)))) ∧
  (∀ {k : IntKind} {x : Int} (l : List (List Int)) (h : 0 ≤ x) (h' : x < l.length), idxV 1 (.one (.dt (natsD l))) (.one (.dt (.lit (.int k x)))) = .el (natc (l.getD x.toNat []))) ∧
  (∀ {s : AS} (l : List (List Int)), lenO s (.one (.dt (natsD l))) = True) ∧
  (∀ {s : AS} (l : List (List Int)), lenV s (.one (.dt (natsD l))) = (.one (.dt (.lit (.int .i64 l.length))))) ∧
  (∀ (l : List (List Int)) (n : Nat) (h : n = l.length), Dt.sl n (natsC l) = natsD l) ∧
  (∀ (l : List (List Int)), (natsC l).length = l.length) ∧
  (∀ {s : AS} (l : List (List Int)), srcD s (.one (.dt (natsD l))) = some (l.length, natsC l)) ∧
  (∀ {s : AS} (n : Int), acells s (.el (u32c n)) = some [.dt (.lit (.int .u32 n))]) ∧
  (∀ {s : AS} (n : Int), acells s (.el (i64c n)) = some [.dt (.lit (.int .i64 n))]) ∧
  (∀ {s : AS} (l : List Int), acells s (.el (natc l)) = some [.dt (natD l)]) ∧
  (∀ (l : List Int) (i : Nat) (x : Int), (natC l).set i (.lit (.int .u32 x)) = natC (l.set i x)) ∧
  (∀ (a b : List Int) (i : Nat), (natC a).take i ++ (natC b).drop i = natC (a.take i ++ b.drop i)) ∧
  (∀ (sz : Nat) (l : List Int) (i : Nat) (h : i < l.length), ldO false sz (some (((natC l).drop i).map Ce.dt)) = True) ∧
  (∀ (sz : Nat) (l : List Int) (i : Nat) (h : i < l.length), ldV false sz (some (((natC l).drop i).map Ce.dt)) = .one (.dt (.lit (.int .u32 (l.getD i 0))))) ∧
  (∀ {b : Nat} {z : Dt} {n : Int} (h : 0 ≤ n) (h' : (b : Int) * n ≤ 281474976710656) (h2 : n ≤ 9223372036854775807), mkO b (some [.dt z]) (.one (.dt (.lit (.int .i64 n)))) (.one (.dt (.lit (.int .i64 n)))) = True) ∧
  (∀ {s : AS} {k : IntKind} (d : Nat) (e : TypeId) (n : Int), mkS s d e (some [.dt (.lit (.int .u32 0))]) (.one (.dt (.lit (.int k n)))) = ((s.setr (d, s.g d) ⟨e, 1, n.toNat, natC (List.replicate n.toNat 0), 0, true⟩).bump d).set d (.one (.row (d, s.g d) 0))) ∧
  (∀ {s : AS} (m ver : Nat) (cells : List Dt) (r : Nat × Nat), cpO s (some (m, cells)) (.one (.row r ver)) = (match s.r r with | some row => row.ver = ver ∧ row.live = true ∧ row.sz = 1 ∧ cells.length = m | none => False)) ∧
  (∀ {s : AS} (d : Option Nat) (m ver : Nat) (cells : List Dt) (r : Nat × Nat), cpS s d (some (m, cells)) (.one (.row r ver)) = (match s.r r with | some row => (s.setr r { row with cells := cells.take (min m row.n) ++ row.cells.drop (min m row.n) }).put d (litV (.int .i64 (min m row.n : Nat))) | none => s)) ∧
  (∀ (n : Nat), List.replicate n (Dt.lit (.int .u32 0)) = natC (List.replicate n 0)) ∧
  (∀ (l : List Int) (x : Int), natC l ++ [.lit (.int .u32 x)] = natC (l ++ [x])) ∧
  (∀ (l : List Int) (x : Int), intsC l ++ [.lit (.int .i64 x)] = intsC (l ++ [x])) ∧
  (∀ (l : List (List Int)) (x : List Int), natsC l ++ [natD x] = natsC (l ++ [x])) ∧
  (natC [] = []) ∧
  (intsC [] = []) ∧
  (natsC [] = []) :=
  ⟨@src_sl, @cd_nil, @cd_cons, @cd_dt, @cd_z, @bsl_some, @o_add, @v_add, @o_sub, @v_sub, @o_mul, @v_mul, @o_quo, @v_quo, @o_rem, @v_rem, @o_and, @v_and, @o_or, @v_or, @o_shl, @v_shl, @o_shr, @v_shr, @o_eql, @o_neq, @v_eql, @v_neq, @o_lss, @v_lss, @o_leq, @v_leq, @o_gtr, @v_gtr, @o_geq, @v_geq, @o_eqlb, @o_neqb, @v_eqlb, @v_neqb, @o_pick, @v_pick, @o_not, @v_not, @v_nott, @v_notf, @o_neg, @v_neg, @o_cv, @v_cv, @as_b, @cl_one, @cl_agg, @ld_of, @ld_ot, @ld_vf, @ld_vt, @ac_ptr, @ac_rel, @fo_ptr, @fo_el, @fv_ptr, @fv_el, @io_row, @iv_row, @xo, @xv, @lo_z, @lv_z, @lo_row, @lv_row, @mo, @mv, @st_ptr, @ss_ptr, @st_rel, @ss_rel, @td_dt, @td_z, @td_row, @tds_nil, @tds_cons, @tr_one, @tr_agg, @trs_nil, @trs_cons, @ev_nil', @ev_cons, @pr_nil, @pr_cons, @fl_nil, @fl_cons, @cast0, @ap_o, @ap_s, @tn_p, @tn_m, @tn_a, @castS, @rs_nil, @rs_cons, @rr_tmp, @rr_cell, @gh_frz, @gh_frzc, @gh_frzv, @gh_nilt, @frzC_row, @frzC_z, @frzC_dt, @go_frz, @go_frzc, @go_frzv, @go_nilt, @wi64, @wu64, @and_m32, @shr_32, @shl_32, @wu32, @cp_some, @bnd_n, @bnd_s, @io_natD, @co_natD, @cv_natD, @cw_natD, @iv_natD, @lo_natD, @lv_natD, @of_natD, @len_natC, @src_natD, @io_intsD, @co_intsD, @cv_intsD, @cw_intsD, @iv_intsD, @lo_intsD, @lv_intsD, @of_intsD, @len_intsC, @src_intsD, @io_natsD, @co_natsD, @cv_natsD, @cw_natsD, @iv_natsD, @lo_natsD, @lv_natsD, @of_natsD, @len_natsC, @src_natsD, @ac_u32, @ac_i64, @ac_nat, @natC_set, @natC_copy, @lo_rel, @lv_rel, @mk_o, @mk_s, @cp_o, @cp_s, @natC_rep, @natC_app1, @intsC_app1, @natsC_app1, @natC_nil, @intsC_nil, @natsC_nil⟩
end Go.Proofs.Ythhaoojgfbofnaa.E
