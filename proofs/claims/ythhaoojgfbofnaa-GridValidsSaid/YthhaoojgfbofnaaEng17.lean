/- The rules for values, by which 'simp' computes; no condition. -/
import Derived.Test.YthhaoojgfbofnaaEng16
import Derived.Laws.Bits64
import Derived.Laws.BitsLemmas
namespace Go.Proofs.Ythhaoojgfbofnaa.E
open Go.RowKit

def shl (k : IntKind) (x y : Int) : Int := k.wrap (x * 2 ^ (min y.toNat k.bits))
def shr (k : IntKind) (x y : Int) : Int := x.fdiv (2 ^ (min y.toNat k.bits))
section
variable {s : AS} {k k' : IntKind} {x y : Int} {tb b b' : Bool}

theorem src_sl (n : Nat) (cells : List Dt) : srcD s (.one (.dt (.sl n cells))) = some (n, cells) := rfl
theorem cd_nil : ceDs [] = some [] := rfl
theorem cd_cons (c : Ce) (cs : List Ce) : ceDs (c :: cs) = (match ceD c, ceDs cs with | some d, some ds => some (d :: ds) | _, _ => none) := rfl
theorem cd_dt (d : Dt) : ceD (.dt d) = some d := rfl
theorem cd_z : ceD .z = some (.sl 0 []) := rfl
theorem bsl_some (sz n : Nat) (cs : List Ce) (parts : List (Nat × Operand)) : bslC s sz n (some cs) parts = (match fillA (fun i => some (i * sz, sz)) ((List.replicate n cs).flatten) (pairs s parts) with | some cells => ceDs cells | none => none) := rfl
theorem o_add : binO tb .add (.one (.dt (.lit (.int k x)))) (.one (.dt (.lit (.int k' y)))) = (k = k') := rfl
theorem v_add : binV .add (.one (.dt (.lit (.int k x)))) (.one (.dt (.lit (.int k' y)))) = (.one (.dt (.lit (.int k (k.wrap (x + y)))))) := rfl
theorem o_sub : binO tb .sub (.one (.dt (.lit (.int k x)))) (.one (.dt (.lit (.int k' y)))) = (k = k') := rfl
theorem v_sub : binV .sub (.one (.dt (.lit (.int k x)))) (.one (.dt (.lit (.int k' y)))) = (.one (.dt (.lit (.int k (k.wrap (x - y)))))) := rfl
theorem o_mul : binO tb .mul (.one (.dt (.lit (.int k x)))) (.one (.dt (.lit (.int k' y)))) = (k = k') := rfl
theorem v_mul : binV .mul (.one (.dt (.lit (.int k x)))) (.one (.dt (.lit (.int k' y)))) = (.one (.dt (.lit (.int k (k.wrap (x * y)))))) := rfl
theorem o_quo : binO tb .quo (.one (.dt (.lit (.int k x)))) (.one (.dt (.lit (.int k' y)))) = (k = k' ∧ ¬ y = 0) := rfl
theorem v_quo : binV .quo (.one (.dt (.lit (.int k x)))) (.one (.dt (.lit (.int k' y)))) = (.one (.dt (.lit (.int k (k.wrap (x.tdiv y)))))) := rfl
theorem o_rem : binO tb .rem (.one (.dt (.lit (.int k x)))) (.one (.dt (.lit (.int k' y)))) = (k = k' ∧ ¬ y = 0) := rfl
theorem v_rem : binV .rem (.one (.dt (.lit (.int k x)))) (.one (.dt (.lit (.int k' y)))) = (.one (.dt (.lit (.int k (x.tmod y))))) := rfl
theorem o_and : binO tb .and (.one (.dt (.lit (.int k x)))) (.one (.dt (.lit (.int k' y)))) = (k = k') := rfl
theorem v_and : binV .and (.one (.dt (.lit (.int k x)))) (.one (.dt (.lit (.int k' y)))) = (.one (.dt (.lit (.int k (bits .and k x y))))) := rfl
theorem o_or : binO tb .or (.one (.dt (.lit (.int k x)))) (.one (.dt (.lit (.int k' y)))) = (k = k') := rfl
theorem v_or : binV .or (.one (.dt (.lit (.int k x)))) (.one (.dt (.lit (.int k' y)))) = (.one (.dt (.lit (.int k (bits .or k x y))))) := rfl
theorem o_shl : binO tb .shl (.one (.dt (.lit (.int k x)))) (.one (.dt (.lit (.int k' y)))) = (0 ≤ y) := rfl
theorem v_shl : binV .shl (.one (.dt (.lit (.int k x)))) (.one (.dt (.lit (.int k' y)))) = (.one (.dt (.lit (.int k (shl k x y))))) := rfl
theorem o_shr : binO tb .shr (.one (.dt (.lit (.int k x)))) (.one (.dt (.lit (.int k' y)))) = (0 ≤ y) := rfl
theorem v_shr : binV .shr (.one (.dt (.lit (.int k x)))) (.one (.dt (.lit (.int k' y)))) = (.one (.dt (.lit (.int k (shr k x y))))) := rfl
theorem o_eql : binO tb .eql (.one (.dt (.lit (.int k x)))) (.one (.dt (.lit (.int k' y)))) = (k = k') := rfl
theorem o_neq : binO tb .neq (.one (.dt (.lit (.int k x)))) (.one (.dt (.lit (.int k' y)))) = (k = k') := rfl
theorem v_eql : binV .eql (.one (.dt (.lit (.int k x)))) (.one (.dt (.lit (.int k' y)))) = (.one (.dt (.lit (.bool (decide (x = y)))))) := by
  show litV (.bool (x == y)) = _
  by_cases h : x = y <;> simp [h, litV]
theorem v_neq : binV .neq (.one (.dt (.lit (.int k x)))) (.one (.dt (.lit (.int k' y)))) = (.one (.dt (.lit (.bool (decide (¬ x = y)))))) := by
  show litV (.bool (x != y)) = _
  by_cases h : x = y <;> simp [h, litV]
theorem o_lss : binO tb .lss (.one (.dt (.lit (.int k x)))) (.one (.dt (.lit (.int k' y)))) = (k = k') := rfl
theorem v_lss : binV .lss (.one (.dt (.lit (.int k x)))) (.one (.dt (.lit (.int k' y)))) = (.one (.dt (.lit (.bool (decide (x < y)))))) := rfl
theorem o_leq : binO tb .leq (.one (.dt (.lit (.int k x)))) (.one (.dt (.lit (.int k' y)))) = (k = k') := rfl
theorem v_leq : binV .leq (.one (.dt (.lit (.int k x)))) (.one (.dt (.lit (.int k' y)))) = (.one (.dt (.lit (.bool (decide (x ≤ y)))))) := rfl
theorem o_gtr : binO tb .gtr (.one (.dt (.lit (.int k x)))) (.one (.dt (.lit (.int k' y)))) = (k = k') := rfl
theorem v_gtr : binV .gtr (.one (.dt (.lit (.int k x)))) (.one (.dt (.lit (.int k' y)))) = (.one (.dt (.lit (.bool (decide (y < x)))))) := rfl
theorem o_geq : binO tb .geq (.one (.dt (.lit (.int k x)))) (.one (.dt (.lit (.int k' y)))) = (k = k') := rfl
theorem v_geq : binV .geq (.one (.dt (.lit (.int k x)))) (.one (.dt (.lit (.int k' y)))) = (.one (.dt (.lit (.bool (decide (y ≤ x)))))) := rfl
theorem o_eqlb : binO tb .eql (.one (.dt (.lit (.bool b)))) (.one (.dt (.lit (.bool b')))) = (tb = true) := rfl
theorem o_neqb : binO tb .neq (.one (.dt (.lit (.bool b)))) (.one (.dt (.lit (.bool b')))) = (tb = true) := rfl
theorem v_eqlb : binV .eql (.one (.dt (.lit (.bool b)))) (.one (.dt (.lit (.bool b')))) = (.one (.dt (.lit (.bool (b == b'))))) := rfl
theorem v_neqb : binV .neq (.one (.dt (.lit (.bool b)))) (.one (.dt (.lit (.bool b')))) = (.one (.dt (.lit (.bool (!(b == b')))))) := rfl
theorem o_pick : pickO (.one (.dt (.lit (.bool b)))) = True := rfl
theorem v_pick (u v : AV) : pickV (.one (.dt (.lit (.bool b)))) u v = if b = true then u else v := rfl
theorem o_not : unO .not (.one (.dt (.lit (.bool b)))) = True := rfl
theorem v_not {p : Prop} [Decidable p] : unV .not (.one (.dt (.lit (.bool (decide p))))) = (.one (.dt (.lit (.bool (decide (¬p)))))) := by
  show litV (.bool (!decide p)) = _
  by_cases h : p <;> simp [h, litV]
theorem v_nott : unV .not (.one (.dt (.lit (.bool true)))) = (.one (.dt (.lit (.bool false)))) := rfl
theorem v_notf : unV .not (.one (.dt (.lit (.bool false)))) = (.one (.dt (.lit (.bool true)))) := rfl
theorem o_neg : unO .neg (.one (.dt (.lit (.int k x)))) = True := rfl
theorem v_neg : unV .neg (.one (.dt (.lit (.int k x)))) = (.one (.dt (.lit (.int k (k.wrap (0 - x)))))) := rfl
theorem o_cv : cvO (some k') (.one (.dt (.lit (.int k x)))) = True := rfl
theorem v_cv : cvV (some k') (.one (.dt (.lit (.int k x)))) = (.one (.dt (.lit (.int k' (k'.wrap x))))) := rfl
theorem as_b : asB (.one (.dt (.lit (.bool b)))) = some b := rfl
theorem cl_one (c : Ce) : cellsOf (.one c) = some [c] := rfl
theorem cl_agg (cs : List Ce) : cellsOf (.agg cs) = some cs := rfl
theorem ld_of (sz : Nat) (c : Ce) (cs : List Ce) : ldO false sz (some (c :: cs)) = True := by simp [ldO]
theorem ld_ot (sz : Nat) (cs : List Ce) : ldO true sz (some cs) = (sz ≤ cs.length) := rfl
theorem ld_vf (sz : Nat) (c : Ce) (cs : List Ce) : ldV false sz (some (c :: cs)) = .one c := rfl
theorem ld_vt (sz : Nat) (cs : List Ce) : ldV true sz (some cs) = .agg (cs.take sz) := rfl
theorem ac_ptr (y : Nat × Nat) (off : Nat) : acells s (.ptr y off) = (match s.v y with | some cs => some (cs.drop off) | none => none) := rfl
theorem ac_el (ds : List Dt) : acells s (.el ds) = some (ds.map .dt) := rfl
theorem ac_rel (r : Nat × Nat) (ver j : Nat) : acells s (.rel r ver j) = (match s.r r with | some row => if row.ver = ver then some ((row.cells.drop j).map .dt) else none | none => none) := rfl
theorem fo_ptr (o : Nat) (y : Nat × Nat) (off : Nat) : fldO s (some o) (.ptr y off) = True := rfl
theorem fo_el (o : Nat) (ds : List Dt) : fldO s (some o) (.el ds) = (o ≤ ds.length) := rfl
theorem fv_ptr (o : Nat) (y : Nat × Nat) (off : Nat) : fldV (some o) (.ptr y off) = .ptr y (off + o) := rfl
theorem fv_el (o : Nat) (ds : List Dt) : fldV (some o) (.el ds) = .el (ds.drop o) := rfl
theorem io_row (sz : Nat) (r : Nat × Nat) (ver : Nat) : idxO s sz (.one (.row r ver)) (.one (.dt (.lit (.int k x)))) = (match s.r r with | some row => row.ver = ver ∧ 0 ≤ x ∧ x < row.n | none => False) := rfl
theorem iv_row (sz : Nat) (r : Nat × Nat) (ver : Nat) : idxV sz (.one (.row r ver)) (.one (.dt (.lit (.int k x)))) = .rel r ver (x.toNat * sz) := rfl
theorem xo (rs : List RV) (j : Nat) : extO (.tup rs) j = (j < rs.length) := rfl
theorem xv (rs : List RV) (j : Nat) : extV (.tup rs) j = (match rs[j]? with | some r => r.toAV | none => .no) := rfl
theorem lo_z : lenO s (.one .z) = True := rfl
theorem lv_z : lenV s (.one .z) = (.one (.dt (.lit (.int .i64 0)))) := rfl
theorem lo_row (r : Nat × Nat) (ver : Nat) : lenO s (.one (.row r ver)) = (match s.r r with | some row => row.ver = ver | none => False) := rfl
theorem lv_row (r : Nat × Nat) (ver : Nat) : lenV s (.one (.row r ver)) = (match s.r r with | some row => (.one (.dt (.lit (.int .i64 row.n)))) | none => .no) := rfl
theorem mo : mxO (.one (.dt (.lit (.int k x)))) (.one (.dt (.lit (.int k' y)))) = (k = k') := rfl
theorem mv (f : Int → Int → Int) : mxV f (.one (.dt (.lit (.int k x)))) (.one (.dt (.lit (.int k' y)))) = (.one (.dt (.lit (.int k (f x y))))) := rfl
theorem st_ptr (cs : List Ce) (y : Nat × Nat) (off : Nat) : stO s cs (.ptr y off) = (match s.v y with | some cs0 => s.f y = false ∧ off + cs.length ≤ cs0.length | none => False) := rfl
theorem ss_ptr (cs : List Ce) (y : Nat × Nat) (off : Nat) : stS s cs (.ptr y off) = (match s.v y with | some cs0 => s.setv y (cs0.take off ++ cs ++ cs0.drop (off + cs.length)) | none => s) := rfl
theorem st_rel (d : Dt) (r : Nat × Nat) (ver j : Nat) : stO s [.dt d] (.rel r ver j) = (match s.r r with | some row => row.ver = ver ∧ row.live = true ∧ [Ce.dt d].length = 1 ∧ j < row.n * row.sz | none => False) := by
  simp only [stO, ceDs, ceD]
  cases s.r r <;> rfl
theorem ss_rel (d : Dt) (r : Nat × Nat) (ver j : Nat) : stS s [.dt d] (.rel r ver j) = (match s.r r with | some row => s.setr r { row with cells := row.cells.set j d } | none => s) := by
  simp only [stS, ceDs, ceD]
  cases s.r r <;> rfl
theorem td_dt (d : Dt) : toD s (.dt d) = some d := rfl
theorem td_z : toD s .z = some (.sl 0 []) := rfl
theorem td_row (r : Nat × Nat) (ver : Nat) : toD s (.row r ver) = (match s.r r with | some row => if row.ver = ver ∧ row.live = false then some (.sl row.n row.cells) else none | none => none) := rfl
theorem tds_nil : toDs s [] = some [] := rfl
theorem tds_cons (c : Ce) (cs : List Ce) : toDs s (c :: cs) = (match toD s c, toDs s cs with | some d, some ds => some (d :: ds) | _, _ => none) := rfl
theorem tr_one (c : Ce) : toRV s (.one c) = (toD s c).map .one := rfl
theorem tr_agg (cs : List Ce) : toRV s (.agg cs) = (toDs s cs).map .agg := rfl
theorem trs_nil : toRVs s [] = some [] := rfl
theorem trs_cons (u : AV) (us : List AV) : toRVs s (u :: us) = (match toRV s u, toRVs s us with | some r, some rs => some (r :: rs) | _, _ => none) := rfl
theorem ev_nil' : evs s [] = [] := rfl
theorem ev_cons (u : Operand) (us : List Operand) : evs s (u :: us) = s.ev u :: evs s us := rfl
theorem pr_nil : pairs s [] = [] := rfl
theorem pr_cons (i : Nat) (u : Operand) (us : List (Nat × Operand)) : pairs s ((i, u) :: us) = (i, s.ev u) :: pairs s us := rfl
theorem fl_nil (pl : Nat → Option (Nat × Nat)) (cells : List Ce) : fillA pl cells [] = some cells := rfl
theorem fl_cons (pl : Nat → Option (Nat × Nat)) (cells : List Ce) (i : Nat) (u : AV) (us : List (Nat × AV)) : fillA pl cells ((i, u) :: us) = (match pl i, cellsOf u with | some (off, size), some cs => if cs.length = size ∧ off + size ≤ cells.length then fillA pl (cells.take off ++ cs ++ cells.drop (off + size)) us else none | _, _ => none) := rfl
theorem cast0 : ((0 : Nat) : Int) = 0 := rfl
theorem ap_o (e : TypeId) (sz bytes m ver : Nat) (cells : List Dt) (r : Nat × Nat) : appO s e sz bytes (some (m, cells)) (.one (.row r ver)) = (match s.r r with | some row => row.ver = ver ∧ row.live = true ∧ row.e = e ∧ row.sz = sz ∧ cells.length = m * sz ∧ row.n + m ≤ 9223372036854775807 ∧ (row.n + m) * bytes ≤ 140737488355328 | none => False) := by
  simp only [appO]
  cases s.r r <;> rfl
theorem ap_s (d : Nat) (e : TypeId) (sz m ver : Nat) (cells : List Dt) (r : Nat × Nat) : appS s d e sz (some (m, cells)) (.one (.row r ver)) = (match s.r r with | some row => (s.setr r { row with n := row.n + m, cells := row.cells ++ cells, ver := ver + 1 }).set d (.one (.row r (ver + 1))) | none => s) := by
  simp only [appS]
  cases s.r r <;> rfl
theorem tn_p (i : Nat) : ((i : Int) + 1).toNat = i + 1 := by omega
theorem tn_m (i : Nat) : ((i : Int) - 1).toNat = i - 1 := by omega
theorem tn_a (i j : Nat) : ((i : Int) + (j : Int)).toNat = i + j := by omega
theorem castS (i : Nat) : ((i + 1 : Nat) : Int) = (i : Int) + 1 := rfl
theorem rs_nil (P : Program) : resRs P s [] [] = True := rfl
theorem rs_cons (P : Program) (u : ResultVar) (us : List ResultVar) (r : RV) (rs : List RV) : resRs P s (u :: us) (r :: rs) = (resR P s u r ∧ resRs P s us rs) := rfl
theorem rr_tmp (P : Program) (t : Nat) (r : RV) : resR P s (.tmp t) r = (toRV s (s.t t) = some r) := rfl
theorem rr_cell (P : Program) (t : Nat) (T : TypeId) (r : RV) : resR P s (.cell t T) r = (tok P T = true ∧ ldO (tagg P T) (tsz P T) (acells s (s.t t)) ∧ toRV s (ldV (tagg P T) (tsz P T) (acells s (s.t t))) = some r) := rfl
theorem f_ret (P : Program) (res : List ResultVar) (rs : List RV) (h : resRs P s res rs) : fend P res rs .ret s := ⟨[], h⟩
theorem f_retg (P : Program) (res : List ResultVar) (rs : List RV) (gs : List Gh) (h : ghs gs (fun s => resRs P s res rs) s) : fend P res rs .ret s := ⟨gs, h⟩
theorem f_nrm (P : Program) (res : List ResultVar) (rs : List RV) (h : resRs P s res rs) : fend P res rs .normal s := ⟨[], h⟩
theorem gh_frz (t : Nat) : ghE (.frz t) s = (match s.t t with | .one (.row r _) => s.freeze r | _ => s) := rfl
theorem gh_frzc (t i : Nat) : ghE (.frzc t i) s = (match s.t t with | .ptr x _ => (match s.v x with | some cs => frzC s cs[i]? | none => s) | _ => s) := rfl
theorem gh_frzv (t : Nat) : ghE (.frzv t) s = (match s.t t with | .ptr x _ => (match s.v x with | some _ => s.freezev x | none => s) | _ => s) := rfl
theorem gh_nilt (t : Nat) (e : TypeId) (sz : Nat) : ghE (.nilt t e sz) s = ((s.setr (t, s.g t) ⟨e, sz, 0, [], 0, true⟩).bump t).set t (.one (.row (t, s.g t) 0)) := rfl
theorem frzC_row (r : Nat × Nat) (v : Nat) : frzC s (some (.row r v)) = s.freeze r := rfl
theorem frzC_z : frzC s (some .z) = s := rfl
theorem frzC_dt (d : Dt) : frzC s (some (.dt d)) = s := rfl
theorem go_frz (t : Nat) : ghO (.frz t) s = True := rfl
theorem go_frzc (t i : Nat) : ghO (.frzc t i) s = True := rfl
theorem go_frzv (t : Nat) : ghO (.frzv t) s = True := rfl
theorem go_nilt (t : Nat) (e : TypeId) (sz : Nat) : ghO (.nilt t e sz) s = (match s.t t with | .one .z => True | _ => False) := rfl
end

/-! ### numbers -/
theorem wi64 {n : Int} (h : -9223372036854775808 ≤ n) (h' : n < 9223372036854775808) : IntKind.i64.wrap n = n := by rw [IntKind.wrap_i64]; omega
theorem wu64 {n : Int} (h : 0 ≤ n) (h' : n < 18446744073709551616) : IntKind.u64.wrap n = n := by rw [IntKind.wrap_u64]; omega
theorem and_m32 {n : Int} (h : 0 ≤ n) (h' : n < 18446744073709551616) : bits .and .u64 n 4294967295 = n % 4294967296 := by
  have := bits_mask .u64 64 (by decide) (fun n h1 h2 => wu64 h1 (by simpa using h2)) 32 (by decide) n h (by simpa using h')
  simpa using this
theorem shr_32 (n : Int) : shr .u64 n 32 = n / 4294967296 := by
  unfold shr
  rw [show (2 : Int) ^ (min (Int.toNat 32) IntKind.u64.bits) = 4294967296 from rfl, Int.fdiv_eq_ediv_of_nonneg _ (by decide)]
theorem shl_32 {n : Int} (h : 0 ≤ n) (h' : n < 4294967296) : shl .u64 n 32 = n * 4294967296 := by
  unfold shl
  rw [show (2 : Int) ^ (min (Int.toNat 32) IntKind.u64.bits) = 4294967296 from rfl, wu64 (by omega) (by omega)]
theorem wu32 {n : Int} (h : 0 ≤ n) (h' : n < 4294967296) : IntKind.u32.wrap n = n := by rw [IntKind.wrap_u32]; omega

/-! ### rows of data -/
section
variable {α : Type}
/-- a row of things, each of which is some cells -/
def rowC (f : α → List Dt) (l : List α) : List Dt := l.flatMap f
def rowD (f : α → List Dt) (l : List α) : Dt := .sl l.length (rowC f l)
variable {f : α → List Dt} {sz : Nat}
theorem rowC_len (hf : ∀ x, (f x).length = sz) (l : List α) : (rowC f l).length = l.length * sz := by
  unfold rowC
  induction l with
  | nil => simp
  | cons x l ih => simp [ih, hf, Nat.add_mul]; omega
theorem rowC_drop (hf : ∀ x, (f x).length = sz) (l : List α) (i : Nat) : (rowC f l).drop (i * sz) = rowC f (l.drop i) := by
  unfold rowC
  induction l generalizing i with
  | nil => simp
  | cons x l ih =>
    cases i with
    | zero => simp
    | succ i =>
      have e : (i + 1) * sz = sz + i * sz := by rw [Nat.add_mul]; omega
      rw [List.flatMap_cons, e, ← hf x, List.drop_append, hf x]
      simp [ih, hf]
theorem rowC_take (hf : ∀ x, (f x).length = sz) (l : List α) (i : Nat) : (rowC f l).take (i * sz) = rowC f (l.take i) := by
  unfold rowC
  induction l generalizing i with
  | nil => simp
  | cons x l ih =>
    cases i with
    | zero => simp
    | succ i =>
      have e : (i + 1) * sz = (f x).length + i * sz := by rw [Nat.add_mul, hf]; omega
      rw [List.flatMap_cons, e, List.take_append, List.take_succ_cons, List.flatMap_cons]
      have : (f x).take ((f x).length + i * sz) = f x := List.take_of_length_le (by omega)
      rw [this, Nat.add_sub_cancel_left, ih]
theorem rowC_at (hf : ∀ x, (f x).length = sz) (l : List α) (d0 : α) (i : Nat) (h : i < l.length) : ((rowC f l).drop (i * sz)).take sz = f (l.getD i d0) := by
  rw [rowC_drop hf]
  have hd : l.drop i = l[i] :: l.drop (i + 1) := List.drop_eq_getElem_cons h
  rw [hd]
  unfold rowC
  rw [List.flatMap_cons, List.take_append]
  have : (f l[i]).take sz = f l[i] := List.take_of_length_le (by rw [hf]; omega)
  rw [this, hf, Nat.sub_self, List.take_zero, List.append_nil]
  simp [List.getD_eq_getElem?_getD, h]
theorem io_rowD {s : AS} {k : IntKind} {x : Int} (hf : ∀ x, (f x).length = sz) (hz : 0 < sz) (l : List α) : idxO s sz (.one (.dt (rowD f l))) (.one (.dt (.lit (.int k x)))) = (0 ≤ x ∧ x < l.length) := by
  show (0 ≤ x ∧ x < (l.length : Int) ∧ (rowC f l).length = l.length * sz ∧ 0 < sz) = _
  simp [rowC_len hf, hz]
theorem iv_rowD {k : IntKind} {x : Int} (hf : ∀ x, (f x).length = sz) (l : List α) (d0 : α) (h : 0 ≤ x) (h' : x < l.length) : idxV sz (.one (.dt (rowD f l))) (.one (.dt (.lit (.int k x)))) = .el (f (l.getD x.toNat d0)) := by
  show AV.el (((rowC f l).drop (x.toNat * sz)).take sz) = _
  rw [rowC_at hf l d0 _ (by omega)]
theorem lo_rowD {s : AS} (l : List α) : lenO s (.one (.dt (rowD f l))) = True := rfl
theorem lv_rowD {s : AS} (l : List α) : lenV s (.one (.dt (rowD f l))) = .one (.dt (.lit (.int .i64 l.length))) := rfl
theorem rowD_nil : (Dt.sl 0 [] : Dt) = rowD f [] := rfl
theorem rowD_of (l : List α) (n : Nat) (h : n = l.length) : Dt.sl n (rowC f l) = rowD f l := by rw [h]; rfl
theorem rowC_app (l m : List α) : rowC f l ++ rowC f m = rowC f (l ++ m) := by unfold rowC; simp
/-- cuts of rows -/
def cutP (a b c : Option Int) (q : Prop) (n : Nat) : Prop := match a, b, c with
  | some i, some j, some m => (0 ≤ i ∧ i ≤ j ∧ j ≤ m ∧ m ≤ n) ∧ q
  | _, _, _ => False
theorem cp_some {i j m : Int} {q : Prop} {n : Nat} (h : 0 ≤ i) (h1 : i ≤ j) (h2 : j ≤ m) (h3 : m ≤ n) : cutP (some i) (some j) (some m) q n = q := by simp [cutP, h, h1, h2, h3]
def cutW (a b : Option Int) (l : List α) (f : α → List Dt) : AV := match a, b with
  | some i, some j => .one (.dt (.sl (j.toNat - i.toNat) (((rowC f l).take (j.toNat)).drop (i.toNat))))
  | _, _ => .no
theorem cut_p {lo hi mx : Option AV} (hf : ∀ x, (f x).length = 1) (l : List α) : cutO 1 lo hi mx (.one (.dt (rowD f l))) = cutP (bnd lo 0) (bnd hi l.length) (bnd mx l.length) (mx.isSome = true → hi.isSome = true) l.length := by
  show (match bnd lo 0, bnd hi l.length, bnd mx l.length with
    | some i, some j, some m => 0 ≤ i ∧ i ≤ j ∧ j ≤ m ∧ m ≤ (l.length : Int) ∧ (rowC f l).length = l.length * 1 ∧ (mx.isSome = true → hi.isSome = true)
    | _, _, _ => False) = _
  unfold cutP
  cases bnd lo 0 <;> cases bnd hi l.length <;> cases bnd mx l.length <;> simp [rowC_len hf, and_assoc]
theorem cut_w {lo hi : Option AV} (_hf : ∀ x, (f x).length = 1) (l : List α) : cutV 1 lo hi (.one (.dt (rowD f l))) = cutW (bnd lo 0) (bnd hi l.length) l f := by
  show (match bnd lo 0, bnd hi l.length with
    | some i, some j => AV.one (.dt (.sl (j.toNat - i.toNat) (((rowC f l).take (j.toNat * 1)).drop (i.toNat * 1))))
    | _, _ => .no) = _
  unfold cutW
  cases bnd lo 0 <;> cases bnd hi l.length <;> simp
theorem cut_y (hf : ∀ x, (f x).length = 1) (l : List α) {i j : Int} (h : 0 ≤ i) (h1 : i ≤ j) (h2 : j ≤ l.length) : cutW (some i) (some j) l f = .one (.dt (rowD f ((l.take j.toNat).drop i.toNat))) := by
  unfold cutW
  have e1 := rowC_take hf l j.toNat
  have e2 := rowC_drop hf (l.take j.toNat) i.toNat
  rw [Nat.mul_one] at e1 e2
  simp only [e1, e2]
  rw [rowD_of _ _ (by simp; omega)]
theorem bnd_n (d : Int) : bnd none d = some d := rfl
theorem bnd_s (k : IntKind) (i d : Int) : bnd (some (.one (.dt (.lit (.int k i))))) d = some i := rfl
end

/-- machine words -/
def u32c (n : Int) : List Dt := [.lit (.int .u32 n)]
def i64c (n : Int) : List Dt := [.lit (.int .i64 n)]
theorem u32c_len (n : Int) : (u32c n).length = 1 := rfl
theorem i64c_len (n : Int) : (i64c n).length = 1 := rfl
/-- a row of limbs, as data -/
def natD (l : List Int) : Dt := rowD u32c l
def natC (l : List Int) : List Dt := rowC u32c l
def natc (l : List Int) : List Dt := [natD l]
theorem natc_len (l : List Int) : (natc l).length = 1 := rfl
def intsD (l : List Int) : Dt := rowD i64c l
def intsC (l : List Int) : List Dt := rowC i64c l
def natsD (l : List (List Int)) : Dt := rowD natc l
def natsC (l : List (List Int)) : List Dt := rowC natc l
section
variable {s : AS} {k : IntKind} {x : Int}

theorem io_natD (l : List (Int)) (h : 0 ≤ x) (h' : x < l.length) : idxO s 1 (.one (.dt (natD l))) (.one (.dt (.lit (.int k x)))) = True := by
  rw [show natD l = rowD u32c l from rfl, io_rowD u32c_len (by decide) l]; simp [h, h']
theorem co_natD {lo hi mx : Option AV} (l : List (Int)) : cutO 1 lo hi mx (.one (.dt (natD l))) = cutP (bnd lo 0) (bnd hi l.length) (bnd mx l.length) (mx.isSome = true → hi.isSome = true) l.length := cut_p u32c_len l
theorem cv_natD {lo hi : Option AV} (l : List (Int)) : cutV 1 lo hi (.one (.dt (natD l))) = cutW (bnd lo 0) (bnd hi l.length) l u32c := cut_w u32c_len l
theorem cw_natD {i j : Int} (l : List (Int)) (h : 0 ≤ i) (h1 : i ≤ j) (h2 : j ≤ l.length) : cutW (some i) (some j) l u32c = .one (.dt (natD ((l.take j.toNat).drop i.toNat))) := cut_y u32c_len l h h1 h2
theorem iv_natD (l : List (Int)) (h : 0 ≤ x) (h' : x < l.length) : idxV 1 (.one (.dt (natD l))) (.one (.dt (.lit (.int k x)))) = .el (u32c (l.getD x.toNat 0)) := iv_rowD u32c_len l 0 h h'
theorem lo_natD (l : List (Int)) : lenO s (.one (.dt (natD l))) = True := rfl
theorem lv_natD (l : List (Int)) : lenV s (.one (.dt (natD l))) = (.one (.dt (.lit (.int .i64 l.length)))) := rfl
theorem nil_natD : (Dt.sl 0 [] : Dt) = natD [] := rfl
theorem of_natD (l : List (Int)) (n : Nat) (h : n = l.length) : Dt.sl n (natC l) = natD l := rowD_of l n h
theorem len_natC (l : List (Int)) : (natC l).length = l.length := by rw [show natC l = rowC u32c l from rfl, rowC_len u32c_len]; omega
theorem app_natC (l m : List (Int)) : natC l ++ natC m = natC (l ++ m) := rowC_app l m
theorem src_natD (l : List (Int)) : srcD s (.one (.dt (natD l))) = some (l.length, natC l) := rfl
theorem io_intsD (l : List (Int)) (h : 0 ≤ x) (h' : x < l.length) : idxO s 1 (.one (.dt (intsD l))) (.one (.dt (.lit (.int k x)))) = True := by
  rw [show intsD l = rowD i64c l from rfl, io_rowD i64c_len (by decide) l]; simp [h, h']
theorem co_intsD {lo hi mx : Option AV} (l : List (Int)) : cutO 1 lo hi mx (.one (.dt (intsD l))) = cutP (bnd lo 0) (bnd hi l.length) (bnd mx l.length) (mx.isSome = true → hi.isSome = true) l.length := cut_p i64c_len l
theorem cv_intsD {lo hi : Option AV} (l : List (Int)) : cutV 1 lo hi (.one (.dt (intsD l))) = cutW (bnd lo 0) (bnd hi l.length) l i64c := cut_w i64c_len l
theorem cw_intsD {i j : Int} (l : List (Int)) (h : 0 ≤ i) (h1 : i ≤ j) (h2 : j ≤ l.length) : cutW (some i) (some j) l i64c = .one (.dt (intsD ((l.take j.toNat).drop i.toNat))) := cut_y i64c_len l h h1 h2
theorem iv_intsD (l : List (Int)) (h : 0 ≤ x) (h' : x < l.length) : idxV 1 (.one (.dt (intsD l))) (.one (.dt (.lit (.int k x)))) = .el (i64c (l.getD x.toNat 0)) := iv_rowD i64c_len l 0 h h'
theorem lo_intsD (l : List (Int)) : lenO s (.one (.dt (intsD l))) = True := rfl
theorem lv_intsD (l : List (Int)) : lenV s (.one (.dt (intsD l))) = (.one (.dt (.lit (.int .i64 l.length)))) := rfl
theorem nil_intsD : (Dt.sl 0 [] : Dt) = intsD [] := rfl
theorem of_intsD (l : List (Int)) (n : Nat) (h : n = l.length) : Dt.sl n (intsC l) = intsD l := rowD_of l n h
theorem len_intsC (l : List (Int)) : (intsC l).length = l.length := by rw [show intsC l = rowC i64c l from rfl, rowC_len i64c_len]; omega
theorem app_intsC (l m : List (Int)) : intsC l ++ intsC m = intsC (l ++ m) := rowC_app l m
theorem src_intsD (l : List (Int)) : srcD s (.one (.dt (intsD l))) = some (l.length, intsC l) := rfl
theorem io_natsD (l : List (List Int)) (h : 0 ≤ x) (h' : x < l.length) : idxO s 1 (.one (.dt (natsD l))) (.one (.dt (.lit (.int k x)))) = True := by
  rw [show natsD l = rowD natc l from rfl, io_rowD natc_len (by decide) l]; simp [h, h']
theorem co_natsD {lo hi mx : Option AV} (l : List (List Int)) : cutO 1 lo hi mx (.one (.dt (natsD l))) = cutP (bnd lo 0) (bnd hi l.length) (bnd mx l.length) (mx.isSome = true → hi.isSome = true) l.length := cut_p natc_len l
theorem cv_natsD {lo hi : Option AV} (l : List (List Int)) : cutV 1 lo hi (.one (.dt (natsD l))) = cutW (bnd lo 0) (bnd hi l.length) l natc := cut_w natc_len l
theorem cw_natsD {i j : Int} (l : List (List Int)) (h : 0 ≤ i) (h1 : i ≤ j) (h2 : j ≤ l.length) : cutW (some i) (some j) l natc = .one (.dt (natsD ((l.take j.toNat).drop i.toNat))) := cut_y natc_len l h h1 h2
theorem iv_natsD (l : List (List Int)) (h : 0 ≤ x) (h' : x < l.length) : idxV 1 (.one (.dt (natsD l))) (.one (.dt (.lit (.int k x)))) = .el (natc (l.getD x.toNat [])) := iv_rowD natc_len l [] h h'
theorem lo_natsD (l : List (List Int)) : lenO s (.one (.dt (natsD l))) = True := rfl
theorem lv_natsD (l : List (List Int)) : lenV s (.one (.dt (natsD l))) = (.one (.dt (.lit (.int .i64 l.length)))) := rfl
theorem nil_natsD : (Dt.sl 0 [] : Dt) = natsD [] := rfl
theorem of_natsD (l : List (List Int)) (n : Nat) (h : n = l.length) : Dt.sl n (natsC l) = natsD l := rowD_of l n h
theorem len_natsC (l : List (List Int)) : (natsC l).length = l.length := by rw [show natsC l = rowC natc l from rfl, rowC_len natc_len]; omega
theorem app_natsC (l m : List (List Int)) : natsC l ++ natsC m = natsC (l ++ m) := rowC_app l m
theorem src_natsD (l : List (List Int)) : srcD s (.one (.dt (natsD l))) = some (l.length, natsC l) := rfl

theorem ac_u32 (n : Int) : acells s (.el (u32c n)) = some [.dt (.lit (.int .u32 n))] := rfl
theorem ac_i64 (n : Int) : acells s (.el (i64c n)) = some [.dt (.lit (.int .i64 n))] := rfl
theorem ac_nat (l : List Int) : acells s (.el (natc l)) = some [.dt (natD l)] := rfl
end
theorem natC_map (l : List Int) : natC l = l.map fun n => .lit (.int .u32 n) := by
  unfold natC rowC u32c
  induction l with
  | nil => rfl
  | cons x l ih => simp only [List.flatMap_cons, ih]; rfl
theorem natC_set (l : List Int) (i : Nat) (x : Int) : (natC l).set i (.lit (.int .u32 x)) = natC (l.set i x) := by simp only [natC_map, List.map_set]
theorem natC_copy (a b : List Int) (i : Nat) : (natC a).take i ++ (natC b).drop i = natC (a.take i ++ b.drop i) := by simp only [natC_map, List.map_append, List.map_take, List.map_drop]
theorem natC_get (l : List Int) (i : Nat) (h : i < l.length) : ((natC l).drop i).map Ce.dt = .dt (.lit (.int .u32 (l.getD i 0))) :: ((natC l).drop (i + 1)).map Ce.dt := by
  simp only [natC_map, ← List.map_drop]
  rw [List.drop_eq_getElem_cons h, List.map_cons, List.map_cons]
  simp [List.getD_eq_getElem?_getD, h]
theorem lo_rel (sz : Nat) (l : List Int) (i : Nat) (h : i < l.length) : ldO false sz (some (((natC l).drop i).map Ce.dt)) = True := by rw [natC_get l i h]; simp [ldO]
theorem lv_rel (sz : Nat) (l : List Int) (i : Nat) (h : i < l.length) : ldV false sz (some (((natC l).drop i).map Ce.dt)) = .one (.dt (.lit (.int .u32 (l.getD i 0)))) := by rw [natC_get l i h]; rfl
theorem mk_o {b : Nat} {z : Dt} {n : Int} (h : 0 ≤ n) (h' : (b : Int) * n ≤ 281474976710656) (h2 : n ≤ 9223372036854775807) : mkO b (some [.dt z]) (.one (.dt (.lit (.int .i64 n)))) (.one (.dt (.lit (.int .i64 n)))) = True := by
  simp [mkO, h, h', h2, ceDs, ceD]
theorem mk_s {s : AS} {k : IntKind} (d : Nat) (e : TypeId) (n : Int) : mkS s d e (some [.dt (.lit (.int .u32 0))]) (.one (.dt (.lit (.int k n)))) = ((s.setr (d, s.g d) ⟨e, 1, n.toNat, natC (List.replicate n.toNat 0), 0, true⟩).bump d).set d (.one (.row (d, s.g d) 0)) := by
  simp [mkS, ceDs, ceD, natC_map]
theorem cp_o {s : AS} (m ver : Nat) (cells : List Dt) (r : Nat × Nat) : cpO s (some (m, cells)) (.one (.row r ver)) = (match s.r r with | some row => row.ver = ver ∧ row.live = true ∧ row.sz = 1 ∧ cells.length = m | none => False) := by
  simp only [cpO]
  cases s.r r <;> rfl
theorem cp_s {s : AS} (d : Option Nat) (m ver : Nat) (cells : List Dt) (r : Nat × Nat) : cpS s d (some (m, cells)) (.one (.row r ver)) = (match s.r r with | some row => (s.setr r { row with cells := cells.take (min m row.n) ++ row.cells.drop (min m row.n) }).put d (litV (.int .i64 (min m row.n : Nat))) | none => s) := by
  simp only [cpS]
  cases s.r r <;> rfl
theorem natC_rep (n : Nat) : List.replicate n (Dt.lit (.int .u32 0)) = natC (List.replicate n 0) := by simp only [natC_map, List.map_replicate]
theorem natC_drop (l : List Int) (i : Nat) (h : i < l.length) : (natC l).drop i = .lit (.int .u32 (l.getD i 0)) :: natC (l.drop (i + 1)) := by
  simp only [natC_map, ← List.map_drop]
  rw [List.drop_eq_getElem_cons h, List.map_cons]
  simp [List.getD_eq_getElem?_getD, h]
theorem intsC_map (l : List Int) : intsC l = l.map fun n => .lit (.int .i64 n) := by
  unfold intsC rowC i64c
  induction l with
  | nil => rfl
  | cons x l ih => simp only [List.flatMap_cons, ih]; rfl
theorem natC_app1 (l : List Int) (x : Int) : natC l ++ [.lit (.int .u32 x)] = natC (l ++ [x]) := by unfold natC rowC u32c; simp
theorem intsC_app1 (l : List Int) (x : Int) : intsC l ++ [.lit (.int .i64 x)] = intsC (l ++ [x]) := by unfold intsC rowC i64c; simp
theorem natsC_app1 (l : List (List Int)) (x : List Int) : natsC l ++ [natD x] = natsC (l ++ [x]) := by unfold natsC rowC natc; simp
theorem natC_nil : natC [] = [] := rfl
theorem intsC_nil : intsC [] = [] := rfl
theorem natsC_nil : natsC [] = [] := rfl
theorem natsC_map (l : List (List Int)) : natsC l = l.map natD := by
  unfold natsC rowC natc
  induction l with
  | nil => rfl
  | cons x l ih => simp only [List.flatMap_cons, ih]; rfl

def W := And.intro @ev_t (And.intro @ev_int (And.intro @ev_bool (And.intro @ev_str (And.intro @ev_nil (And.intro @set_t (And.intro @set_v (And.intro @set_r (And.intro @set_g (And.intro @set_f (And.intro @setv_t (And.intro @setv_v (And.intro @setv_r (And.intro @setv_g (And.intro @setv_f (And.intro @setr_t (And.intro @setr_v (And.intro @setr_r (And.intro @setr_g (And.intro @setr_f (And.intro @bump_t (And.intro @bump_v (And.intro @bump_r (And.intro @bump_g (And.intro @bump_f (And.intro @frz_t (And.intro @frz_v (And.intro @frz_r (And.intro @frz_g (And.intro @frz_f (And.intro @frzv_t (And.intro @frzv_v (And.intro @frzv_r (And.intro @frzv_g (And.intro @frzv_f (And.intro @put_some (And.intro @put_none (And.intro @start_t0 (And.intro @start_t1 (And.intro @start_t2 (And.intro @start_t3 (And.intro @start_t4 (And.intro @start_v (And.intro @start_r (And.intro @start_g (And.intro @start_f (And.intro @rv_one (And.intro @rv_agg (And.intro @res_one (And.intro @res_nil (And.intro @res_two (And.intro @w_skip (And.intro @w_reg (And.intro @w_gh (And.intro @w_seq (And.intro @w_block (And.intro @w_exit (And.intro @w_ret (And.intro @t_n (And.intro @t_e (And.intro @t_r (And.intro @b_n (And.intro @b_e (And.intro @b_r (And.intro @w_cnd (And.intro @c_t (And.intro @c_f (And.intro @g_nil (And.intro @g_cons (And.intro @a_nil (And.intro @a_move (And.intro @a_assign (And.intro @a_pick (And.intro @a_alloc (And.intro @a_box (And.intro @a_build (And.intro @a_bsl (And.intro @a_load (And.intro @a_store (And.intro @a_bin (And.intro @a_un (And.intro @a_conv (And.intro @a_make (And.intro @a_slice (And.intro @a_fld (And.intro @a_idx (And.intro @a_ext (And.intro @a_len (And.intro @a_max (And.intro @a_min (And.intro @a_append (And.intro @a_copy (And.intro @a_grd (And.intro @g_tt (And.intro @g_ff (And.intro @g_tf @g_ft)))))))))))))))))))))))))))))))))))))))))))))))))))))))))))))))))))))))))))))))))))))))))))))))
def V := And.intro @src_sl (And.intro @cd_nil (And.intro @cd_cons (And.intro @cd_dt (And.intro @cd_z (And.intro @bsl_some (And.intro @o_add (And.intro @v_add (And.intro @o_sub (And.intro @v_sub (And.intro @o_mul (And.intro @v_mul (And.intro @o_quo (And.intro @v_quo (And.intro @o_rem (And.intro @v_rem (And.intro @o_and (And.intro @v_and (And.intro @o_or (And.intro @v_or (And.intro @o_shl (And.intro @v_shl (And.intro @o_shr (And.intro @v_shr (And.intro @o_eql (And.intro @o_neq (And.intro @v_eql (And.intro @v_neq (And.intro @o_lss (And.intro @v_lss (And.intro @o_leq (And.intro @v_leq (And.intro @o_gtr (And.intro @v_gtr (And.intro @o_geq (And.intro @v_geq (And.intro @o_eqlb (And.intro @o_neqb (And.intro @v_eqlb (And.intro @v_neqb (And.intro @o_pick (And.intro @v_pick (And.intro @o_not (And.intro @v_not (And.intro @v_nott (And.intro @v_notf (And.intro @o_neg (And.intro @v_neg (And.intro @o_cv (And.intro @v_cv (And.intro @as_b (And.intro @cl_one (And.intro @cl_agg (And.intro @ld_of (And.intro @ld_ot (And.intro @ld_vf (And.intro @ld_vt (And.intro @ac_ptr (And.intro @ac_rel (And.intro @fo_ptr (And.intro @fo_el (And.intro @fv_ptr (And.intro @fv_el (And.intro @io_row (And.intro @iv_row (And.intro @xo (And.intro @xv (And.intro @lo_z (And.intro @lv_z (And.intro @lo_row (And.intro @lv_row (And.intro @mo (And.intro @mv (And.intro @st_ptr (And.intro @ss_ptr (And.intro @st_rel (And.intro @ss_rel (And.intro @td_dt (And.intro @td_z (And.intro @td_row (And.intro @tds_nil (And.intro @tds_cons (And.intro @tr_one (And.intro @tr_agg (And.intro @trs_nil (And.intro @trs_cons (And.intro @ev_nil' (And.intro @ev_cons (And.intro @pr_nil (And.intro @pr_cons (And.intro @fl_nil (And.intro @fl_cons (And.intro @cast0 (And.intro @ap_o (And.intro @ap_s (And.intro @tn_p (And.intro @tn_m (And.intro @tn_a (And.intro @castS (And.intro @rs_nil (And.intro @rs_cons (And.intro @rr_tmp (And.intro @rr_cell (And.intro @gh_frz (And.intro @gh_frzc (And.intro @gh_frzv (And.intro @gh_nilt (And.intro @frzC_row (And.intro @frzC_z (And.intro @frzC_dt (And.intro @go_frz (And.intro @go_frzc (And.intro @go_frzv (And.intro @go_nilt (And.intro @wi64 (And.intro @wu64 (And.intro @and_m32 (And.intro @shr_32 (And.intro @shl_32 (And.intro @wu32 (And.intro @cp_some (And.intro @bnd_n (And.intro @bnd_s (And.intro @io_natD (And.intro @co_natD (And.intro @cv_natD (And.intro @cw_natD (And.intro @iv_natD (And.intro @lo_natD (And.intro @lv_natD (And.intro @of_natD (And.intro @len_natC (And.intro @src_natD (And.intro @io_intsD (And.intro @co_intsD (And.intro @cv_intsD (And.intro @cw_intsD (And.intro @iv_intsD (And.intro @lo_intsD (And.intro @lv_intsD (And.intro @of_intsD (And.intro @len_intsC (And.intro @src_intsD (And.intro @io_natsD (And.intro @co_natsD (And.intro @cv_natsD (And.intro @cw_natsD (And.intro @iv_natsD (And.intro @lo_natsD (And.intro @lv_natsD (And.intro @of_natsD (And.intro @len_natsC (And.intro @src_natsD (And.intro @ac_u32 (And.intro @ac_i64 (And.intro @ac_nat (And.intro @natC_set (And.intro @natC_copy (And.intro @lo_rel (And.intro @lv_rel (And.intro @mk_o (And.intro @mk_s (And.intro @cp_o (And.intro @cp_s (And.intro @natC_rep (And.intro @natC_app1 (And.intro @intsC_app1 (And.intro @natsC_app1 (And.intro @natC_nil (And.intro @intsC_nil @natsC_nil)))))))))))))))))))))))))))))))))))))))))))))))))))))))))))))))))))))))))))))))))))))))))))))))))))))))))))))))))))))))))))))))))))))))))))))))))))))))))))))))))))))))))
end Go.Proofs.Ythhaoojgfbofnaa.E
