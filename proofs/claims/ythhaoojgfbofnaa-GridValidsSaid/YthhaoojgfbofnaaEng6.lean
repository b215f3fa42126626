/- Loads, addresses, cuts, lengths: the machine does what the abstract state says; no condition. -/
import Derived.Test.YthhaoojgfbofnaaEng5
import Derived.Laws.Slices
set_option linter.unusedSimpArgs false
set_option linter.unusedVariables false
namespace Go.Proofs.Ythhaoojgfbofnaa.E
open Go.RowKit

section
variable {ok0 : Nat → Prop} {w0 w w' : World} {N : Nat} {vb : Nat × Nat → Nat} {rb : Nat × Nat → Value} {s s' : AS} {a : Act} {P : Program}

theorem run_isAgg {T : TypeId} (ht : tok P T = true) (w : World) : (isAgg T).run P w = .ok (tagg P T) w := by
  unfold tok at ht
  simp only [Bool.and_eq_true] at ht
  obtain ⟨d, hd⟩ := Option.isSome_iff_exists.mp ht.2
  unfold isAgg tagg
  rw [Sem.run_bind, run_underlying hd, hd]
  cases d <;> rfl
theorem run_sizeOf' {T : TypeId} (ht : tok P T = true) (w : World) : (sizeOf T).run P w = .ok (tsz P T) w := by
  unfold tok at ht
  simp only [Bool.and_eq_true] at ht
  obtain ⟨i, hi⟩ := Option.isSome_iff_exists.mp ht.1
  simp [sizeOf, typeInfo, tsz, hi]

theorem Sat.acells (h : Sat ok0 w0 N vb rb s a w) {av : AV} {u : Value} (hv : MV w (okS ok0 w0.heap.size vb rb s w) vb rb s av u) {cs : List Ce} (hc : acells s av = some cs) :
    ∃ (ad : Addr) (us : List Value), u = .pointer (some ad) ∧ Fits (MC w (okS ok0 w0.heap.size vb rb s w) rb s) cs us ∧ (∀ x ∈ us, x.oneCell' = true) ∧ ∀ (j : Nat) (x : Value), us[j]? = some x → w.cell? (ad.add j) = some x := by
  cases av with
  | ptr x off =>
    obtain ⟨cs0, hx, e⟩ := hv
    simp only [E.acells, hx] at hc
    cases hc
    obtain ⟨_, us, T, hh, hf, ho⟩ := h.var x cs0 hx
    refine ⟨_, us.toList.drop off, e, hf.drop off, fun y hy => ho y (List.mem_of_mem_drop hy), fun j y hy => ?_⟩
    rw [add_lit, cell_of_row w (vb x) (off + j) us T (0, 0) hh]
    rw [List.getElem?_drop] at hy
    simpa using hy
  | el ds =>
    obtain ⟨ad, us, e, hf, _, hcell⟩ := hv
    simp only [E.acells] at hc
    cases hc
    refine ⟨ad, us, e, ⟨by simp [hf.1], fun j u c hu hc => ?_⟩, fun y hy => ?_, hcell⟩
    · rw [List.getElem?_map] at hc
      cases hd : ds[j]? with
      | none => rw [hd] at hc; simp at hc
      | some d => rw [hd] at hc; simp at hc; subst hc; exact hf.2 j u d hu hd
    · obtain ⟨i, hi⟩ := List.getElem?_of_mem hy
      have hlt : i < ds.length := by rw [← hf.1]; exact (List.getElem?_eq_some_iff.1 hi).1
      exact (hf.2 i y _ hi (List.getElem?_eq_getElem hlt)).one
  | rel r ver j0 =>
    obtain ⟨row, hr, _, hu⟩ := hv
    simp only [E.acells, hr] at hc
    split at hc
    · rename_i ev
      cases hc
      obtain ⟨g, c, hrb, e⟩ := hu ev
      obtain ⟨us, ho, hf⟩ := h.row r row hr
      refine ⟨_, us.drop j0, e, ⟨by simp [hf.1], fun j u c hu hc => ?_⟩, fun y hy => ?_, fun j y hy => ?_⟩
      · rw [List.getElem?_map] at hc
        cases hd : (row.cells.drop j0)[j]? with
        | none => rw [hd] at hc; simp at hc
        | some d => rw [hd] at hc; simp at hc; subst hc; exact (hf.drop j0).2 j u d hu hd
      · obtain ⟨i, hi⟩ := List.getElem?_of_mem (List.mem_of_mem_drop hy)
        have hlt : i < row.cells.length := by rw [← hf.1]; exact (List.getElem?_eq_some_iff.1 hi).1
        exact (hf.2 i y _ hi (List.getElem?_eq_getElem hlt)).one
      · rw [List.getElem?_drop] at hy
        have := ho.cells (g := g) (by rw [hrb]; rfl) (j0 + j) y hy
        rw [add_lit] at this ⊢
        simpa using this
    · cases hc
  | _ => simp [E.acells] at hc

variable (h : Sat ok0 w0 N vb rb s a w) {o : Oper} (hd : ∀ d, o.dst = some d → d < N)
include h hd

theorem good_load (T : TypeId) (x : Operand) (ho : o.op = .load T x) (ht : tok P T = true) (hb : ldO (tagg P T) (tsz P T) (acells s (s.ev x))) : Good P ok0 w0 N o a w (s.put o.dst (ldV (tagg P T) (tsz P T) (acells s (s.ev x)))) := by
  cases hc : acells s (s.ev x) with
  | none => rw [hc] at hb; exact hb.elim
  | some cs =>
    rw [hc] at hb
    obtain ⟨ad, us, e, hf, h1, hcell⟩ := h.acells (h.ev x) hc
    by_cases hg : tagg P T = true
    · simp only [ldO, hg, if_true] at hb
      have hl : (us.take (tsz P T)).length = tsz P T := by rw [List.length_take, hf.1]; omega
      have hrun : (loadCells ad (tsz P T)).run P w = .ok (us.take (tsz P T)).toArray w := by
        have := run_loadCells_list (P := P) w ad (us.take (tsz P T)) (fun j v hv => by
          rw [List.getElem?_take] at hv
          split at hv
          · exact hcell j v hv
          · cases hv)
        rw [hl] at this
        exact this
      refine Good.value (v := .agg (us.take (tsz P T)).toArray) (w' := w) ?_ vb rb (h.put o.dst hd _ _ ?_)
      · simp [execOp, ho, e, Instr.loadAt, Instr.sureAddr, loadVar, run_isAgg ht, hg, run_sizeOf' ht, hrun]
      · simp only [ldV, hg, if_true]
        exact ⟨_, rfl, hf.take _, fun y hy => h1 y (List.mem_of_mem_take hy)⟩
    · have hg' : tagg P T = false := by cases hq : tagg P T <;> simp_all
      simp only [ldO, hg', Bool.false_eq_true, if_false] at hb
      cases cs with
      | nil => simp at hb
      | cons c cs =>
        obtain ⟨u, us', rfl, hcu, _⟩ := hf.uncons
        have h0 := hcell 0 u rfl
        rw [show ad.add 0 = ad by unfold Addr.add; simp] at h0
        refine Good.value (v := u) (w' := w) ?_ vb rb (h.put o.dst hd _ _ ?_)
        · simp [execOp, ho, e, Instr.loadAt, Instr.sureAddr, loadVar, run_isAgg ht, hg', h0]
        · simp only [ldV, hg', Bool.false_eq_true, if_false]
          exact ⟨hcu, h1 u (by simp)⟩

theorem good_fld (T : TypeId) (x : Operand) (f : Nat) (ho : o.op = .fieldAddr T x f) (hb : fldO s (foff P T f) (s.ev x)) : Good P ok0 w0 N o a w (s.put o.dst (fldV (foff P T f) (s.ev x))) := by
  have hx := h.ev x
  cases hf : foff P T f with
  | none => rw [hf] at hb; cases hv : s.ev x <;> rw [hv] at hb <;> exact hb.elim
  | some off =>
    rw [hf] at hb
    have hrun : ∀ ad : Addr, (Instr.fieldAt T (.pointer (some ad)) f).run P w = .ok (.pointer (some (ad.add off))) w := fun ad => by
      unfold foff at hf
      split at hf
      · rename_i fs hu
        split at hf
        · rename_i fd hfd
          split at hf
          · rename_i i hi
            split at hf
            · cases hf
            · rename_i hz
              cases hf
              have hsz : (sizeOf fd.type).run P w = .ok i.size w := by simp [sizeOf, typeInfo, hi]
              simp [Instr.fieldAt, run_underlying hu, hfd, Instr.sureAddr, fieldPlace, hsz, hz]
          · cases hf
        · cases hf
      · cases hf
    cases hv : s.ev x with
    | ptr y o1 =>
      rw [hv] at hx
      obtain ⟨cs, hy, e⟩ := hx
      refine Good.value (v := .pointer (some ((⟨vb y, o1, none⟩ : Addr).add off))) (w' := w) ?_ vb rb (h.put o.dst hd _ _ ?_)
      · simp [execOp, ho, e, hrun]
      · rw [add_lit]; exact ⟨cs, hy, rfl⟩
    | el ds =>
      rw [hv] at hx hb
      obtain ⟨ad, us, e, hf', hok, hcell⟩ := hx
      refine Good.value (v := .pointer (some (ad.add off))) (w' := w) ?_ vb rb (h.put o.dst hd _ _ ?_)
      · simp [execOp, ho, e, hrun]
      · refine ⟨_, us.drop off, rfl, hf'.drop off, fun hn => ?_, fun j y hy => ?_⟩
        · rw [block_of_add]; exact hok (fun e => hn (by rw [e]; simp))
        · rw [List.getElem?_drop] at hy
          rw [add_of_add]; exact hcell _ y hy
    | rel r ver j =>
      rw [hv] at hx hb
      obtain ⟨row, hr, hle, hu⟩ := hx
      simp only [fldO, hr] at hb
      obtain ⟨g, c, h1, e⟩ := hu hb
      refine Good.value (v := .pointer (some ((⟨g, j, none⟩ : Addr).add off))) (w' := w) ?_ vb rb (h.put o.dst hd _ _ ?_)
      · simp [execOp, ho, e, hrun]
      · rw [add_lit]; exact ⟨row, hr, hle, fun _ => ⟨g, c, h1, rfl⟩⟩
    | _ => rw [hv] at hb; exact hb.elim

theorem good_idx (T e : TypeId) (x i : Operand) (ho : o.op = .indexAddr T x i) (he : telem P T = some e) (ht : tok P e = true) (hb : idxO s (tsz P e) (s.ev x) (s.ev i)) : Good P ok0 w0 N o a w (s.put o.dst (idxV (tsz P e) (s.ev x) (s.ev i))) := by
  have hx := h.ev x
  have hi := h.ev i
  have hu : P.underlying T = some (.slice e) := by
    unfold telem at he
    split at he
    · cases he; assumption
    · cases he
  have hrun : ∀ (ad : Addr) (n c : Nat) (k : IntKind) (q : Int), 0 ≤ q → q < n → (Instr.indexAt T (.slice (some ad) n c) (.int k q)).run P w = .ok (.pointer (some (ad.add (q.toNat * tsz P e)))) w := fun ad n c k q h0 h1 => by
    simp [Instr.indexAt, asIntOf, run_underlying hu, h0, h1, run_sizeOf' ht]
  unfold idxO at hb
  split at hb
  · rename_i n cells k q e1 e2
    rw [e1] at hx ⊢
    rw [e2] at hi ⊢
    have vi := lit_of hi
    obtain ⟨h0, h1, hl, hsz⟩ := hb
    obtain ⟨hx1, _⟩ := hx
    generalize hvx : a.eval x = vx at hx1
    cases hx1 with
    | sl A n c cells us hlu hc hcell hrep =>
      have hpos : 0 < us.length := by
        rw [hlu, hl]
        exact Nat.mul_pos (by omega) hsz
      obtain ⟨ad, rfl, hok, _⟩ := hcell 0 us[0] (List.getElem?_eq_getElem hpos)
      have hcell' : ∀ (j : Nat) (u : Value), us[j]? = some u → w.cell? (ad.add j) = some u := fun j u hu => by
        obtain ⟨ad', e', _, hc'⟩ := hcell j u hu
        cases e'; exact hc'
      refine Good.value (v := .pointer (some (ad.add (q.toNat * tsz P e)))) (w' := w) ?_ vb rb (h.put o.dst hd _ _ ?_)
      · simp [execOp, ho, hvx, vi, hrun ad n c k q h0 h1]
      · refine ⟨_, (us.drop (q.toNat * tsz P e)).take (tsz P e), rfl, ((Fits.drop ⟨hlu, hrep⟩ _).take _), fun _ => by rw [block_of_add]; exact hok, fun j u hu => ?_⟩
        rw [List.getElem?_take] at hu
        split at hu
        · rw [List.getElem?_drop] at hu
          rw [add_of_add]; exact hcell' _ u hu
        · cases hu
  · rename_i r ver k q e1 e2
    rw [e1] at hx ⊢
    rw [e2] at hi ⊢
    have vi := lit_of hi
    obtain ⟨⟨row, hr, hle, hrv⟩, _⟩ := hx
    rw [hr] at hb
    obtain ⟨hver, h0, h1⟩ := hb
    have hv := hrv hver
    obtain ⟨us, how, hf⟩ := h.row r row hr
    rcases how.2 with ⟨_, hn⟩ | ⟨g, cap, cur, hv2, _⟩
    · omega
    · refine Good.value (v := .pointer (some ((⟨g, 0, none⟩ : Addr).add (q.toNat * tsz P e)))) (w' := w) ?_ vb rb (h.put o.dst hd _ _ ?_)
      · simp [execOp, ho, hv, hv2, vi, hrun ⟨g, 0, none⟩ row.n cap k q h0 h1]
      · rw [add_lit]
        exact ⟨row, hr, hle, fun _ => ⟨g, cap, hv2, by simp⟩⟩
  · exact hb.elim

theorem good_arr (T e : TypeId) (n : Nat) (x i : Operand) (ho : o.op = .indexAddr T x i) (he : tarr P T = some (n, e)) (ht : tok P e = true) (hb : arrO n (s.ev x) (s.ev i)) : Good P ok0 w0 N o a w (s.put o.dst (arrV (tsz P e) (s.ev x) (s.ev i))) := by
  have hx := h.ev x
  have hi := h.ev i
  have hu : P.underlying T = some (.array n e) := by
    unfold tarr at he
    split at he
    · cases he; assumption
    · cases he
  unfold arrO at hb
  split at hb
  · rename_i y off k q e1 e2
    rw [e1] at hx ⊢
    rw [e2] at hi ⊢
    have vi := lit_of hi
    obtain ⟨cs, hy, ex⟩ := hx
    obtain ⟨h0, h1⟩ := hb
    refine Good.value (v := .pointer (some ((⟨vb y, off, none⟩ : Addr).add (q.toNat * tsz P e)))) (w' := w) ?_ vb rb (h.put o.dst hd _ _ ?_)
    · simp [execOp, ho, ex, vi, Instr.indexAt, asIntOf, run_underlying hu, Instr.sureAddr, h0, h1, run_sizeOf' ht]
    · rw [add_lit]; exact ⟨cs, hy, rfl⟩
  · exact hb.elim

theorem good_len (x : Operand) (T T' : TypeId) (ho : o.op = .call { callee := .builtin .len, args := #[x], argTypes := #[T] }) (he : (telem P T).isSome = true) (hb : lenO s (s.ev x)) : Good P ok0 w0 N o a w (s.put o.dst (lenV s (s.ev x))) := by
  have hx := h.ev x
  obtain ⟨e, he⟩ := Option.isSome_iff_exists.mp he
  have hu : P.underlying T = some (.slice e) := by
    unfold telem at he
    split at he
    · cases he; assumption
    · cases he
  have hrun : ∀ (A : Option Addr) (n c : Nat), a.eval x = .slice A n c → (execOp a.eval o).run P w = .ok (.value (.int .i64 n)) w := fun A n c hv => by
    simp [execOp, ho, resolve, invoke, builtin, hv, Builtin.len_, run_underlying hu, goInt]
  unfold lenO at hb
  split at hb
  · rename_i n cells e1
    rw [e1] at hx ⊢
    obtain ⟨hx1, _⟩ := hx
    generalize hvx : a.eval x = vx at hx1
    cases hx1 with
    | sl A n c cells us hlu hc hcell hrep =>
      exact Good.value (hrun A n c hvx) vb rb (h.put o.dst hd _ _ (lit_fits rfl))
  · rename_i e1
    rw [e1] at hx ⊢
    exact Good.value (hrun none 0 0 hx.1) vb rb (h.put o.dst hd _ _ (lit_fits rfl))
  · rename_i r ver e1
    rw [e1] at hx ⊢
    obtain ⟨⟨row, hr, hle, hrv⟩, _⟩ := hx
    rw [hr] at hb
    obtain ⟨us, how, hf⟩ := h.row r row hr
    simp only [lenV, hr]
    rcases how.2 with ⟨hv2, hn⟩ | ⟨g, cap, cur, hv2, _⟩
    · rw [hn]; exact Good.value (hrun none 0 0 ((hrv hb).trans hv2)) vb rb (h.put o.dst hd _ _ (lit_fits rfl))
    · exact Good.value (hrun _ _ _ ((hrv hb).trans hv2)) vb rb (h.put o.dst hd _ _ (lit_fits rfl))
  · exact hb.elim

theorem good_max (x y : Operand) (Ts : Array TypeId) (ho : o.op = .call { callee := .builtin .max, args := #[x, y], argTypes := Ts }) (hb : mxO (s.ev x) (s.ev y)) : Good P ok0 w0 N o a w (s.put o.dst (mxV (fun x y => if y > x then y else x) (s.ev x) (s.ev y))) := by
  have hx := h.ev x
  have hy := h.ev y
  unfold mxO at hb
  split at hb
  · rename_i k p k' q e1 e2
    rw [e1] at hx ⊢
    rw [e2] at hy ⊢
    have vx := lit_of hx
    have vy := lit_of hy
    refine Good.value (v := .int k (if q > p then q else p)) (w' := w) ?_ vb rb (h.put o.dst hd _ _ (lit_fits rfl))
    simp [execOp, ho, resolve, invoke, builtin, vx, vy, Builtin.max_, Builtin.max2]
  · exact hb.elim
theorem good_min (x y : Operand) (Ts : Array TypeId) (ho : o.op = .call { callee := .builtin .min, args := #[x, y], argTypes := Ts }) (hb : mxO (s.ev x) (s.ev y)) : Good P ok0 w0 N o a w (s.put o.dst (mxV (fun x y => if y < x then y else x) (s.ev x) (s.ev y))) := by
  have hx := h.ev x
  have hy := h.ev y
  unfold mxO at hb
  split at hb
  · rename_i k p k' q e1 e2
    rw [e1] at hx ⊢
    rw [e2] at hy ⊢
    have vx := lit_of hx
    have vy := lit_of hy
    refine Good.value (v := .int k (if q < p then q else p)) (w' := w) ?_ vb rb (h.put o.dst hd _ _ (lit_fits rfl))
    simp [execOp, ho, resolve, invoke, builtin, vx, vy, Builtin.min_, Builtin.min2]
  · exact hb.elim
end
end Go.Proofs.Ythhaoojgfbofnaa.E
