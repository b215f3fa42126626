/- Slice literals, stores, makes, appends, copies, calls: the machine does what the abstract state says; no condition. -/
import Derived.Test.YthhaoojgfbofnaaEng8
import Derived.Laws.IdiomCopy
set_option linter.unusedSimpArgs false
set_option linter.unusedVariables false
namespace Go.Proofs.Ythhaoojgfbofnaa.E
open Go.RowKit

section
variable {ok0 : Nat → Prop} {w0 w w' : World} {N : Nat} {vb : Nat × Nat → Nat} {rb : Nat × Nat → Value} {s s' : AS} {a : Act} {P : Program}

theorem below_alloc' (w : World) (o : Obj) : Below w.heap.size w (w.alloc o) := (Below.refl _ w).alloc (Nat.le_refl _) o

theorem telem_eq {T e : TypeId} (he : telem P T = some e) : P.underlying T = some (.slice e) := by
  unfold telem at he
  split at he
  · cases he; assumption
  · cases he
theorem tsz_eq {T : TypeId} {i : TypeInfo} (hi : P.info? T = some i) : i.size = tsz P T := by simp [tsz, hi]
theorem tbytes_eq {T : TypeId} {i : TypeInfo} (hi : P.info? T = some i) : i.bytes = tbytes P T := by simp [tbytes, hi]

theorem Sat.toD (h : Sat ok0 w0 N vb rb s a w) {c : Ce} {u : Value} {d : Dt} (hc : MC w (okS ok0 w0.heap.size vb rb s w) rb s c u) (hd : toD s c = some d) : Rep w (okS ok0 w0.heap.size vb rb s w) d u := by
  cases c with
  | dt d' => cases hd; exact hc
  | z => exact ceD_fits (c := .z) hc hd
  | row r ver =>
    obtain ⟨row, hr, hle, hu⟩ := hc
    simp only [E.toD, hr] at hd
    split at hd
    · rename_i hv
      cases hd
      rw [hu hv.1]
      exact h.frozen hr hv.2
    · cases hd
theorem Sat.toDs (h : Sat ok0 w0 N vb rb s a w) : ∀ {cs : List Ce} {us : List Value} {ds : List Dt}, Fits (MC w (okS ok0 w0.heap.size vb rb s w) rb s) cs us → toDs s cs = some ds → Fits (Rep w (okS ok0 w0.heap.size vb rb s w)) ds us
  | [], us, ds, hf, hd => by
    cases hd
    have : us = [] := List.eq_nil_of_length_eq_zero hf.1
    rw [this]; exact Fits.nil _
  | c :: cs, us, ds, hf, hd => by
    obtain ⟨u, us', rfl, hc, hf'⟩ := hf.uncons
    simp only [E.toDs] at hd
    split at hd
    · rename_i d ds' h1 h2
      cases hd
      exact Fits.cons (h.toD hc h1) (Sat.toDs h hf' h2)
    · cases hd
theorem Sat.toRV (h : Sat ok0 w0 N vb rb s a w) {x : AV} {u : Value} {r : RV} (hx : MV w (okS ok0 w0.heap.size vb rb s w) vb rb s x u) (hr : toRV s x = some r) : MR w (okS ok0 w0.heap.size vb rb s w) r u := by
  cases x with
  | one c =>
    simp only [E.toRV] at hr
    cases hd : E.toD s c with
    | none => rw [hd] at hr; cases hr
    | some d => rw [hd] at hr; cases hr; exact h.toD hx.1 hd
  | agg cs =>
    simp only [E.toRV] at hr
    cases hd : E.toDs s cs with
    | none => rw [hd] at hr; cases hr
    | some ds =>
      rw [hd] at hr; cases hr
      obtain ⟨us, e, hf, _⟩ := hx
      exact ⟨us, e, h.toDs hf hd⟩
  | _ => cases hr
theorem Sat.toRVs (h : Sat ok0 w0 N vb rb s a w) : ∀ {xs : List Operand} {rs : List RV}, toRVs s (evs s xs) = some rs → Fits (MR w (okS ok0 w0.heap.size vb rb s w)) rs (xs.map a.eval)
  | [], rs, hr => by cases hr; exact Fits.nil _
  | x :: xs, rs, hr => by
    simp only [evs, E.toRVs] at hr
    split at hr
    · rename_i r rs' h1 h2
      cases hr
      exact Fits.cons (h.toRV (h.ev x) h1) (Sat.toRVs h h2)
    · cases hr

theorem run_append_nil_src (base : Nat) (t ty e : TypeId) (i : TypeInfo) (size : Nat) (ht : P.underlying t = some (.slice e)) (hi : P.info? e = some i)
    (v : Value) (n : Nat) (xs : List Value) (hown : w.ownsRow base e size v n xs) (c : Nat) : (Builtin.append_ #[t, t] ty #[v, .slice none 0 c]).run P w = .ok v w := by
  rcases hown.2 with ⟨rfl, rfl⟩ | ⟨g, cap, cur, rfl, _, _, hnc, _⟩
  · simp [Builtin.append_, run_underlying ht, sizeOf, typeInfo, hi, Builtin.lenOf, Builtin.firstCells]
  · simp [Builtin.append_, run_underlying ht, sizeOf, typeInfo, hi, Builtin.lenOf, Builtin.firstCells, hnc, storeCells]

/-- append, whatever the source -/
theorem run_append_src (base : Nat) (t ty e : TypeId) (i : TypeInfo) (z : Value) (size bytes : Nat) (ht : P.underlying t = some (.slice e)) (hi : P.info? e = some i) (hz : i.zero = some z)
    (hsize : i.size = size) (hby : i.bytes = bytes) (hzs : z.cells.size = size) (hsz : 0 < size)
    (v : Value) (n : Nat) (xs : List Value) (hown : w.ownsRow base e size v n xs) {ok : Nat → Prop} {m : Nat} {cells : List Dt} {u : Value} (hr : Rep w ok (.sl m cells) u) (hl : cells.length = m * size)
    (h63 : n + m ≤ maxLen) (hbytes : (n + m) * bytes ≤ 140737488355328) (hbase : base ≤ w.heap.size) :
    ∃ v' w' us, (Builtin.append_ #[t, t] ty #[v, u]).run P w = .ok v' w' ∧ w'.ownsRow base e size v' (n + m) (xs ++ us) ∧ Fits (Rep w ok) cells us ∧ w.grownBy w' v.ownBlock ∧ (v'.ownBlock = v.ownBlock ∨ v'.ownBlock = some w.heap.size) := by
  cases hr with
  | sl A _ c _ us hlu hc hcell hrep =>
    cases A with
    | none =>
      have hm : us = [] := by
        cases us with
        | nil => rfl
        | cons u us => obtain ⟨_, e, _⟩ := hcell 0 u rfl; cases e
      subst hm
      have hm0 : m = 0 := by
        have : m * size = 0 := by rw [← hl, ← hlu]; rfl
        rcases Nat.mul_eq_zero.1 this with h0 | h0
        · exact h0
        · omega
      subst hm0
      exact ⟨v, w, [], run_append_nil_src base t ty e i size ht hi v n xs hown c, by simpa using hown, ⟨hlu, hrep⟩, ⟨rfl, rfl, rfl, Nat.le_refl _, fun _ _ _ => rfl⟩, .inl rfl⟩
    | some ad =>
      have hcell' : ∀ (j : Nat) (u : Value), us[j]? = some u → w.cell? (ad.add j) = some u := fun j u hu => by
        obtain ⟨ad', e', _, hc'⟩ := hcell j u hu
        cases e'; exact hc'
      have hone : ∀ u ∈ us, u.oneCell' = true := fun u hu => by
        obtain ⟨j, hj⟩ := List.getElem?_of_mem hu
        have hlt : j < cells.length := by rw [← hlu]; exact (List.getElem?_eq_some_iff.1 hj).1
        exact (hrep j u _ hj (List.getElem?_eq_getElem hlt)).one
      obtain ⟨v', w', h1, h2, h3, _, h5⟩ := run_append_own_at (P := P) w base t ty e i z size bytes ht hi hz hsize hby hzs hsz v n xs hown ad m c us (by rw [hlu, hl]) hcell' hone h63 hbytes hbase
      exact ⟨v', w', us, h1, h2, ⟨hlu, hrep⟩, h3, h5⟩

variable (h : Sat ok0 w0 N vb rb s a w) {o : Oper} (hd : ∀ d, o.dst = some d → d < N)
include h hd

theorem good_bsl (T e : TypeId) (n d : Nat) (parts : Array (Nat × Operand)) (ds : List Dt) (ho : o.op = .buildSlice T n parts) (hdst : o.dst = some d) (he : telem P T = some e) (ht : tok P e = true) (hn : n * tsz P e ≤ 16777216) (hn0 : 0 < tsz P e)
    (hzl : (zeros P e).map List.length = some (tsz P e)) (hb : bslC s (tsz P e) n (zeros P e) parts.toList = some ds) : Good P ok0 w0 N o a w (s.set d (.one (.dt (.sl n ds)))) := by
  cases hz : zeros P e with
  | none => rw [hz] at hzl; cases hzl
  | some cs =>
    rw [hz] at hzl hb
    simp only [Option.map_some, Option.some.injEq] at hzl
    obtain ⟨i, z, hi, hiz, hzc⟩ := zeros_run hz
    obtain ⟨hf, h1⟩ := zces_fits (w := w) (rb := rb) (s := s) (ok := okS ok0 w0.heap.size vb rb s w) hzc
    have hzs : z.cells.size = tsz P e := by have := hf.1; simp at this; omega
    have hflat := made_flat z.cells (tsz P e) hzs hn0 n
    have hrep : ∀ k, Fits (MC w (okS ok0 w0.heap.size vb rb s w) rb s) (List.replicate k cs).flatten (List.replicate k z.cells.toList).flatten ∧ ∀ u ∈ (List.replicate k z.cells.toList).flatten, u.oneCell' = true := fun k => by
      induction k with
      | zero => exact ⟨Fits.nil _, by simp⟩
      | succ k ih =>
        rw [List.replicate_succ, List.replicate_succ, List.flatten_cons, List.flatten_cons]
        refine ⟨hf.append ih.1, fun u hu => ?_⟩
        rcases List.mem_append.1 hu with hu | hu
        · exact h1 u hu
        · exact ih.2 u hu
    unfold bslC at hb
    split at hb
    · rename_i cs' ecs
      cases ecs
      split at hb
      · rename_i cells hfi
        obtain ⟨A', r1, r2, r3⟩ := h.fill _ parts.toList _ cells (madeCells z.cells (n * tsz P e)) (by rw [hflat]; exact (hrep n).1) (by rw [hflat]; exact (hrep n).2) hfi
        have hrun := run_bsl he ht n hn (parts.map fun p => (p.1, a.eval p.2)) z.cells (.inr ⟨i, z, hi, hiz, rfl⟩) A' (by rw [Array.toList_map]; exact r1) w
        have hfd := ceDs_fits r2 hb
        have hw := h.world (below_alloc' w (.cells A' e))
        have hset := hw.set d (hd d hdst) (.one (.dt (.sl n ds))) (.slice (some ⟨w.heap.size, 0, none⟩) n n) ⟨.sl _ n n ds A'.toList hfd.1 (Nat.le_refl _) (fun j u hu => ⟨_, rfl, h.fresh (Nat.le_refl _) (by simp), by
          rw [add_lit, cell_of_row _ w.heap.size _ A' e (0, 0) (heap_alloc_new w _)]
          simpa using hu⟩) (fun j u dd hu hdd => (hfd.2 j u dd hu hdd).mono fun k hk => ⟨okS_grow hk (by simp), heap_alloc_old w _ k hk.2.1⟩), rfl⟩
        rw [← hdst] at hset
        refine Good.value ?_ vb rb hset
        simp only [execOp, ho]
        rw [Sem.run_bind, hrun]
        rfl
      · cases hb
    · cases hb

theorem good_bsl0 (T e : TypeId) (d : Nat) (parts : Array (Nat × Operand)) (ho : o.op = .buildSlice T 0 parts) (hdst : o.dst = some d) (he : telem P T = some e) (ht : tok P e = true) (hp : parts.size = 0) :
    Good P ok0 w0 N o a w (((s.setr (d, s.g d) ⟨e, tsz P e, 0, [], 0, true⟩).bump d).set d (.one (.row (d, s.g d) 0))) := by
  have hp' : parts = #[] := Array.eq_empty_of_size_eq_zero hp
  subst hp'
  have hrun := run_bsl he ht 0 (by simp) #[] #[] (.inl ⟨by simp, rfl⟩) #[] (by simp [madeCells, Instr.fill]) w
  have hn := h.newrow d (World.grownBy_alloc w (.cells #[] e) none) ⟨e, tsz P e, 0, [], 0, true⟩ (.slice (some ⟨w.heap.size, 0, none⟩) 0 0) [] (by
    have := World.ownsRow_lit (base := w0.heap.size) (e := e) (size := tsz P e) w #[] 0 h.below.size (Nat.zero_le _) (by simp)
    simpa using this) (Fits.nil _) (.inr rfl)
  have hset := hn.set d (hd d hdst) (.one (.row (d, s.g d) 0)) (.slice (some ⟨w.heap.size, 0, none⟩) 0 0) ⟨⟨_, if_pos rfl, Nat.le_refl _, fun _ => by simp⟩, rfl⟩
  rw [← hdst] at hset
  refine Good.value ?_ _ _ hset
  simp only [execOp, ho]
  rw [Sem.run_bind]
  simp only [List.map_toArray, List.map_nil]
  rw [hrun]
  rfl

theorem good_make (T e : TypeId) (d : Nat) (l c : Operand) (ho : o.op = .makeSlice T l c) (hdst : o.dst = some d) (he : telem P T = some e) (hsz : tsz P e = 1) (hb : mkO (tbytes P e) (zeros P e) (s.ev l) (s.ev c)) : Good P ok0 w0 N o a w (mkS s d e (zeros P e) (s.ev l)) := by
  have hl := h.ev l
  have hc := h.ev c
  unfold mkO at hb
  split at hb
  · rename_i k n k' m e1 e2
    rw [e1] at hl ⊢
    rw [e2] at hc
    have vl := lit_of hl
    have vc := lit_of hc
    obtain ⟨hk, hnm, h0, h1, h2, hz⟩ := hb
    subst hnm
    split at hz
    · rename_i cs ez
      rw [ez]
      obtain ⟨hcd, hlen⟩ := hz
      obtain ⟨ds, hds⟩ := Option.isSome_iff_exists.mp hcd
      obtain ⟨i, z, hi, hiz, hzc⟩ := zeros_run ez
      obtain ⟨hf, hone⟩ := zces_fits (w := w) (rb := rb) (s := s) (ok := okS ok0 w0.heap.size vb rb s w) hzc
      have hfd := ceDs_fits hf hds
      have hdl : ds.length = 1 := by have := hfd.1; have := hf.1; omega
      match ds, hdl, hds, hfd with
      | [zd], _, hds, hfd =>
        have hzs : z.cells.size = 1 := by have := hf.1; simp at this; omega
        obtain ⟨q, rfl⟩ := Int.eq_ofNat_of_zero_le h0
        have hbz : i.bytes * q ≤ 281474976710656 := by
          rw [tbytes_eq hi]
          have : ((tbytes P e * q : Nat) : Int) ≤ 281474976710656 := by rw [Int.natCast_mul]; exact h2
          omega
        have hq63 : q ≤ maxLen := by unfold maxLen; omega
        obtain ⟨w', r1, r2, r3⟩ := run_make_full (P := P) w w0.heap.size T e i z 1 (telem_eq he) hi hiz (by rw [tsz_eq hi, hsz]) k k' q hbz hq63 h.below.size
        rw [made_flat z.cells 1 hzs (by omega) q] at r2
        obtain ⟨u, us', hu, hzu, hf0⟩ := hfd.uncons
        have hus' : us' = [] := List.eq_nil_of_length_eq_zero hf0.1
        have hb' : Below w.heap.size w w' := ⟨r3.os, r3.tape, r3.output, r3.size, fun i hi => r3.block i hi (by simp)⟩
        have hrow : ∀ k, Fits (Rep w' (okS ok0 w0.heap.size vb rb s w)) (List.replicate k zd) (List.replicate k z.cells.toList).flatten := fun k => by
          induction k with
          | zero => exact Fits.nil _
          | succ k ih =>
            rw [List.replicate_succ, List.replicate_succ, List.flatten_cons, hu, hus']
            rw [hu, hus'] at ih
            exact Fits.cons (hzu.mono fun k hk => ⟨hk, hb'.block k hk.2.1⟩) ih
        have hn := h.newrow d r3 ⟨e, 1, q, List.replicate q zd, 0, true⟩ (.slice (some ⟨w.heap.size, 0, none⟩) q q) _ r2 (hrow q) (.inr rfl)
        have hset := hn.set d (hd d hdst) (.one (.row (d, s.g d) 0)) (.slice (some ⟨w.heap.size, 0, none⟩) q q) ⟨⟨_, if_pos rfl, Nat.le_refl _, fun _ => by simp⟩, rfl⟩
        rw [← hdst] at hset
        simp only [mkS, hds]
        refine Good.value (v := .slice (some ⟨w.heap.size, 0, none⟩) q q) (w' := w') ?_ _ _ hset
        simp only [execOp, ho, vl, vc]
        rw [Sem.run_bind, r1]
        rfl
    · exact hz.elim
  · exact hb.elim

theorem good_append (T e : TypeId) (d : Nat) (x y : Operand) (ho : o.op = .call { callee := .builtin .append, args := #[x, y], argTypes := #[T, T] }) (hdst : o.dst = some d) (he : telem P T = some e) (hsz : 0 < tsz P e)
    (hzl : (tzero P e).map List.length = some (tsz P e)) (hb : appO s e (tsz P e) (tbytes P e) (srcD s (s.ev y)) (s.ev x)) : Good P ok0 w0 N o a w (appS s d e (tsz P e) (srcD s (s.ev y)) (s.ev x)) := by
  have hx := h.ev x
  have hy := h.ev y
  have hsrc : ∀ m cells, srcD s (s.ev y) = some (m, cells) → Rep w (okS ok0 w0.heap.size vb rb s w) (.sl m cells) (a.eval y) := fun m cells hs => by
    unfold srcD at hs
    split at hs
    · rename_i c ec
      rw [ec] at hy
      split at hs
      · rename_i n0 cells0 hd0
        cases hs
        exact h.toD hy.1 hd0
      · cases hs
    · cases hs
  obtain ⟨i, z, hi, hiz, hzs⟩ : ∃ i z, P.info? e = some i ∧ i.zero = some z ∧ z.cells.size = tsz P e := by
    unfold tzero at hzl
    split at hzl
    · rename_i i hi
      split at hzl
      · rename_i z hiz
        exact ⟨i, z, hi, hiz, by simpa using hzl⟩
      · cases hzl
    · cases hzl
  have hrun : ∀ (v' : Value) (w' : World), (Builtin.append_ #[T, T] o.type #[a.eval x, a.eval y]).run P w = .ok v' w' → (execOp a.eval o).run P w = .ok (.value v') w' := fun v' w' hr => by
    simp [execOp, ho, resolve, invoke, builtin, hr]
  unfold appO at hb
  split at hb
  · rename_i e1
    rw [e1] at hx ⊢
    have hv : a.eval x = .slice none 0 0 := hx.1
    split at hb
    · rename_i m cells es
      rw [es]
      obtain ⟨hl, h63, hbytes⟩ := hb
      obtain ⟨v', w', us, r1, r2, r3, r4, r5⟩ := run_append_src (P := P) w0.heap.size T o.type e i z (tsz P e) (tbytes P e) (telem_eq he) hi hiz (tsz_eq hi) (tbytes_eq hi) hzs hsz (.slice none 0 0) 0 [] (World.ownsRow_nil w _ _ _) (hsrc m cells es) hl (by omega) (by simpa using hbytes) h.below.size
      simp only [Nat.zero_add, List.nil_append] at r2
      have r4' : w.grownBy w' none := r4
      have hb' : Below w.heap.size w w' := ⟨r4'.os, r4'.tape, r4'.output, r4'.size, fun i hi => r4'.block i hi (by simp)⟩
      have hn := h.newrow d r4' ⟨e, tsz P e, m, cells, 0, true⟩ v' us r2 (r3.imp fun dd u hr => hr.mono fun k hk => ⟨hk, hb'.block k hk.2.1⟩) r5
      have hone : v'.oneCell' = true := by
        rcases r2.2 with ⟨hq, _⟩ | ⟨_, _, _, hq, _⟩ <;> rw [hq] <;> rfl
      have hset := hn.set d (hd d hdst) (.one (.row (d, s.g d) 0)) v' ⟨⟨_, if_pos rfl, Nat.le_refl _, fun _ => by simp⟩, hone⟩
      rw [← hdst] at hset
      rw [hv] at hrun
      exact Good.value (hrun v' w' r1) _ _ hset
    · exact hb.elim
  · rename_i r ver e1
    rw [e1] at hx ⊢
    obtain ⟨⟨row, hr, hle, hrv⟩, _⟩ := hx
    simp only [hr] at hb
    cases es : srcD s (s.ev y) with
    | none => rw [es] at hb; exact hb.elim
    | some mc =>
      obtain ⟨m, cells⟩ := mc
      rw [es] at hb
      obtain ⟨hver, hlive, hre, hrsz, hl, h63, hbytes⟩ := hb
      obtain ⟨us0, how, hf0⟩ := h.row r row hr
      rw [hre, hrsz] at how
      obtain ⟨v', w', us, r1, r2, r3, r4, r5⟩ := run_append_src (P := P) w0.heap.size T o.type e i z (tsz P e) (tbytes P e) (telem_eq he) hi hiz (tsz_eq hi) (tbytes_eq hi) hzs hsz (rb r) row.n us0 how (hsrc m cells es) hl h63 hbytes h.below.size
      have hs := h.rowset hr hlive r4 v' (row.n + m) (row.cells ++ cells) (ver + 1) (us0 ++ us) (by rw [hre, hrsz]; exact r2) (hf0.append r3) r5 (by omega) (fun e => by omega)
      have hone : v'.oneCell' = true := by
        rcases r2.2 with ⟨hq, _⟩ | ⟨_, _, _, hq, _⟩ <;> rw [hq] <;> rfl
      have hset := hs.set d (hd d hdst) (.one (.row r (ver + 1))) v' ⟨⟨_, if_pos rfl, Nat.le_refl _, fun _ => by simp⟩, hone⟩
      rw [← hdst] at hset
      rw [hrv hver] at hrun
      have hap : appS s d e (tsz P e) (some (m, cells)) (.one (.row r ver)) = ((s.setr r { row with n := row.n + m, cells := row.cells ++ cells, ver := ver + 1 }).set d (.one (.row r (ver + 1)))) := by
        simp only [appS, hr]
      rw [hap]
      exact Good.value (hrun v' w' r1) _ _ hset
  · exact hb.elim

theorem good_copy (T T' e : TypeId) (x y : Operand) (ho : o.op = .call { callee := .builtin .copy, args := #[x, y], argTypes := #[T, T'] }) (he : telem P T = some e) (ht : tok P e = true) (hsz : tsz P e = 1)
    (hb : cpO s (srcD s (s.ev y)) (s.ev x)) : Good P ok0 w0 N o a w (cpS s o.dst (srcD s (s.ev y)) (s.ev x)) := by
  have hx := h.ev x
  have hy := h.ev y
  have hrun : ∀ (v' : Value) (w' : World), (Builtin.copy_ #[T, T'] o.type #[a.eval x, a.eval y]).run P w = .ok v' w' → (execOp a.eval o).run P w = .ok (.value v') w' := fun v' w' hr => by
    simp [execOp, ho, resolve, invoke, builtin, hr]
  have hs1 : (P.info? e).map (·.size) = some 1 := by
    unfold tok at ht
    simp only [Bool.and_eq_true] at ht
    obtain ⟨i, hi⟩ := Option.isSome_iff_exists.mp ht.1
    rw [hi, Option.map_some, tsz_eq hi, hsz]
  unfold cpO at hb
  split at hb
  · rename_i r ver e1
    rw [e1] at hx ⊢
    obtain ⟨⟨row, hr, hle, hrv⟩, _⟩ := hx
    simp only [hr] at hb
    cases es : srcD s (s.ev y) with
    | none => rw [es] at hb; exact hb.elim
    | some mc =>
      obtain ⟨m, cells⟩ := mc
      rw [es] at hb
      obtain ⟨hver, hlive, hrsz, hl⟩ := hb
      have hsrc : Rep w (okS ok0 w0.heap.size vb rb s w) (.sl m cells) (a.eval y) := by
        unfold srcD at es
        split at es
        · rename_i c ec
          rw [ec] at hy
          split at es
          · rename_i n0 cells0 hd0
            cases es
            exact h.toD hy.1 hd0
          · cases es
        · cases es
      obtain ⟨us0, how, hf0⟩ := h.row r row hr
      have hlen0 : us0.length = row.n := by have := how.1; rw [hrsz] at this; omega
      generalize hvy : a.eval y = vy at hsrc
      cases hsrc with
      | sl A _ c _ us hlu hc hcell hrep =>
        have hcp : cpS s o.dst (some (m, cells)) (.one (.row r ver)) = ((s.setr r { row with cells := cells.take (min m row.n) ++ row.cells.drop (min m row.n) }).put o.dst (litV (.int .i64 (min m row.n : Nat)))) := by
          simp only [cpS, hr]
        rw [hcp]
        by_cases h0 : min m row.n = 0
        · have hz : cells.take (min m row.n) ++ row.cells.drop (min m row.n) = row.cells := by rw [h0]; simp
          have hsame : s.setr r { row with cells := cells.take (min m row.n) ++ row.cells.drop (min m row.n) } = s := by
            rw [hz]
            have : (fun y => if y = r then some { row with cells := row.cells } else s.r y) = s.r := by
              funext y'
              by_cases e5 : y' = r
              · rw [if_pos e5, e5, hr]
              · rw [if_neg e5]
            unfold AS.setr
            rw [this]
          rw [hsame, h0]
          refine Good.value (v := goInt 0) (w' := w) (hrun _ _ ?_) vb rb (h.put o.dst hd _ _ (lit_fits rfl))
          rcases how.2 with ⟨hv2, hn⟩ | ⟨g, cap, cur, hv2, _⟩
          · rw [hrv hver, hv2, hvy]
            exact run_copy_none (P := P) w T T' o.type e none A 0 0 m c (telem_eq he) hs1 (by simp)
          · rw [hrv hver, hv2, hvy]
            exact run_copy_none (P := P) w T T' o.type e _ A row.n cap m c (telem_eq he) hs1 h0
        · rcases how.2 with ⟨hv2, hn⟩ | ⟨g, cap, cur, hv2, hbg, hgh, hnc, hcm, hcs, htake⟩
          · omega
          · have hpos : 0 < us.length := by omega
            obtain ⟨ad, rfl, _, _⟩ := hcell 0 us[0] (List.getElem?_eq_getElem hpos)
            have hcell' : ∀ (j : Nat) (u : Value), us[j]? = some u → w.cell? (ad.add j) = some u := fun j u hu => by
              obtain ⟨ad', e', _, hc'⟩ := hcell j u hu
              cases e'; exact hc'
            have hone : ∀ u ∈ us, u.oneCell' = true := fun u hu => by
              obtain ⟨j, hj⟩ := List.getElem?_of_mem hu
              have hlt : j < cells.length := by rw [← hlu]; exact (List.getElem?_eq_some_iff.1 hj).1
              exact (hrep j u _ hj (List.getElem?_eq_getElem hlt)).one
            rw [hrsz] at hcs htake
            simp only [Nat.mul_one] at hcs htake
            have hkl : (us.take (min m row.n)).length = min m row.n := by rw [List.length_take]; omega
            have r1 := run_copy_row (P := P) w T T' o.type e g 0 row.n cap ad m c cur row.e (us.take (min m row.n)) (telem_eq he) hs1 hgh hkl (fun j v hv => by
              rw [List.getElem?_take] at hv
              split at hv
              · exact hcell' j v hv
              · cases hv) (by omega) (fun v hv => hone v (List.mem_of_mem_take hv))
            rw [hkl] at r1
            have hus0 : us0.length = row.n := hlen0
            have hg : w.grownBy (w.setRow g (cur.toList.take 0 ++ us.take (min m row.n) ++ cur.toList.drop (0 + min m row.n)).toArray) (rb r).ownBlock :=
              ⟨rfl, rfl, rfl, by simp, fun k _ hk => setRow_other w g k _ (fun e5 => hk (by rw [hv2, e5]; rfl))⟩
            have how' : (w.setRow g (cur.toList.take 0 ++ us.take (min m row.n) ++ cur.toList.drop (0 + min m row.n)).toArray).ownsRow w0.heap.size row.e row.sz (rb r) row.n (us.take (min m row.n) ++ us0.drop (min m row.n)) := by
              refine ⟨by rw [hrsz]; simp; omega, .inr ⟨g, cap, _, hv2, hbg, setRow_heap w g cur _ row.e _ hgh, hnc, hcm, ?_, ?_⟩⟩
              · rw [hrsz]; simp; omega
              · rw [hrsz, ← htake]
                simp only [List.take_zero, List.nil_append, Nat.zero_add, Nat.mul_one]
                rw [List.take_append, List.take_of_length_le (by rw [hkl]; omega), hkl, ← List.drop_take]
            have hs := h.rowset hr hlive hg (rb r) row.n (cells.take (min m row.n) ++ row.cells.drop (min m row.n)) row.ver _ how' ((Fits.take ⟨hlu, hrep⟩ _).append (hf0.drop _)) (.inl rfl) (Nat.le_refl _) (fun _ => ⟨rfl, rfl⟩)
            refine Good.value (v := goInt (min m row.n : Nat)) (hrun _ _ ?_) _ _ (hs.put o.dst hd _ _ (lit_fits rfl))
            rw [hrv hver, hv2, hvy]
            exact r1
  · exact hb.elim

theorem good_store (T : TypeId) (x y : Operand) (cs : List Ce) (ho : o.op = .store T x y) (ht : tok P T = true) (hc : cellsOf (s.ev y) = some cs) (hl : cs.length = tsz P T) (hb : stO s cs (s.ev x)) : Good P ok0 w0 N o a w ((stS s cs (s.ev x)).put o.dst .no) := by
  have hx := h.ev x
  obtain ⟨hf, hone⟩ := h.cellsOf hc
  have hsz : (a.eval y).cells.size = tsz P T := by have := hf.1; simp at this; omega
  have hrun : ∀ (ad : Addr) (w' : World), a.eval x = .pointer (some ad) → (storeCells ad (a.eval y).cells.toList).run P w = .ok () w' → (execOp a.eval o).run P w = .ok .skip w' := fun ad w' hv hr => by
    simp [execOp, ho, hv, Instr.storeAt, Instr.sureAddr, storeVar, run_sizeOf' ht, hsz, hr]
  have hgood : ∀ (vb' : Nat × Nat → Nat) (rb' : Nat × Nat → Value) (s' : AS) (w' : World), (execOp a.eval o).run P w = .ok .skip w' → Sat ok0 w0 N vb' rb' s' a w' → Good P ok0 w0 N o a w (s'.put o.dst .no) := fun vb' rb' s' w' hr hs K Q hK => by
    unfold Oper.wp
    rw [hr]
    exact hK vb' rb' _ _ (hs.put o.dst hd .no undef trivial)
  unfold stO at hb
  split at hb
  · rename_i v off e1
    rw [e1] at hx ⊢
    obtain ⟨_, _, ex⟩ := hx
    split at hb
    · rename_i cs0 hv0
      obtain ⟨hlv, hoff⟩ := hb
      obtain ⟨hbase, us, T', hh, hf0, hone0⟩ := h.var v cs0 hv0
      have husz : us.size = cs0.length := by have := hf0.1; simpa using this
      have hcl : (a.eval y).cells.toList.length = cs.length := hf.1
      have hst := run_storeCells_at P (vb v) off T' (a.eval y).cells.toList 0 us w hh (by rw [hcl]; omega) hone
      rw [hcl] at hst
      simp only [Nat.add_zero] at hst
      have hs := h.storev hv0 hlv (cs0.take off ++ cs ++ cs0.drop (off + cs.length)) (us.toList.take off ++ (a.eval y).cells.toList ++ us.toList.drop (off + cs.length)).toArray (by
        exact ((hf0.take _).append hf).append (hf0.drop _)) (by
        intro u hu
        simp only [List.mem_append] at hu
        rcases hu with (hu | hu) | hu
        · exact hone0 u (List.mem_of_mem_take hu)
        · exact hone u hu
        · exact hone0 u (List.mem_of_mem_drop hu))
      have hss : stS s cs (.ptr v off) = s.setv v (cs0.take off ++ cs ++ cs0.drop (off + cs.length)) := by simp only [stS, hv0]
      rw [hss]
      exact hgood vb rb _ _ (hrun _ _ ex hst) hs
    · exact hb.elim
  · rename_i r ver j e1
    rw [e1] at hx ⊢
    obtain ⟨row, hr, hle, hrv⟩ := hx
    simp only [hr] at hb
    cases hds : ceDs cs with
    | none => rw [hds] at hb; exact hb.elim
    | some ds =>
      rw [hds] at hb
      obtain ⟨hver, hlive, hl1, hj⟩ := hb
      have hfd := ceDs_fits hf hds
      have hdl : ds.length = 1 := by have := hfd.1; have := hf.1; omega
      match ds, hdl, hds, hfd with
      | [zd], _, hds, hfd =>
        obtain ⟨u, us', hu, hzu, hf0⟩ := hfd.uncons
        have hus' : us' = [] := List.eq_nil_of_length_eq_zero hf0.1
        subst hus'
        obtain ⟨g, c, hrb, ex⟩ := hrv hver
        obtain ⟨us0, how, hfr⟩ := h.row r row hr
        rw [hrb] at how
        have hst := how.stored j u
        have hcell := how.cellAt j hj
        have hlt : j < us0.length := by rw [how.1]; exact hj
        have h1 : (storeCells ⟨g, j, none⟩ (a.eval y).cells.toList).run P w = .ok () (w.setCell ⟨g, j, none⟩ u) := by
          rw [hu]
          have hs0 : (store ((⟨g, j, none⟩ : Addr).add 0) u).run P w = .ok () (w.setCell ⟨g, j, none⟩ u) := by
            rw [add_lit, run_store P w _ u _ hzu.one]
            simp only [Nat.add_zero]
            rw [hcell, List.getElem?_eq_getElem hlt]
            simp [how.frozenAt j]
          simp [storeCells, hs0]
        have hss : stS s cs (.rel r ver j) = s.setr r { row with cells := row.cells.set j zd } := by simp only [stS, hr, hds]
        rw [hss]
        have hs := h.rowset hr hlive (w' := w.setCell ⟨g, j, none⟩ u) (by rw [hrb]; exact hst.2) (rb r) row.n (row.cells.set j zd) row.ver (us0.set j u) (by rw [hrb]; exact hst.1) (hfr.set_ j hzu) (.inl rfl) (Nat.le_refl _) (fun _ => ⟨rfl, rfl⟩)
        exact hgood vb _ _ _ (hrun _ _ ex h1) hs
  · exact hb.elim

theorem good_call (f : Nat) (args : Array Operand) (Ts : Array TypeId) (avs rs : List RV) (ho : o.op = .call { callee := .value (.func f), args := args, argTypes := Ts }) (ha : toRVs s (evs s args.toList) = some avs) (hf : AFun P f avs rs) : Good P ok0 w0 N o a w (s.put o.dst (resAV rs)) := by
  intro K Q hK
  obtain ⟨hfok, hf⟩ := hf
  have hfit := h.toRVs ha
  have hrun : (execOp a.eval o).run P w = .ok (.enter f (args.map a.eval)) w := by
    unfold fok at hfok
    split at hfok
    · rename_i fn hfn
      simp only [Bool.and_eq_true, bne_iff_ne, ne_eq] at hfok
      have hb : ¬ fn.body = none := by intro e; rw [e] at hfok; simp at hfok
      simp [execOp, ho, resolve, Act.eval, Deferred.ofValue, invoke, callFunc, hfn]
      rw [if_neg hfok.1, if_neg hb]
    · cases hfok
  unfold Oper.wp
  rw [hrun, Oper.upon_enter]
  have hcall := hf (okS ok0 w0.heap.size vb rb s w) w (args.toList.map a.eval) (fun k hk => hk.2.1) hfit
  have hargs : (args.toList.map a.eval).toArray = args.map a.eval := by rw [← Array.toList_map]
  rw [hargs] at hcall
  refine hcall.mono fun e w' ⟨v, he, hm, hb⟩ => ?_
  subst he
  have hw := h.world hb
  refine hK vb rb _ _ (hw.put o.dst hd _ _ ?_)
  have hok : ∀ k, (okS ok0 w0.heap.size vb rb s w k ∨ (w.heap.size ≤ k ∧ k < w'.heap.size)) → okS ok0 w0.heap.size vb rb s w' k ∧ w'.heap[k]? = w'.heap[k]? := fun k hk => by
    rcases hk with hk | ⟨h1, h2⟩
    · exact ⟨okS_grow hk hb.size, rfl⟩
    · exact ⟨h.fresh h1 h2, rfl⟩
  have htoav : ∀ (r : RV) (u : Value), MR w' (fun k => okS ok0 w0.heap.size vb rb s w k ∨ (w.heap.size ≤ k ∧ k < w'.heap.size)) r u → MV w' (okS ok0 w0.heap.size vb rb s w') vb rb s r.toAV u := fun r u hr => by
    have hr' := Ext.mr hok hr
    cases r with
    | one d => exact ⟨hr', Rep.one hr'⟩
    | agg ds =>
      obtain ⟨us, e', hf'⟩ := hr'
      refine ⟨us, e', ⟨by simp [hf'.1], fun i v c hv hc => ?_⟩, fun v hv => ?_⟩
      · rw [List.getElem?_map] at hc
        cases hd' : ds[i]? with
        | none => rw [hd'] at hc; simp at hc
        | some d => rw [hd'] at hc; simp at hc; subst hc; exact hf'.2 i v d hv hd'
      · obtain ⟨i, hi⟩ := List.getElem?_of_mem hv
        have hlt : i < ds.length := by rw [← hf'.1]; exact (List.getElem?_eq_some_iff.1 hi).1
        exact (hf'.2 i v _ hi (List.getElem?_eq_getElem hlt)).one
  match rs, hm with
  | [r], hm => exact htoav r v hm
  | [], hm =>
    obtain ⟨us, e, hfu⟩ := hm
    exact ⟨us, e, hfu.imp fun r u hr => Ext.mr hok hr⟩
  | r1 :: r2 :: rs, hm =>
    obtain ⟨us, e, hfu⟩ := hm
    exact ⟨us, e, hfu.imp fun r u hr => Ext.mr hok hr⟩
end
end Go.Proofs.Ythhaoojgfbofnaa.E
