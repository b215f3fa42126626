/- Cuts, boxes, literals: the machine does what the abstract state says; no condition. -/
import Derived.Test.YthhaoojgfbofnaaEng6
set_option linter.unusedSimpArgs false
set_option linter.unusedVariables false
namespace Go.Proofs.Ythhaoojgfbofnaa.E
open Go.RowKit

section
variable {ok0 : Nat → Prop} {w0 w w' : World} {N : Nat} {vb : Nat × Nat → Nat} {rb : Nat × Nat → Value} {s s' : AS} {a : Act} {P : Program}

theorem ceD_fits {ok : Nat → Prop} {c : Ce} {u : Value} {d : Dt} (hc : MC w ok rb s c u) (hd : ceD c = some d) : Rep w ok d u := by
  cases c with
  | dt d' => cases hd; exact hc
  | z =>
    cases hd
    have : u = .slice none 0 0 := hc
    rw [this]
    exact .sl none 0 0 [] [] rfl (Nat.le_refl _) (fun j u hu => by simp at hu) (fun j u d hu => by simp at hu)
  | row r ver => cases hd
theorem ceDs_fits {ok : Nat → Prop} : ∀ {cs : List Ce} {us : List Value} {ds : List Dt}, Fits (MC w ok rb s) cs us → ceDs cs = some ds → Fits (Rep w ok) ds us
  | [], us, ds, hf, hd => by
    cases hd
    have : us = [] := List.eq_nil_of_length_eq_zero hf.1
    rw [this]; exact Fits.nil _
  | c :: cs, us, ds, hf, hd => by
    obtain ⟨u, us', rfl, hc, hf'⟩ := hf.uncons
    simp only [ceDs] at hd
    split at hd
    · rename_i d ds' h1 h2
      cases hd
      exact Fits.cons (ceD_fits hc h1) (ceDs_fits hf' h2)
    · cases hd

theorem Sat.bnd (h : Sat ok0 w0 N vb rb s a w) {x : Option Operand} {d l : Int} (hb : bnd (x.map s.ev) d = some l) : (x = none ∧ l = d) ∨ ∃ y k, x = some y ∧ a.eval y = .int k l := by
  cases x with
  | none => left; simp [E.bnd] at hb; exact ⟨rfl, hb.symm⟩
  | some y =>
    right
    simp only [Option.map_some] at hb
    cases hv : s.ev y with
    | one c =>
      rw [hv] at hb
      cases c with
      | dt dd =>
        cases dd with
        | lit v =>
          cases v with
          | int k i =>
            simp only [E.bnd, Option.some.injEq] at hb
            subst hb
            have := h.ev y
            rw [hv] at this
            exact ⟨y, k, rfl, lit_of this⟩
          | _ => simp [E.bnd] at hb
        | sl n cells => simp [E.bnd] at hb
      | _ => simp [E.bnd] at hb
    | _ => rw [hv] at hb; simp [E.bnd] at hb

theorem run_sliceBound_ok (k : IntKind) (i : Int) (y : Nat) (code : BoundsCode) (h0 : 0 ≤ i) (h1 : i ≤ y) (w : World) : (Instr.sliceBound (.int k i) y code).run P w = .ok i.toNat w := by
  simp [Instr.sliceBound, asIntOf, h0, h1]

theorem zces_fits {ok : Nat → Prop} : ∀ {vs : List Value} {cs : List Ce}, zces vs = some cs → Fits (MC w ok rb s) cs vs ∧ ∀ u ∈ vs, u.oneCell' = true
  | [], cs, hz => by cases hz; exact ⟨Fits.nil _, by simp⟩
  | v :: vs, cs, hz => by
    simp only [zces] at hz
    split at hz
    · rename_i c cs' h1 h2
      cases hz
      obtain ⟨i1, i2⟩ := zces_fits h2
      have : MC w ok rb s c v ∧ v.oneCell' = true := by
        unfold zce at h1
        split at h1
        · cases h1; exact ⟨.lit _ rfl, rfl⟩
        · cases h1; exact ⟨.lit _ rfl, rfl⟩
        · cases h1; exact ⟨.lit _ rfl, rfl⟩
        · cases h1; exact ⟨rfl, rfl⟩
        · cases h1
      exact ⟨Fits.cons this.1 i1, fun u hu => by
        rcases List.mem_cons.1 hu with rfl | hu
        · exact this.2
        · exact i2 u hu⟩
    · cases hz

variable (h : Sat ok0 w0 N vb rb s a w) {o : Oper} (hd : ∀ d, o.dst = some d → d < N)
include h hd

theorem good_cut (T e : TypeId) (x : Operand) (lo hi mx : Option Operand) (ho : o.op = .slice T x lo hi mx) (he : telem P T = some e) (ht : tok P e = true) (hb : cutO (tsz P e) (lo.map s.ev) (hi.map s.ev) (mx.map s.ev) (s.ev x)) :
    Good P ok0 w0 N o a w (s.put o.dst (cutV (tsz P e) (lo.map s.ev) (hi.map s.ev) (s.ev x))) := by
  have hx := h.ev x
  have hu : P.underlying T = some (.slice e) := by
    unfold telem at he
    split at he
    · cases he; assumption
    · cases he
  unfold cutO at hb
  split at hb
  · rename_i n cells e1
    rw [e1] at hx ⊢
    split at hb
    · rename_i l q m bl bq bm
      obtain ⟨h0, h1, h2, h3, hlen, hms⟩ := hb
      obtain ⟨hx1, _⟩ := hx
      generalize hvx : a.eval x = vx at hx1
      cases hx1 with
      | sl A n c cells us hlu hc hcell hrep =>
        have hrun : ∃ m' : Nat, q.toNat ≤ m' ∧ (execOp a.eval o).run P w = .ok (.value (.slice (if m' = l.toNat then A else A.map (·.add (l.toNat * tsz P e))) (q.toNat - l.toNat) (m' - l.toNat))) w := by
          have hl := h.bnd bl
          have hq := h.bnd bq
          have hm := h.bnd bm
          rcases hm with ⟨rfl, rfl⟩ | ⟨ym, km, rfl, em⟩
          · refine ⟨c, by omega, ?_⟩
            rcases hq with ⟨rfl, rfl⟩ | ⟨yq, kq, rfl, eq⟩
            · rcases hl with ⟨rfl, rfl⟩ | ⟨yl, kl, rfl, el⟩
              · simp [execOp, ho, hvx, Instr.sliceAt, run_underlying hu, Instr.slice, Instr.sliceBounds, run_sizeOf' ht]
              · have h5 := run_sliceBound_ok (P := P) kl l n .sliceB h0 (by omega) w
                simp [execOp, ho, hvx, Instr.sliceAt, run_underlying hu, Instr.slice, Instr.sliceBounds, el, h5, run_sizeOf' ht]
            · have h6 := run_sliceBound_ok (P := P) kq q c .sliceAcap (by omega) (by omega) w
              rcases hl with ⟨rfl, rfl⟩ | ⟨yl, kl, rfl, el⟩
              · simp [execOp, ho, hvx, Instr.sliceAt, run_underlying hu, Instr.slice, Instr.sliceBounds, eq, h6, run_sizeOf' ht]
              · have h5 := run_sliceBound_ok (P := P) kl l q.toNat .sliceB h0 (by omega) w
                simp [execOp, ho, hvx, Instr.sliceAt, run_underlying hu, Instr.slice, Instr.sliceBounds, eq, h6, el, h5, run_sizeOf' ht]
          · rcases hq with ⟨rfl, rfl⟩ | ⟨yq, kq, rfl, eq⟩
            · simp at hms
            · refine ⟨m.toNat, by omega, ?_⟩
              have h5 := run_sliceBound_ok (P := P) km m c .slice3Acap (by omega) (by omega) w
              have h6 := run_sliceBound_ok (P := P) kq q m.toNat .slice3B (by omega) (by omega) w
              rcases hl with ⟨rfl, rfl⟩ | ⟨yl, kl, rfl, el⟩
              · simp [execOp, ho, hvx, Instr.sliceAt, run_underlying hu, Instr.slice, Instr.sliceBounds, eq, em, h5, h6, run_sizeOf' ht]
              · have h7 := run_sliceBound_ok (P := P) kl l q.toNat .slice3C h0 (by omega) w
                simp [execOp, ho, hvx, Instr.sliceAt, run_underlying hu, Instr.slice, Instr.sliceBounds, eq, em, h5, h6, el, h7, run_sizeOf' ht]
        obtain ⟨m', hm', hrun⟩ := hrun
        refine Good.value hrun vb rb (h.put o.dst hd _ _ ?_)
        simp only [cutV, bl, bq]
        refine ⟨.sl _ _ _ _ ((us.take (q.toNat * tsz P e)).drop (l.toNat * tsz P e)) ?_ (by omega) (fun j u hu => ?_) ?_, rfl⟩
        · simp [hlu]
        · have hf : us[l.toNat * tsz P e + j]? = some u := by
            rw [List.getElem?_drop, List.getElem?_take] at hu
            split at hu
            · exact hu
            · cases hu
          have hne : m' ≠ l.toNat := by
            intro e5
            have hq : q.toNat = l.toNat := by omega
            have hlt := (List.getElem?_eq_some_iff.1 hu).1
            rw [hq] at hlt
            simp at hlt
          obtain ⟨ad, rfl, hok, hc'⟩ := hcell _ u hf
          rw [if_neg hne]
          exact ⟨_, rfl, by rw [block_of_add]; exact hok, by rw [add_of_add]; exact hc'⟩
        · exact ((Fits.take ⟨hlu, hrep⟩ _).drop _).2
    · exact hb.elim
  · exact hb.elim

theorem good_acut (T e : TypeId) (n : Nat) (x : Operand) (lo hi mx : Option Operand) (ho : o.op = .slice T x lo hi mx) (he : tarr P T = some (n, e)) (ht : tok P e = true) (hb : acutO s (tsz P e) n (lo.map s.ev) (hi.map s.ev) (mx.map s.ev) (s.ev x)) :
    Good P ok0 w0 N o a w (s.put o.dst (acutV s (tsz P e) n (lo.map s.ev) (hi.map s.ev) (s.ev x))) := by
  have hx := h.ev x
  have hu : P.underlying T = some (.array n e) := by
    unfold tarr at he
    split at he
    · cases he; assumption
    · cases he
  unfold acutO at hb
  split at hb
  · rename_i y off e1
    rw [e1] at hx ⊢
    obtain ⟨_, _, ex⟩ := hx
    split at hb
    · rename_i cs l q hcs bl bq
      obtain ⟨hmx, hfz, h0, h1, h2, hlen, hds⟩ := hb
      obtain ⟨ds, hds⟩ := Option.isSome_iff_exists.mp hds
      obtain ⟨hbase, us, T', hh, hf, hone⟩ := h.var y cs hcs
      have hfd := ceDs_fits hf hds
      have hmx' : mx = none := by cases mx <;> simp_all
      subst hmx'
      have hok : okS ok0 w0.heap.size vb rb s w (vb y) := by
        refine ⟨.inr hbase, heap_lt hh, ?_, fun r row hr _ e => h.vr y cs r row hcs hr e⟩
        intro y' cs' hy' hlv e
        have e5 := h.vv y' y cs' cs hy' hcs e
        subst e5
        rw [hfz] at hlv; cases hlv
      have hrun : (execOp a.eval o).run P w = .ok (.value (.slice (some (if n = l.toNat then ⟨vb y, off, none⟩ else (⟨vb y, off, none⟩ : Addr).add (l.toNat * tsz P e))) (q.toNat - l.toNat) (n - l.toNat))) w := by
        have hl := h.bnd bl
        have hq := h.bnd bq
        rcases hq with ⟨rfl, rfl⟩ | ⟨yq, kq, rfl, eq⟩
        · rcases hl with ⟨rfl, rfl⟩ | ⟨yl, kl, rfl, el⟩
          · simp [execOp, ho, ex, Instr.sliceAt, run_underlying hu, Instr.sureAddr, Instr.sliceBounds, run_sizeOf' ht]
          · have h5 := run_sliceBound_ok (P := P) kl l n .sliceB (by omega) (by omega) w
            simp [execOp, ho, ex, Instr.sliceAt, run_underlying hu, Instr.sureAddr, Instr.sliceBounds, el, h5, run_sizeOf' ht]
        · have h6 := run_sliceBound_ok (P := P) kq q n .sliceAlen (by omega) (by omega) w
          rcases hl with ⟨rfl, rfl⟩ | ⟨yl, kl, rfl, el⟩
          · simp [execOp, ho, ex, Instr.sliceAt, run_underlying hu, Instr.sureAddr, Instr.sliceBounds, eq, h6, run_sizeOf' ht]
          · have h5 := run_sliceBound_ok (P := P) kl l q.toNat .sliceB (by omega) (by omega) w
            simp [execOp, ho, ex, Instr.sliceAt, run_underlying hu, Instr.sureAddr, Instr.sliceBounds, eq, el, h6, h5, run_sizeOf' ht]
      refine Good.value hrun vb rb (h.put o.dst hd _ _ ?_)
      simp only [acutV, hcs, bl, bq, hds]
      refine ⟨.sl _ _ _ _ (((us.toList.drop off).take (q.toNat * tsz P e)).drop (l.toNat * tsz P e)) ?_ (by omega) (fun j u hu => ?_) ?_, rfl⟩
      · have := hfd.1
        simp only [List.length_drop, List.length_take, this]
      · have hf' : us[off + (l.toNat * tsz P e + j)]? = some u := by
          rw [List.getElem?_drop, List.getElem?_take] at hu
          split at hu
          · rw [List.getElem?_drop] at hu; simpa using hu
          · cases hu
        have hne : n ≠ l.toNat := by
          intro e5
          have hq : q.toNat = l.toNat := by omega
          have hlt := (List.getElem?_eq_some_iff.1 hu).1
          rw [hq] at hlt
          simp at hlt
        rw [if_neg hne]
        refine ⟨_, rfl, by rw [block_of_add]; exact hok, ?_⟩
        rw [add_of_add, add_lit, cell_of_row w (vb y) _ us T' (0, 0) hh]
        exact hf'
      · exact (((hfd.drop _).take _).drop _).2
    · exact hb.elim
  · exact hb.elim

theorem good_box (T : TypeId) (x : Operand) (d : Nat) (cs : List Ce) (ho : o.op = .box T x) (hdst : o.dst = some d) (hc : cellsOf (s.ev x) = some cs) : Good P ok0 w0 N o a w (((s.setv (d, s.g d) cs).bump d).set d (.ptr (d, s.g d) 0)) := by
  have hx := h.ev x
  have key : ∃ us : Array Value, (a.eval x).cells = us ∧ Fits (MC w (okS ok0 w0.heap.size vb rb s w) rb s) cs us.toList ∧ ∀ u ∈ us.toList, u.oneCell' = true := by
    unfold cellsOf at hc
    split at hc
    · rename_i c e
      cases hc
      rw [e] at hx
      obtain ⟨h1, h2⟩ := hx
      refine ⟨#[a.eval x], ?_, Fits.cons h1 (Fits.nil _), fun u hu => by simp at hu; rw [hu]; exact h2⟩
      cases hv : a.eval x <;> first | rfl | (rw [hv] at h2; simp [Value.oneCell'] at h2)
    · rename_i cs' e
      cases hc
      rw [e] at hx
      obtain ⟨us, e2, hf, h1⟩ := hx
      exact ⟨us.toArray, by rw [e2]; rfl, by simpa using hf, by simpa using h1⟩
    · cases hc
  obtain ⟨us, hus, hf, h1⟩ := key
  have hn := h.newvar d cs us T hf h1
  have hn2 := hn.set d (hd d hdst) (.ptr (d, s.g d) 0) (.pointer (some ⟨w.heap.size, 0, none⟩)) ⟨cs, if_pos rfl, by simp⟩
  rw [← hdst] at hn2
  exact Good.value (by simp [execOp, ho, Instr.box, newVar, newRow, hus]) _ rb hn2

theorem good_alloc (T : TypeId) (d : Nat) (cs : List Ce) (ho : o.op = .alloc T) (hdst : o.dst = some d) (hc : zeros P T = some cs) : Good P ok0 w0 N o a w (((s.setv (d, s.g d) cs).bump d).set d (.ptr (d, s.g d) 0)) := by
  unfold zeros at hc
  split at hc
  · rename_i vs hz
    unfold tzero at hz
    split at hz
    · rename_i i hi
      split at hz
      · rename_i z hiz
        cases hz
        obtain ⟨hf, h1⟩ := zces_fits (w := w) (rb := rb) (s := s) (ok := okS ok0 w0.heap.size vb rb s w) hc
        have hn := h.newvar d cs z.cells T hf h1
        have hn2 := hn.set d (hd d hdst) (.ptr (d, s.g d) 0) (.pointer (some ⟨w.heap.size, 0, none⟩)) ⟨cs, if_pos rfl, by simp⟩
        rw [← hdst] at hn2
        exact Good.value (by simp [execOp, ho, Instr.alloc, zeroValue, typeInfo, hi, hiz, newVar, newRow]) _ rb hn2
      · cases hz
    · cases hz
  · cases hc

end
end Go.Proofs.Ythhaoojgfbofnaa.E
