/- Any operation, and a list of operations in the order of the text; no condition. -/
import Derived.Test.YthhaoojgfbofnaaEng9
set_option linter.unusedSimpArgs false
set_option linter.unusedVariables false
namespace Go.Proofs.Ythhaoojgfbofnaa.E
open Go.RowKit

section
variable {ok0 : Nat → Prop} {w0 w w' : World} {N : Nat} {vb : Nat × Nat → Nat} {rb : Nat × Nat → Value} {s s' : AS} {a : Act} {P : Program}

theorem op_good (h : Sat ok0 w0 N vb rb s a w) (o : Oper) (hd : ∀ d, o.dst = some d → d < N) (rs : List RV) (hb : obl P o.op o.dst s rs) : Good P ok0 w0 N o a w (eff P o.op o.dst s rs) := by
  cases ho : o.op with
  | move x => exact good_move h hd x (.inl ho)
  | assign x => exact good_move h hd x (.inr ho)
  | pick c x y => rw [ho] at hb; exact good_pick h hd c x y ho hb
  | alloc T =>
    rw [ho] at hb
    obtain ⟨h1, h2⟩ := hb
    obtain ⟨d, hdst⟩ := Option.isSome_iff_exists.mp h1
    obtain ⟨cs, hz⟩ := Option.isSome_iff_exists.mp h2
    have := good_alloc h hd T d cs ho hdst hz
    simpa only [eff, hdst, hz] using this
  | box T x =>
    rw [ho] at hb
    obtain ⟨h1, h2⟩ := hb
    obtain ⟨d, hdst⟩ := Option.isSome_iff_exists.mp h1
    obtain ⟨cs, hz⟩ := Option.isSome_iff_exists.mp h2
    have := good_box (P := P) h hd T x d cs ho hdst hz
    simpa only [eff, hdst, hz] using this
  | build T parts =>
    rw [ho] at hb
    simp only [obl] at hb
    split at hb
    · rename_i cs hz
      obtain ⟨h1, h2⟩ := hb
      obtain ⟨cells, hf⟩ := Option.isSome_iff_exists.mp h2
      have := good_build h hd T parts cs cells ho hz h1 hf
      simpa only [eff, hz, hf] using this
    · exact hb.elim
  | buildSlice T n parts =>
    rw [ho] at hb
    simp only [obl] at hb
    split at hb
    · rename_i e he
      obtain ⟨h1, h2, h3, h4⟩ := hb
      obtain ⟨d, hdst⟩ := Option.isSome_iff_exists.mp h3
      split at h4
      · rename_i hn
        subst hn
        have := good_bsl0 h hd T e d parts ho hdst he h1 h4
        simpa only [eff, he, hdst, if_true] using this
      · rename_i hn
        obtain ⟨h5, h6, h7⟩ := h4
        obtain ⟨ds, hds⟩ := Option.isSome_iff_exists.mp h5
        have := good_bsl h hd T e n d parts ds ho hdst he h1 h2 h7 h6 hds
        simpa only [eff, he, hdst, hn, if_false, hds] using this
    · exact hb.elim
  | load T x => rw [ho] at hb; exact good_load h hd T x ho hb.1 hb.2
  | store T x y =>
    rw [ho] at hb
    obtain ⟨h1, h2⟩ := hb
    split at h2
    · rename_i cs hc
      have := good_store h hd T x y cs ho h1 hc h2.1 h2.2
      simpa only [eff, hc] using this
    · exact h2.elim
  | binOp op T x y T' => rw [ho] at hb; exact good_bin h hd op T T' x y ho hb
  | unOp op T x => rw [ho] at hb; exact good_un h hd op T x ho hb
  | convert src T x => rw [ho] at hb; exact good_conv h hd src T x ho hb
  | makeSlice T l c =>
    rw [ho] at hb
    simp only [obl] at hb
    split at hb
    · rename_i e he
      obtain ⟨h1, h2, h3, h4⟩ := hb
      obtain ⟨d, hdst⟩ := Option.isSome_iff_exists.mp h1
      have := good_make h hd T e d l c ho hdst he h3 h4
      simpa only [eff, he, hdst] using this
    · exact hb.elim
  | slice T x lo hi mx =>
    rw [ho] at hb
    simp only [obl] at hb
    split at hb
    · rename_i e he
      have := good_cut h hd T e x lo hi mx ho he hb.1 hb.2
      simpa only [eff, he] using this
    · rename_i n e he ha
      have := good_acut h hd T e n x lo hi mx ho ha hb.1 hb.2
      simpa only [eff, he, ha] using this
    · exact hb.elim
  | fieldAddr T x f => rw [ho] at hb; exact good_fld h hd T x f ho hb
  | indexAddr T x i =>
    rw [ho] at hb
    simp only [obl] at hb
    split at hb
    · rename_i e he
      have := good_idx h hd T e x i ho he hb.1 hb.2
      simpa only [eff, he] using this
    · rename_i n e he ha
      have := good_arr h hd T e n x i ho ha hb.1 hb.2
      simpa only [eff, he, ha] using this
    · exact hb.elim
  | extract x j => rw [ho] at hb; exact good_ext h hd x j ho hb
  | call c =>
    rw [ho] at hb
    obtain ⟨callee, args, Ts⟩ := c
    cases callee with
    | value f =>
      cases f with
      | func f =>
        obtain ⟨avs, h1, h2⟩ := hb
        exact good_call h hd f args Ts avs rs ho h1 h2
      | _ => exact hb.elim
    | invoke r m => exact hb.elim
    | builtin b =>
      cases b with
      | len =>
        simp only [obl] at hb
        split at hb
        · rename_i x T e1 e2
          have ea : args = #[x] := by apply Array.ext'; simpa using e1
          have et : Ts = #[T] := by apply Array.ext'; simpa using e2
          subst ea; subst et
          have := good_len h hd x T T ho hb.1 hb.2
          simpa only [eff] using this
        · exact hb.elim
      | max =>
        simp only [obl] at hb
        split at hb
        · rename_i x y e1
          have ea : args = #[x, y] := by apply Array.ext'; simpa using e1
          subst ea
          have := good_max (P := P) h hd x y Ts ho hb
          simpa only [eff] using this
        · exact hb.elim
      | min =>
        simp only [obl] at hb
        split at hb
        · rename_i x y e1
          have ea : args = #[x, y] := by apply Array.ext'; simpa using e1
          subst ea
          have := good_min (P := P) h hd x y Ts ho hb
          simpa only [eff] using this
        · exact hb.elim
      | append =>
        simp only [obl] at hb
        split at hb
        · rename_i x y T T' e1 e2
          have ea : args = #[x, y] := by apply Array.ext'; simpa using e1
          have et : Ts = #[T, T'] := by apply Array.ext'; simpa using e2
          subst ea; subst et
          obtain ⟨h0, hb⟩ := hb
          subst h0
          split at hb
          · rename_i e he
            obtain ⟨h1, h2, h3, h4, h5⟩ := hb
            obtain ⟨d, hdst⟩ := Option.isSome_iff_exists.mp h1
            have := good_append h hd T' e d x y ho hdst he h3 h4 h5
            simpa only [eff, he, hdst] using this
          · exact hb.elim
        · exact hb.elim
      | copy =>
        simp only [obl] at hb
        split at hb
        · rename_i x y T T' e1 e2
          have ea : args = #[x, y] := by apply Array.ext'; simpa using e1
          have et : Ts = #[T, T'] := by apply Array.ext'; simpa using e2
          subst ea; subst et
          split at hb
          · rename_i e he
            have := good_copy h hd T T' e x y ho he hb.1 hb.2.1 hb.2.2
            simpa only [eff] using this
          · exact hb.elim
        · exact hb.elim
      | _ => exact hb.elim
  | _ => rw [ho] at hb; exact hb.elim

/-! ### lists of operations -/
structure AO where
  dst : Option Nat
  op : Op
  gd : Option (Nat × Bool)

/-- what an operation of a list asks, with its guard -/
def obl' (P : Program) (o : AO) (s : AS) (rs : List RV) : Prop := match o.gd with
  | none => obl P o.op o.dst s rs
  | some (t, want) => match asB (s.t t) with
    | some b => if b = want then obl P o.op o.dst s rs else True
    | none => False
def eff' (P : Program) (o : AO) (s : AS) (rs : List RV) : AS := match o.gd with
  | none => eff P o.op o.dst s rs
  | some (t, want) => match asB (s.t t) with
    | some b => if b = want then eff P o.op o.dst s rs else s.put o.dst .no
    | none => s
def aops (P : Program) : List AO → (AS → Prop) → AS → Prop
  | [], Q, s => Q s
  | o :: os, Q, s => ∃ rs, obl' P o s rs ∧ aops P os Q (eff' P o s rs)

/-- operation i of a region, with its guard's temporary -/
def ao (ops : Array Oper) (i : Nat) : AO := match ops[i]? with
  | none => ⟨none, .panic (.tmp 0), none⟩
  | some o => match o.guard with
    | none => ⟨o.dst, o.op, none⟩
    | some (j, want) => match (ops[j]?).bind (·.dst) with
      | some t => ⟨o.dst, o.op, some (t, want)⟩
      | none => ⟨none, .panic (.tmp 0), none⟩

theorem asB_eval (h : Sat ok0 w0 N vb rb s a w) {t : Nat} {b : Bool} (hb : asB (s.t t) = some b) : a.tmps[t]? = some (.bool b) := by
  have ht := h.tmp t
  unfold asB at hb
  split at hb
  · rename_i b' e
    cases hb
    rw [e] at ht
    have hv := lit_of ht
    rw [Array.getD_eq_getD_getElem?] at hv
    cases hq : a.tmps[t]? with
    | none => rw [hq] at hv; simp [undef] at hv
    | some u => rw [hq] at hv; simp at hv; rw [hv]
  · cases hb

/-- one operation of a region -/
theorem step_sound (h : Sat ok0 w0 N vb rb s a w) (ops : Array Oper) (i : Nat) (hi : i < ops.size) (hN : ∀ o ∈ ops, ∀ d, o.dst = some d → d < N) (rs : List RV) (hb : obl' P (ao ops i) s rs)
    {K : Act → World → Prop} {Q : Exit → Act → World → Prop} (hK : ∀ vb' rb' a' w', Sat ok0 w0 N vb' rb' (eff' P (ao ops i) s rs) a' w' → K a' w') : wpOp P ops Q i K a w := by
  have ho : ops[i]? = some ops[i] := Array.getElem?_eq_getElem hi
  generalize ops[i] = o at ho
  have hmem : o ∈ ops := Array.mem_of_getElem? ho
  unfold wpOp
  rw [ho]
  simp only
  unfold ao at hb hK
  rw [ho] at hb hK
  simp only at hb hK
  cases hg : o.guard with
  | none =>
    rw [hg] at hb hK
    have hw : Region.wanted o (yielded ops a.tmps) = true := by simp [Region.wanted, hg]
    rw [if_pos hw]
    exact .inl (op_good h o (hN o hmem) rs hb K Q hK)
  | some p =>
    obtain ⟨j, want⟩ := p
    rw [hg] at hb hK
    simp only at hb hK
    cases ht : (ops[j]?).bind (·.dst) with
    | none => rw [ht] at hb; exact hb.elim
    | some t =>
      rw [ht] at hb hK
      simp only [obl', eff'] at hb hK
      cases hbv : asB (s.t t) with
      | none => rw [hbv] at hb; exact hb.elim
      | some b =>
        rw [hbv] at hb hK
        simp only at hb hK
        have hy : yielded ops a.tmps j = some b := by simp [yielded, ht, asB_eval h hbv]
        by_cases e : b = want
        · rw [if_pos e] at hb hK
          have hw : Region.wanted o (yielded ops a.tmps) = true := by simp [Region.wanted, hg, hy, e]
          rw [if_pos hw]
          exact .inl (op_good h o (hN o hmem) rs hb K Q hK)
        · rw [if_neg e] at hb hK
          have hw : ¬ Region.wanted o (yielded ops a.tmps) = true := by simp [Region.wanted, hg, hy, e]
          rw [if_neg hw]
          exact hK vb rb _ _ (h.put o.dst (hN o hmem) .no undef trivial)

theorem ops_sound (ops : Array Oper) (hN : ∀ o ∈ ops, ∀ d, o.dst = some d → d < N) {K : AS → Prop} {Q : Exit → Act → World → Prop} (hQ : ∀ vb rb s a w, Sat ok0 w0 N vb rb s a w → K s → Q .normal a w) :
    ∀ (l : List Nat), (∀ i ∈ l, i < ops.size) → ∀ (vb : Nat × Nat → Nat) (rb : Nat × Nat → Value) (s : AS) (a : Act) (w : World), Sat ok0 w0 N vb rb s a w → aops P (l.map (ao ops)) K s → wpOps P ops Q l a w
  | [], _, vb, rb, s, a, w, h, hk => hQ vb rb s a w h hk
  | i :: l, hl, vb, rb, s, a, w, h, hk => by
    rw [wpOps_cons]
    obtain ⟨rs, h1, h2⟩ := hk
    exact step_sound h ops i (hl i (by simp)) hN rs h1 fun vb' rb' a' w' h' => ops_sound ops hN hQ l (fun j hj => hl j (by simp [hj])) vb' rb' _ a' w' h' h2
end
end Go.Proofs.Ythhaoojgfbofnaa.E
