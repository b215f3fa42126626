/- An abstract interpreter over data for Go functions that read what they are handed and write only memory of their own; what ties its states to the machine's worlds; no condition. -/
import Derived.RowKit3
import Derived.Laws.OwnMore
import Derived.Laws.MakeOwn
import Derived.Laws.CopyOwn
import Derived.Below
import Derived.Orders
set_option linter.unusedSimpArgs false
set_option linter.unusedVariables false
namespace Go.Proofs.Ythhaoojgfbofnaa.E
open Go.RowKit

/-- data: a plain cell, or a slice of n elements with the list of all their cells -/
inductive Dt where
  | lit (v : Value)
  | sl (n : Nat) (cells : List Dt)

def plain : Value → Bool
  | .bool _ => true
  | .int _ _ => true
  | .string _ => true
  | _ => false

/-- value v reads as d in w; every block that is read is one of ok -/
inductive Rep (w : World) (ok : Nat → Prop) : Dt → Value → Prop where
  | lit (v : Value) (h : plain v = true) : Rep w ok (.lit v) v
  | sl (A : Option Addr) (n c : Nat) (cells : List Dt) (us : List Value) (hl : us.length = cells.length) (hc : n ≤ c)
      (h1 : ∀ (j : Nat) (u : Value), us[j]? = some u → ∃ a, A = some a ∧ ok a.block ∧ w.cell? (a.add j) = some u)
      (h2 : ∀ (j : Nat) (u : Value) (d : Dt), us[j]? = some u → cells[j]? = some d → Rep w ok d u) : Rep w ok (.sl n cells) (.slice A n c)

theorem block_of_add (a : Addr) (n : Nat) : (a.add n).block = a.block := by unfold Addr.add; split <;> rfl
theorem add_of_add (a : Addr) (i j : Nat) : (a.add i).add j = a.add (i + j) := by
  unfold Addr.add
  by_cases hi : i = 0 <;> by_cases hj : j = 0 <;> simp [hi, hj, Nat.add_assoc]
theorem add_lit (g o j : Nat) : (⟨g, o, none⟩ : Addr).add j = ⟨g, o + j, none⟩ := by unfold Addr.add; split <;> simp_all

theorem Rep.mono {w w' : World} {ok ok' : Nat → Prop} {d : Dt} {v : Value} (h : Rep w ok d v) (hk : ∀ k, ok k → ok' k ∧ w'.heap[k]? = w.heap[k]?) : Rep w' ok' d v := by
  induction h with
  | lit v h => exact .lit v h
  | sl A n c cells us hl hc h1 h2 ih =>
    refine .sl A n c cells us hl hc (fun j u hu => ?_) ih
    obtain ⟨a, e, ha, hcell⟩ := h1 j u hu
    refine ⟨a, e, (hk _ ha).1, ?_⟩
    rw [World.cell?_of_block (w := w) (by rw [block_of_add]; exact (hk _ ha).2)]
    exact hcell
theorem Rep.one {w : World} {ok : Nat → Prop} {d : Dt} {v : Value} (h : Rep w ok d v) : v.oneCell' = true := by
  cases h with
  | lit v h => cases v <;> first | rfl | simp [plain] at h
  | sl => rfl
theorem Rep.cells {w : World} {ok : Nat → Prop} {d : Dt} {v : Value} (h : Rep w ok d v) : v.cells = #[v] := by
  cases h with
  | lit v h => cases v <;> first | rfl | simp [plain] at h
  | sl => rfl

/-- two lists fit, place by place -/
def Fits {α : Type} (R : α → Value → Prop) (xs : List α) (us : List Value) : Prop :=
  us.length = xs.length ∧ ∀ (j : Nat) (u : Value) (x : α), us[j]? = some u → xs[j]? = some x → R x u
theorem Fits.nil {α : Type} (R : α → Value → Prop) : Fits R [] [] := ⟨rfl, fun j u x h => by simp at h⟩
theorem Fits.cons {α : Type} {R : α → Value → Prop} {x : α} {u : Value} {xs : List α} {us : List Value} (h : R x u) (hs : Fits R xs us) : Fits R (x :: xs) (u :: us) :=
  ⟨by simp [hs.1], fun j v y hv hy => by
    cases j with
    | zero => simp at hv hy; subst hv; subst hy; exact h
    | succ j => simp at hv hy; exact hs.2 j v y hv hy⟩
theorem Fits.uncons {α : Type} {R : α → Value → Prop} {x : α} {xs : List α} {us : List Value} (h : Fits R (x :: xs) us) : ∃ u us', us = u :: us' ∧ R x u ∧ Fits R xs us' := by
  cases us with
  | nil => have := h.1; simp at this
  | cons u us => exact ⟨u, us, rfl, h.2 0 u x rfl rfl, by have := h.1; simpa using this, fun j v y hv hy => h.2 (j + 1) v y (by simpa using hv) (by simpa using hy)⟩
theorem Fits.imp {α : Type} {R R' : α → Value → Prop} {xs : List α} {us : List Value} (h : Fits R xs us) (hR : ∀ x u, R x u → R' x u) : Fits R' xs us := ⟨h.1, fun j u x hu hx => hR _ _ (h.2 j u x hu hx)⟩
theorem Fits.at_ {α : Type} {R : α → Value → Prop} {xs : List α} {us : List Value} (h : Fits R xs us) {j : Nat} {x : α} (hx : xs[j]? = some x) : ∃ u, us[j]? = some u ∧ R x u := by
  have hj : j < us.length := by rw [h.1]; exact (List.getElem?_eq_some_iff.1 hx).1
  exact ⟨us[j], List.getElem?_eq_getElem hj, h.2 j _ x (List.getElem?_eq_getElem hj) hx⟩
theorem Fits.drop {α : Type} {R : α → Value → Prop} {xs : List α} {us : List Value} (h : Fits R xs us) (n : Nat) : Fits R (xs.drop n) (us.drop n) :=
  ⟨by simp [h.1], fun j u x hu hx => h.2 (n + j) u x (by rwa [List.getElem?_drop] at hu) (by rwa [List.getElem?_drop] at hx)⟩
theorem Fits.take {α : Type} {R : α → Value → Prop} {xs : List α} {us : List Value} (h : Fits R xs us) (n : Nat) : Fits R (xs.take n) (us.take n) :=
  ⟨by simp [h.1], fun j u x hu hx => by
    rw [List.getElem?_take] at hu hx
    split at hu
    · rename_i hj; rw [if_pos hj] at hx; exact h.2 j u x hu hx
    · simp at hu⟩
theorem Fits.append {α : Type} {R : α → Value → Prop} {xs ys : List α} {us vs : List Value} (h : Fits R xs us) (k : Fits R ys vs) : Fits R (xs ++ ys) (us ++ vs) :=
  ⟨by simp [h.1, k.1], fun j u x hu hx => by
    by_cases hj : j < us.length
    · rw [List.getElem?_append_left hj] at hu
      rw [List.getElem?_append_left (by rw [← h.1]; exact hj)] at hx
      exact h.2 j u x hu hx
    · rw [List.getElem?_append_right (by omega)] at hu
      rw [List.getElem?_append_right (by rw [← h.1]; omega), ← h.1] at hx
      exact k.2 _ u x hu hx⟩
theorem Fits.set_ {α : Type} {R : α → Value → Prop} {xs : List α} {us : List Value} (h : Fits R xs us) (i : Nat) {x : α} {u : Value} (hx : R x u) : Fits R (xs.set i x) (us.set i u) :=
  ⟨by simp [h.1], fun j v y hv hy => by
    rw [List.getElem?_set] at hv hy
    split at hv
    · rename_i e
      rw [if_pos e] at hy
      split at hv
      · rename_i hi
        rw [if_pos (by rw [← h.1]; exact hi)] at hy
        simp at hv hy; subst hv; subst hy; exact hx
      · simp at hv
    · rename_i e; rw [if_neg e] at hy; exact h.2 j v y hv hy⟩

/-- what one cell of the call's own holds -/
inductive Ce where
  | dt (d : Dt)
  | z                                     -- the nil slice
  | row (r : Nat × Nat) (ver : Nat)       -- a slice of the call's own, whole

/-- values as they go into calls and come back -/
inductive RV where
  | one (d : Dt)
  | agg (ds : List Dt)

/-- what a temporary holds -/
inductive AV where
  | no
  | one (c : Ce)
  | agg (cs : List Ce)
  | tup (rs : List RV)
  | ptr (x : Nat × Nat) (off : Nat)
  | el (ds : List Dt)
  | rel (r : Nat × Nat) (ver j : Nat)

structure Row where
  e : TypeId
  sz : Nat
  n : Nat
  cells : List Dt
  ver : Nat
  live : Bool

structure AS where
  t : Nat → AV
  v : Nat × Nat → Option (List Ce)
  r : Nat × Nat → Option Row
  g : Nat → Nat
  f : Nat × Nat → Bool        -- variables that are no longer written

def AS.wf (s : AS) : Prop := ∀ d k, s.g d ≤ k → s.v (d, k) = none ∧ s.r (d, k) = none ∧ s.f (d, k) = false

def AS.set (s : AS) (d : Nat) (x : AV) : AS := { s with t := fun n => if n = d then x else s.t n }
def AS.setv (s : AS) (x : Nat × Nat) (cs : List Ce) : AS := { s with v := fun y => if y = x then some cs else s.v y }
def AS.setr (s : AS) (x : Nat × Nat) (row : Row) : AS := { s with r := fun y => if y = x then some row else s.r y }
def AS.bump (s : AS) (d : Nat) : AS := { s with g := fun n => if n = d then s.g n + 1 else s.g n }
def AS.put (s : AS) (dst : Option Nat) (x : AV) : AS := match dst with
  | some d => s.set d x
  | none => s

def RV.toAV : RV → AV
  | .one d => .one (.dt d)
  | .agg ds => .agg (ds.map .dt)
def resAV : List RV → AV
  | [r] => r.toAV
  | rs => .tup rs

def MR (w : World) (ok : Nat → Prop) : RV → Value → Prop
  | .one d, v => Rep w ok d v
  | .agg ds, v => ∃ us : List Value, v = .agg us.toArray ∧ Fits (Rep w ok) ds us
def MRs (w : World) (ok : Nat → Prop) : List RV → Value → Prop
  | [r], v => MR w ok r v
  | rs, v => ∃ us : List Value, v = .tuple us.toArray ∧ Fits (MR w ok) rs us

def fok (P : Program) (f : Nat) : Bool := match P.funcs[f]? with
  | some fn => fn.name != "runtime.NumGoroutine" && fn.body.isSome
  | none => false
/-- THE CONTRACT OF A FUNCTION: whatever memory the arguments lie in, the call returns rs, in memory of the arguments' or in new memory, and changes nothing that was there. -/
def AFun (P : Program) (f : Nat) (args : List RV) (rs : List RV) : Prop := fok P f = true ∧
  ∀ (ok : Nat → Prop) (w : World) (vs : List Value), (∀ k, ok k → k < w.heap.size) → Fits (MR w ok) args vs →
    Calls P f vs.toArray w fun e w' => ∃ v, e = .returned v ∧ MRs w' (fun k => ok k ∨ (w.heap.size ≤ k ∧ k < w'.heap.size)) rs v ∧ Below w.heap.size w w'

/-- cells of a value that is data -/
def toD (s : AS) : Ce → Option Dt
  | .dt d => some d
  | .z => some (.sl 0 [])
  | .row r ver => match s.r r with
    | some row => if row.ver = ver ∧ row.live = false then some (.sl row.n row.cells) else none
    | none => none
def toDs (s : AS) : List Ce → Option (List Dt)
  | [] => some []
  | c :: cs => match toD s c, toDs s cs with
    | some d, some ds => some (d :: ds)
    | _, _ => none
def toRV (s : AS) : AV → Option RV
  | .one c => (toD s c).map .one
  | .agg cs => (toDs s cs).map .agg
  | _ => none
def toRVs (s : AS) : List AV → Option (List RV)
  | [] => some []
  | x :: xs => match toRV s x, toRVs s xs with
    | some r, some rs => some (r :: rs)
    | _, _ => none

/-! ### the tie to the machine -/
/-- the blocks that may be read: what was handed over, and new ones that are no longer written -/
def okS (ok0 : Nat → Prop) (base : Nat) (vb : Nat × Nat → Nat) (rb : Nat × Nat → Value) (s : AS) (w : World) (k : Nat) : Prop :=
  (ok0 k ∨ base ≤ k) ∧ k < w.heap.size ∧ (∀ x cs, s.v x = some cs → s.f x = false → vb x ≠ k) ∧ (∀ r row, s.r r = some row → row.live = true → (rb r).ownBlock ≠ some k)

def MC (w : World) (ok : Nat → Prop) (rb : Nat × Nat → Value) (s : AS) : Ce → Value → Prop
  | .dt d, u => Rep w ok d u
  | .z, u => u = .slice none 0 0
  | .row r ver, u => ∃ row, s.r r = some row ∧ ver ≤ row.ver ∧ (row.ver = ver → u = rb r)

def MV (w : World) (ok : Nat → Prop) (vb : Nat × Nat → Nat) (rb : Nat × Nat → Value) (s : AS) : AV → Value → Prop
  | .no, _ => True
  | .one c, u => MC w ok rb s c u ∧ u.oneCell' = true
  | .agg cs, u => ∃ us : List Value, u = .agg us.toArray ∧ Fits (MC w ok rb s) cs us ∧ ∀ x ∈ us, x.oneCell' = true
  | .tup rs, u => ∃ us : List Value, u = .tuple us.toArray ∧ Fits (MR w ok) rs us
  | .ptr x off, u => ∃ cs, s.v x = some cs ∧ u = .pointer (some ⟨vb x, off, none⟩)
  | .el ds, u => ∃ (a : Addr) (us : List Value), u = .pointer (some a) ∧ Fits (Rep w ok) ds us ∧ (us ≠ [] → ok a.block) ∧ ∀ (j : Nat) (x : Value), us[j]? = some x → w.cell? (a.add j) = some x
  | .rel r ver j, u => ∃ row, s.r r = some row ∧ ver ≤ row.ver ∧ (row.ver = ver → ∃ g c, rb r = .slice (some ⟨g, 0, none⟩) row.n c ∧ u = .pointer (some ⟨g, j, none⟩))

structure Sat (ok0 : Nat → Prop) (w0 : World) (N : Nat) (vb : Nat × Nat → Nat) (rb : Nat × Nat → Value) (s : AS) (a : Act) (w : World) : Prop where
  below : Below w0.heap.size w0 w
  ok0lt : ∀ k, ok0 k → k < w0.heap.size
  wf : s.wf
  defers : a.defers = []
  size : a.tmps.size = N
  var : ∀ x cs, s.v x = some cs → w0.heap.size ≤ vb x ∧ ∃ us T, w.heap[vb x]? = some (.cells us T (0, 0)) ∧ Fits (MC w (okS ok0 w0.heap.size vb rb s w) rb s) cs us.toList ∧ ∀ u ∈ us.toList, u.oneCell' = true
  row : ∀ r row, s.r r = some row → ∃ us, w.ownsRow w0.heap.size row.e row.sz (rb r) row.n us ∧ Fits (Rep w (okS ok0 w0.heap.size vb rb s w)) row.cells us
  vv : ∀ x y cs cs', s.v x = some cs → s.v y = some cs' → vb x = vb y → x = y
  vr : ∀ x cs r row, s.v x = some cs → s.r r = some row → (rb r).ownBlock ≠ some (vb x)
  rr : ∀ r row r' row', s.r r = some row → s.r r' = some row' → row.live = true → r ≠ r' → (rb r).ownBlock ≠ none → (rb r').ownBlock ≠ (rb r).ownBlock
  tmp : ∀ t, MV w (okS ok0 w0.heap.size vb rb s w) vb rb s (s.t t) (a.tmps.getD t undef)

end Go.Proofs.Ythhaoojgfbofnaa.E
