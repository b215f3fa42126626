/- An abstract interpreter over data, and contracts of the program's functions, part 1; no condition. -/
import Derived.RowKit3
import Derived.Laws.OwnMore
import Derived.Laws.MakeOwn
import Derived.Laws.CopyOwn
import Derived.Below
import Derived.Orders
import Derived.Laws.Tables
import Derived.Laws.Cells
import Derived.Laws.Small
import Derived.Maps.AppendAt
import Derived.Laws.Slices
import Derived.Laws.IdiomCopy
import Derived.Lib.AppendStr
import Derived.Laws.BytesString
set_option linter.unusedSimpArgs false
set_option linter.unusedVariables false
namespace Go.Proofs.YtljmgdepldpmdaaDoor.E
open Go.RowKit

/-- data: a plain cell, or a slice of n elements with the list of all their cells -/
inductive Dt where
  | lit (v : Value)
  | sl (n : Nat) (cells : List Dt)

def plain : Value → Bool
  | .bool _ => true
  | .int _ _ => true
  | .string _ => true
  | _ => false

/-- value v reads as d in w; every block that is read is one of ok -/
inductive Rep (w : World) (ok : Nat → Prop) : Dt → Value → Prop where
  | lit (v : Value) (h : plain v = true) : Rep w ok (.lit v) v
  | sl (A : Option Addr) (n c : Nat) (cells : List Dt) (us : List Value) (hl : us.length = cells.length) (hc : n ≤ c)
      (h1 : ∀ (j : Nat) (u : Value), us[j]? = some u → ∃ a, A = some a ∧ ok a.block ∧ w.cell? (a.add j) = some u)
      (h2 : ∀ (j : Nat) (u : Value) (d : Dt), us[j]? = some u → cells[j]? = some d → Rep w ok d u) : Rep w ok (.sl n cells) (.slice A n c)

theorem block_of_add (a : Addr) (n : Nat) : (a.add n).block = a.block := by unfold Addr.add; split <;> rfl
theorem add_of_add (a : Addr) (i j : Nat) : (a.add i).add j = a.add (i + j) := by
  unfold Addr.add
  by_cases hi : i = 0 <;> by_cases hj : j = 0 <;> simp [hi, hj, Nat.add_assoc]
theorem add_lit (g o j : Nat) : (⟨g, o, none⟩ : Addr).add j = ⟨g, o + j, none⟩ := by unfold Addr.add; split <;> simp_all

theorem Rep.mono {w w' : World} {ok ok' : Nat → Prop} {d : Dt} {v : Value} (h : Rep w ok d v) (hk : ∀ k, ok k → ok' k ∧ w'.heap[k]? = w.heap[k]?) : Rep w' ok' d v := by
  induction h with
  | lit v h => exact .lit v h
  | sl A n c cells us hl hc h1 h2 ih =>
    refine .sl A n c cells us hl hc (fun j u hu => ?_) ih
    obtain ⟨a, e, ha, hcell⟩ := h1 j u hu
    refine ⟨a, e, (hk _ ha).1, ?_⟩
    rw [World.cell?_of_block (w := w) (by rw [block_of_add]; exact (hk _ ha).2)]
    exact hcell
theorem Rep.one {w : World} {ok : Nat → Prop} {d : Dt} {v : Value} (h : Rep w ok d v) : v.oneCell' = true := by
  cases h with
  | lit v h => cases v <;> first | rfl | simp [plain] at h
  | sl => rfl
theorem Rep.cells {w : World} {ok : Nat → Prop} {d : Dt} {v : Value} (h : Rep w ok d v) : v.cells = #[v] := by
  cases h with
  | lit v h => cases v <;> first | rfl | simp [plain] at h
  | sl => rfl

/-- two lists fit, place by place -/
def Fits {α : Type} (R : α → Value → Prop) (xs : List α) (us : List Value) : Prop :=
  us.length = xs.length ∧ ∀ (j : Nat) (u : Value) (x : α), us[j]? = some u → xs[j]? = some x → R x u
theorem Fits.nil {α : Type} (R : α → Value → Prop) : Fits R [] [] := ⟨rfl, fun j u x h => by simp at h⟩
theorem Fits.cons {α : Type} {R : α → Value → Prop} {x : α} {u : Value} {xs : List α} {us : List Value} (h : R x u) (hs : Fits R xs us) : Fits R (x :: xs) (u :: us) :=
  ⟨by simp [hs.1], fun j v y hv hy => by
    cases j with
    | zero => simp at hv hy; subst hv; subst hy; exact h
    | succ j => simp at hv hy; exact hs.2 j v y hv hy⟩
theorem Fits.uncons {α : Type} {R : α → Value → Prop} {x : α} {xs : List α} {us : List Value} (h : Fits R (x :: xs) us) : ∃ u us', us = u :: us' ∧ R x u ∧ Fits R xs us' := by
  cases us with
  | nil => have := h.1; simp at this
  | cons u us => exact ⟨u, us, rfl, h.2 0 u x rfl rfl, by have := h.1; simpa using this, fun j v y hv hy => h.2 (j + 1) v y (by simpa using hv) (by simpa using hy)⟩
theorem Fits.imp {α : Type} {R R' : α → Value → Prop} {xs : List α} {us : List Value} (h : Fits R xs us) (hR : ∀ x u, R x u → R' x u) : Fits R' xs us := ⟨h.1, fun j u x hu hx => hR _ _ (h.2 j u x hu hx)⟩
theorem Fits.at_ {α : Type} {R : α → Value → Prop} {xs : List α} {us : List Value} (h : Fits R xs us) {j : Nat} {x : α} (hx : xs[j]? = some x) : ∃ u, us[j]? = some u ∧ R x u := by
  have hj : j < us.length := by rw [h.1]; exact (List.getElem?_eq_some_iff.1 hx).1
  exact ⟨us[j], List.getElem?_eq_getElem hj, h.2 j _ x (List.getElem?_eq_getElem hj) hx⟩
theorem Fits.drop {α : Type} {R : α → Value → Prop} {xs : List α} {us : List Value} (h : Fits R xs us) (n : Nat) : Fits R (xs.drop n) (us.drop n) :=
  ⟨by simp [h.1], fun j u x hu hx => h.2 (n + j) u x (by rwa [List.getElem?_drop] at hu) (by rwa [List.getElem?_drop] at hx)⟩
theorem Fits.take {α : Type} {R : α → Value → Prop} {xs : List α} {us : List Value} (h : Fits R xs us) (n : Nat) : Fits R (xs.take n) (us.take n) :=
  ⟨by simp [h.1], fun j u x hu hx => by
    rw [List.getElem?_take] at hu hx
    split at hu
    · rename_i hj; rw [if_pos hj] at hx; exact h.2 j u x hu hx
    · simp at hu⟩
theorem Fits.append {α : Type} {R : α → Value → Prop} {xs ys : List α} {us vs : List Value} (h : Fits R xs us) (k : Fits R ys vs) : Fits R (xs ++ ys) (us ++ vs) :=
  ⟨by simp [h.1, k.1], fun j u x hu hx => by
    by_cases hj : j < us.length
    · rw [List.getElem?_append_left hj] at hu
      rw [List.getElem?_append_left (by rw [← h.1]; exact hj)] at hx
      exact h.2 j u x hu hx
    · rw [List.getElem?_append_right (by omega)] at hu
      rw [List.getElem?_append_right (by rw [← h.1]; omega), ← h.1] at hx
      exact k.2 _ u x hu hx⟩
theorem Fits.set_ {α : Type} {R : α → Value → Prop} {xs : List α} {us : List Value} (h : Fits R xs us) (i : Nat) {x : α} {u : Value} (hx : R x u) : Fits R (xs.set i x) (us.set i u) :=
  ⟨by simp [h.1], fun j v y hv hy => by
    rw [List.getElem?_set] at hv hy
    split at hv
    · rename_i e
      rw [if_pos e] at hy
      split at hv
      · rename_i hi
        rw [if_pos (by rw [← h.1]; exact hi)] at hy
        simp at hv hy; subst hv; subst hy; exact hx
      · simp at hv
    · rename_i e; rw [if_neg e] at hy; exact h.2 j v y hv hy⟩

/-- what one cell of the call's own holds -/
inductive Ce where
  | dt (d : Dt)
  | z                                     -- the nil slice
  | row (r : Nat × Nat) (ver : Nat)       -- a slice of the call's own, whole

/-- values as they go into calls and come back -/
inductive RV where
  | one (d : Dt)
  | agg (ds : List Dt)

/-- what a temporary holds -/
inductive AV where
  | no
  | one (c : Ce)
  | agg (cs : List Ce)
  | tup (rs : List RV)
  | ptr (x : Nat × Nat) (off : Nat)
  | el (ds : List Dt)
  | rel (r : Nat × Nat) (ver j : Nat)
  | sv (x : Nat × Nat) (off n : Nat)     -- a slice of a variable's cells
  | pr (cs : List Ce) (c : Ce)           -- a struct and one more result
  | un                                   -- what an operation that isn't wanted leaves

structure Row where
  e : TypeId
  sz : Nat
  n : Nat
  cells : List Dt
  ver : Nat
  live : Bool

structure AS where
  t : Nat → AV
  v : Nat × Nat → Option (List Ce)
  r : Nat × Nat → Option Row
  g : Nat → Nat
  f : Nat × Nat → Bool        -- variables that are no longer written

def AS.wf (s : AS) : Prop := ∀ d k, s.g d ≤ k → s.v (d, k) = none ∧ s.r (d, k) = none ∧ s.f (d, k) = false

def AS.set (s : AS) (d : Nat) (x : AV) : AS := { s with t := fun n => if n = d then x else s.t n }
def AS.setv (s : AS) (x : Nat × Nat) (cs : List Ce) : AS := { s with v := fun y => if y = x then some cs else s.v y }
def AS.setr (s : AS) (x : Nat × Nat) (row : Row) : AS := { s with r := fun y => if y = x then some row else s.r y }
def AS.bump (s : AS) (d : Nat) : AS := { s with g := fun n => if n = d then s.g n + 1 else s.g n }
def AS.put (s : AS) (dst : Option Nat) (x : AV) : AS := match dst with
  | some d => s.set d x
  | none => s

def RV.toAV : RV → AV
  | .one d => .one (.dt d)
  | .agg ds => .agg (ds.map .dt)
def resAV : List RV → AV
  | [r] => r.toAV
  | rs => .tup rs

def MR (w : World) (ok : Nat → Prop) : RV → Value → Prop
  | .one d, v => Rep w ok d v
  | .agg ds, v => ∃ us : List Value, v = .agg us.toArray ∧ Fits (Rep w ok) ds us
def MRs (w : World) (ok : Nat → Prop) : List RV → Value → Prop
  | [r], v => MR w ok r v
  | rs, v => ∃ us : List Value, v = .tuple us.toArray ∧ Fits (MR w ok) rs us

def fok (P : Program) (f : Nat) : Bool := match P.funcs[f]? with
  | some fn => fn.name != "runtime.NumGoroutine" && fn.body.isSome
  | none => false
/-- THE CONTRACT OF A FUNCTION: whatever memory the arguments lie in, the call returns rs, in memory of the arguments' or in new memory, and changes nothing that was there. -/
def AFun (P : Program) (f : Nat) (args : List RV) (rs : List RV) : Prop := fok P f = true ∧
  ∀ (ok : Nat → Prop) (w : World) (vs : List Value), (∀ k, ok k → k < w.heap.size) → Fits (MR w ok) args vs →
    Calls P f vs.toArray w fun e w' => ∃ v, e = .returned v ∧ MRs w' (fun k => ok k ∨ (w.heap.size ≤ k ∧ k < w'.heap.size)) rs v ∧ Below w.heap.size w w'

def ceD : Ce → Option Dt
  | .dt d => some d
  | .z => some (.sl 0 [])
  | .row _ _ => none
def ceDs : List Ce → Option (List Dt)
  | [] => some []
  | c :: cs => match ceD c, ceDs cs with
    | some d, some ds => some (d :: ds)
    | _, _ => none

/-- cells of a value that is data -/
def toD (s : AS) : Ce → Option Dt
  | .dt d => some d
  | .z => some (.sl 0 [])
  | .row r ver => match s.r r with
    | some row => if row.ver = ver ∧ row.live = false then some (.sl row.n row.cells) else none
    | none => none
def toDs (s : AS) : List Ce → Option (List Dt)
  | [] => some []
  | c :: cs => match toD s c, toDs s cs with
    | some d, some ds => some (d :: ds)
    | _, _ => none
def toRV (s : AS) : AV → Option RV
  | .one c => (toD s c).map .one
  | .agg cs => (toDs s cs).map .agg
  | .sv x off n => match s.v x with
    | some cs => if s.f x = true ∧ off + n ≤ cs.length then (ceDs cs).map fun ds => .one (.sl n ((ds.drop off).take n)) else none
    | none => none
  | _ => none
def toRVs (s : AS) : List AV → Option (List RV)
  | [] => some []
  | x :: xs => match toRV s x, toRVs s xs with
    | some r, some rs => some (r :: rs)
    | _, _ => none

/-! ### the tie to the machine -/
/-- the blocks that may be read: what was handed over, and new ones that are no longer written -/
def okS (ok0 : Nat → Prop) (base : Nat) (vb : Nat × Nat → Nat) (rb : Nat × Nat → Value) (s : AS) (w : World) (k : Nat) : Prop :=
  (ok0 k ∨ base ≤ k) ∧ k < w.heap.size ∧ (∀ x cs, s.v x = some cs → s.f x = false → vb x ≠ k) ∧ (∀ r row, s.r r = some row → row.live = true → (rb r).ownBlock ≠ some k)

def MC (w : World) (ok : Nat → Prop) (rb : Nat × Nat → Value) (s : AS) : Ce → Value → Prop
  | .dt d, u => Rep w ok d u
  | .z, u => u = .slice none 0 0
  | .row r ver, u => ∃ row, s.r r = some row ∧ ver ≤ row.ver ∧ (row.ver = ver → u = rb r)

def MV (w : World) (ok : Nat → Prop) (vb : Nat × Nat → Nat) (rb : Nat × Nat → Value) (s : AS) : AV → Value → Prop
  | .no, _ => True
  | .un, u => u = undef
  | .one c, u => MC w ok rb s c u ∧ u.oneCell' = true
  | .agg cs, u => ∃ us : List Value, u = .agg us.toArray ∧ Fits (MC w ok rb s) cs us ∧ ∀ x ∈ us, x.oneCell' = true
  | .tup rs, u => ∃ us : List Value, u = .tuple us.toArray ∧ Fits (MR w ok) rs us
  | .ptr x off, u => ∃ cs, s.v x = some cs ∧ u = .pointer (some ⟨vb x, off, none⟩)
  | .el ds, u => ∃ (a : Addr) (us : List Value), u = .pointer (some a) ∧ Fits (Rep w ok) ds us ∧ (us ≠ [] → ok a.block) ∧ ∀ (j : Nat) (x : Value), us[j]? = some x → w.cell? (a.add j) = some x
  | .pr cs c, u => ∃ (us : List Value) (u1 : Value), u = .tuple #[.agg us.toArray, u1] ∧ Fits (MC w ok rb s) cs us ∧ (∀ x ∈ us, x.oneCell' = true) ∧ MC w ok rb s c u1 ∧ u1.oneCell' = true
  | .sv x off n, u => ∃ cs o c, s.v x = some cs ∧ u = .slice (some ⟨vb x, o, none⟩) n c ∧ n ≤ c ∧ (n ≠ 0 → o = off)
  | .rel r ver j, u => ∃ row, s.r r = some row ∧ ver ≤ row.ver ∧ (row.ver = ver → ∃ g c, rb r = .slice (some ⟨g, 0, none⟩) row.n c ∧ u = .pointer (some ⟨g, j, none⟩))

/-- from one world to another nothing has changed below, but for one block that may be written -/
structure Fr (X : Nat) (w0 w : World) : Prop where
  os : w.os = w0.os
  tape : w.tape = w0.tape
  output : w.output = w0.output
  size : w0.heap.size ≤ w.heap.size
  block : ∀ k, k < w0.heap.size → k ≠ X → w.heap[k]? = w0.heap[k]?
theorem Fr.below {X : Nat} {w0 w : World} (h : Fr X w0 w) (hX : w0.heap.size ≤ X) : Below w0.heap.size w0 w := ⟨h.os, h.tape, h.output, h.size, fun k hk => h.block k hk (by omega)⟩
theorem Fr.step {X : Nat} {w0 w w' : World} (h : Fr X w0 w) (hb : Below w.heap.size w w') : Fr X w0 w' :=
  ⟨hb.os.trans h.os, hb.tape.trans h.tape, hb.output.trans h.output, Nat.le_trans h.size hb.size, fun k hk hX => (hb.block k (Nat.lt_of_lt_of_le hk h.size)).trans (h.block k hk hX)⟩
theorem Fr.alloc {X : Nat} {w0 w : World} (h : Fr X w0 w) (o : Obj) : Fr X w0 (w.alloc o) := h.step ((Below.refl _ w).alloc (Nat.le_refl _) o)
theorem Fr.grown {X : Nat} {w0 w w' : World} {row : Option Nat} (h : Fr X w0 w) (hg : w.grownBy w' row) (hr : ∀ k, row = some k → w0.heap.size ≤ k ∨ k = X) : Fr X w0 w' :=
  ⟨hg.os.trans h.os, hg.tape.trans h.tape, hg.output.trans h.output, Nat.le_trans h.size hg.size, fun k hk hX => (hg.block k (Nat.lt_of_lt_of_le hk h.size) (fun e => by have := hr k e.symm; omega)).trans (h.block k hk hX)⟩

structure Sat (ok0 : Nat → Prop) (w0 : World) (X N : Nat) (vb : Nat × Nat → Nat) (rb : Nat × Nat → Value) (s : AS) (a : Act) (w : World) : Prop where
  below : Fr X w0 w
  ok0lt : ∀ k, ok0 k → k < w0.heap.size
  wf : s.wf
  defers : a.defers = []
  size : a.tmps.size = N
  var : ∀ x cs, s.v x = some cs → (w0.heap.size ≤ vb x ∨ vb x = X ∧ ok0 X) ∧ ∃ us T, w.heap[vb x]? = some (.cells us T (0, 0)) ∧ Fits (MC w (okS ok0 w0.heap.size vb rb s w) rb s) cs (us.toList.take cs.length) ∧ ∀ u ∈ us.toList.take cs.length, u.oneCell' = true
  row : ∀ r row, s.r r = some row → ∃ us, w.ownsRow w0.heap.size row.e row.sz (rb r) row.n us ∧ Fits (Rep w (okS ok0 w0.heap.size vb rb s w)) row.cells us
  vv : ∀ x y cs cs', s.v x = some cs → s.v y = some cs' → vb x = vb y → x = y
  vr : ∀ x cs r row, s.v x = some cs → s.r r = some row → (rb r).ownBlock ≠ some (vb x)
  rr : ∀ r row r' row', s.r r = some row → s.r r' = some row' → row.live = true → r ≠ r' → (rb r).ownBlock ≠ none → (rb r').ownBlock ≠ (rb r).ownBlock
  pin : ok0 X → vb (0, 0) = X ∧ (s.v (0, 0)).isSome = true
  tmp : ∀ t, MV w (okS ok0 w0.heap.size vb rb s w) vb rb s (s.t t) (a.tmps.getD t undef)

end Go.Proofs.YtljmgdepldpmdaaDoor.E

set_option linter.unusedSimpArgs false
set_option linter.unusedVariables false
namespace Go.Proofs.YtljmgdepldpmdaaDoor.E
open Go.RowKit

/-- from one world and state to another: what could be read reads as it did -/
structure Ext (w : World) (ok : Nat → Prop) (vb : Nat × Nat → Nat) (rb : Nat × Nat → Value) (s : AS) (w' : World) (ok' : Nat → Prop) (vb' : Nat × Nat → Nat) (rb' : Nat × Nat → Value) (s' : AS) : Prop where
  k : ∀ k, ok k → ok' k ∧ w'.heap[k]? = w.heap[k]?
  v : ∀ x cs, s.v x = some cs → ∃ cs', s'.v x = some cs' ∧ vb' x = vb x
  r : ∀ r row, s.r r = some row → ∃ row', s'.r r = some row' ∧ row.ver ≤ row'.ver ∧ (row'.ver = row.ver → rb' r = rb r ∧ row'.n = row.n)

section
variable {w w' : World} {ok ok' : Nat → Prop} {vb vb' : Nat × Nat → Nat} {rb rb' : Nat × Nat → Value} {s s' : AS}
theorem Ext.mc (h : Ext w ok vb rb s w' ok' vb' rb' s') {c : Ce} {u : Value} (hc : MC w ok rb s c u) : MC w' ok' rb' s' c u := by
  cases c with
  | dt d => exact Rep.mono hc h.k
  | z => exact hc
  | row r ver =>
    obtain ⟨row, hr, hv, hu⟩ := hc
    obtain ⟨row', hr', hv', hu'⟩ := h.r r row hr
    exact ⟨row', hr', by omega, fun e => by rw [(hu' (by omega)).1]; exact hu (by omega)⟩
theorem Ext.mr (hk : ∀ k, ok k → ok' k ∧ w'.heap[k]? = w.heap[k]?) {r : RV} {u : Value} (hc : MR w ok r u) : MR w' ok' r u := by
  cases r with
  | one d => exact Rep.mono hc hk
  | agg ds =>
    obtain ⟨us, e, hf⟩ := hc
    exact ⟨us, e, hf.imp fun d u hr => hr.mono hk⟩
theorem Ext.mv (h : Ext w ok vb rb s w' ok' vb' rb' s') {x : AV} {u : Value} (hx : MV w ok vb rb s x u) : MV w' ok' vb' rb' s' x u := by
  cases x with
  | no => trivial
  | un => exact hx
  | one c => exact ⟨h.mc hx.1, hx.2⟩
  | agg cs =>
    obtain ⟨us, e, hf, h1⟩ := hx
    exact ⟨us, e, hf.imp fun c u hr => h.mc hr, h1⟩
  | tup rs =>
    obtain ⟨us, e, hf⟩ := hx
    exact ⟨us, e, hf.imp fun c u hr => Ext.mr h.k hr⟩
  | ptr x off =>
    obtain ⟨cs, hv, e⟩ := hx
    obtain ⟨cs', hv', e'⟩ := h.v x cs hv
    exact ⟨cs', hv', by rw [e']; exact e⟩
  | el ds =>
    obtain ⟨a, us, e, hf, ho, hc⟩ := hx
    refine ⟨a, us, e, hf.imp fun d u hr => hr.mono h.k, fun hn => (h.k _ (ho hn)).1, fun j x hx => ?_⟩
    have hn : us ≠ [] := by intro e0; rw [e0] at hx; simp at hx
    rw [World.cell?_of_block (w := w) (by rw [block_of_add]; exact (h.k _ (ho hn)).2)]
    exact hc j x hx
  | pr cs c =>
    obtain ⟨us, u1, e, hf, h1, hc, h2⟩ := hx
    exact ⟨us, u1, e, hf.imp fun c u hr => h.mc hr, h1, h.mc hc, h2⟩
  | sv x off n =>
    obtain ⟨cs, o, c, hv, e, h1, h2⟩ := hx
    obtain ⟨cs', hv', e'⟩ := h.v x cs hv
    exact ⟨cs', o, c, hv', by rw [e']; exact e, h1, h2⟩
  | rel r ver j =>
    obtain ⟨row, hr, hv, hu⟩ := hx
    obtain ⟨row', hr', hv', hu'⟩ := h.r r row hr
    refine ⟨row', hr', by omega, fun e => ?_⟩
    obtain ⟨e1, e2⟩ := hu' (by omega)
    obtain ⟨g, c, h1, h2⟩ := hu (by omega)
    exact ⟨g, c, by rw [e1, e2]; exact h1, h2⟩
end

theorem heap_lt {w : World} {k : Nat} {o : Obj} (h : w.heap[k]? = some o) : k < w.heap.size := (Array.getElem?_eq_some_iff.1 h).1

section
variable {ok0 : Nat → Prop} {w0 w w' : World} {X N : Nat} {vb : Nat × Nat → Nat} {rb : Nat × Nat → Value} {s s' : AS} {a : Act}

theorem Sat.vlt (h : Sat ok0 w0 X N vb rb s a w) {x : Nat × Nat} {cs : List Ce} (hx : s.v x = some cs) : vb x < w.heap.size := by
  obtain ⟨_, us, T, hh, _⟩ := h.var x cs hx
  exact heap_lt hh
theorem Sat.rlt (h : Sat ok0 w0 X N vb rb s a w) {r : Nat × Nat} {row : Row} (hr : s.r r = some row) {k : Nat} (hk : (rb r).ownBlock = some k) : w0.heap.size ≤ k ∧ k < w.heap.size := by
  obtain ⟨us, ho, _⟩ := h.row r row hr
  exact ho.lt k hk

/-- a temporary takes a new value -/
theorem Sat.set (h : Sat ok0 w0 X N vb rb s a w) (d : Nat) (hd : d < N) (x : AV) (u : Value) (hx : MV w (okS ok0 w0.heap.size vb rb s w) vb rb s x u) : Sat ok0 w0 X N vb rb (s.set d x) (a.put (some d) u) w where
  below := h.below
  ok0lt := h.ok0lt
  wf := h.wf
  defers := h.defers
  size := by simp [Act.put, h.size]
  var := h.var
  row := h.row
  vv := h.vv
  vr := h.vr
  rr := h.rr
  pin := h.pin
  tmp := fun t => by
    have ht := h.tmp t
    show MV w (okS ok0 w0.heap.size vb rb s w) vb rb s (if t = d then x else s.t t) ((a.tmps.setIfInBounds d u).getD t undef)
    by_cases e : t = d
    · subst e
      have hd' : t < a.tmps.size := by rw [h.size]; exact hd
      rw [if_pos rfl]
      simp [Array.getD_eq_getD_getElem?, hd']
      exact hx
    · rw [if_neg e]
      have : (a.tmps.setIfInBounds d u).getD t undef = a.tmps.getD t undef := by
        simp [Array.getD_eq_getD_getElem?, Ne.symm e]
      rw [this]
      exact ht

theorem okS_grow {k : Nat} (h : okS ok0 w0.heap.size vb rb s w k) (hs : w.heap.size ≤ w'.heap.size) : okS ok0 w0.heap.size vb rb s w' k := ⟨h.1, Nat.lt_of_lt_of_le h.2.1 hs, h.2.2⟩

/-- memory grows: nothing that was there has changed -/
theorem Sat.world (h : Sat ok0 w0 X N vb rb s a w) (hb : Below w.heap.size w w') : Sat ok0 w0 X N vb rb s a w' := by
  have hx : Ext w (okS ok0 w0.heap.size vb rb s w) vb rb s w' (okS ok0 w0.heap.size vb rb s w') vb rb s :=
    ⟨fun k hk => ⟨okS_grow hk hb.size, hb.block k hk.2.1⟩, fun x cs hv => ⟨cs, hv, rfl⟩, fun r row hr => ⟨row, hr, Nat.le_refl _, fun _ => ⟨rfl, rfl⟩⟩⟩
  have hg : w.grownBy w' none := ⟨hb.os, hb.tape, hb.output, hb.size, fun i hi _ => hb.block i hi⟩
  exact {
    below := h.below.step hb
    ok0lt := h.ok0lt
    wf := h.wf
    defers := h.defers
    size := h.size
    var := fun x cs hv => by
      obtain ⟨h1, us, T, hh, hf, ho⟩ := h.var x cs hv
      exact ⟨h1, us, T, (hb.block _ (heap_lt hh)).trans hh, hf.imp fun c u hc => hx.mc hc, ho⟩
    row := fun r row hr => by
      obtain ⟨us, ho, hf⟩ := h.row r row hr
      refine ⟨us, ho.kept hg ?_, hf.imp fun d u hd => hd.mono hx.k⟩
      cases (rb r).ownBlock <;> simp
    vv := h.vv
    vr := h.vr
    rr := h.rr
    pin := h.pin
    tmp := fun t => hx.mv (h.tmp t) }

/-- new memory may be read -/
theorem Sat.fresh (h : Sat ok0 w0 X N vb rb s a w) {k : Nat} (h1 : w.heap.size ≤ k) (h2 : k < w'.heap.size) : okS ok0 w0.heap.size vb rb s w' k :=
  ⟨.inr (Nat.le_trans h.below.size h1), h2, fun x cs hx _ e => by have := h.vlt hx; omega, fun r row hr _ e => by have := h.rlt hr e; omega⟩

/-- a new variable -/
theorem Sat.newvarw (h : Sat ok0 w0 X N vb rb s a w) (hb : Below w.heap.size w w') (g : Nat) (hg : w.heap.size ≤ g) (d : Nat) (cs : List Ce) (us : Array Value) (T : TypeId) (hh0 : w'.heap[g]? = some (.cells us T (0, 0))) (hf : Fits (MC w (okS ok0 w0.heap.size vb rb s w) rb s) cs (us.toList.take cs.length)) (h1 : ∀ u ∈ us.toList.take cs.length, u.oneCell' = true) :
    Sat ok0 w0 X N (fun y => if y = (d, s.g d) then g else vb y) rb ((s.setv (d, s.g d) cs).bump d) a w' := by
  have hfresh : s.v (d, s.g d) = none := (h.wf d (s.g d) (Nat.le_refl _)).1
  have hne : ∀ y cs', s.v y = some cs' → y ≠ (d, s.g d) := fun y cs' hy e => by rw [e, hfresh] at hy; cases hy
  have hvb : ∀ y cs', s.v y = some cs' → (if y = (d, s.g d) then g else vb y) = vb y := fun y cs' hy => if_neg (hne y cs' hy)
  have hsv : ∀ y, ((s.setv (d, s.g d) cs).bump d).v y = if y = (d, s.g d) then some cs else s.v y := fun y => rfl
  have hok : ∀ k, okS ok0 w0.heap.size vb rb s w k → okS ok0 w0.heap.size (fun y => if y = (d, s.g d) then g else vb y) rb ((s.setv (d, s.g d) cs).bump d) w' k := fun k hk => by
    refine ⟨hk.1, ?_, fun y cs' hy hlv => ?_, hk.2.2.2⟩
    · exact Nat.lt_of_lt_of_le hk.2.1 hb.size
    · rw [hsv] at hy
      split at hy
      · rename_i e
        have := hk.2.1
        simp only [e, if_true]; omega
      · rename_i e
        simp only [e, if_false]
        exact hk.2.2.1 y cs' hy hlv
  have hx : Ext w (okS ok0 w0.heap.size vb rb s w) vb rb s w' (okS ok0 w0.heap.size (fun y => if y = (d, s.g d) then g else vb y) rb ((s.setv (d, s.g d) cs).bump d) w') (fun y => if y = (d, s.g d) then g else vb y) rb ((s.setv (d, s.g d) cs).bump d) :=
    ⟨fun k hk => ⟨hok k hk, hb.block k hk.2.1⟩, fun y cs' hy => ⟨cs', by rw [hsv, if_neg (hne y cs' hy)]; exact hy, hvb y cs' hy⟩, fun r row hr => ⟨row, hr, Nat.le_refl _, fun _ => ⟨rfl, rfl⟩⟩⟩
  exact {
    below := h.below.step hb
    ok0lt := h.ok0lt
    wf := fun d' k hk => by
      have hk' : (if d' = d then s.g d' + 1 else s.g d') ≤ k := hk
      have hg : s.g d' ≤ k := by split at hk' <;> omega
      refine ⟨?_, (h.wf d' k hg).2⟩
      rw [hsv, if_neg]
      · exact (h.wf d' k hg).1
      · intro e
        simp only [Prod.mk.injEq] at e
        rw [if_pos e.1] at hk'
        obtain ⟨rfl, rfl⟩ := e
        omega
    defers := h.defers
    size := h.size
    var := fun y cs' hy => by
      rw [hsv] at hy
      split at hy
      · rename_i e
        cases hy
        refine ⟨.inl (by simp only [e, if_true]; exact Nat.le_trans h.below.size hg), us, T, by simp only [e, if_true]; exact hh0, hf.imp fun c u hc => hx.mc hc, h1⟩
      · rename_i e
        obtain ⟨hb1, us', T', hh, hf', ho⟩ := h.var y cs' hy
        simp only [e, if_false]
        exact ⟨hb1, us', T', (hb.block _ (heap_lt hh)).trans hh, hf'.imp fun c u hc => hx.mc hc, ho⟩
    row := fun r row hr => by
      obtain ⟨us', ho, hf'⟩ := h.row r row hr
      refine ⟨us', ho.kept (row := none) ⟨hb.os, hb.tape, hb.output, hb.size, fun i hi _ => hb.block i hi⟩ ?_, hf'.imp fun d u hd => hd.mono hx.k⟩
      cases (rb r).ownBlock <;> simp
    vv := fun y y' cs1 cs2 hy hy' e => by
      rw [hsv] at hy hy'
      by_cases e1 : y = (d, s.g d) <;> by_cases e2 : y' = (d, s.g d)
      · rw [e1, e2]
      · rw [if_neg e2] at hy'
        have := h.vlt hy'
        simp only [e1, e2, if_true, if_false] at e; omega
      · rw [if_neg e1] at hy
        have := h.vlt hy
        simp only [e1, e2, if_true, if_false] at e; omega
      · rw [if_neg e1] at hy
        rw [if_neg e2] at hy'
        simp only [e1, e2, if_false] at e
        exact h.vv y y' cs1 cs2 hy hy' e
    vr := fun y cs' r row hy hr e => by
      rw [hsv] at hy
      by_cases e1 : y = (d, s.g d)
      · simp only [e1, if_true] at e
        have := h.rlt hr e
        omega
      · rw [if_neg e1] at hy
        simp only [e1, if_false] at e
        exact h.vr y cs' r row hy hr e
    rr := h.rr
    pin := fun hk => by
      obtain ⟨h1, h2⟩ := h.pin hk
      obtain ⟨cs', h2'⟩ := Option.isSome_iff_exists.mp h2
      have hne0 := hne _ _ h2'
      exact ⟨by simp only [hne0, if_false]; exact h1, by rw [hsv, if_neg hne0]; exact h2⟩
    tmp := fun t => hx.mv (h.tmp t) }

theorem Sat.newvar (h : Sat ok0 w0 X N vb rb s a w) (d : Nat) (cs : List Ce) (us : Array Value) (T : TypeId) (hf : Fits (MC w (okS ok0 w0.heap.size vb rb s w) rb s) cs us.toList) (h1 : ∀ u ∈ us.toList, u.oneCell' = true) :
    Sat ok0 w0 X N (fun y => if y = (d, s.g d) then w.heap.size else vb y) rb ((s.setv (d, s.g d) cs).bump d) a (w.alloc (.cells us T)) := by
  have ht : us.toList.take cs.length = us.toList := List.take_of_length_le (by rw [hf.1]; exact Nat.le_refl _)
  exact h.newvarw ((Below.refl _ w).alloc (Nat.le_refl _) _) w.heap.size (Nat.le_refl _) d cs us T (heap_alloc_new w _) (by rw [ht]; exact hf) (by rw [ht]; exact h1)

/-- a store into a variable -/
theorem Sat.storew (h : Sat ok0 w0 X N vb rb s a w) {x : Nat × Nat} {cs0 : List Ce} (hv : s.v x = some cs0) (hlive : s.f x = false) (hg : w.grownBy w' (some (vb x))) (cs : List Ce) (us : Array Value) (T : TypeId) (hh0 : w'.heap[vb x]? = some (.cells us T (0, 0))) (hf : Fits (MC w (okS ok0 w0.heap.size vb rb s w) rb s) cs (us.toList.take cs.length)) (h1 : ∀ u ∈ us.toList.take cs.length, u.oneCell' = true) :
    Sat ok0 w0 X N vb rb (s.setv x cs) a w' := by
  have hsv : ∀ y, (s.setv x cs).v y = if y = x then some cs else s.v y := fun y => rfl
  have hdom : ∀ y cs', (s.setv x cs).v y = some cs' → ∃ cs'', s.v y = some cs'' := fun y cs' hy => by
    rw [hsv] at hy
    split at hy
    · rename_i e; exact ⟨cs0, by rw [e]; exact hv⟩
    · exact ⟨cs', hy⟩
  have hok : ∀ k, okS ok0 w0.heap.size vb rb s w k → okS ok0 w0.heap.size vb rb (s.setv x cs) w' k := fun k hk =>
    ⟨hk.1, Nat.lt_of_lt_of_le hk.2.1 hg.size, fun y cs' hy hlv => by obtain ⟨cs'', hy'⟩ := hdom y cs' hy; exact hk.2.2.1 y cs'' hy' hlv, hk.2.2.2⟩
  have hx : Ext w (okS ok0 w0.heap.size vb rb s w) vb rb s w' (okS ok0 w0.heap.size vb rb (s.setv x cs) w') vb rb (s.setv x cs) :=
    ⟨fun k hk => ⟨hok k hk, hg.block k hk.2.1 (fun e => hk.2.2.1 x cs0 hv hlive (by simpa using e.symm))⟩, fun y cs' hy => by
      rw [hsv]
      by_cases e : y = x
      · exact ⟨cs, by rw [if_pos e], rfl⟩
      · exact ⟨cs', by rw [if_neg e]; exact hy, rfl⟩, fun r row hr => ⟨row, hr, Nat.le_refl _, fun _ => ⟨rfl, rfl⟩⟩⟩
  obtain ⟨hb, us0, T0, hh, _, _⟩ := h.var x cs0 hv
  exact {
    below := h.below.grown hg fun k hk => by
      cases hk
      exact hb.imp id And.left
    ok0lt := h.ok0lt
    wf := fun d k hk => by
      refine ⟨?_, (h.wf d k hk).2⟩
      rw [hsv, if_neg]
      · exact (h.wf d k hk).1
      · intro e; rw [← e, (h.wf d k hk).1] at hv; cases hv
    defers := h.defers
    size := h.size
    var := fun y cs' hy => by
      rw [hsv] at hy
      by_cases e : y = x
      · rw [if_pos e] at hy; cases hy
        rw [e]
        exact ⟨hb, us, T, hh0, hf.imp fun c u hc => hx.mc hc, h1⟩
      · rw [if_neg e] at hy
        obtain ⟨hb', us', T', hh', hf', ho⟩ := h.var y cs' hy
        exact ⟨hb', us', T', (hg.block _ (heap_lt hh') (fun e' => e (h.vv y x cs' cs0 hy hv (by simpa using e')))).trans hh', hf'.imp fun c u hc => hx.mc hc, ho⟩
    row := fun r row hr => by
      obtain ⟨us', ho, hf'⟩ := h.row r row hr
      exact ⟨us', ho.kept hg (.inr (h.vr x cs0 r row hv hr)), hf'.imp fun d u hd => hd.mono hx.k⟩
    vv := fun y y' cs1 cs2 hy hy' e => by
      obtain ⟨c1, k1⟩ := hdom y cs1 hy
      obtain ⟨c2, k2⟩ := hdom y' cs2 hy'
      exact h.vv y y' c1 c2 k1 k2 e
    vr := fun y cs' r row hy hr => by
      obtain ⟨c1, k1⟩ := hdom y cs' hy
      exact h.vr y c1 r row k1 hr
    rr := h.rr
    pin := fun hk => by
      obtain ⟨h1, h2⟩ := h.pin hk
      refine ⟨h1, ?_⟩
      rw [hsv]
      split
      · rfl
      · exact h2
    tmp := fun t => hx.mv (h.tmp t) }
theorem Sat.storev (h : Sat ok0 w0 X N vb rb s a w) {x : Nat × Nat} {cs0 : List Ce} (hv : s.v x = some cs0) (hlive : s.f x = false) (cs : List Ce) (us : Array Value) (hf : Fits (MC w (okS ok0 w0.heap.size vb rb s w) rb s) cs (us.toList.take cs.length)) (h1 : ∀ u ∈ us.toList.take cs.length, u.oneCell' = true) :
    Sat ok0 w0 X N vb rb (s.setv x cs) a (w.setRow (vb x) us) := by
  obtain ⟨hb, us0, T, hh, _, _⟩ := h.var x cs0 hv
  exact h.storew (w' := w.setRow (vb x) us) hv hlive ⟨rfl, rfl, rfl, by simp, fun k _ hk => setRow_other w (vb x) k us (fun e => hk (by rw [e]))⟩ cs us T (setRow_heap w (vb x) us0 us T (0, 0) hh) hf h1
end
end Go.Proofs.YtljmgdepldpmdaaDoor.E

set_option linter.unusedSimpArgs false
set_option linter.unusedVariables false
namespace Go.Proofs.YtljmgdepldpmdaaDoor.E
open Go.RowKit

section
variable {ok0 : Nat → Prop} {w0 w w' : World} {X N : Nat} {vb : Nat × Nat → Nat} {rb : Nat × Nat → Value} {s s' : AS} {a : Act}

/-- a row of the call's own is written, or appended to -/
theorem Sat.rowset (h : Sat ok0 w0 X N vb rb s a w) {r : Nat × Nat} {row : Row} (hr : s.r r = some row) (hl : row.live = true) (hg : w.grownBy w' (rb r).ownBlock)
    (v' : Value) (n' : Nat) (cells' : List Dt) (ver' : Nat) (us' : List Value) (ho : w'.ownsRow w0.heap.size row.e row.sz v' n' us')
    (hf : Fits (Rep w (okS ok0 w0.heap.size vb rb s w)) cells' us') (hat : v'.ownBlock = (rb r).ownBlock ∨ v'.ownBlock = some w.heap.size) (hver : row.ver ≤ ver') (hsame : ver' = row.ver → v' = rb r ∧ n' = row.n) :
    Sat ok0 w0 X N vb (fun y => if y = r then v' else rb y) (s.setr r { row with n := n', cells := cells', ver := ver' }) a w' := by
  have hsr : ∀ y, (s.setr r { row with n := n', cells := cells', ver := ver' }).r y = if y = r then some { row with n := n', cells := cells', ver := ver' } else s.r y := fun y => rfl
  have hrne : ∀ k, okS ok0 w0.heap.size vb rb s w k → some k ≠ (rb r).ownBlock := fun k hk e => hk.2.2.2 r row hr hl e.symm
  have hok : ∀ k, okS ok0 w0.heap.size vb rb s w k → okS ok0 w0.heap.size vb (fun y => if y = r then v' else rb y) (s.setr r { row with n := n', cells := cells', ver := ver' }) w' k := fun k hk =>
    ⟨hk.1, Nat.lt_of_lt_of_le hk.2.1 hg.size, hk.2.2.1, fun y row' hy hl' e => by
      rw [hsr] at hy
      by_cases e1 : y = r
      · simp only [e1, if_true] at e
        rcases hat with h1 | h1
        · rw [h1] at e; exact hrne k hk e.symm
        · rw [h1] at e; have := hk.2.1; simp at e; omega
      · rw [if_neg e1] at hy
        simp only [e1, if_false] at e
        exact hk.2.2.2 y row' hy hl' e⟩
  have hx : Ext w (okS ok0 w0.heap.size vb rb s w) vb rb s w' (okS ok0 w0.heap.size vb (fun y => if y = r then v' else rb y) (s.setr r { row with n := n', cells := cells', ver := ver' }) w') vb (fun y => if y = r then v' else rb y) (s.setr r { row with n := n', cells := cells', ver := ver' }) :=
    ⟨fun k hk => ⟨hok k hk, hg.block k hk.2.1 (hrne k hk)⟩, fun y cs hy => ⟨cs, hy, rfl⟩, fun y row' hy => by
      rw [hsr]
      by_cases e : y = r
      · have e2 : row' = row := by rw [e, hr] at hy; exact (Option.some.inj hy).symm
        subst e2
        refine ⟨{ row' with n := n', cells := cells', ver := ver' }, by rw [if_pos e], hver, fun ev => ?_⟩
        obtain ⟨a1, a2⟩ := hsame ev
        simp only [e, if_true]
        exact ⟨a1, a2⟩
      · exact ⟨row', by rw [if_neg e]; exact hy, Nat.le_refl _, fun _ => ⟨by simp only [e, if_false], rfl⟩⟩⟩
  have hbase : ∀ k, (rb r).ownBlock = some k → w0.heap.size ≤ k := fun k hk => (h.rlt hr hk).1
  exact {
    below := h.below.grown hg fun k hk => .inl (hbase k hk)
    ok0lt := h.ok0lt
    wf := fun d k hk => by
      refine ⟨(h.wf d k hk).1, ?_, (h.wf d k hk).2.2⟩
      rw [hsr, if_neg]
      · exact (h.wf d k hk).2.1
      · intro e; rw [← e, (h.wf d k hk).2.1] at hr; cases hr
    defers := h.defers
    size := h.size
    var := fun y cs' hy => by
      obtain ⟨hb, us, T, hh, hf', h1⟩ := h.var y cs' hy
      exact ⟨hb, us, T, (hg.block _ (heap_lt hh) (fun e => h.vr y cs' r row hy hr e.symm)).trans hh, hf'.imp fun c u hc => hx.mc hc, h1⟩
    row := fun y row' hy => by
      rw [hsr] at hy
      by_cases e : y = r
      · rw [if_pos e] at hy; cases hy
        simp only [e, if_true]
        exact ⟨us', ho, hf.imp fun d u hd => hd.mono hx.k⟩
      · rw [if_neg e] at hy
        obtain ⟨us, ho', hf'⟩ := h.row y row' hy
        simp only [e, if_false]
        refine ⟨us, ho'.kept hg ?_, hf'.imp fun d u hd => hd.mono hx.k⟩
        by_cases e0 : (rb r).ownBlock = none
        · rw [e0]; cases (rb y).ownBlock <;> simp
        · exact .inr (h.rr r row y row' hr hy hl (fun e1 => e e1.symm) e0)
    vv := h.vv
    vr := fun y cs' r' row' hy hr' e => by
      rw [hsr] at hr'
      by_cases e1 : r' = r
      · simp only [e1, if_true] at e
        rcases hat with h1 | h1
        · rw [h1] at e; exact h.vr y cs' r row hy hr e
        · rw [h1] at e; have := h.vlt hy; simp at e; omega
      · rw [if_neg e1] at hr'
        simp only [e1, if_false] at e
        exact h.vr y cs' r' row' hy hr' e
    rr := fun y row1 y' row2 h1 h2 hl1 hne hn e => by
      rw [hsr] at h1 h2
      by_cases e1 : y = r <;> by_cases e2 : y' = r
      · exact hne (e1.trans e2.symm)
      · rw [if_neg e2] at h2
        simp only [e1, e2, if_true, if_false] at e hn
        rcases hat with h3 | h3
        · rw [h3] at e hn; exact h.rr r row y' row2 hr h2 hl (fun e3 => e2 e3.symm) hn e
        · rw [h3] at e; have := h.rlt h2 e; omega
      · rw [if_neg e1] at h1
        simp only [e1, e2, if_true, if_false] at e hn
        rcases hat with h3 | h3
        · rw [h3] at e; exact h.rr y row1 r row h1 hr hl1 e1 hn e
        · rw [h3] at e; have := h.rlt h1 e.symm; omega
      · rw [if_neg e1] at h1
        rw [if_neg e2] at h2
        simp only [e1, e2, if_false] at e hn
        exact h.rr y row1 y' row2 h1 h2 hl1 hne hn e
    pin := h.pin
    tmp := fun t => hx.mv (h.tmp t) }

/-- a new row -/
theorem Sat.newrow (h : Sat ok0 w0 X N vb rb s a w) (d : Nat) (hg : w.grownBy w' none) (row : Row) (v' : Value) (us' : List Value) (ho : w'.ownsRow w0.heap.size row.e row.sz v' row.n us')
    (hf : Fits (Rep w' (okS ok0 w0.heap.size vb rb s w)) row.cells us') (hat : v'.ownBlock = none ∨ v'.ownBlock = some w.heap.size) :
    Sat ok0 w0 X N vb (fun y => if y = (d, s.g d) then v' else rb y) ((s.setr (d, s.g d) row).bump d) a w' := by
  have hfresh : s.r (d, s.g d) = none := (h.wf d (s.g d) (Nat.le_refl _)).2.1
  have hne : ∀ y row', s.r y = some row' → y ≠ (d, s.g d) := fun y row' hy e => by rw [e, hfresh] at hy; cases hy
  have hsr : ∀ y, ((s.setr (d, s.g d) row).bump d).r y = if y = (d, s.g d) then some row else s.r y := fun y => rfl
  have hb : Below w.heap.size w w' := ⟨hg.os, hg.tape, hg.output, hg.size, fun i hi => hg.block i hi (by simp)⟩
  have hok : ∀ k, okS ok0 w0.heap.size vb rb s w k → okS ok0 w0.heap.size vb (fun y => if y = (d, s.g d) then v' else rb y) ((s.setr (d, s.g d) row).bump d) w' k := fun k hk =>
    ⟨hk.1, Nat.lt_of_lt_of_le hk.2.1 hg.size, hk.2.2.1, fun y row' hy hl' e => by
      rw [hsr] at hy
      by_cases e1 : y = (d, s.g d)
      · simp only [e1, if_true] at e
        rcases hat with h1 | h1
        · rw [h1] at e; cases e
        · rw [h1] at e; have := hk.2.1; simp at e; omega
      · rw [if_neg e1] at hy
        simp only [e1, if_false] at e
        exact hk.2.2.2 y row' hy hl' e⟩
  have hx : Ext w (okS ok0 w0.heap.size vb rb s w) vb rb s w' (okS ok0 w0.heap.size vb (fun y => if y = (d, s.g d) then v' else rb y) ((s.setr (d, s.g d) row).bump d) w') vb (fun y => if y = (d, s.g d) then v' else rb y) ((s.setr (d, s.g d) row).bump d) :=
    ⟨fun k hk => ⟨hok k hk, hb.block k hk.2.1⟩, fun y cs hy => ⟨cs, hy, rfl⟩, fun y row' hy => ⟨row', by rw [hsr, if_neg (hne y row' hy)]; exact hy, Nat.le_refl _, fun _ => ⟨if_neg (hne y row' hy), rfl⟩⟩⟩
  exact {
    below := h.below.step hb
    ok0lt := h.ok0lt
    wf := fun d' k hk => by
      have hk' : (if d' = d then s.g d' + 1 else s.g d') ≤ k := hk
      have hg : s.g d' ≤ k := by split at hk' <;> omega
      refine ⟨(h.wf d' k hg).1, ?_, (h.wf d' k hg).2.2⟩
      rw [hsr, if_neg]
      · exact (h.wf d' k hg).2.1
      · intro e
        simp only [Prod.mk.injEq] at e
        rw [if_pos e.1] at hk'
        obtain ⟨rfl, rfl⟩ := e
        omega
    defers := h.defers
    size := h.size
    var := fun y cs' hy => by
      obtain ⟨h1, us, T, hh, hf', ho'⟩ := h.var y cs' hy
      exact ⟨h1, us, T, (hb.block _ (heap_lt hh)).trans hh, hf'.imp fun c u hc => hx.mc hc, ho'⟩
    row := fun y row' hy => by
      rw [hsr] at hy
      by_cases e : y = (d, s.g d)
      · rw [if_pos e] at hy; cases hy
        simp only [e, if_true]
        exact ⟨us', ho, hf.imp fun d u hd => hd.mono fun k hk => ⟨hok k hk, rfl⟩⟩
      · rw [if_neg e] at hy
        obtain ⟨us, ho', hf'⟩ := h.row y row' hy
        simp only [e, if_false]
        refine ⟨us, ho'.kept hg ?_, hf'.imp fun d u hd => hd.mono hx.k⟩
        cases (rb y).ownBlock <;> simp
    vv := h.vv
    vr := fun y cs' r' row' hy hr' e => by
      rw [hsr] at hr'
      by_cases e1 : r' = (d, s.g d)
      · simp only [e1, if_true] at e
        rcases hat with h1 | h1
        · rw [h1] at e; cases e
        · rw [h1] at e; have := h.vlt hy; simp at e; omega
      · rw [if_neg e1] at hr'
        simp only [e1, if_false] at e
        exact h.vr y cs' r' row' hy hr' e
    rr := fun y row1 y' row2 h1 h2 hl1 hne' hn e => by
      rw [hsr] at h1 h2
      by_cases e1 : y = (d, s.g d) <;> by_cases e2 : y' = (d, s.g d)
      · exact hne' (e1.trans e2.symm)
      · rw [if_neg e2] at h2
        simp only [e1, e2, if_true, if_false] at e hn
        rcases hat with h3 | h3
        · exact hn h3
        · rw [h3] at e; have := h.rlt h2 e; omega
      · rw [if_neg e1] at h1
        simp only [e1, e2, if_true, if_false] at e hn
        rcases hat with h3 | h3
        · rw [h3] at e; exact hn e.symm
        · rw [h3] at e; have := h.rlt h1 e.symm; omega
      · rw [if_neg e1] at h1
        rw [if_neg e2] at h2
        simp only [e1, e2, if_false] at e hn
        exact h.rr y row1 y' row2 h1 h2 hl1 hne' hn e
    pin := h.pin
    tmp := fun t => hx.mv (h.tmp t) }

/-- a new row, wherever it lies in new memory -/
theorem Sat.newroww (h : Sat ok0 w0 X N vb rb s a w) (d : Nat) (hb : Below w.heap.size w w') (row : Row) (v' : Value) (us' : List Value) (ho : w'.ownsRow w0.heap.size row.e row.sz v' row.n us')
    (hf : Fits (Rep w' (okS ok0 w0.heap.size vb rb s w)) row.cells us') (hat : ∀ k, v'.ownBlock = some k → w.heap.size ≤ k) :
    Sat ok0 w0 X N vb (fun y => if y = (d, s.g d) then v' else rb y) ((s.setr (d, s.g d) row).bump d) a w' := by
  have hfresh : s.r (d, s.g d) = none := (h.wf d (s.g d) (Nat.le_refl _)).2.1
  have hne : ∀ y row', s.r y = some row' → y ≠ (d, s.g d) := fun y row' hy e => by rw [e, hfresh] at hy; cases hy
  have hsr : ∀ y, ((s.setr (d, s.g d) row).bump d).r y = if y = (d, s.g d) then some row else s.r y := fun y => rfl
  have hg : w.grownBy w' none := ⟨hb.os, hb.tape, hb.output, hb.size, fun i hi _ => hb.block i hi⟩
  have hok : ∀ k, okS ok0 w0.heap.size vb rb s w k → okS ok0 w0.heap.size vb (fun y => if y = (d, s.g d) then v' else rb y) ((s.setr (d, s.g d) row).bump d) w' k := fun k hk =>
    ⟨hk.1, Nat.lt_of_lt_of_le hk.2.1 hg.size, hk.2.2.1, fun y row' hy hl' e => by
      rw [hsr] at hy
      by_cases e1 : y = (d, s.g d)
      · simp only [e1, if_true] at e
        have := hat _ e; have := hk.2.1; omega
      · rw [if_neg e1] at hy
        simp only [e1, if_false] at e
        exact hk.2.2.2 y row' hy hl' e⟩
  have hx : Ext w (okS ok0 w0.heap.size vb rb s w) vb rb s w' (okS ok0 w0.heap.size vb (fun y => if y = (d, s.g d) then v' else rb y) ((s.setr (d, s.g d) row).bump d) w') vb (fun y => if y = (d, s.g d) then v' else rb y) ((s.setr (d, s.g d) row).bump d) :=
    ⟨fun k hk => ⟨hok k hk, hb.block k hk.2.1⟩, fun y cs hy => ⟨cs, hy, rfl⟩, fun y row' hy => ⟨row', by rw [hsr, if_neg (hne y row' hy)]; exact hy, Nat.le_refl _, fun _ => ⟨if_neg (hne y row' hy), rfl⟩⟩⟩
  exact {
    below := h.below.step hb
    ok0lt := h.ok0lt
    wf := fun d' k hk => by
      have hk' : (if d' = d then s.g d' + 1 else s.g d') ≤ k := hk
      have hg : s.g d' ≤ k := by split at hk' <;> omega
      refine ⟨(h.wf d' k hg).1, ?_, (h.wf d' k hg).2.2⟩
      rw [hsr, if_neg]
      · exact (h.wf d' k hg).2.1
      · intro e
        simp only [Prod.mk.injEq] at e
        rw [if_pos e.1] at hk'
        obtain ⟨rfl, rfl⟩ := e
        omega
    defers := h.defers
    size := h.size
    var := fun y cs' hy => by
      obtain ⟨h1, us, T, hh, hf', ho'⟩ := h.var y cs' hy
      exact ⟨h1, us, T, (hb.block _ (heap_lt hh)).trans hh, hf'.imp fun c u hc => hx.mc hc, ho'⟩
    row := fun y row' hy => by
      rw [hsr] at hy
      by_cases e : y = (d, s.g d)
      · rw [if_pos e] at hy; cases hy
        simp only [e, if_true]
        exact ⟨us', ho, hf.imp fun d u hd => hd.mono fun k hk => ⟨hok k hk, rfl⟩⟩
      · rw [if_neg e] at hy
        obtain ⟨us, ho', hf'⟩ := h.row y row' hy
        simp only [e, if_false]
        refine ⟨us, ho'.kept hg ?_, hf'.imp fun d u hd => hd.mono hx.k⟩
        cases (rb y).ownBlock <;> simp
    vv := h.vv
    vr := fun y cs' r' row' hy hr' e => by
      rw [hsr] at hr'
      by_cases e1 : r' = (d, s.g d)
      · simp only [e1, if_true] at e
        have := hat _ e; have := h.vlt hy; omega
      · rw [if_neg e1] at hr'
        simp only [e1, if_false] at e
        exact h.vr y cs' r' row' hy hr' e
    rr := fun y row1 y' row2 h1 h2 hl1 hne' hn e => by
      rw [hsr] at h1 h2
      by_cases e1 : y = (d, s.g d) <;> by_cases e2 : y' = (d, s.g d)
      · exact hne' (e1.trans e2.symm)
      · rw [if_neg e2] at h2
        simp only [e1, e2, if_true, if_false] at e hn
        cases hv : v'.ownBlock with
        | none => exact hn hv
        | some k => rw [hv] at e; have := h.rlt h2 e; have := hat k hv; omega
      · rw [if_neg e1] at h1
        simp only [e1, e2, if_true, if_false] at e hn
        cases hv : v'.ownBlock with
        | none => rw [hv] at e; exact hn e.symm
        | some k => rw [hv] at e; have := h.rlt h1 e.symm; have := hat k hv; omega
      · rw [if_neg e1] at h1
        rw [if_neg e2] at h2
        simp only [e1, e2, if_false] at e hn
        exact h.rr y row1 y' row2 h1 h2 hl1 hne' hn e
    pin := h.pin
    tmp := fun t => hx.mv (h.tmp t) }

/-- a row is frozen: from now on it is only read -/
def AS.freeze (s : AS) (r : Nat × Nat) : AS := { s with r := fun y => if y = r then (s.r y).map fun row => { row with live := false } else s.r y }
theorem Sat.freeze (h : Sat ok0 w0 X N vb rb s a w) (r : Nat × Nat) : Sat ok0 w0 X N vb rb (s.freeze r) a w := by
  have hsr : ∀ y row', (s.freeze r).r y = some row' → ∃ row, s.r y = some row ∧ row'.e = row.e ∧ row'.sz = row.sz ∧ row'.n = row.n ∧ row'.cells = row.cells ∧ row'.ver = row.ver ∧ (row'.live = true → row.live = true) := fun y row' hy => by
    have hy' : (if y = r then (s.r y).map fun row => { row with live := false } else s.r y) = some row' := hy
    by_cases e : y = r
    · rw [if_pos e] at hy'
      cases hs : s.r y with
      | none => rw [hs] at hy'; cases hy'
      | some row =>
        rw [hs] at hy'
        cases hy'
        exact ⟨row, rfl, rfl, rfl, rfl, rfl, rfl, fun e => by cases e⟩
    · rw [if_neg e] at hy'
      exact ⟨row', hy', rfl, rfl, rfl, rfl, rfl, fun e => e⟩
  have hrs : ∀ y row, s.r y = some row → ∃ row', (s.freeze r).r y = some row' ∧ row'.ver = row.ver ∧ row'.n = row.n := fun y row hy => by
    show ∃ row', (if y = r then (s.r y).map fun row => { row with live := false } else s.r y) = some row' ∧ _
    by_cases e : y = r
    · rw [if_pos e, hy]; exact ⟨_, rfl, rfl, rfl⟩
    · rw [if_neg e]; exact ⟨row, hy, rfl, rfl⟩
  have hok : ∀ k, okS ok0 w0.heap.size vb rb s w k → okS ok0 w0.heap.size vb rb (s.freeze r) w k := fun k hk =>
    ⟨hk.1, hk.2.1, hk.2.2.1, fun y row' hy hl => by
      obtain ⟨row, h1, _, _, _, _, _, h2⟩ := hsr y row' hy
      exact hk.2.2.2 y row h1 (h2 hl)⟩
  have hx : Ext w (okS ok0 w0.heap.size vb rb s w) vb rb s w (okS ok0 w0.heap.size vb rb (s.freeze r) w) vb rb (s.freeze r) :=
    ⟨fun k hk => ⟨hok k hk, rfl⟩, fun y cs hy => ⟨cs, hy, rfl⟩, fun y row hy => by
      obtain ⟨row', h1, h2, h3⟩ := hrs y row hy
      exact ⟨row', h1, by omega, fun _ => ⟨rfl, h3⟩⟩⟩
  exact {
    below := h.below
    ok0lt := h.ok0lt
    wf := fun d k hk => by
      refine ⟨(h.wf d k hk).1, ?_, (h.wf d k hk).2.2⟩
      cases hs : (s.freeze r).r (d, k) with
      | none => rfl
      | some row' =>
        obtain ⟨row, h1, _⟩ := hsr _ row' hs
        rw [(h.wf d k hk).2.1] at h1; cases h1
    defers := h.defers
    size := h.size
    var := fun y cs' hy => by
      obtain ⟨h1, us, T, hh, hf', ho'⟩ := h.var y cs' hy
      exact ⟨h1, us, T, hh, hf'.imp fun c u hc => hx.mc hc, ho'⟩
    row := fun y row' hy => by
      obtain ⟨row, h1, h2, h3, h4, h5, _, _⟩ := hsr y row' hy
      obtain ⟨us, ho', hf'⟩ := h.row y row h1
      rw [h2, h3, h4, h5]
      exact ⟨us, ho', hf'.imp fun d u hd => hd.mono hx.k⟩
    vv := h.vv
    vr := fun y cs' r' row' hy hr' => by
      obtain ⟨row, h1, _⟩ := hsr r' row' hr'
      exact h.vr y cs' r' row hy h1
    rr := fun y row1 y' row2 h1 h2 hl1 => by
      obtain ⟨rw1, k1, _, _, _, _, _, k2⟩ := hsr y row1 h1
      obtain ⟨rw2, k3, _⟩ := hsr y' row2 h2
      exact h.rr y rw1 y' rw2 k1 k3 (k2 hl1)
    pin := h.pin
    tmp := fun t => hx.mv (h.tmp t) }

/-- a variable is frozen -/
def AS.freezev (s : AS) (x : Nat × Nat) : AS := { s with f := fun y => if y = x then true else s.f y }
theorem Sat.freezev (h : Sat ok0 w0 X N vb rb s a w) (x : Nat × Nat) {cs : List Ce} (hx : s.v x = some cs) : Sat ok0 w0 X N vb rb (s.freezev x) a w := by
  have hf : ∀ y, (s.freezev x).f y = false → s.f y = false := fun y hy => by
    have hy' : (if y = x then true else s.f y) = false := hy
    split at hy'
    · cases hy'
    · exact hy'
  have hok : ∀ k, okS ok0 w0.heap.size vb rb s w k → okS ok0 w0.heap.size vb rb (s.freezev x) w k := fun k hk =>
    ⟨hk.1, hk.2.1, fun y cs hy hl => hk.2.2.1 y cs hy (hf y hl), hk.2.2.2⟩
  have hx' : Ext w (okS ok0 w0.heap.size vb rb s w) vb rb s w (okS ok0 w0.heap.size vb rb (s.freezev x) w) vb rb (s.freezev x) :=
    ⟨fun k hk => ⟨hok k hk, rfl⟩, fun y cs hy => ⟨cs, hy, rfl⟩, fun y row hy => ⟨row, hy, Nat.le_refl _, fun _ => ⟨rfl, rfl⟩⟩⟩
  exact {
    below := h.below
    ok0lt := h.ok0lt
    wf := fun d k hk => by
      refine ⟨(h.wf d k hk).1, (h.wf d k hk).2.1, ?_⟩
      show (if (d, k) = x then true else s.f (d, k)) = false
      rw [if_neg]
      · exact (h.wf d k hk).2.2
      · intro e; rw [← e, (h.wf d k hk).1] at hx; cases hx
    defers := h.defers
    size := h.size
    var := fun y cs' hy => by
      obtain ⟨h1, us, T, hh, hf', ho'⟩ := h.var y cs' hy
      exact ⟨h1, us, T, hh, hf'.imp fun c u hc => hx'.mc hc, ho'⟩
    row := fun y row hy => by
      obtain ⟨us, ho', hf'⟩ := h.row y row hy
      exact ⟨us, ho', hf'.imp fun d u hd => hd.mono hx'.k⟩
    vv := h.vv
    vr := h.vr
    rr := h.rr
    pin := h.pin
    tmp := fun t => hx'.mv (h.tmp t) }

/-- what a frozen row reads as -/
theorem Sat.frozen (h : Sat ok0 w0 X N vb rb s a w) {r : Nat × Nat} {row : Row} (hr : s.r r = some row) (hl : row.live = false) : Rep w (okS ok0 w0.heap.size vb rb s w) (.sl row.n row.cells) (rb r) := by
  obtain ⟨us, ho, hf⟩ := h.row r row hr
  rcases ho.2 with ⟨hv, hn⟩ | ⟨g, cap, cur, hv, hg, hh, hnc, hcm, hcs, htake⟩
  · have hu : us = [] := List.eq_nil_of_length_eq_zero (by rw [ho.1, hn]; simp)
    rw [hv, hn]
    refine .sl none 0 0 row.cells us hf.1 (Nat.le_refl _) (fun j u hj => ?_) hf.2
    rw [hu] at hj; simp at hj
  · rw [hv]
    refine .sl _ _ _ row.cells us hf.1 hnc (fun j u hj => ⟨_, rfl, ?_, ?_⟩) hf.2
    · refine ⟨.inr hg, heap_lt hh, fun x cs hx _ e => h.vr x cs r row hx hr (by rw [hv]; simp [Value.ownBlock, e]), fun r' row' hr' hl' e => ?_⟩
      have hne : r' ≠ r := by
        intro e1; rw [e1, hr] at hr'; cases hr'; rw [hl] at hl'; cases hl'
      exact h.rr r' row' r row hr' hr hl' hne (by rw [e]; simp) (by rw [e, hv]; rfl)
    · rw [hv] at ho
      exact ho.cells (g := g) rfl j u hj
end
end Go.Proofs.YtljmgdepldpmdaaDoor.E

set_option linter.unusedSimpArgs false
set_option linter.unusedVariables false
namespace Go.Proofs.YtljmgdepldpmdaaDoor.E
open Go.RowKit

/-! ### types -/
def tok (P : Program) (T : TypeId) : Bool := (P.info? T).isSome && (P.underlying T).isSome
def tsz (P : Program) (T : TypeId) : Nat := match P.info? T with
  | some i => i.size
  | none => 0
def tagg (P : Program) (T : TypeId) : Bool := match P.underlying T with
  | some (.struct _) => true
  | some (.array _ _) => true
  | _ => false
def telem (P : Program) (T : TypeId) : Option TypeId := match P.underlying T with
  | some (.slice e) => some e
  | _ => none
def tarr (P : Program) (T : TypeId) : Option (Nat × TypeId) := match P.underlying T with
  | some (.array n e) => some (n, e)
  | _ => none
def tint (P : Program) (T : TypeId) : Option IntKind := match P.underlying T with
  | some (.int k) => some k
  | _ => none
def tbool (P : Program) (T : TypeId) : Bool := match P.underlying T with
  | some .bool => true
  | _ => false
def tbytes (P : Program) (T : TypeId) : Nat := match P.info? T with
  | some i => i.bytes
  | none => 0
def tzero (P : Program) (T : TypeId) : Option (List Value) := match P.info? T with
  | some i => match i.zero with
    | some z => some z.cells.toList
    | none => none
  | none => none
def foff (P : Program) (T : TypeId) (f : Nat) : Option Nat := match P.underlying T with
  | some (.struct fs) => match fs[f]? with
    | some fd => match P.info? fd.type with
      | some i => if i.size = 0 then none else some fd.offset
      | none => none
    | none => none
  | _ => none
/-- where the parts of a built value lie: offsets, sizes -/
def tplaces (P : Program) (T : TypeId) : Option (Nat → Option (Nat × Nat)) := match P.underlying T with
  | some (.struct fs) => match fs.toList.mapM (fun f => (P.info? f.type).map fun i => (f.offset, i.size)) with
    | some places => some fun i => places.toArray[i]?
    | none => none
  | some (.array _ e) => match P.info? e with
    | some j => some fun i => some (i * j.size, j.size)
    | none => none
  | _ => none
def tplace (P : Program) (T : TypeId) (i : Nat) : Option (Nat × Nat) := match tplaces P T with
  | some f => f i
  | none => none

/-! ### values -/
def zce : Value → Option Ce
  | .bool b => some (.dt (.lit (.bool b)))
  | .int k n => some (.dt (.lit (.int k n)))
  | .string s => some (.dt (.lit (.string s)))
  | .slice none 0 0 => some .z
  | _ => none
def zces : List Value → Option (List Ce)
  | [] => some []
  | v :: vs => match zce v, zces vs with
    | some c, some cs => some (c :: cs)
    | _, _ => none
/-- the zero value of a type, as cells -/
def zeros (P : Program) (T : TypeId) : Option (List Ce) := match tzero P T with
  | some vs => zces vs
  | none => none
def cst : Value → AV
  | .bool b => .one (.dt (.lit (.bool b)))
  | .int k n => .one (.dt (.lit (.int k n)))
  | .string s => .one (.dt (.lit (.string s)))
  | .slice none 0 0 => .one .z
  | .tuple ⟨[]⟩ => .un
  | _ => .no
def AS.ev (s : AS) : Operand → AV
  | .tmp t => s.t t
  | .const v => cst v
  | _ => .no

def cellsOf : AV → Option (List Ce)
  | .one c => some [c]
  | .agg cs => some cs
  | _ => none
/-- the cells from an address on -/
def acells (s : AS) : AV → Option (List Ce)
  | .ptr x off => match s.v x with
    | some cs => some (cs.drop off)
    | none => none
  | .el ds => some (ds.map .dt)
  | .rel r ver j => match s.r r with
    | some row => if row.ver = ver then some ((row.cells.drop j).map .dt) else none
    | none => none
  | _ => none
def ldO (agg : Bool) (sz : Nat) : Option (List Ce) → Prop
  | some cs => if agg then sz ≤ cs.length else 0 < cs.length
  | none => False
def ldV (agg : Bool) (sz : Nat) : Option (List Ce) → AV
  | some cs => if agg then .agg (cs.take sz) else match cs with
    | c :: _ => .one c
    | [] => .no
  | none => .no
def asB : AV → Option Bool
  | .one (.dt (.lit (.bool b))) => some b
  | _ => none
/-- what a guard finds: an operation that isn't wanted yields nothing -/
def asG (want : Bool) : AV → Option Bool
  | .un => some (!want)
  | x => asB x

/-! ### the operations that only compute -/
def binO (tb : Bool) (op : BinOp) : AV → AV → Prop
  | .one (.dt (.lit (.int k _))), .one (.dt (.lit (.int k' y))) => match op with
    | .shl => 0 ≤ y
    | .shr => 0 ≤ y
    | .quo => k = k' ∧ ¬ y = 0
    | .rem => k = k' ∧ ¬ y = 0
    | _ => k = k'
  | .one (.dt (.lit (.bool _))), .one (.dt (.lit (.bool _))) => match op with
    | .eql => tb = true
    | .neq => tb = true
    | _ => False
  | .one (.dt (.lit (.string p))), .one (.dt (.lit (.string q))) => match op with
    | .add => p.size + q.size ≤ 9223372036854775807
    | .eql => True
    | .neq => True
    | _ => False
  | _, _ => False
def litV (v : Value) : AV := .one (.dt (.lit v))
def binV (op : BinOp) : AV → AV → AV
  | .one (.dt (.lit (.int k x))), .one (.dt (.lit (.int _ y))) => match op with
    | .add => litV (.int k (k.wrap (x + y)))
    | .sub => litV (.int k (k.wrap (x - y)))
    | .mul => litV (.int k (k.wrap (x * y)))
    | .quo => litV (.int k (k.wrap (x.tdiv y)))
    | .rem => litV (.int k (x.tmod y))
    | .and => litV (.int k (k.wrap (BitVec.ofInt k.bits x &&& BitVec.ofInt k.bits y).toNat))
    | .or => litV (.int k (k.wrap (BitVec.ofInt k.bits x ||| BitVec.ofInt k.bits y).toNat))
    | .xor => litV (.int k (k.wrap (BitVec.ofInt k.bits x ^^^ BitVec.ofInt k.bits y).toNat))
    | .andNot => litV (.int k (k.wrap (BitVec.ofInt k.bits x &&& ~~~BitVec.ofInt k.bits y).toNat))
    | .shl => litV (.int k (k.wrap (x * 2 ^ (min y.toNat k.bits))))
    | .shr => litV (.int k (x.fdiv (2 ^ (min y.toNat k.bits))))
    | .eql => litV (.bool (x == y))
    | .neq => litV (.bool (x != y))
    | .lss => litV (.bool (decide (x < y)))
    | .leq => litV (.bool (decide (x ≤ y)))
    | .gtr => litV (.bool (decide (x > y)))
    | .geq => litV (.bool (decide (x ≥ y)))
  | .one (.dt (.lit (.bool x))), .one (.dt (.lit (.bool y))) => match op with
    | .eql => litV (.bool (x == y))
    | .neq => litV (.bool (!(x == y)))
    | _ => .no
  | .one (.dt (.lit (.string x))), .one (.dt (.lit (.string y))) => match op with
    | .add => litV (.string (x ++ y))
    | .eql => litV (.bool (x.toList == y.toList))
    | .neq => litV (.bool (!(x.toList == y.toList)))
    | _ => .no
  | _, _ => .no
def unO (op : UnOp) : AV → Prop
  | .one (.dt (.lit (.bool _))) => match op with
    | .not => True
    | _ => False
  | .one (.dt (.lit (.int _ _))) => match op with
    | .neg => True
    | _ => False
  | _ => False
def unV (op : UnOp) : AV → AV
  | .one (.dt (.lit (.bool b))) => match op with
    | .not => litV (.bool (!b))
    | _ => .no
  | .one (.dt (.lit (.int k n))) => match op with
    | .neg => litV (.int k (k.wrap (0 - n)))
    | _ => .no
  | _ => .no
def cvO : Option IntKind → AV → Prop
  | some _, .one (.dt (.lit (.int _ _))) => True
  | _, _ => False
def cvV : Option IntKind → AV → AV
  | some k, .one (.dt (.lit (.int _ n))) => litV (.int k (k.wrap n))
  | _, _ => .no
/-- a byte of a string -/
def tstr (P : Program) (T : TypeId) : Bool := match P.underlying T with
  | some .string => true
  | _ => false
def sbyte (b : ByteArray) (i : Int) : Int := match b[i.toNat]? with
  | some x => x.toNat
  | none => 0
def sixO : AV → AV → Prop
  | .one (.dt (.lit (.string b))), .one (.dt (.lit (.int _ i))) => 0 ≤ i ∧ i < b.size
  | _, _ => False
def sixV : AV → AV → AV
  | .one (.dt (.lit (.string b))), .one (.dt (.lit (.int _ i))) => litV (.int .u8 (sbyte b i))
  | _, _ => .no
def pickO : AV → Prop
  | .one (.dt (.lit (.bool _))) => True
  | _ => False
def pickV : AV → AV → AV → AV
  | .one (.dt (.lit (.bool b))), x, y => if b then x else y
  | _, _, _ => .no
def fldO (s : AS) : Option Nat → AV → Prop
  | some _, .ptr _ _ => True
  | some off, .el ds => off ≤ ds.length
  | some _, .rel r ver _ => match s.r r with
    | some row => row.ver = ver
    | none => False
  | _, _ => False
def fldV : Option Nat → AV → AV
  | some o, .ptr x off => .ptr x (off + o)
  | some o, .el ds => .el (ds.drop o)
  | some o, .rel r ver j => .rel r ver (j + o)
  | _, _ => .no
/-- an index into a slice of elements of sz cells -/
def idxO (s : AS) (sz : Nat) : AV → AV → Prop
  | .one (.dt (.sl n cells)), .one (.dt (.lit (.int _ i))) => 0 ≤ i ∧ i < n ∧ cells.length = n * sz ∧ 0 < sz
  | .one (.row r ver), .one (.dt (.lit (.int _ i))) => match s.r r with
    | some row => row.ver = ver ∧ 0 ≤ i ∧ i < row.n
    | none => False
  | .sv _ _ n, .one (.dt (.lit (.int _ i))) => sz = 1 ∧ 0 ≤ i ∧ i < n
  | _, _ => False
def idxV (sz : Nat) : AV → AV → AV
  | .one (.dt (.sl _ cells)), .one (.dt (.lit (.int _ i))) => .el ((cells.drop (i.toNat * sz)).take sz)
  | .one (.row r ver), .one (.dt (.lit (.int _ i))) => .rel r ver (i.toNat * sz)
  | .sv x off _, .one (.dt (.lit (.int _ i))) => .ptr x (off + i.toNat)
  | _, _ => .no
/-- an index into an array in a variable -/
def arrO (len : Nat) : AV → AV → Prop
  | .ptr _ _, .one (.dt (.lit (.int _ i))) => 0 ≤ i ∧ i < len
  | _, _ => False
def arrV (sz : Nat) : AV → AV → AV
  | .ptr x off, .one (.dt (.lit (.int _ i))) => .ptr x (off + i.toNat * sz)
  | _, _ => .no
def extO : AV → Nat → Prop
  | .tup rs, j => j < rs.length
  | .pr _ _, j => j < 2
  | _, _ => False
def extV : AV → Nat → AV
  | .tup rs, j => match rs[j]? with
    | some r => r.toAV
    | none => .no
  | .pr cs _, 0 => .agg cs
  | .pr _ c, _ + 1 => .one c
  | _, _ => .no
def lenO (s : AS) : AV → Prop
  | .one (.dt (.sl _ _)) => True
  | .one .z => True
  | .one (.row r ver) => match s.r r with
    | some row => row.ver = ver
    | none => False
  | .sv _ _ _ => True
  | _ => False
def lenV (s : AS) : AV → AV
  | .one (.dt (.sl n _)) => litV (.int .i64 n)
  | .one .z => litV (.int .i64 0)
  | .one (.row r _) => match s.r r with
    | some row => litV (.int .i64 row.n)
    | none => .no
  | .sv _ _ n => litV (.int .i64 n)
  | _ => .no
def mxO : AV → AV → Prop
  | .one (.dt (.lit (.int k _))), .one (.dt (.lit (.int k' _))) => k = k'
  | _, _ => False
def mxV (f : Int → Int → Int) : AV → AV → AV
  | .one (.dt (.lit (.int k x))), .one (.dt (.lit (.int _ y))) => litV (.int k (f x y))
  | _, _ => .no
/-- the bounds of a cut: low, high (and the greatest capacity) of a slice of n elements -/
def bnd : Option AV → Int → Option Int
  | none, d => some d
  | some (.one (.dt (.lit (.int _ i)))), _ => some i
  | _, _ => none
def cutO (sz : Nat) (lo hi mx : Option AV) : AV → Prop
  | .one (.dt (.sl n cells)) => match bnd lo 0, bnd hi n, bnd mx n with
    | some l, some h, some m => 0 ≤ l ∧ l ≤ h ∧ h ≤ m ∧ m ≤ n ∧ cells.length = n * sz ∧ (mx.isSome = true → hi.isSome = true)
    | _, _, _ => False
  | .sv _ _ n => match bnd lo 0, bnd hi n, bnd mx n with
    | some l, some h, some m => sz = 1 ∧ 0 ≤ l ∧ l ≤ h ∧ h ≤ m ∧ m ≤ n ∧ (mx.isSome = true → hi.isSome = true)
    | _, _, _ => False
  | _ => False
def cutV (sz : Nat) (lo hi : Option AV) : AV → AV
  | .one (.dt (.sl n cells)) => match bnd lo 0, bnd hi n with
    | some l, some h => .one (.dt (.sl (h.toNat - l.toNat) ((cells.take (h.toNat * sz)).drop (l.toNat * sz))))
    | _, _ => .no
  | .sv x off n => match bnd lo 0, bnd hi n with
    | some l, some h => .sv x (off + l.toNat) (h.toNat - l.toNat)
    | _, _ => .no
  | _ => .no
/-- a cut of an array (of n elements) in a variable that is no longer written -/
def acutO (s : AS) (sz n : Nat) (lo hi mx : Option AV) : AV → Prop
  | .ptr x off => match s.v x, bnd lo 0, bnd hi n with
    | some cs, some l, some h => mx.isNone = true ∧ s.f x = true ∧ 0 ≤ l ∧ l ≤ h ∧ h ≤ n ∧ off + n * sz ≤ cs.length ∧ (ceDs cs).isSome = true
    | _, _, _ => False
  | _ => False
def acutV (s : AS) (sz n : Nat) (lo hi : Option AV) : AV → AV
  | .ptr x off => match s.v x, bnd lo 0, bnd hi n with
    | some cs, some l, some h => match ceDs cs with
      | some ds => .one (.dt (.sl (h.toNat - l.toNat) (((ds.drop off).take (h.toNat * sz)).drop (l.toNat * sz))))
      | none => .no
    | _, _, _ => .no
  | _ => .no

/-- parts laid into cells -/
def fillA (place : Nat → Option (Nat × Nat)) : List Ce → List (Nat × AV) → Option (List Ce)
  | cells, [] => some cells
  | cells, (i, x) :: rest => match place i, cellsOf x with
    | some (off, size), some cs => if cs.length = size ∧ off + size ≤ cells.length then fillA place (cells.take off ++ cs ++ cells.drop (off + size)) rest else none
    | _, _ => none

/-! ### stores -/
def stO (s : AS) (cs : List Ce) : AV → Prop
  | .ptr x off => match s.v x with
    | some cs0 => s.f x = false ∧ off + cs.length ≤ cs0.length
    | none => False
  | .rel r ver j => match s.r r, ceDs cs with
    | some row, some _ => row.ver = ver ∧ row.live = true ∧ cs.length = 1 ∧ j < row.n * row.sz
    | _, _ => False
  | _ => False
def stS (s : AS) (cs : List Ce) : AV → AS
  | .ptr x off => match s.v x with
    | some cs0 => s.setv x (cs0.take off ++ cs ++ cs0.drop (off + cs.length))
    | none => s
  | .rel r _ j => match s.r r, ceDs cs with
    | some row, some (d :: _) => s.setr r { row with cells := row.cells.set j d }
    | _, _ => s
  | _ => s

/-- what append takes: n elements, their cells -/
def srcD (s : AS) : AV → Option (Nat × List Dt)
  | .one c => match toD s c with
    | some (.sl n cells) => some (n, cells)
    | _ => none
  | _ => none
def appO (s : AS) (e : TypeId) (sz bytes : Nat) (src : Option (Nat × List Dt)) : AV → Prop
  | .one .z => match src with
    | some (m, cells) => cells.length = m * sz ∧ m ≤ maxLen ∧ m * bytes ≤ 140737488355328
    | none => False
  | .one (.row r ver) => match s.r r, src with
    | some row, some (m, cells) => row.ver = ver ∧ row.live = true ∧ row.e = e ∧ row.sz = sz ∧ cells.length = m * sz ∧ row.n + m ≤ maxLen ∧ (row.n + m) * bytes ≤ 140737488355328
    | _, _ => False
  | _ => False
def appS (s : AS) (d : Nat) (e : TypeId) (sz : Nat) (src : Option (Nat × List Dt)) : AV → AS
  | .one .z => match src with
    | some (m, cells) => (((s.setr (d, s.g d) ⟨e, sz, m, cells, 0, true⟩).bump d)).set d (.one (.row (d, s.g d) 0))
    | none => s
  | .one (.row r ver) => match s.r r, src with
    | some row, some (m, cells) => (s.setr r { row with n := row.n + m, cells := row.cells ++ cells, ver := ver + 1 }).set d (.one (.row r (ver + 1)))
    | _, _ => s
  | _ => s
def cpO (s : AS) (src : Option (Nat × List Dt)) : AV → Prop
  | .one (.row r ver) => match s.r r, src with
    | some row, some (m, cells) => row.ver = ver ∧ row.live = true ∧ row.sz = 1 ∧ cells.length = m
    | _, _ => False
  | _ => False
def cpS (s : AS) (dst : Option Nat) (src : Option (Nat × List Dt)) : AV → AS
  | .one (.row r _) => match s.r r, src with
    | some row, some (m, cells) => (s.setr r { row with cells := cells.take (min m row.n) ++ row.cells.drop (min m row.n) }).put dst (litV (.int .i64 (min m row.n : Nat)))
    | _, _ => s
  | _ => s

def mkO (bytes : Nat) (zs : Option (List Ce)) : AV → AV → Prop
  | .one (.dt (.lit (.int _ n))), .one (.dt (.lit (.int _ m))) => 0 ≤ n ∧ n ≤ m ∧ m ≤ 9223372036854775807 ∧ bytes * m ≤ 281474976710656 ∧ match zs with
    | some cs => (ceDs cs).isSome = true ∧ cs.length = 1
    | none => False
  | _, _ => False
def mkS (s : AS) (d : Nat) (e : TypeId) (zs : Option (List Ce)) : AV → AS
  | .one (.dt (.lit (.int _ n))) => match zs with
    | some cs => match ceDs cs with
      | some (z :: _) => ((s.setr (d, s.g d) ⟨e, 1, n.toNat, List.replicate n.toNat z, 0, true⟩).bump d).set d (.one (.row (d, s.g d) 0))
      | _ => s
    | none => s
  | _ => s

def pairs (s : AS) : List (Nat × Operand) → List (Nat × AV)
  | [] => []
  | (i, x) :: ps => (i, s.ev x) :: pairs s ps
def evs (s : AS) : List Operand → List AV
  | [] => []
  | x :: xs => s.ev x :: evs s xs

/-- the cells of a slice literal with n elements of sz cells: its zero cells, and its parts laid in -/
def bslC (s : AS) (sz n : Nat) (zs : Option (List Ce)) (parts : List (Nat × Operand)) : Option (List Dt) := match zs with
  | some cs => match fillA (fun i => some (i * sz, sz)) ((List.replicate n cs).flatten) (pairs s parts) with
    | some cells => ceDs cells
    | none => none
  | none => none

/-- what an operation asks of the state; rs: what its call returns -/
def obl (P : Program) (op : Op) (dst : Option Nat) (s : AS) (rs : List RV) : Prop := match op with
  | .move _ => True
  | .assign _ => True
  | .pick c _ _ => pickO (s.ev c)
  | .alloc T => dst.isSome = true ∧ (zeros P T).isSome = true
  | .box _ x => dst.isSome = true ∧ (cellsOf (s.ev x)).isSome = true
  | .build T parts => match zeros P T with
    | some cs => (tplaces P T).isSome = true ∧ (fillA (tplace P T) cs (pairs s parts.toList)).isSome = true
    | none => False
  | .buildSlice T n parts => match telem P T with
    | some e => tok P e = true ∧ n * tsz P e ≤ 16777216 ∧ dst.isSome = true ∧ if n = 0 then parts.size = 0 else (bslC s (tsz P e) n (zeros P e) parts.toList).isSome = true ∧ (zeros P e).map List.length = some (tsz P e) ∧ 0 < tsz P e
    | none => False
  | .load T x => tok P T = true ∧ ldO (tagg P T) (tsz P T) (acells s (s.ev x))
  | .store T a x => tok P T = true ∧ match cellsOf (s.ev x) with
    | some cs => cs.length = tsz P T ∧ stO s cs (s.ev a)
    | none => False
  | .binOp op T x y _ => binO (tbool P T) op (s.ev x) (s.ev y)
  | .unOp op _ x => unO op (s.ev x)
  | .index T x i => tstr P T = true ∧ sixO (s.ev x) (s.ev i)
  | .convert src t x => (P.underlying src).isSome = true ∧ cvO (tint P t) (s.ev x)
  | .makeSlice T l c => match telem P T with
    | some e => dst.isSome = true ∧ tok P e = true ∧ tsz P e = 1 ∧ mkO (tbytes P e) (zeros P e) (s.ev l) (s.ev c)
    | none => False
  | .slice T x lo hi mx => match telem P T, tarr P T with
    | some e, _ => tok P e = true ∧ cutO (tsz P e) (lo.map s.ev) (hi.map s.ev) (mx.map s.ev) (s.ev x)
    | none, some (n, e) => tok P e = true ∧ acutO s (tsz P e) n (lo.map s.ev) (hi.map s.ev) (mx.map s.ev) (s.ev x)
    | none, none => False
  | .fieldAddr T x f => fldO s (foff P T f) (s.ev x)
  | .indexAddr T x i => match telem P T, tarr P T with
    | some e, _ => tok P e = true ∧ idxO s (tsz P e) (s.ev x) (s.ev i)
    | none, some (n, e) => tok P e = true ∧ arrO n (s.ev x) (s.ev i)
    | none, none => False
  | .extract x j => extO (s.ev x) j
  | .call c => match c.callee with
    | .value (.func f) => ∃ avs, toRVs s (evs s c.args.toList) = some avs ∧ AFun P f avs rs
    | .builtin .len => match c.args.toList, c.argTypes.toList with
      | [x], [T] => (telem P T).isSome = true ∧ lenO s (s.ev x)
      | _, _ => False
    | .builtin .max => match c.args.toList with
      | [x, y] => mxO (s.ev x) (s.ev y)
      | _ => False
    | .builtin .min => match c.args.toList with
      | [x, y] => mxO (s.ev x) (s.ev y)
      | _ => False
    | .builtin .append => match c.args.toList, c.argTypes.toList with
      | [x, y], [T, T'] => T' = T ∧ match telem P T with
        | some e => dst.isSome = true ∧ tok P e = true ∧ 0 < tsz P e ∧ (tzero P e).map List.length = some (tsz P e) ∧ appO s e (tsz P e) (tbytes P e) (srcD s (s.ev y)) (s.ev x)
        | none => False
      | _, _ => False
    | .builtin .copy => match c.args.toList, c.argTypes.toList with
      | [x, y], [T, _] => match telem P T with
        | some e => tok P e = true ∧ tsz P e = 1 ∧ cpO s (srcD s (s.ev y)) (s.ev x)
        | none => False
      | _, _ => False
    | _ => False
  | _ => False

/-- the state behind an operation -/
def eff (P : Program) (op : Op) (dst : Option Nat) (s : AS) (rs : List RV) : AS := match op with
  | .move x => s.put dst (s.ev x)
  | .assign x => s.put dst (s.ev x)
  | .pick c a b => s.put dst (pickV (s.ev c) (s.ev a) (s.ev b))
  | .alloc T => match dst, zeros P T with
    | some d, some cs => ((s.setv (d, s.g d) cs).bump d).set d (.ptr (d, s.g d) 0)
    | _, _ => s
  | .box _ x => match dst, cellsOf (s.ev x) with
    | some d, some cs => ((s.setv (d, s.g d) cs).bump d).set d (.ptr (d, s.g d) 0)
    | _, _ => s
  | .build T parts => match zeros P T with
    | some cs => match fillA (tplace P T) cs (pairs s parts.toList) with
      | some cells => s.put dst (.agg cells)
      | none => s
    | none => s
  | .buildSlice T n parts => match telem P T, dst with
    | some e, some d => if n = 0 then ((s.setr (d, s.g d) ⟨e, tsz P e, 0, [], 0, true⟩).bump d).set d (.one (.row (d, s.g d) 0))
      else match bslC s (tsz P e) n (zeros P e) parts.toList with
        | some ds => s.set d (.one (.dt (.sl n ds)))
        | none => s
    | _, _ => s
  | .load T x => s.put dst (ldV (tagg P T) (tsz P T) (acells s (s.ev x)))
  | .store _ a x => match cellsOf (s.ev x) with
    | some cs => (stS s cs (s.ev a)).put dst .no
    | none => s
  | .binOp op _ x y _ => s.put dst (binV op (s.ev x) (s.ev y))
  | .unOp op _ x => s.put dst (unV op (s.ev x))
  | .index _ x i => s.put dst (sixV (s.ev x) (s.ev i))
  | .convert _ t x => s.put dst (cvV (tint P t) (s.ev x))
  | .makeSlice T l _ => match telem P T, dst with
    | some e, some d => mkS s d e (zeros P e) (s.ev l)
    | _, _ => s
  | .slice T x lo hi _ => match telem P T, tarr P T with
    | some e, _ => s.put dst (cutV (tsz P e) (lo.map s.ev) (hi.map s.ev) (s.ev x))
    | none, some (n, e) => s.put dst (acutV s (tsz P e) n (lo.map s.ev) (hi.map s.ev) (s.ev x))
    | none, none => s
  | .fieldAddr T x f => s.put dst (fldV (foff P T f) (s.ev x))
  | .indexAddr T x i => match telem P T, tarr P T with
    | some e, _ => s.put dst (idxV (tsz P e) (s.ev x) (s.ev i))
    | none, some (_, e) => s.put dst (arrV (tsz P e) (s.ev x) (s.ev i))
    | none, none => s
  | .extract x j => s.put dst (extV (s.ev x) j)
  | .call c => match c.callee with
    | .value (.func _) => s.put dst (resAV rs)
    | .builtin .len => match c.args.toList with
      | [x] => s.put dst (lenV s (s.ev x))
      | _ => s
    | .builtin .max => match c.args.toList with
      | [x, y] => s.put dst (mxV (fun x y => if y > x then y else x) (s.ev x) (s.ev y))
      | _ => s
    | .builtin .min => match c.args.toList with
      | [x, y] => s.put dst (mxV (fun x y => if y < x then y else x) (s.ev x) (s.ev y))
      | _ => s
    | .builtin .append => match c.args.toList, c.argTypes.toList, dst with
      | [x, y], [T, _], some d => match telem P T with
        | some e => appS s d e (tsz P e) (srcD s (s.ev y)) (s.ev x)
        | none => s
      | _, _, _ => s
    | .builtin .copy => match c.args.toList with
      | [x, y] => cpS s dst (srcD s (s.ev y)) (s.ev x)
      | _ => s
    | _ => s
  | _ => s

end Go.Proofs.YtljmgdepldpmdaaDoor.E

set_option linter.unusedSimpArgs false
set_option linter.unusedVariables false
namespace Go.Proofs.YtljmgdepldpmdaaDoor.E
open Go.RowKit

theorem wp_value {P : Program} {o : Oper} {a : Act} {w w' : World} {K : Act → World → Prop} {Q : Exit → Act → World → Prop} {v : Value} (h : (execOp a.eval o).run P w = .ok (.value v) w') (hk : K (a.put o.dst v) w') : o.wp P a w K Q := by
  unfold Oper.wp
  rw [h]
  exact hk

section
variable {ok0 : Nat → Prop} {w0 w w' : World} {X N : Nat} {vb : Nat × Nat → Nat} {rb : Nat × Nat → Value} {s s' : AS} {a : Act} {P : Program}

theorem Sat.put (h : Sat ok0 w0 X N vb rb s a w) (dst : Option Nat) (hd : ∀ d, dst = some d → d < N) (x : AV) (u : Value) (hx : MV w (okS ok0 w0.heap.size vb rb s w) vb rb s x u) : Sat ok0 w0 X N vb rb (s.put dst x) (a.put dst u) w := by
  cases dst with
  | none => exact h
  | some d => exact h.set d (hd d rfl) x u hx

theorem cst_fits (v : Value) : MV w (okS ok0 w0.heap.size vb rb s w) vb rb s (cst v) v := by
  unfold cst
  split
  · exact ⟨.lit _ rfl, rfl⟩
  · exact ⟨.lit _ rfl, rfl⟩
  · exact ⟨.lit _ rfl, rfl⟩
  · exact ⟨rfl, rfl⟩
  · rfl
  · trivial
theorem Sat.ev (h : Sat ok0 w0 X N vb rb s a w) (x : Operand) : MV w (okS ok0 w0.heap.size vb rb s w) vb rb s (s.ev x) (a.eval x) := by
  cases x with
  | tmp t => exact h.tmp t
  | const v => exact cst_fits v
  | global g => trivial
  | func f => trivial

/-- the literals -/
theorem lit_of {v u : Value} (h : MV w (okS ok0 w0.heap.size vb rb s w) vb rb s (.one (.dt (.lit v))) u) : u = v := by
  obtain ⟨h1, _⟩ := h
  cases h1 with
  | lit v hv => rfl
theorem lit_fits {v : Value} (hv : plain v = true) : MV w (okS ok0 w0.heap.size vb rb s w) vb rb s (litV v) v := by
  refine ⟨.lit v hv, ?_⟩
  cases v <;> first | rfl | simp [plain] at hv

/-- THE OUTCOME of an operation: the machine's step ends in a world and a frame that fit the state behind it -/
def Good (P : Program) (ok0 : Nat → Prop) (w0 : World) (X N : Nat) (o : Oper) (a : Act) (w : World) (s' : AS) : Prop :=
  ∀ (K : Act → World → Prop) (Q : Exit → Act → World → Prop), (∀ vb' rb' a' w', Sat ok0 w0 X N vb' rb' s' a' w' → K a' w') → o.wp P a w K Q

theorem Good.value {o : Oper} {v : Value} (hr : (execOp a.eval o).run P w = .ok (.value v) w') (vb' : Nat × Nat → Nat) (rb' : Nat × Nat → Value) (h : Sat ok0 w0 X N vb' rb' s' (a.put o.dst v) w') : Good P ok0 w0 X N o a w s' :=
  fun _ _ hK => wp_value hr (hK vb' rb' _ _ h)

variable (h : Sat ok0 w0 X N vb rb s a w) {o : Oper} (hd : ∀ d, o.dst = some d → d < N)
include h hd

theorem good_move (x : Operand) (ho : o.op = .move x ∨ o.op = .assign x) : Good P ok0 w0 X N o a w (s.put o.dst (s.ev x)) := by
  refine Good.value (v := a.eval x) (w' := w) ?_ vb rb (h.put o.dst hd _ _ (h.ev x))
  rcases ho with ho | ho <;> simp [execOp, ho]

theorem good_pick (c x y : Operand) (ho : o.op = .pick c x y) (hb : pickO (s.ev c)) : Good P ok0 w0 X N o a w (s.put o.dst (pickV (s.ev c) (s.ev x) (s.ev y))) := by
  have hc := h.ev c
  unfold pickO at hb
  split at hb
  · rename_i b e
    rw [e] at hc ⊢
    have hv := lit_of hc
    refine Good.value (v := if b then a.eval x else a.eval y) (w' := w) ?_ vb rb (h.put o.dst hd _ _ ?_)
    · cases b <;> simp [execOp, ho, hv, asBool]
    · cases b
      · exact h.ev y
      · exact h.ev x
  · exact hb.elim

theorem good_bin (op : BinOp) (T T' : TypeId) (x y : Operand) (ho : o.op = .binOp op T x y T') (hb : binO (tbool P T) op (s.ev x) (s.ev y)) : Good P ok0 w0 X N o a w (s.put o.dst (binV op (s.ev x) (s.ev y))) := by
  have hx := h.ev x
  have hy := h.ev y
  unfold binO at hb
  split at hb
  · rename_i k p k' q e1 e2
    rw [e1] at hx ⊢
    rw [e2] at hy ⊢
    have vx := lit_of hx
    have vy := lit_of hy
    have key : ∃ v, plain v = true ∧ binV op (.one (.dt (.lit (.int k p)))) (.one (.dt (.lit (.int k' q)))) = litV v ∧ ∀ w, ((do eqGuard op T x y (.int k p) (.int k' q); binOp op T (.int k p) (.int k' q)) : Sem Value).run P w = .ok v w := by
      cases op <;> first
        | (obtain ⟨e, hz⟩ := hb; subst e; refine ⟨_, rfl, rfl, fun w => ?_⟩; simp [eqGuard, binOp, Op.intDiv, hz]; done)
        | (subst hb; refine ⟨_, rfl, rfl, fun w => ?_⟩; simp [eqGuard, binOp, Op.intArith]; done)
        | (subst hb; refine ⟨_, rfl, rfl, fun w => ?_⟩; simp only [binOp, ne_eq, not_true_eq_false, if_false]; rfl)
        | (refine ⟨_, rfl, rfl, fun w => ?_⟩; simp [eqGuard, binOp, Op.shift, Int.not_lt.2 hb]; done)
    obtain ⟨v, hp, hv, hr⟩ := key
    rw [hv]
    refine Good.value (v := v) (w' := w) ?_ vb rb (h.put o.dst hd _ _ (lit_fits hp))
    simp only [execOp, ho, vx, vy]
    rw [Sem.run_bind, hr w]
    rfl
  · rename_i p q e1 e2
    rw [e1] at hx ⊢
    rw [e2] at hy ⊢
    have vx := lit_of hx
    have vy := lit_of hy
    have key : ∃ v, plain v = true ∧ binV op (.one (.dt (.lit (.bool p)))) (.one (.dt (.lit (.bool q)))) = litV v ∧ ∀ w, ((do eqGuard op T x y (.bool p) (.bool q); binOp op T (.bool p) (.bool q)) : Sem Value).run P w = .ok v w := by
      have ht : tbool P T = true → P.underlying T = some .bool := fun ht => by
        unfold tbool at ht
        split at ht
        · assumption
        · cases ht
      cases op <;> first
        | exact hb.elim
        | (refine ⟨_, rfl, rfl, fun w => ?_⟩; simp [eqGuard, run_eql_bool w T p q (ht hb), run_neq_bool w T p q (ht hb)]; done)
    obtain ⟨v, hp, hv, hr⟩ := key
    rw [hv]
    refine Good.value (v := v) (w' := w) ?_ vb rb (h.put o.dst hd _ _ (lit_fits hp))
    simp only [execOp, ho, vx, vy]
    rw [Sem.run_bind, hr w]
    rfl
  · rename_i p q e1 e2
    rw [e1] at hx ⊢
    rw [e2] at hy ⊢
    have vx := lit_of hx
    have vy := lit_of hy
    have key : ∃ v, plain v = true ∧ binV op (.one (.dt (.lit (.string p)))) (.one (.dt (.lit (.string q)))) = litV v ∧ ∀ w, ((do eqGuard op T x y (.string p) (.string q); binOp op T (.string p) (.string q)) : Sem Value).run P w = .ok v w := by
      cases op <;> first
        | exact hb.elim
        | (refine ⟨_, rfl, rfl, fun w => ?_⟩; have hb' : p.size + q.size ≤ 9223372036854775807 := hb; have h2 : ¬ (((p.size + q.size : Nat) : Int) > IntKind.i64.max) := by rw [show IntKind.i64.max = 9223372036854775807 from rfl]; omega
           simp only [eqGuard, binOp, Op.stringOp, if_neg h2]; rfl)
        | (refine ⟨_, rfl, rfl, fun w => ?_⟩; simp [eqGuard, binOp, Op.stringOp]; done)
    obtain ⟨v, hp, hv, hr⟩ := key
    rw [hv]
    refine Good.value (v := v) (w' := w) ?_ vb rb (h.put o.dst hd _ _ (lit_fits hp))
    simp only [execOp, ho, vx, vy]
    rw [Sem.run_bind, hr w]
    rfl
  · exact hb.elim

theorem good_un (op : UnOp) (T : TypeId) (x : Operand) (ho : o.op = .unOp op T x) (hb : unO op (s.ev x)) : Good P ok0 w0 X N o a w (s.put o.dst (unV op (s.ev x))) := by
  have hx := h.ev x
  unfold unO at hb
  split at hb
  · rename_i b e1
    rw [e1] at hx ⊢
    have vx := lit_of hx
    cases op <;> first
      | exact hb.elim
      | (refine Good.value (v := .bool (!b)) (w' := w) ?_ vb rb (h.put o.dst hd _ _ (lit_fits rfl)); simp [execOp, ho, vx, Op.unary]; done)
  · rename_i k n e1
    rw [e1] at hx ⊢
    have vx := lit_of hx
    cases op <;> first
      | exact hb.elim
      | (refine Good.value (v := .int k (k.wrap (0 - n))) (w' := w) ?_ vb rb (h.put o.dst hd _ _ (lit_fits rfl)); simp [execOp, ho, vx, Op.unary, Op.intArith]; done)
  · exact hb.elim

theorem good_conv (src T : TypeId) (x : Operand) (ho : o.op = .convert src T x) (hb : (P.underlying src).isSome = true ∧ cvO (tint P T) (s.ev x)) : Good P ok0 w0 X N o a w (s.put o.dst (cvV (tint P T) (s.ev x))) := by
  obtain ⟨hs, hb⟩ := hb
  have hx := h.ev x
  unfold cvO at hb
  split at hb
  · rename_i k k' n e1 e2
    rw [e2] at hx ⊢
    rw [e1]
    have vx := lit_of hx
    have hu : P.underlying T = some (.int k) := by
      unfold tint at e1
      split at e1
      · cases e1; assumption
      · cases e1
    obtain ⟨d, hd'⟩ := Option.isSome_iff_exists.mp hs
    refine Good.value (v := .int k (k.wrap n)) (w' := w) ?_ vb rb (h.put o.dst hd _ _ (lit_fits rfl))
    simp [execOp, ho, vx, convert, run_underlying hd', run_underlying hu, Conv.intToInt]
  · exact hb.elim

theorem good_ext (x : Operand) (j : Nat) (ho : o.op = .extract x j) (hb : extO (s.ev x) j) : Good P ok0 w0 X N o a w (s.put o.dst (extV (s.ev x) j)) := by
  have hx := h.ev x
  cases hv : s.ev x with
  | tup rs =>
    rw [hv] at hx hb
    obtain ⟨us, e, hf⟩ := hx
    obtain ⟨u, hu, hr⟩ := hf.at_ (List.getElem?_eq_getElem hb)
    have hj : rs[j]? = some rs[j] := List.getElem?_eq_getElem hb
    refine Good.value (v := u) (w' := w) ?_ vb rb (h.put o.dst hd _ _ ?_)
    · simp [execOp, ho, e, Instr.extract, hu]
    · simp only [extV, hj]
      cases hrj : rs[j] with
      | one d => rw [hrj] at hr; exact ⟨hr, Rep.one hr⟩
      | agg ds =>
        rw [hrj] at hr
        obtain ⟨us', e', hf'⟩ := hr
        refine ⟨us', e', ⟨by simp [hf'.1], fun i v c hv hc => ?_⟩, fun v hv => ?_⟩
        · rw [List.getElem?_map] at hc
          cases hd' : ds[i]? with
          | none => rw [hd'] at hc; simp at hc
          | some d => rw [hd'] at hc; simp at hc; subst hc; exact hf'.2 i v d hv hd'
        · obtain ⟨i, hi⟩ := List.getElem?_of_mem hv
          have hlt : i < ds.length := by rw [← hf'.1]; exact (List.getElem?_eq_some_iff.1 hi).1
          exact (hf'.2 i v _ hi (List.getElem?_eq_getElem hlt)).one
  | pr cs c =>
    rw [hv] at hx hb
    obtain ⟨us, u1, e, hf, h1, hc, h2⟩ := hx
    match j, hb with
    | 0, _ =>
      refine Good.value (v := .agg us.toArray) (w' := w) ?_ vb rb (h.put o.dst hd _ _ ⟨us, rfl, hf, h1⟩)
      simp [execOp, ho, e, Instr.extract]
    | 1, _ =>
      refine Good.value (v := u1) (w' := w) ?_ vb rb (h.put o.dst hd _ _ ⟨hc, h2⟩)
      simp [execOp, ho, e, Instr.extract]
  | _ => rw [hv] at hb; exact hb.elim

theorem good_six (T : TypeId) (x i : Operand) (ho : o.op = .index T x i) (ht : tstr P T = true) (hb : sixO (s.ev x) (s.ev i)) : Good P ok0 w0 X N o a w (s.put o.dst (sixV (s.ev x) (s.ev i))) := by
  have hx := h.ev x
  have hi := h.ev i
  have hu : P.underlying T = some .string := by
    unfold tstr at ht
    split at ht
    · assumption
    · cases ht
  unfold sixO at hb
  split at hb
  · rename_i b k q e1 e2
    rw [e1] at hx ⊢
    rw [e2] at hi ⊢
    have vx := lit_of hx
    have vi := lit_of hi
    have hlt : q.toNat < b.size := by omega
    refine Good.value (v := .int .u8 (sbyte b q)) (w' := w) ?_ vb rb (h.put o.dst hd _ _ (lit_fits rfl))
    simp [execOp, ho, vx, vi, Instr.index, asIntOf, run_underlying hu, hb.1, sbyte, hlt]
  · exact hb.elim
end
end Go.Proofs.YtljmgdepldpmdaaDoor.E

set_option linter.unusedSimpArgs false
set_option linter.unusedVariables false
namespace Go.Proofs.YtljmgdepldpmdaaDoor.E
open Go.RowKit

section
variable {ok0 : Nat → Prop} {w0 w w' : World} {X N : Nat} {vb : Nat × Nat → Nat} {rb : Nat × Nat → Value} {s s' : AS} {a : Act} {P : Program}

theorem run_isAgg {T : TypeId} (ht : tok P T = true) (w : World) : (isAgg T).run P w = .ok (tagg P T) w := by
  unfold tok at ht
  simp only [Bool.and_eq_true] at ht
  obtain ⟨d, hd⟩ := Option.isSome_iff_exists.mp ht.2
  unfold isAgg tagg
  rw [Sem.run_bind, run_underlying hd, hd]
  cases d <;> rfl
theorem run_sizeOf' {T : TypeId} (ht : tok P T = true) (w : World) : (sizeOf T).run P w = .ok (tsz P T) w := by
  unfold tok at ht
  simp only [Bool.and_eq_true] at ht
  obtain ⟨i, hi⟩ := Option.isSome_iff_exists.mp ht.1
  simp [sizeOf, typeInfo, tsz, hi]

theorem Sat.acells (h : Sat ok0 w0 X N vb rb s a w) {av : AV} {u : Value} (hv : MV w (okS ok0 w0.heap.size vb rb s w) vb rb s av u) {cs : List Ce} (hc : acells s av = some cs) :
    ∃ (ad : Addr) (us : List Value), u = .pointer (some ad) ∧ Fits (MC w (okS ok0 w0.heap.size vb rb s w) rb s) cs us ∧ (∀ x ∈ us, x.oneCell' = true) ∧ ∀ (j : Nat) (x : Value), us[j]? = some x → w.cell? (ad.add j) = some x := by
  cases av with
  | ptr x off =>
    obtain ⟨cs0, hx, e⟩ := hv
    simp only [E.acells, hx] at hc
    cases hc
    obtain ⟨_, us, T, hh, hf, ho⟩ := h.var x cs0 hx
    refine ⟨_, (us.toList.take cs0.length).drop off, e, hf.drop off, fun y hy => ho y (List.mem_of_mem_drop hy), fun j y hy => ?_⟩
    rw [add_lit, cell_of_row w (vb x) (off + j) us T (0, 0) hh]
    rw [List.getElem?_drop, List.getElem?_take] at hy
    split at hy
    · simpa using hy
    · cases hy
  | el ds =>
    obtain ⟨ad, us, e, hf, _, hcell⟩ := hv
    simp only [E.acells] at hc
    cases hc
    refine ⟨ad, us, e, ⟨by simp [hf.1], fun j u c hu hc => ?_⟩, fun y hy => ?_, hcell⟩
    · rw [List.getElem?_map] at hc
      cases hd : ds[j]? with
      | none => rw [hd] at hc; simp at hc
      | some d => rw [hd] at hc; simp at hc; subst hc; exact hf.2 j u d hu hd
    · obtain ⟨i, hi⟩ := List.getElem?_of_mem hy
      have hlt : i < ds.length := by rw [← hf.1]; exact (List.getElem?_eq_some_iff.1 hi).1
      exact (hf.2 i y _ hi (List.getElem?_eq_getElem hlt)).one
  | rel r ver j0 =>
    obtain ⟨row, hr, _, hu⟩ := hv
    simp only [E.acells, hr] at hc
    split at hc
    · rename_i ev
      cases hc
      obtain ⟨g, c, hrb, e⟩ := hu ev
      obtain ⟨us, ho, hf⟩ := h.row r row hr
      refine ⟨_, us.drop j0, e, ⟨by simp [hf.1], fun j u c hu hc => ?_⟩, fun y hy => ?_, fun j y hy => ?_⟩
      · rw [List.getElem?_map] at hc
        cases hd : (row.cells.drop j0)[j]? with
        | none => rw [hd] at hc; simp at hc
        | some d => rw [hd] at hc; simp at hc; subst hc; exact (hf.drop j0).2 j u d hu hd
      · obtain ⟨i, hi⟩ := List.getElem?_of_mem (List.mem_of_mem_drop hy)
        have hlt : i < row.cells.length := by rw [← hf.1]; exact (List.getElem?_eq_some_iff.1 hi).1
        exact (hf.2 i y _ hi (List.getElem?_eq_getElem hlt)).one
      · rw [List.getElem?_drop] at hy
        have := ho.cells (g := g) (by rw [hrb]; rfl) (j0 + j) y hy
        rw [add_lit] at this ⊢
        simpa using this
    · cases hc
  | _ => simp [E.acells] at hc

variable (h : Sat ok0 w0 X N vb rb s a w) {o : Oper} (hd : ∀ d, o.dst = some d → d < N)
include h hd

theorem good_load (T : TypeId) (x : Operand) (ho : o.op = .load T x) (ht : tok P T = true) (hb : ldO (tagg P T) (tsz P T) (acells s (s.ev x))) : Good P ok0 w0 X N o a w (s.put o.dst (ldV (tagg P T) (tsz P T) (acells s (s.ev x)))) := by
  cases hc : acells s (s.ev x) with
  | none => rw [hc] at hb; exact hb.elim
  | some cs =>
    rw [hc] at hb
    obtain ⟨ad, us, e, hf, h1, hcell⟩ := h.acells (h.ev x) hc
    by_cases hg : tagg P T = true
    · simp only [ldO, hg, if_true] at hb
      have hl : (us.take (tsz P T)).length = tsz P T := by rw [List.length_take, hf.1]; omega
      have hrun : (loadCells ad (tsz P T)).run P w = .ok (us.take (tsz P T)).toArray w := by
        have := run_loadCells_list (P := P) w ad (us.take (tsz P T)) (fun j v hv => by
          rw [List.getElem?_take] at hv
          split at hv
          · exact hcell j v hv
          · cases hv)
        rw [hl] at this
        exact this
      refine Good.value (v := .agg (us.take (tsz P T)).toArray) (w' := w) ?_ vb rb (h.put o.dst hd _ _ ?_)
      · simp [execOp, ho, e, Instr.loadAt, Instr.sureAddr, loadVar, run_isAgg ht, hg, run_sizeOf' ht, hrun]
      · simp only [ldV, hg, if_true]
        exact ⟨_, rfl, hf.take _, fun y hy => h1 y (List.mem_of_mem_take hy)⟩
    · have hg' : tagg P T = false := by cases hq : tagg P T <;> simp_all
      simp only [ldO, hg', Bool.false_eq_true, if_false] at hb
      cases cs with
      | nil => simp at hb
      | cons c cs =>
        obtain ⟨u, us', rfl, hcu, _⟩ := hf.uncons
        have h0 := hcell 0 u rfl
        rw [show ad.add 0 = ad by unfold Addr.add; simp] at h0
        refine Good.value (v := u) (w' := w) ?_ vb rb (h.put o.dst hd _ _ ?_)
        · simp [execOp, ho, e, Instr.loadAt, Instr.sureAddr, loadVar, run_isAgg ht, hg', h0]
        · simp only [ldV, hg', Bool.false_eq_true, if_false]
          exact ⟨hcu, h1 u (by simp)⟩

theorem good_fld (T : TypeId) (x : Operand) (f : Nat) (ho : o.op = .fieldAddr T x f) (hb : fldO s (foff P T f) (s.ev x)) : Good P ok0 w0 X N o a w (s.put o.dst (fldV (foff P T f) (s.ev x))) := by
  have hx := h.ev x
  cases hf : foff P T f with
  | none => rw [hf] at hb; cases hv : s.ev x <;> rw [hv] at hb <;> exact hb.elim
  | some off =>
    rw [hf] at hb
    have hrun : ∀ ad : Addr, (Instr.fieldAt T (.pointer (some ad)) f).run P w = .ok (.pointer (some (ad.add off))) w := fun ad => by
      unfold foff at hf
      split at hf
      · rename_i fs hu
        split at hf
        · rename_i fd hfd
          split at hf
          · rename_i i hi
            split at hf
            · cases hf
            · rename_i hz
              cases hf
              have hsz : (sizeOf fd.type).run P w = .ok i.size w := by simp [sizeOf, typeInfo, hi]
              simp [Instr.fieldAt, run_underlying hu, hfd, Instr.sureAddr, fieldPlace, hsz, hz]
          · cases hf
        · cases hf
      · cases hf
    cases hv : s.ev x with
    | ptr y o1 =>
      rw [hv] at hx
      obtain ⟨cs, hy, e⟩ := hx
      refine Good.value (v := .pointer (some ((⟨vb y, o1, none⟩ : Addr).add off))) (w' := w) ?_ vb rb (h.put o.dst hd _ _ ?_)
      · simp [execOp, ho, e, hrun]
      · rw [add_lit]; exact ⟨cs, hy, rfl⟩
    | el ds =>
      rw [hv] at hx hb
      obtain ⟨ad, us, e, hf', hok, hcell⟩ := hx
      refine Good.value (v := .pointer (some (ad.add off))) (w' := w) ?_ vb rb (h.put o.dst hd _ _ ?_)
      · simp [execOp, ho, e, hrun]
      · refine ⟨_, us.drop off, rfl, hf'.drop off, fun hn => ?_, fun j y hy => ?_⟩
        · rw [block_of_add]; exact hok (fun e => hn (by rw [e]; simp))
        · rw [List.getElem?_drop] at hy
          rw [add_of_add]; exact hcell _ y hy
    | rel r ver j =>
      rw [hv] at hx hb
      obtain ⟨row, hr, hle, hu⟩ := hx
      simp only [fldO, hr] at hb
      obtain ⟨g, c, h1, e⟩ := hu hb
      refine Good.value (v := .pointer (some ((⟨g, j, none⟩ : Addr).add off))) (w' := w) ?_ vb rb (h.put o.dst hd _ _ ?_)
      · simp [execOp, ho, e, hrun]
      · rw [add_lit]; exact ⟨row, hr, hle, fun _ => ⟨g, c, h1, rfl⟩⟩
    | _ => rw [hv] at hb; exact hb.elim

theorem good_idx (T e : TypeId) (x i : Operand) (ho : o.op = .indexAddr T x i) (he : telem P T = some e) (ht : tok P e = true) (hb : idxO s (tsz P e) (s.ev x) (s.ev i)) : Good P ok0 w0 X N o a w (s.put o.dst (idxV (tsz P e) (s.ev x) (s.ev i))) := by
  have hx := h.ev x
  have hi := h.ev i
  have hu : P.underlying T = some (.slice e) := by
    unfold telem at he
    split at he
    · cases he; assumption
    · cases he
  have hrun : ∀ (ad : Addr) (n c : Nat) (k : IntKind) (q : Int), 0 ≤ q → q < n → (Instr.indexAt T (.slice (some ad) n c) (.int k q)).run P w = .ok (.pointer (some (ad.add (q.toNat * tsz P e)))) w := fun ad n c k q h0 h1 => by
    simp [Instr.indexAt, asIntOf, run_underlying hu, h0, h1, run_sizeOf' ht]
  unfold idxO at hb
  split at hb
  · rename_i n cells k q e1 e2
    rw [e1] at hx ⊢
    rw [e2] at hi ⊢
    have vi := lit_of hi
    obtain ⟨h0, h1, hl, hsz⟩ := hb
    obtain ⟨hx1, _⟩ := hx
    generalize hvx : a.eval x = vx at hx1
    cases hx1 with
    | sl A n c cells us hlu hc hcell hrep =>
      have hpos : 0 < us.length := by
        rw [hlu, hl]
        exact Nat.mul_pos (by omega) hsz
      obtain ⟨ad, rfl, hok, _⟩ := hcell 0 us[0] (List.getElem?_eq_getElem hpos)
      have hcell' : ∀ (j : Nat) (u : Value), us[j]? = some u → w.cell? (ad.add j) = some u := fun j u hu => by
        obtain ⟨ad', e', _, hc'⟩ := hcell j u hu
        cases e'; exact hc'
      refine Good.value (v := .pointer (some (ad.add (q.toNat * tsz P e)))) (w' := w) ?_ vb rb (h.put o.dst hd _ _ ?_)
      · simp [execOp, ho, hvx, vi, hrun ad n c k q h0 h1]
      · refine ⟨_, (us.drop (q.toNat * tsz P e)).take (tsz P e), rfl, ((Fits.drop ⟨hlu, hrep⟩ _).take _), fun _ => by rw [block_of_add]; exact hok, fun j u hu => ?_⟩
        rw [List.getElem?_take] at hu
        split at hu
        · rw [List.getElem?_drop] at hu
          rw [add_of_add]; exact hcell' _ u hu
        · cases hu
  · rename_i r ver k q e1 e2
    rw [e1] at hx ⊢
    rw [e2] at hi ⊢
    have vi := lit_of hi
    obtain ⟨⟨row, hr, hle, hrv⟩, _⟩ := hx
    rw [hr] at hb
    obtain ⟨hver, h0, h1⟩ := hb
    have hv := hrv hver
    obtain ⟨us, how, hf⟩ := h.row r row hr
    rcases how.2 with ⟨_, hn⟩ | ⟨g, cap, cur, hv2, _⟩
    · omega
    · refine Good.value (v := .pointer (some ((⟨g, 0, none⟩ : Addr).add (q.toNat * tsz P e)))) (w' := w) ?_ vb rb (h.put o.dst hd _ _ ?_)
      · simp [execOp, ho, hv, hv2, vi, hrun ⟨g, 0, none⟩ row.n cap k q h0 h1]
      · rw [add_lit]
        exact ⟨row, hr, hle, fun _ => ⟨g, cap, hv2, by simp⟩⟩
  · rename_i y off n k q e1 e2
    rw [e1] at hx ⊢
    rw [e2] at hi ⊢
    have vi := lit_of hi
    obtain ⟨cs, o1, c, hy, ex, hnc, ho1⟩ := hx
    obtain ⟨hsz, h0, h1⟩ := hb
    obtain rfl := ho1 (by omega)
    refine Good.value (v := .pointer (some ((⟨vb y, o1, none⟩ : Addr).add (q.toNat * tsz P e)))) (w' := w) ?_ vb rb (h.put o.dst hd _ _ ?_)
    · simp [execOp, ho, ex, vi, hrun ⟨vb y, o1, none⟩ n c k q h0 h1]
    · rw [add_lit, hsz, Nat.mul_one]
      exact ⟨cs, hy, rfl⟩
  · exact hb.elim

theorem good_arr (T e : TypeId) (n : Nat) (x i : Operand) (ho : o.op = .indexAddr T x i) (he : tarr P T = some (n, e)) (ht : tok P e = true) (hb : arrO n (s.ev x) (s.ev i)) : Good P ok0 w0 X N o a w (s.put o.dst (arrV (tsz P e) (s.ev x) (s.ev i))) := by
  have hx := h.ev x
  have hi := h.ev i
  have hu : P.underlying T = some (.array n e) := by
    unfold tarr at he
    split at he
    · cases he; assumption
    · cases he
  unfold arrO at hb
  split at hb
  · rename_i y off k q e1 e2
    rw [e1] at hx ⊢
    rw [e2] at hi ⊢
    have vi := lit_of hi
    obtain ⟨cs, hy, ex⟩ := hx
    obtain ⟨h0, h1⟩ := hb
    refine Good.value (v := .pointer (some ((⟨vb y, off, none⟩ : Addr).add (q.toNat * tsz P e)))) (w' := w) ?_ vb rb (h.put o.dst hd _ _ ?_)
    · simp [execOp, ho, ex, vi, Instr.indexAt, asIntOf, run_underlying hu, Instr.sureAddr, h0, h1, run_sizeOf' ht]
    · rw [add_lit]; exact ⟨cs, hy, rfl⟩
  · exact hb.elim

theorem good_len (x : Operand) (T T' : TypeId) (ho : o.op = .call { callee := .builtin .len, args := #[x], argTypes := #[T] }) (he : (telem P T).isSome = true) (hb : lenO s (s.ev x)) : Good P ok0 w0 X N o a w (s.put o.dst (lenV s (s.ev x))) := by
  have hx := h.ev x
  obtain ⟨e, he⟩ := Option.isSome_iff_exists.mp he
  have hu : P.underlying T = some (.slice e) := by
    unfold telem at he
    split at he
    · cases he; assumption
    · cases he
  have hrun : ∀ (A : Option Addr) (n c : Nat), a.eval x = .slice A n c → (execOp a.eval o).run P w = .ok (.value (.int .i64 n)) w := fun A n c hv => by
    simp [execOp, ho, resolve, invoke, builtin, hv, Builtin.len_, run_underlying hu, goInt]
  unfold lenO at hb
  split at hb
  · rename_i n cells e1
    rw [e1] at hx ⊢
    obtain ⟨hx1, _⟩ := hx
    generalize hvx : a.eval x = vx at hx1
    cases hx1 with
    | sl A n c cells us hlu hc hcell hrep =>
      exact Good.value (hrun A n c hvx) vb rb (h.put o.dst hd _ _ (lit_fits rfl))
  · rename_i e1
    rw [e1] at hx ⊢
    exact Good.value (hrun none 0 0 hx.1) vb rb (h.put o.dst hd _ _ (lit_fits rfl))
  · rename_i r ver e1
    rw [e1] at hx ⊢
    obtain ⟨⟨row, hr, hle, hrv⟩, _⟩ := hx
    rw [hr] at hb
    obtain ⟨us, how, hf⟩ := h.row r row hr
    simp only [lenV, hr]
    rcases how.2 with ⟨hv2, hn⟩ | ⟨g, cap, cur, hv2, _⟩
    · rw [hn]; exact Good.value (hrun none 0 0 ((hrv hb).trans hv2)) vb rb (h.put o.dst hd _ _ (lit_fits rfl))
    · exact Good.value (hrun _ _ _ ((hrv hb).trans hv2)) vb rb (h.put o.dst hd _ _ (lit_fits rfl))
  · rename_i y off n e1
    rw [e1] at hx ⊢
    obtain ⟨cs, o1, c, hy, ex, hnc, ho1⟩ := hx
    exact Good.value (hrun _ _ _ ex) vb rb (h.put o.dst hd _ _ (lit_fits rfl))
  · exact hb.elim

theorem good_max (x y : Operand) (Ts : Array TypeId) (ho : o.op = .call { callee := .builtin .max, args := #[x, y], argTypes := Ts }) (hb : mxO (s.ev x) (s.ev y)) : Good P ok0 w0 X N o a w (s.put o.dst (mxV (fun x y => if y > x then y else x) (s.ev x) (s.ev y))) := by
  have hx := h.ev x
  have hy := h.ev y
  unfold mxO at hb
  split at hb
  · rename_i k p k' q e1 e2
    rw [e1] at hx ⊢
    rw [e2] at hy ⊢
    have vx := lit_of hx
    have vy := lit_of hy
    refine Good.value (v := .int k (if q > p then q else p)) (w' := w) ?_ vb rb (h.put o.dst hd _ _ (lit_fits rfl))
    simp [execOp, ho, resolve, invoke, builtin, vx, vy, Builtin.max_, Builtin.max2]
  · exact hb.elim
theorem good_min (x y : Operand) (Ts : Array TypeId) (ho : o.op = .call { callee := .builtin .min, args := #[x, y], argTypes := Ts }) (hb : mxO (s.ev x) (s.ev y)) : Good P ok0 w0 X N o a w (s.put o.dst (mxV (fun x y => if y < x then y else x) (s.ev x) (s.ev y))) := by
  have hx := h.ev x
  have hy := h.ev y
  unfold mxO at hb
  split at hb
  · rename_i k p k' q e1 e2
    rw [e1] at hx ⊢
    rw [e2] at hy ⊢
    have vx := lit_of hx
    have vy := lit_of hy
    refine Good.value (v := .int k (if q < p then q else p)) (w' := w) ?_ vb rb (h.put o.dst hd _ _ (lit_fits rfl))
    simp [execOp, ho, resolve, invoke, builtin, vx, vy, Builtin.min_, Builtin.min2]
  · exact hb.elim
end
end Go.Proofs.YtljmgdepldpmdaaDoor.E

set_option linter.unusedSimpArgs false
set_option linter.unusedVariables false
namespace Go.Proofs.YtljmgdepldpmdaaDoor.E
open Go.RowKit

section
variable {ok0 : Nat → Prop} {w0 w w' : World} {X N : Nat} {vb : Nat × Nat → Nat} {rb : Nat × Nat → Value} {s s' : AS} {a : Act} {P : Program}

theorem ceD_fits {ok : Nat → Prop} {c : Ce} {u : Value} {d : Dt} (hc : MC w ok rb s c u) (hd : ceD c = some d) : Rep w ok d u := by
  cases c with
  | dt d' => cases hd; exact hc
  | z =>
    cases hd
    have : u = .slice none 0 0 := hc
    rw [this]
    exact .sl none 0 0 [] [] rfl (Nat.le_refl _) (fun j u hu => by simp at hu) (fun j u d hu => by simp at hu)
  | row r ver => cases hd
theorem ceDs_fits {ok : Nat → Prop} : ∀ {cs : List Ce} {us : List Value} {ds : List Dt}, Fits (MC w ok rb s) cs us → ceDs cs = some ds → Fits (Rep w ok) ds us
  | [], us, ds, hf, hd => by
    cases hd
    have : us = [] := List.eq_nil_of_length_eq_zero hf.1
    rw [this]; exact Fits.nil _
  | c :: cs, us, ds, hf, hd => by
    obtain ⟨u, us', rfl, hc, hf'⟩ := hf.uncons
    simp only [ceDs] at hd
    split at hd
    · rename_i d ds' h1 h2
      cases hd
      exact Fits.cons (ceD_fits hc h1) (ceDs_fits hf' h2)
    · cases hd

theorem Sat.bnd (h : Sat ok0 w0 X N vb rb s a w) {x : Option Operand} {d l : Int} (hb : bnd (x.map s.ev) d = some l) : (x = none ∧ l = d) ∨ ∃ y k, x = some y ∧ a.eval y = .int k l := by
  cases x with
  | none => left; simp [E.bnd] at hb; exact ⟨rfl, hb.symm⟩
  | some y =>
    right
    simp only [Option.map_some] at hb
    cases hv : s.ev y with
    | one c =>
      rw [hv] at hb
      cases c with
      | dt dd =>
        cases dd with
        | lit v =>
          cases v with
          | int k i =>
            simp only [E.bnd, Option.some.injEq] at hb
            subst hb
            have := h.ev y
            rw [hv] at this
            exact ⟨y, k, rfl, lit_of this⟩
          | _ => simp [E.bnd] at hb
        | sl n cells => simp [E.bnd] at hb
      | _ => simp [E.bnd] at hb
    | _ => rw [hv] at hb; simp [E.bnd] at hb

theorem run_sliceBound_ok (k : IntKind) (i : Int) (y : Nat) (code : BoundsCode) (h0 : 0 ≤ i) (h1 : i ≤ y) (w : World) : (Instr.sliceBound (.int k i) y code).run P w = .ok i.toNat w := by
  simp [Instr.sliceBound, asIntOf, h0, h1]

theorem zces_fits {ok : Nat → Prop} : ∀ {vs : List Value} {cs : List Ce}, zces vs = some cs → Fits (MC w ok rb s) cs vs ∧ ∀ u ∈ vs, u.oneCell' = true
  | [], cs, hz => by cases hz; exact ⟨Fits.nil _, by simp⟩
  | v :: vs, cs, hz => by
    simp only [zces] at hz
    split at hz
    · rename_i c cs' h1 h2
      cases hz
      obtain ⟨i1, i2⟩ := zces_fits h2
      have : MC w ok rb s c v ∧ v.oneCell' = true := by
        unfold zce at h1
        split at h1
        · cases h1; exact ⟨.lit _ rfl, rfl⟩
        · cases h1; exact ⟨.lit _ rfl, rfl⟩
        · cases h1; exact ⟨.lit _ rfl, rfl⟩
        · cases h1; exact ⟨rfl, rfl⟩
        · cases h1
      exact ⟨Fits.cons this.1 i1, fun u hu => by
        rcases List.mem_cons.1 hu with rfl | hu
        · exact this.2
        · exact i2 u hu⟩
    · cases hz

theorem Sat.run_cut (h : Sat ok0 w0 X N vb rb s a w) {o : Oper} (T e : TypeId) (x : Operand) (lo hi mx : Option Operand) (ho : o.op = .slice T x lo hi mx) (hu : P.underlying T = some (.slice e)) (ht : tok P e = true) {A : Option Addr} {n c : Nat} (hvx : a.eval x = .slice A n c) (hc : n ≤ c) {l q m : Int}
    (bl : E.bnd (lo.map s.ev) 0 = some l) (bq : E.bnd (hi.map s.ev) n = some q) (bm : E.bnd (mx.map s.ev) n = some m) (h0 : 0 ≤ l) (h1 : l ≤ q) (h2 : q ≤ m) (h3 : m ≤ n) (hms : (mx.map s.ev).isSome = true → (hi.map s.ev).isSome = true) :
    ∃ m' : Nat, q.toNat ≤ m' ∧ (execOp a.eval o).run P w = .ok (.value (.slice (if m' = l.toNat then A else A.map (·.add (l.toNat * tsz P e))) (q.toNat - l.toNat) (m' - l.toNat))) w := by
  have hl := h.bnd bl
  have hq := h.bnd bq
  have hm := h.bnd bm
  rcases hm with ⟨rfl, rfl⟩ | ⟨ym, km, rfl, em⟩
  · refine ⟨c, by omega, ?_⟩
    rcases hq with ⟨rfl, rfl⟩ | ⟨yq, kq, rfl, eq⟩
    · rcases hl with ⟨rfl, rfl⟩ | ⟨yl, kl, rfl, el⟩
      · simp [execOp, ho, hvx, Instr.sliceAt, run_underlying hu, Instr.slice, Instr.sliceBounds, run_sizeOf' ht]
      · have h5 := run_sliceBound_ok (P := P) kl l n .sliceB h0 (by omega) w
        simp [execOp, ho, hvx, Instr.sliceAt, run_underlying hu, Instr.slice, Instr.sliceBounds, el, h5, run_sizeOf' ht]
    · have h6 := run_sliceBound_ok (P := P) kq q c .sliceAcap (by omega) (by omega) w
      rcases hl with ⟨rfl, rfl⟩ | ⟨yl, kl, rfl, el⟩
      · simp [execOp, ho, hvx, Instr.sliceAt, run_underlying hu, Instr.slice, Instr.sliceBounds, eq, h6, run_sizeOf' ht]
      · have h5 := run_sliceBound_ok (P := P) kl l q.toNat .sliceB h0 (by omega) w
        simp [execOp, ho, hvx, Instr.sliceAt, run_underlying hu, Instr.slice, Instr.sliceBounds, eq, h6, el, h5, run_sizeOf' ht]
  · rcases hq with ⟨rfl, rfl⟩ | ⟨yq, kq, rfl, eq⟩
    · simp at hms
    · refine ⟨m.toNat, by omega, ?_⟩
      have h5 := run_sliceBound_ok (P := P) km m c .slice3Acap (by omega) (by omega) w
      have h6 := run_sliceBound_ok (P := P) kq q m.toNat .slice3B (by omega) (by omega) w
      rcases hl with ⟨rfl, rfl⟩ | ⟨yl, kl, rfl, el⟩
      · simp [execOp, ho, hvx, Instr.sliceAt, run_underlying hu, Instr.slice, Instr.sliceBounds, eq, em, h5, h6, run_sizeOf' ht]
      · have h7 := run_sliceBound_ok (P := P) kl l q.toNat .slice3C h0 (by omega) w
        simp [execOp, ho, hvx, Instr.sliceAt, run_underlying hu, Instr.slice, Instr.sliceBounds, eq, em, h5, h6, el, h7, run_sizeOf' ht]

variable (h : Sat ok0 w0 X N vb rb s a w) {o : Oper} (hd : ∀ d, o.dst = some d → d < N)
include h hd

theorem good_cut (T e : TypeId) (x : Operand) (lo hi mx : Option Operand) (ho : o.op = .slice T x lo hi mx) (he : telem P T = some e) (ht : tok P e = true) (hb : cutO (tsz P e) (lo.map s.ev) (hi.map s.ev) (mx.map s.ev) (s.ev x)) :
    Good P ok0 w0 X N o a w (s.put o.dst (cutV (tsz P e) (lo.map s.ev) (hi.map s.ev) (s.ev x))) := by
  have hx := h.ev x
  have hu : P.underlying T = some (.slice e) := by
    unfold telem at he
    split at he
    · cases he; assumption
    · cases he
  unfold cutO at hb
  split at hb
  · rename_i n cells e1
    rw [e1] at hx ⊢
    split at hb
    · rename_i l q m bl bq bm
      obtain ⟨h0, h1, h2, h3, hlen, hms⟩ := hb
      obtain ⟨hx1, _⟩ := hx
      generalize hvx : a.eval x = vx at hx1
      cases hx1 with
      | sl A n c cells us hlu hc hcell hrep =>
        have hrun := h.run_cut (P := P) T e x lo hi mx ho hu ht hvx hc bl bq bm h0 h1 h2 h3 hms
        obtain ⟨m', hm', hrun⟩ := hrun
        refine Good.value hrun vb rb (h.put o.dst hd _ _ ?_)
        simp only [cutV, bl, bq]
        refine ⟨.sl _ _ _ _ ((us.take (q.toNat * tsz P e)).drop (l.toNat * tsz P e)) ?_ (by omega) (fun j u hu => ?_) ?_, rfl⟩
        · simp [hlu]
        · have hf : us[l.toNat * tsz P e + j]? = some u := by
            rw [List.getElem?_drop, List.getElem?_take] at hu
            split at hu
            · exact hu
            · cases hu
          have hne : m' ≠ l.toNat := by
            intro e5
            have hq : q.toNat = l.toNat := by omega
            have hlt := (List.getElem?_eq_some_iff.1 hu).1
            rw [hq] at hlt
            simp at hlt
          obtain ⟨ad, rfl, hok, hc'⟩ := hcell _ u hf
          rw [if_neg hne]
          exact ⟨_, rfl, by rw [block_of_add]; exact hok, by rw [add_of_add]; exact hc'⟩
        · exact ((Fits.take ⟨hlu, hrep⟩ _).drop _).2
    · exact hb.elim
  · rename_i y off n e1
    rw [e1] at hx ⊢
    split at hb
    · rename_i l q m bl bq bm
      obtain ⟨hsz, h0, h1, h2, h3, hms⟩ := hb
      obtain ⟨cs, o1, c, hy, ex, hnc, ho1⟩ := hx
      obtain ⟨m', hm', hrun⟩ := h.run_cut (P := P) T e x lo hi mx ho hu ht ex hnc bl bq bm h0 h1 h2 h3 hms
      refine Good.value hrun vb rb (h.put o.dst hd _ _ ?_)
      simp only [cutV, bl, bq]
      by_cases hm : m' = l.toNat
      · exact ⟨cs, o1, m' - l.toNat, hy, by rw [if_pos hm], by omega, fun hn => by omega⟩
      · refine ⟨cs, o1 + l.toNat, m' - l.toNat, hy, by rw [if_neg hm]; simp [add_lit, hsz], by omega, fun hn => ?_⟩
        rw [ho1 (by omega)]
    · exact hb.elim
  · exact hb.elim

theorem good_acut (T e : TypeId) (n : Nat) (x : Operand) (lo hi mx : Option Operand) (ho : o.op = .slice T x lo hi mx) (he : tarr P T = some (n, e)) (ht : tok P e = true) (hb : acutO s (tsz P e) n (lo.map s.ev) (hi.map s.ev) (mx.map s.ev) (s.ev x)) :
    Good P ok0 w0 X N o a w (s.put o.dst (acutV s (tsz P e) n (lo.map s.ev) (hi.map s.ev) (s.ev x))) := by
  have hx := h.ev x
  have hu : P.underlying T = some (.array n e) := by
    unfold tarr at he
    split at he
    · cases he; assumption
    · cases he
  unfold acutO at hb
  split at hb
  · rename_i y off e1
    rw [e1] at hx ⊢
    obtain ⟨_, _, ex⟩ := hx
    split at hb
    · rename_i cs l q hcs bl bq
      obtain ⟨hmx, hfz, h0, h1, h2, hlen, hds⟩ := hb
      obtain ⟨ds, hds⟩ := Option.isSome_iff_exists.mp hds
      obtain ⟨hbase, us, T', hh, hf, hone⟩ := h.var y cs hcs
      have hfd := ceDs_fits hf hds
      have hfl : cs.length ≤ us.toList.length := by have := hf.1; simp at this ⊢; omega
      have hmx' : mx = none := by cases mx <;> simp_all
      subst hmx'
      have hok : okS ok0 w0.heap.size vb rb s w (vb y) := by
        refine ⟨hbase.elim .inr (fun e => .inl (e.1 ▸ e.2)), heap_lt hh, ?_, fun r row hr _ e => h.vr y cs r row hcs hr e⟩
        intro y' cs' hy' hlv e
        have e5 := h.vv y' y cs' cs hy' hcs e
        subst e5
        rw [hfz] at hlv; cases hlv
      have hrun : (execOp a.eval o).run P w = .ok (.value (.slice (some (if n = l.toNat then ⟨vb y, off, none⟩ else (⟨vb y, off, none⟩ : Addr).add (l.toNat * tsz P e))) (q.toNat - l.toNat) (n - l.toNat))) w := by
        have hl := h.bnd bl
        have hq := h.bnd bq
        rcases hq with ⟨rfl, rfl⟩ | ⟨yq, kq, rfl, eq⟩
        · rcases hl with ⟨rfl, rfl⟩ | ⟨yl, kl, rfl, el⟩
          · simp [execOp, ho, ex, Instr.sliceAt, run_underlying hu, Instr.sureAddr, Instr.sliceBounds, run_sizeOf' ht]
          · have h5 := run_sliceBound_ok (P := P) kl l n .sliceB (by omega) (by omega) w
            simp [execOp, ho, ex, Instr.sliceAt, run_underlying hu, Instr.sureAddr, Instr.sliceBounds, el, h5, run_sizeOf' ht]
        · have h6 := run_sliceBound_ok (P := P) kq q n .sliceAlen (by omega) (by omega) w
          rcases hl with ⟨rfl, rfl⟩ | ⟨yl, kl, rfl, el⟩
          · simp [execOp, ho, ex, Instr.sliceAt, run_underlying hu, Instr.sureAddr, Instr.sliceBounds, eq, h6, run_sizeOf' ht]
          · have h5 := run_sliceBound_ok (P := P) kl l q.toNat .sliceB (by omega) (by omega) w
            simp [execOp, ho, ex, Instr.sliceAt, run_underlying hu, Instr.sureAddr, Instr.sliceBounds, eq, el, h6, h5, run_sizeOf' ht]
      refine Good.value hrun vb rb (h.put o.dst hd _ _ ?_)
      simp only [acutV, hcs, bl, bq, hds]
      refine ⟨.sl _ _ _ _ ((((us.toList.take cs.length).drop off).take (q.toNat * tsz P e)).drop (l.toNat * tsz P e)) ?_ (by omega) (fun j u hu => ?_) ?_, rfl⟩
      · have := hfd.1
        simp only [List.length_drop, List.length_take] at this ⊢
        omega
      · have hf' : us[off + (l.toNat * tsz P e + j)]? = some u := by
          rw [List.getElem?_drop, List.getElem?_take] at hu
          split at hu
          · rw [List.getElem?_drop, List.getElem?_take] at hu
            split at hu
            · simpa using hu
            · cases hu
          · cases hu
        have hne : n ≠ l.toNat := by
          intro e5
          have hq : q.toNat = l.toNat := by omega
          have hlt := (List.getElem?_eq_some_iff.1 hu).1
          rw [hq] at hlt
          simp at hlt
        rw [if_neg hne]
        refine ⟨_, rfl, by rw [block_of_add]; exact hok, ?_⟩
        rw [add_of_add, add_lit, cell_of_row w (vb y) _ us T' (0, 0) hh]
        exact hf'
      · exact (((hfd.drop _).take _).drop _).2
    · exact hb.elim
  · exact hb.elim

theorem good_box (T : TypeId) (x : Operand) (d : Nat) (cs : List Ce) (ho : o.op = .box T x) (hdst : o.dst = some d) (hc : cellsOf (s.ev x) = some cs) : Good P ok0 w0 X N o a w (((s.setv (d, s.g d) cs).bump d).set d (.ptr (d, s.g d) 0)) := by
  have hx := h.ev x
  have key : ∃ us : Array Value, (a.eval x).cells = us ∧ Fits (MC w (okS ok0 w0.heap.size vb rb s w) rb s) cs us.toList ∧ ∀ u ∈ us.toList, u.oneCell' = true := by
    unfold cellsOf at hc
    split at hc
    · rename_i c e
      cases hc
      rw [e] at hx
      obtain ⟨h1, h2⟩ := hx
      refine ⟨#[a.eval x], ?_, Fits.cons h1 (Fits.nil _), fun u hu => by simp at hu; rw [hu]; exact h2⟩
      cases hv : a.eval x <;> first | rfl | (rw [hv] at h2; simp [Value.oneCell'] at h2)
    · rename_i cs' e
      cases hc
      rw [e] at hx
      obtain ⟨us, e2, hf, h1⟩ := hx
      exact ⟨us.toArray, by rw [e2]; rfl, by simpa using hf, by simpa using h1⟩
    · cases hc
  obtain ⟨us, hus, hf, h1⟩ := key
  have hn := h.newvar d cs us T hf h1
  have hn2 := hn.set d (hd d hdst) (.ptr (d, s.g d) 0) (.pointer (some ⟨w.heap.size, 0, none⟩)) ⟨cs, if_pos rfl, by simp⟩
  rw [← hdst] at hn2
  exact Good.value (by simp [execOp, ho, Instr.box, newVar, newRow, hus]) _ rb hn2

theorem good_alloc (T : TypeId) (d : Nat) (cs : List Ce) (ho : o.op = .alloc T) (hdst : o.dst = some d) (hc : zeros P T = some cs) : Good P ok0 w0 X N o a w (((s.setv (d, s.g d) cs).bump d).set d (.ptr (d, s.g d) 0)) := by
  unfold zeros at hc
  split at hc
  · rename_i vs hz
    unfold tzero at hz
    split at hz
    · rename_i i hi
      split at hz
      · rename_i z hiz
        cases hz
        obtain ⟨hf, h1⟩ := zces_fits (w := w) (rb := rb) (s := s) (ok := okS ok0 w0.heap.size vb rb s w) hc
        have hn := h.newvar d cs z.cells T hf h1
        have hn2 := hn.set d (hd d hdst) (.ptr (d, s.g d) 0) (.pointer (some ⟨w.heap.size, 0, none⟩)) ⟨cs, if_pos rfl, by simp⟩
        rw [← hdst] at hn2
        exact Good.value (by simp [execOp, ho, Instr.alloc, zeroValue, typeInfo, hi, hiz, newVar, newRow]) _ rb hn2
      · cases hz
    · cases hz
  · cases hc

end
end Go.Proofs.YtljmgdepldpmdaaDoor.E

set_option linter.unusedSimpArgs false
set_option linter.unusedVariables false
namespace Go.Proofs.YtljmgdepldpmdaaDoor.E
open Go.RowKit

theorem foldl_set (off : Nat) : ∀ (l : List Value) (k : Nat) (A : Array Value), off + k + l.length ≤ A.size →
    ((l.zipIdx k).foldl (fun (cs : Array Value) (p : Value × Nat) => cs.setIfInBounds (off + p.2) p.1) A).toList = A.toList.take (off + k) ++ l ++ A.toList.drop (off + k + l.length)
  | [], k, A, _ => by simp
  | v :: l, k, A, hl => by
    simp only [List.length_cons] at hl
    rw [List.zipIdx_cons, List.foldl_cons, foldl_set off l (k + 1) _ (by simp; omega)]
    have hs : (A.setIfInBounds (off + k) v).toList = A.toList.set (off + k) v := by simp
    rw [hs]
    have e1 : (A.toList.set (off + k) v).take (off + (k + 1)) = A.toList.take (off + k) ++ [v] := by
      rw [show off + (k + 1) = off + k + 1 from by omega, List.take_succ_eq_append_getElem (by simp; omega), List.take_set_of_le (by omega)]
      simp
    have e2 : (A.toList.set (off + k) v).drop (off + (k + 1) + l.length) = A.toList.drop (off + k + (v :: l).length) := by
      rw [List.drop_set_of_lt (by omega)]
      simp only [List.length_cons]; congr 1; omega
    rw [e1, e2]
    simp

theorem made_flat (zs : Array Value) (sz : Nat) (hz : zs.size = sz) (h0 : 0 < sz) : ∀ n, (madeCells zs (n * sz)).toList = (List.replicate n zs.toList).flatten
  | 0 => by simp [madeCells]
  | n + 1 => by
    have ih := made_flat zs sz hz h0 n
    simp only [madeCells, Array.toList_map, Array.toList_range] at ih ⊢
    rw [List.replicate_succ, List.flatten_cons, ← ih, show (n + 1) * sz = sz + n * sz by rw [Nat.add_mul]; omega, List.range_add, List.map_append]
    congr 1
    · apply List.ext_getElem?
      intro j
      rw [List.getElem?_map]
      by_cases hj : j < sz
      · rw [List.getElem?_range hj]
        simp only [Option.map_some, hz, Nat.mod_eq_of_lt hj]
        have hj' : j < zs.size := by omega
        simp [hj']
      · rw [List.getElem?_eq_none (by simp; omega), List.getElem?_eq_none (by simp; omega)]
        rfl
    · rw [List.map_map]
      apply List.map_congr_left
      intro j _
      simp [hz]

section
variable {ok0 : Nat → Prop} {w0 w w' : World} {X N : Nat} {vb : Nat × Nat → Nat} {rb : Nat × Nat → Value} {s s' : AS} {a : Act} {P : Program}

theorem Sat.cellsOf (h : Sat ok0 w0 X N vb rb s a w) {x : Operand} {cs : List Ce} (hc : cellsOf (s.ev x) = some cs) :
    Fits (MC w (okS ok0 w0.heap.size vb rb s w) rb s) cs (a.eval x).cells.toList ∧ ∀ u ∈ (a.eval x).cells.toList, u.oneCell' = true := by
  have hx := h.ev x
  unfold E.cellsOf at hc
  split at hc
  · rename_i c e
    cases hc
    rw [e] at hx
    obtain ⟨h1, h2⟩ := hx
    have : (a.eval x).cells = #[a.eval x] := by
      cases hv : a.eval x <;> first | rfl | (rw [hv] at h2; simp [Value.oneCell'] at h2)
    rw [this]
    exact ⟨Fits.cons h1 (Fits.nil _), fun u hu => by simp at hu; rw [hu]; exact h2⟩
  · rename_i cs' e
    cases hc
    rw [e] at hx
    obtain ⟨us, e2, hf, h1⟩ := hx
    rw [e2]
    exact ⟨by simpa [Value.cells] using hf, by simpa [Value.cells] using h1⟩
  · cases hc

theorem Sat.fill (h : Sat ok0 w0 X N vb rb s a w) (place : Nat → Option (Nat × Nat)) : ∀ (ps : List (Nat × Operand)) (cs cs' : List Ce) (A : Array Value), Fits (MC w (okS ok0 w0.heap.size vb rb s w) rb s) cs A.toList → (∀ u ∈ A.toList, u.oneCell' = true) →
    fillA place cs (pairs s ps) = some cs' → ∃ A' : Array Value, Instr.fill place A (ps.map fun p => (p.1, a.eval p.2)) = some A' ∧ Fits (MC w (okS ok0 w0.heap.size vb rb s w) rb s) cs' A'.toList ∧ ∀ u ∈ A'.toList, u.oneCell' = true
  | [], cs, cs', A, hf, h1, hp => by
    simp only [pairs, fillA, Option.some.injEq] at hp
    subst hp
    exact ⟨A, rfl, hf, h1⟩
  | (i, x) :: ps, cs, cs', A, hf, h1, hp => by
    simp only [pairs, fillA] at hp
    split at hp
    · rename_i off size cx hpl hcx
      split at hp
      · rename_i hc
        obtain ⟨hfx, h1x⟩ := h.cellsOf hcx
        have hsz : (a.eval x).cells.size = size := by have := hfx.1; simp at this; omega
        have hA : A.size = cs.length := by have := hf.1; simpa using this
        have hfold : ((a.eval x).cells.zipIdx.foldl (fun cs (p : Value × Nat) => cs.setIfInBounds (off + p.2) p.1) A).toList = A.toList.take off ++ (a.eval x).cells.toList ++ A.toList.drop (off + size) := by
          rw [← Array.foldl_toList, Array.toList_zipIdx, foldl_set off _ 0 A (by simp; omega)]
          simp [hsz]
        obtain ⟨A', r1, r2, r3⟩ := Sat.fill h place ps _ cs' ((a.eval x).cells.zipIdx.foldl (fun cs (p : Value × Nat) => cs.setIfInBounds (off + p.2) p.1) A)
          (by rw [hfold]; exact ((hf.take off).append hfx).append (hf.drop _)) (by
            rw [hfold]
            intro u hu
            simp only [List.mem_append] at hu
            rcases hu with (hu | hu) | hu
            · exact h1 u (List.mem_of_mem_take hu)
            · exact h1x u hu
            · exact h1 u (List.mem_of_mem_drop hu)) hp
        refine ⟨A', ?_, r2, r3⟩
        simp only [List.map_cons, Instr.fill, hpl, hsz]
        rw [if_neg]
        · exact r1
        · simp only [ne_eq, not_true_eq_false, decide_false, Bool.false_or, decide_eq_true_eq]
          omega
      · cases hp
    · cases hp

theorem zeros_run {T : TypeId} {cs : List Ce} (hz : zeros P T = some cs) : ∃ i z, P.info? T = some i ∧ i.zero = some z ∧ zces z.cells.toList = some cs := by
  unfold zeros at hz
  split at hz
  · rename_i vs hv
    unfold tzero at hv
    split at hv
    · rename_i i hi
      split at hv
      · rename_i z hiz
        cases hv
        exact ⟨i, z, hi, hiz, hz⟩
      · cases hv
    · cases hv
  · cases hz

theorem run_bsl {T e : TypeId} (he : telem P T = some e) (ht : tok P e = true) (n : Nat) (hn : n * tsz P e ≤ 16777216) (pv : Array (Nat × Value)) (zs : Array Value) (hz : n * tsz P e = 0 ∧ zs = #[] ∨ ∃ i z, P.info? e = some i ∧ i.zero = some z ∧ z.cells = zs)
    (A : Array Value) (hA : Instr.fill (fun i => some (i * tsz P e, tsz P e)) (madeCells zs (n * tsz P e)) pv.toList = some A) (w : World) :
    (Instr.buildSlice T n pv).run P w = .ok (.slice (some ⟨w.heap.size, 0, none⟩) n n) (w.alloc (.cells A e)) := by
  have hu : P.underlying T = some (.slice e) := by
    unfold telem at he
    split at he
    · cases he; assumption
    · cases he
  have hroom : ¬ (2 ^ 24 < n * tsz P e) := by omega
  unfold madeCells at hA
  have e1 : (Array.map (fun _ => (default : Value)) (Array.range 0)) = #[] := Array.eq_empty_of_size_eq_zero (by simp)
  rcases hz with ⟨h0, rfl⟩ | ⟨i, z, hi, hiz, rfl⟩
  · rw [h0] at hA
    have e0 : ((Array.range 0).map fun x => (#[] : Array Value)[x % (#[] : Array Value).size]!) = #[] := by simp
    rw [e0] at hA
    simp [Instr.buildSlice, run_underlying hu, run_sizeOf' ht, h0, newRow]
    rw [e1, hA]
    simp
  · by_cases h0 : n * tsz P e = 0
    · rw [h0] at hA
      have e0 : ((Array.range 0).map fun x => z.cells[x % z.cells.size]!) = #[] := by simp
      rw [e0] at hA
      simp [Instr.buildSlice, run_underlying hu, run_sizeOf' ht, h0, newRow]
      rw [e1, hA]
      simp
    · simp [Instr.buildSlice, run_underlying hu, run_sizeOf' ht, hroom, h0, newRow, zeroValue, typeInfo, hi, hiz, hA]

variable (h : Sat ok0 w0 X N vb rb s a w) {o : Oper} (hd : ∀ d, o.dst = some d → d < N)
include h hd

theorem good_build (T : TypeId) (parts : Array (Nat × Operand)) (cs cells : List Ce) (ho : o.op = .build T parts) (hz : zeros P T = some cs) (htp : (tplaces P T).isSome = true) (hfi : fillA (tplace P T) cs (pairs s parts.toList) = some cells) :
    Good P ok0 w0 X N o a w (s.put o.dst (.agg cells)) := by
  obtain ⟨i, z, hi, hiz, hzc⟩ := zeros_run hz
  obtain ⟨hf, h1⟩ := zces_fits (w := w) (rb := rb) (s := s) (ok := okS ok0 w0.heap.size vb rb s w) hzc
  obtain ⟨A', r1, r2, r3⟩ := h.fill (tplace P T) parts.toList cs cells z.cells hf h1 hfi
  have hb : P.built T (parts.map fun p => (p.1, a.eval p.2)).toList = some A' := by
    rw [Array.toList_map]
    obtain ⟨f, hfp⟩ := Option.isSome_iff_exists.mp htp
    have htf : tplace P T = f := by funext q; simp [tplace, hfp]
    rw [htf] at r1
    unfold tplaces at hfp
    unfold Program.built
    split at hfp
    · rename_i fs hu
      split at hfp
      · rename_i places hpl
        cases hfp
        rw [hi, hu]
        simp only [hiz, hpl]
        exact r1
      · cases hfp
    · rename_i n e hu
      split at hfp
      · rename_i j hj
        cases hfp
        rw [hi, hu]
        simp only [hiz, hj]
        exact r1
      · cases hfp
    · cases hfp
  refine Good.value (v := .agg A') (w' := w) ?_ vb rb (h.put o.dst hd _ _ ⟨A'.toList, by simp, r2, r3⟩)
  have := run_build (P := P) w T (parts.map fun p => (p.1, a.eval p.2)) A' hb
  simp only [execOp, ho]
  rw [Sem.run_bind, this]
  rfl

end
end Go.Proofs.YtljmgdepldpmdaaDoor.E

set_option linter.unusedSimpArgs false
set_option linter.unusedVariables false
namespace Go.Proofs.YtljmgdepldpmdaaDoor.E
open Go.RowKit

section
variable {ok0 : Nat → Prop} {w0 w w' : World} {X N : Nat} {vb : Nat × Nat → Nat} {rb : Nat × Nat → Value} {s s' : AS} {a : Act} {P : Program}

theorem below_alloc' (w : World) (o : Obj) : Below w.heap.size w (w.alloc o) := (Below.refl _ w).alloc (Nat.le_refl _) o

theorem telem_eq {T e : TypeId} (he : telem P T = some e) : P.underlying T = some (.slice e) := by
  unfold telem at he
  split at he
  · cases he; assumption
  · cases he
theorem tsz_eq {T : TypeId} {i : TypeInfo} (hi : P.info? T = some i) : i.size = tsz P T := by simp [tsz, hi]
theorem tbytes_eq {T : TypeId} {i : TypeInfo} (hi : P.info? T = some i) : i.bytes = tbytes P T := by simp [tbytes, hi]

theorem Sat.toD (h : Sat ok0 w0 X N vb rb s a w) {c : Ce} {u : Value} {d : Dt} (hc : MC w (okS ok0 w0.heap.size vb rb s w) rb s c u) (hd : toD s c = some d) : Rep w (okS ok0 w0.heap.size vb rb s w) d u := by
  cases c with
  | dt d' => cases hd; exact hc
  | z => exact ceD_fits (c := .z) hc hd
  | row r ver =>
    obtain ⟨row, hr, hle, hu⟩ := hc
    simp only [E.toD, hr] at hd
    split at hd
    · rename_i hv
      cases hd
      rw [hu hv.1]
      exact h.frozen hr hv.2
    · cases hd
theorem Sat.toDs (h : Sat ok0 w0 X N vb rb s a w) : ∀ {cs : List Ce} {us : List Value} {ds : List Dt}, Fits (MC w (okS ok0 w0.heap.size vb rb s w) rb s) cs us → toDs s cs = some ds → Fits (Rep w (okS ok0 w0.heap.size vb rb s w)) ds us
  | [], us, ds, hf, hd => by
    cases hd
    have : us = [] := List.eq_nil_of_length_eq_zero hf.1
    rw [this]; exact Fits.nil _
  | c :: cs, us, ds, hf, hd => by
    obtain ⟨u, us', rfl, hc, hf'⟩ := hf.uncons
    simp only [E.toDs] at hd
    split at hd
    · rename_i d ds' h1 h2
      cases hd
      exact Fits.cons (h.toD hc h1) (Sat.toDs h hf' h2)
    · cases hd
theorem Sat.toRV (h : Sat ok0 w0 X N vb rb s a w) {x : AV} {u : Value} {r : RV} (hx : MV w (okS ok0 w0.heap.size vb rb s w) vb rb s x u) (hr : toRV s x = some r) : MR w (okS ok0 w0.heap.size vb rb s w) r u := by
  cases x with
  | one c =>
    simp only [E.toRV] at hr
    cases hd : E.toD s c with
    | none => rw [hd] at hr; cases hr
    | some d => rw [hd] at hr; cases hr; exact h.toD hx.1 hd
  | agg cs =>
    simp only [E.toRV] at hr
    cases hd : E.toDs s cs with
    | none => rw [hd] at hr; cases hr
    | some ds =>
      rw [hd] at hr; cases hr
      obtain ⟨us, e, hf, _⟩ := hx
      exact ⟨us, e, h.toDs hf hd⟩
  | sv x off n =>
    obtain ⟨cs, o1, c, hy, ex, hnc, ho1⟩ := hx
    simp only [E.toRV, hy] at hr
    split at hr
    · rename_i hfz
      cases hds : ceDs cs with
      | none => rw [hds] at hr; cases hr
      | some ds =>
        rw [hds] at hr; cases hr
        obtain ⟨hbase, us, T', hh, hf, hone⟩ := h.var x cs hy
        have hfd := ceDs_fits hf hds
        have hok : okS ok0 w0.heap.size vb rb s w (vb x) := by
          refine ⟨hbase.elim .inr (fun e => .inl (e.1 ▸ e.2)), heap_lt hh, ?_, fun r row hr _ e => h.vr x cs r row hy hr e⟩
          intro y' cs' hy' hlv e
          have e5 := h.vv y' x cs' cs hy' hy e
          subst e5
          rw [hfz.1] at hlv; cases hlv
        rw [ex]
        refine .sl _ _ _ _ (((us.toList.take cs.length).drop off).take n) ((hfd.drop _).take _).1 hnc (fun j u hu => ?_) ((hfd.drop _).take _).2
        rw [List.getElem?_take] at hu
        split at hu
        · rename_i hj
          rw [List.getElem?_drop, List.getElem?_take] at hu
          split at hu
          · obtain rfl := ho1 (by omega)
            refine ⟨_, rfl, hok, ?_⟩
            rw [add_lit, cell_of_row w (vb x) _ us T' (0, 0) hh]
            simpa using hu
          · cases hu
        · cases hu
    · cases hr
  | _ => cases hr
theorem Sat.toRVs (h : Sat ok0 w0 X N vb rb s a w) : ∀ {xs : List Operand} {rs : List RV}, toRVs s (evs s xs) = some rs → Fits (MR w (okS ok0 w0.heap.size vb rb s w)) rs (xs.map a.eval)
  | [], rs, hr => by cases hr; exact Fits.nil _
  | x :: xs, rs, hr => by
    simp only [evs, E.toRVs] at hr
    split at hr
    · rename_i r rs' h1 h2
      cases hr
      exact Fits.cons (h.toRV (h.ev x) h1) (Sat.toRVs h h2)
    · cases hr

theorem run_append_nil_src (base : Nat) (t ty e : TypeId) (i : TypeInfo) (size : Nat) (ht : P.underlying t = some (.slice e)) (hi : P.info? e = some i)
    (v : Value) (n : Nat) (xs : List Value) (hown : w.ownsRow base e size v n xs) (c : Nat) : (Builtin.append_ #[t, t] ty #[v, .slice none 0 c]).run P w = .ok v w := by
  rcases hown.2 with ⟨rfl, rfl⟩ | ⟨g, cap, cur, rfl, _, _, hnc, _⟩
  · simp [Builtin.append_, run_underlying ht, sizeOf, typeInfo, hi, Builtin.lenOf, Builtin.firstCells]
  · simp [Builtin.append_, run_underlying ht, sizeOf, typeInfo, hi, Builtin.lenOf, Builtin.firstCells, hnc, storeCells]

/-- append, whatever the source -/
theorem run_append_src (base : Nat) (t ty e : TypeId) (i : TypeInfo) (z : Value) (size bytes : Nat) (ht : P.underlying t = some (.slice e)) (hi : P.info? e = some i) (hz : i.zero = some z)
    (hsize : i.size = size) (hby : i.bytes = bytes) (hzs : z.cells.size = size) (hsz : 0 < size)
    (v : Value) (n : Nat) (xs : List Value) (hown : w.ownsRow base e size v n xs) {ok : Nat → Prop} {m : Nat} {cells : List Dt} {u : Value} (hr : Rep w ok (.sl m cells) u) (hl : cells.length = m * size)
    (h63 : n + m ≤ maxLen) (hbytes : (n + m) * bytes ≤ 140737488355328) (hbase : base ≤ w.heap.size) :
    ∃ v' w' us, (Builtin.append_ #[t, t] ty #[v, u]).run P w = .ok v' w' ∧ w'.ownsRow base e size v' (n + m) (xs ++ us) ∧ Fits (Rep w ok) cells us ∧ w.grownBy w' v.ownBlock ∧ (v'.ownBlock = v.ownBlock ∨ v'.ownBlock = some w.heap.size) := by
  cases hr with
  | sl A _ c _ us hlu hc hcell hrep =>
    cases A with
    | none =>
      have hm : us = [] := by
        cases us with
        | nil => rfl
        | cons u us => obtain ⟨_, e, _⟩ := hcell 0 u rfl; cases e
      subst hm
      have hm0 : m = 0 := by
        have : m * size = 0 := by rw [← hl, ← hlu]; rfl
        rcases Nat.mul_eq_zero.1 this with h0 | h0
        · exact h0
        · omega
      subst hm0
      exact ⟨v, w, [], run_append_nil_src base t ty e i size ht hi v n xs hown c, by simpa using hown, ⟨hlu, hrep⟩, ⟨rfl, rfl, rfl, Nat.le_refl _, fun _ _ _ => rfl⟩, .inl rfl⟩
    | some ad =>
      have hcell' : ∀ (j : Nat) (u : Value), us[j]? = some u → w.cell? (ad.add j) = some u := fun j u hu => by
        obtain ⟨ad', e', _, hc'⟩ := hcell j u hu
        cases e'; exact hc'
      have hone : ∀ u ∈ us, u.oneCell' = true := fun u hu => by
        obtain ⟨j, hj⟩ := List.getElem?_of_mem hu
        have hlt : j < cells.length := by rw [← hlu]; exact (List.getElem?_eq_some_iff.1 hj).1
        exact (hrep j u _ hj (List.getElem?_eq_getElem hlt)).one
      obtain ⟨v', w', h1, h2, h3, _, h5⟩ := run_append_own_at (P := P) w base t ty e i z size bytes ht hi hz hsize hby hzs hsz v n xs hown ad m c us (by rw [hlu, hl]) hcell' hone h63 hbytes hbase
      exact ⟨v', w', us, h1, h2, ⟨hlu, hrep⟩, h3, h5⟩

variable (h : Sat ok0 w0 X N vb rb s a w) {o : Oper} (hd : ∀ d, o.dst = some d → d < N)
include h hd

theorem good_bsl (T e : TypeId) (n d : Nat) (parts : Array (Nat × Operand)) (ds : List Dt) (ho : o.op = .buildSlice T n parts) (hdst : o.dst = some d) (he : telem P T = some e) (ht : tok P e = true) (hn : n * tsz P e ≤ 16777216) (hn0 : 0 < tsz P e)
    (hzl : (zeros P e).map List.length = some (tsz P e)) (hb : bslC s (tsz P e) n (zeros P e) parts.toList = some ds) : Good P ok0 w0 X N o a w (s.set d (.one (.dt (.sl n ds)))) := by
  cases hz : zeros P e with
  | none => rw [hz] at hzl; cases hzl
  | some cs =>
    rw [hz] at hzl hb
    simp only [Option.map_some, Option.some.injEq] at hzl
    obtain ⟨i, z, hi, hiz, hzc⟩ := zeros_run hz
    obtain ⟨hf, h1⟩ := zces_fits (w := w) (rb := rb) (s := s) (ok := okS ok0 w0.heap.size vb rb s w) hzc
    have hzs : z.cells.size = tsz P e := by have := hf.1; simp at this; omega
    have hflat := made_flat z.cells (tsz P e) hzs hn0 n
    have hrep : ∀ k, Fits (MC w (okS ok0 w0.heap.size vb rb s w) rb s) (List.replicate k cs).flatten (List.replicate k z.cells.toList).flatten ∧ ∀ u ∈ (List.replicate k z.cells.toList).flatten, u.oneCell' = true := fun k => by
      induction k with
      | zero => exact ⟨Fits.nil _, by simp⟩
      | succ k ih =>
        rw [List.replicate_succ, List.replicate_succ, List.flatten_cons, List.flatten_cons]
        refine ⟨hf.append ih.1, fun u hu => ?_⟩
        rcases List.mem_append.1 hu with hu | hu
        · exact h1 u hu
        · exact ih.2 u hu
    unfold bslC at hb
    split at hb
    · rename_i cs' ecs
      cases ecs
      split at hb
      · rename_i cells hfi
        obtain ⟨A', r1, r2, r3⟩ := h.fill _ parts.toList _ cells (madeCells z.cells (n * tsz P e)) (by rw [hflat]; exact (hrep n).1) (by rw [hflat]; exact (hrep n).2) hfi
        have hrun := run_bsl he ht n hn (parts.map fun p => (p.1, a.eval p.2)) z.cells (.inr ⟨i, z, hi, hiz, rfl⟩) A' (by rw [Array.toList_map]; exact r1) w
        have hfd := ceDs_fits r2 hb
        have hw := h.world (below_alloc' w (.cells A' e))
        have hset := hw.set d (hd d hdst) (.one (.dt (.sl n ds))) (.slice (some ⟨w.heap.size, 0, none⟩) n n) ⟨.sl _ n n ds A'.toList hfd.1 (Nat.le_refl _) (fun j u hu => ⟨_, rfl, h.fresh (Nat.le_refl _) (by simp), by
          rw [add_lit, cell_of_row _ w.heap.size _ A' e (0, 0) (heap_alloc_new w _)]
          simpa using hu⟩) (fun j u dd hu hdd => (hfd.2 j u dd hu hdd).mono fun k hk => ⟨okS_grow hk (by simp), heap_alloc_old w _ k hk.2.1⟩), rfl⟩
        rw [← hdst] at hset
        refine Good.value ?_ vb rb hset
        simp only [execOp, ho]
        rw [Sem.run_bind, hrun]
        rfl
      · cases hb
    · cases hb

theorem good_bsl0 (T e : TypeId) (d : Nat) (parts : Array (Nat × Operand)) (ho : o.op = .buildSlice T 0 parts) (hdst : o.dst = some d) (he : telem P T = some e) (ht : tok P e = true) (hp : parts.size = 0) :
    Good P ok0 w0 X N o a w (((s.setr (d, s.g d) ⟨e, tsz P e, 0, [], 0, true⟩).bump d).set d (.one (.row (d, s.g d) 0))) := by
  have hp' : parts = #[] := Array.eq_empty_of_size_eq_zero hp
  subst hp'
  have hrun := run_bsl he ht 0 (by simp) #[] #[] (.inl ⟨by simp, rfl⟩) #[] (by simp [madeCells, Instr.fill]) w
  have hn := h.newrow d (World.grownBy_alloc w (.cells #[] e) none) ⟨e, tsz P e, 0, [], 0, true⟩ (.slice (some ⟨w.heap.size, 0, none⟩) 0 0) [] (by
    have := World.ownsRow_lit (base := w0.heap.size) (e := e) (size := tsz P e) w #[] 0 h.below.size (Nat.zero_le _) (by simp)
    simpa using this) (Fits.nil _) (.inr rfl)
  have hset := hn.set d (hd d hdst) (.one (.row (d, s.g d) 0)) (.slice (some ⟨w.heap.size, 0, none⟩) 0 0) ⟨⟨_, if_pos rfl, Nat.le_refl _, fun _ => by simp⟩, rfl⟩
  rw [← hdst] at hset
  refine Good.value ?_ _ _ hset
  simp only [execOp, ho]
  rw [Sem.run_bind]
  simp only [List.map_toArray, List.map_nil]
  rw [hrun]
  rfl

omit h hd in
theorem run_make_part (T e : TypeId) (i : TypeInfo) (z : Value) (he : telem P T = some e) (hi : P.info? e = some i) (hiz : i.zero = some z) (hsz : i.size = 1) (hzs : z.cells.size = 1) (k k' : IntKind) (q p : Nat) (hqp : q ≤ p) (hb : i.bytes * p ≤ 281474976710656) (h63 : p ≤ 9223372036854775807) (base : Nat) (hbase : base ≤ w.heap.size) :
    ∃ w', (Instr.makeSlice T (.int k q) (.int k' p)).run P w = .ok (.slice (some ⟨w.heap.size, 0, none⟩) q p) w' ∧ w'.ownsRow base e 1 (.slice (some ⟨w.heap.size, 0, none⟩) q p) q (List.replicate q z.cells.toList).flatten ∧ w.grownBy w' none := by
  have hr := run_make (P := P) w T e i z (telem_eq he) hi hiz k k' q p (by omega) (by omega) (by rw [← Int.natCast_mul]; omega) (by omega)
  simp only [Int.toNat_natCast] at hr
  rw [hsz] at hr
  have hfl := made_flat z.cells 1 hzs (by omega) p
  have hl1 : z.cells.toList.length = 1 := by simpa using hzs
  have htake : (List.replicate p z.cells.toList).flatten.take (q * 1) = (List.replicate q z.cells.toList).flatten := by
    obtain ⟨r, rfl⟩ := Nat.exists_eq_add_of_le hqp
    rw [← List.replicate_append_replicate, List.flatten_append, List.take_left' (by simp [hl1])]
  exact ⟨_, hr, ⟨by simp [hl1], .inr ⟨w.heap.size, p, _, rfl, hbase, heap_alloc_new w _, hqp, by unfold maxLen; omega, by simp [madeCells], by rw [hfl, htake]⟩⟩, World.grownBy_alloc w _ none⟩

theorem good_make (T e : TypeId) (d : Nat) (l c : Operand) (ho : o.op = .makeSlice T l c) (hdst : o.dst = some d) (he : telem P T = some e) (hsz : tsz P e = 1) (hb : mkO (tbytes P e) (zeros P e) (s.ev l) (s.ev c)) : Good P ok0 w0 X N o a w (mkS s d e (zeros P e) (s.ev l)) := by
  have hl := h.ev l
  have hc := h.ev c
  unfold mkO at hb
  split at hb
  · rename_i k n k' m e1 e2
    rw [e1] at hl ⊢
    rw [e2] at hc
    have vl := lit_of hl
    have vc := lit_of hc
    obtain ⟨h0, hnm, h1, h2, hz⟩ := hb
    split at hz
    · rename_i cs ez
      rw [ez]
      obtain ⟨hcd, hlen⟩ := hz
      obtain ⟨ds, hds⟩ := Option.isSome_iff_exists.mp hcd
      obtain ⟨i, z, hi, hiz, hzc⟩ := zeros_run ez
      obtain ⟨hf, hone⟩ := zces_fits (w := w) (rb := rb) (s := s) (ok := okS ok0 w0.heap.size vb rb s w) hzc
      have hfd := ceDs_fits hf hds
      have hdl : ds.length = 1 := by have := hfd.1; have := hf.1; omega
      match ds, hdl, hds, hfd with
      | [zd], _, hds, hfd =>
        have hzs : z.cells.size = 1 := by have := hf.1; simp at this; omega
        obtain ⟨q, rfl⟩ := Int.eq_ofNat_of_zero_le h0
        obtain ⟨p, rfl⟩ := Int.eq_ofNat_of_zero_le (Int.le_trans h0 hnm)
        have hbz : i.bytes * p ≤ 281474976710656 := by
          rw [tbytes_eq hi]
          have : ((tbytes P e * p : Nat) : Int) ≤ 281474976710656 := by rw [Int.natCast_mul]; exact h2
          omega
        obtain ⟨w', r1, r2, r3⟩ := run_make_part (P := P) (w := w) T e i z he hi hiz (by rw [tsz_eq hi, hsz]) hzs k k' q p (by omega) hbz (by omega) w0.heap.size h.below.size
        obtain ⟨u, us', hu, hzu, hf0⟩ := hfd.uncons
        have hus' : us' = [] := List.eq_nil_of_length_eq_zero hf0.1
        have hb' : Below w.heap.size w w' := ⟨r3.os, r3.tape, r3.output, r3.size, fun i hi => r3.block i hi (by simp)⟩
        have hrow : ∀ k, Fits (Rep w' (okS ok0 w0.heap.size vb rb s w)) (List.replicate k zd) (List.replicate k z.cells.toList).flatten := fun k => by
          induction k with
          | zero => exact Fits.nil _
          | succ k ih =>
            rw [List.replicate_succ, List.replicate_succ, List.flatten_cons, hu, hus']
            rw [hu, hus'] at ih
            exact Fits.cons (hzu.mono fun k hk => ⟨hk, hb'.block k hk.2.1⟩) ih
        have hn := h.newrow d r3 ⟨e, 1, q, List.replicate q zd, 0, true⟩ (.slice (some ⟨w.heap.size, 0, none⟩) q p) _ r2 (hrow q) (.inr rfl)
        have hset := hn.set d (hd d hdst) (.one (.row (d, s.g d) 0)) (.slice (some ⟨w.heap.size, 0, none⟩) q p) ⟨⟨_, if_pos rfl, Nat.le_refl _, fun _ => by simp⟩, rfl⟩
        rw [← hdst] at hset
        simp only [mkS, hds]
        refine Good.value (v := .slice (some ⟨w.heap.size, 0, none⟩) q p) (w' := w') ?_ _ _ hset
        simp only [execOp, ho, vl, vc]
        rw [Sem.run_bind, r1]
        rfl
    · exact hz.elim
  · exact hb.elim

theorem good_append (T e : TypeId) (d : Nat) (x y : Operand) (ho : o.op = .call { callee := .builtin .append, args := #[x, y], argTypes := #[T, T] }) (hdst : o.dst = some d) (he : telem P T = some e) (hsz : 0 < tsz P e)
    (hzl : (tzero P e).map List.length = some (tsz P e)) (hb : appO s e (tsz P e) (tbytes P e) (srcD s (s.ev y)) (s.ev x)) : Good P ok0 w0 X N o a w (appS s d e (tsz P e) (srcD s (s.ev y)) (s.ev x)) := by
  have hx := h.ev x
  have hy := h.ev y
  have hsrc : ∀ m cells, srcD s (s.ev y) = some (m, cells) → Rep w (okS ok0 w0.heap.size vb rb s w) (.sl m cells) (a.eval y) := fun m cells hs => by
    unfold srcD at hs
    split at hs
    · rename_i c ec
      rw [ec] at hy
      split at hs
      · rename_i n0 cells0 hd0
        cases hs
        exact h.toD hy.1 hd0
      · cases hs
    · cases hs
  obtain ⟨i, z, hi, hiz, hzs⟩ : ∃ i z, P.info? e = some i ∧ i.zero = some z ∧ z.cells.size = tsz P e := by
    unfold tzero at hzl
    split at hzl
    · rename_i i hi
      split at hzl
      · rename_i z hiz
        exact ⟨i, z, hi, hiz, by simpa using hzl⟩
      · cases hzl
    · cases hzl
  have hrun : ∀ (v' : Value) (w' : World), (Builtin.append_ #[T, T] o.type #[a.eval x, a.eval y]).run P w = .ok v' w' → (execOp a.eval o).run P w = .ok (.value v') w' := fun v' w' hr => by
    simp [execOp, ho, resolve, invoke, builtin, hr]
  unfold appO at hb
  split at hb
  · rename_i e1
    rw [e1] at hx ⊢
    have hv : a.eval x = .slice none 0 0 := hx.1
    split at hb
    · rename_i m cells es
      rw [es]
      obtain ⟨hl, h63, hbytes⟩ := hb
      obtain ⟨v', w', us, r1, r2, r3, r4, r5⟩ := run_append_src (P := P) w0.heap.size T o.type e i z (tsz P e) (tbytes P e) (telem_eq he) hi hiz (tsz_eq hi) (tbytes_eq hi) hzs hsz (.slice none 0 0) 0 [] (World.ownsRow_nil w _ _ _) (hsrc m cells es) hl (by omega) (by simpa using hbytes) h.below.size
      simp only [Nat.zero_add, List.nil_append] at r2
      have r4' : w.grownBy w' none := r4
      have hb' : Below w.heap.size w w' := ⟨r4'.os, r4'.tape, r4'.output, r4'.size, fun i hi => r4'.block i hi (by simp)⟩
      have hn := h.newrow d r4' ⟨e, tsz P e, m, cells, 0, true⟩ v' us r2 (r3.imp fun dd u hr => hr.mono fun k hk => ⟨hk, hb'.block k hk.2.1⟩) r5
      have hone : v'.oneCell' = true := by
        rcases r2.2 with ⟨hq, _⟩ | ⟨_, _, _, hq, _⟩ <;> rw [hq] <;> rfl
      have hset := hn.set d (hd d hdst) (.one (.row (d, s.g d) 0)) v' ⟨⟨_, if_pos rfl, Nat.le_refl _, fun _ => by simp⟩, hone⟩
      rw [← hdst] at hset
      rw [hv] at hrun
      exact Good.value (hrun v' w' r1) _ _ hset
    · exact hb.elim
  · rename_i r ver e1
    rw [e1] at hx ⊢
    obtain ⟨⟨row, hr, hle, hrv⟩, _⟩ := hx
    simp only [hr] at hb
    cases es : srcD s (s.ev y) with
    | none => rw [es] at hb; exact hb.elim
    | some mc =>
      obtain ⟨m, cells⟩ := mc
      rw [es] at hb
      obtain ⟨hver, hlive, hre, hrsz, hl, h63, hbytes⟩ := hb
      obtain ⟨us0, how, hf0⟩ := h.row r row hr
      rw [hre, hrsz] at how
      obtain ⟨v', w', us, r1, r2, r3, r4, r5⟩ := run_append_src (P := P) w0.heap.size T o.type e i z (tsz P e) (tbytes P e) (telem_eq he) hi hiz (tsz_eq hi) (tbytes_eq hi) hzs hsz (rb r) row.n us0 how (hsrc m cells es) hl h63 hbytes h.below.size
      have hs := h.rowset hr hlive r4 v' (row.n + m) (row.cells ++ cells) (ver + 1) (us0 ++ us) (by rw [hre, hrsz]; exact r2) (hf0.append r3) r5 (by omega) (fun e => by omega)
      have hone : v'.oneCell' = true := by
        rcases r2.2 with ⟨hq, _⟩ | ⟨_, _, _, hq, _⟩ <;> rw [hq] <;> rfl
      have hset := hs.set d (hd d hdst) (.one (.row r (ver + 1))) v' ⟨⟨_, if_pos rfl, Nat.le_refl _, fun _ => by simp⟩, hone⟩
      rw [← hdst] at hset
      rw [hrv hver] at hrun
      have hap : appS s d e (tsz P e) (some (m, cells)) (.one (.row r ver)) = ((s.setr r { row with n := row.n + m, cells := row.cells ++ cells, ver := ver + 1 }).set d (.one (.row r (ver + 1)))) := by
        simp only [appS, hr]
      rw [hap]
      exact Good.value (hrun v' w' r1) _ _ hset
  · exact hb.elim

theorem good_copy (T T' e : TypeId) (x y : Operand) (ho : o.op = .call { callee := .builtin .copy, args := #[x, y], argTypes := #[T, T'] }) (he : telem P T = some e) (ht : tok P e = true) (hsz : tsz P e = 1)
    (hb : cpO s (srcD s (s.ev y)) (s.ev x)) : Good P ok0 w0 X N o a w (cpS s o.dst (srcD s (s.ev y)) (s.ev x)) := by
  have hx := h.ev x
  have hy := h.ev y
  have hrun : ∀ (v' : Value) (w' : World), (Builtin.copy_ #[T, T'] o.type #[a.eval x, a.eval y]).run P w = .ok v' w' → (execOp a.eval o).run P w = .ok (.value v') w' := fun v' w' hr => by
    simp [execOp, ho, resolve, invoke, builtin, hr]
  have hs1 : (P.info? e).map (·.size) = some 1 := by
    unfold tok at ht
    simp only [Bool.and_eq_true] at ht
    obtain ⟨i, hi⟩ := Option.isSome_iff_exists.mp ht.1
    rw [hi, Option.map_some, tsz_eq hi, hsz]
  unfold cpO at hb
  split at hb
  · rename_i r ver e1
    rw [e1] at hx ⊢
    obtain ⟨⟨row, hr, hle, hrv⟩, _⟩ := hx
    simp only [hr] at hb
    cases es : srcD s (s.ev y) with
    | none => rw [es] at hb; exact hb.elim
    | some mc =>
      obtain ⟨m, cells⟩ := mc
      rw [es] at hb
      obtain ⟨hver, hlive, hrsz, hl⟩ := hb
      have hsrc : Rep w (okS ok0 w0.heap.size vb rb s w) (.sl m cells) (a.eval y) := by
        unfold srcD at es
        split at es
        · rename_i c ec
          rw [ec] at hy
          split at es
          · rename_i n0 cells0 hd0
            cases es
            exact h.toD hy.1 hd0
          · cases es
        · cases es
      obtain ⟨us0, how, hf0⟩ := h.row r row hr
      have hlen0 : us0.length = row.n := by have := how.1; rw [hrsz] at this; omega
      generalize hvy : a.eval y = vy at hsrc
      cases hsrc with
      | sl A _ c _ us hlu hc hcell hrep =>
        have hcp : cpS s o.dst (some (m, cells)) (.one (.row r ver)) = ((s.setr r { row with cells := cells.take (min m row.n) ++ row.cells.drop (min m row.n) }).put o.dst (litV (.int .i64 (min m row.n : Nat)))) := by
          simp only [cpS, hr]
        rw [hcp]
        by_cases h0 : min m row.n = 0
        · have hz : cells.take (min m row.n) ++ row.cells.drop (min m row.n) = row.cells := by rw [h0]; simp
          have hsame : s.setr r { row with cells := cells.take (min m row.n) ++ row.cells.drop (min m row.n) } = s := by
            rw [hz]
            have : (fun y => if y = r then some { row with cells := row.cells } else s.r y) = s.r := by
              funext y'
              by_cases e5 : y' = r
              · rw [if_pos e5, e5, hr]
              · rw [if_neg e5]
            unfold AS.setr
            rw [this]
          rw [hsame, h0]
          refine Good.value (v := goInt 0) (w' := w) (hrun _ _ ?_) vb rb (h.put o.dst hd _ _ (lit_fits rfl))
          rcases how.2 with ⟨hv2, hn⟩ | ⟨g, cap, cur, hv2, _⟩
          · rw [hrv hver, hv2, hvy]
            exact run_copy_none (P := P) w T T' o.type e none A 0 0 m c (telem_eq he) hs1 (by simp)
          · rw [hrv hver, hv2, hvy]
            exact run_copy_none (P := P) w T T' o.type e _ A row.n cap m c (telem_eq he) hs1 h0
        · rcases how.2 with ⟨hv2, hn⟩ | ⟨g, cap, cur, hv2, hbg, hgh, hnc, hcm, hcs, htake⟩
          · omega
          · have hpos : 0 < us.length := by omega
            obtain ⟨ad, rfl, _, _⟩ := hcell 0 us[0] (List.getElem?_eq_getElem hpos)
            have hcell' : ∀ (j : Nat) (u : Value), us[j]? = some u → w.cell? (ad.add j) = some u := fun j u hu => by
              obtain ⟨ad', e', _, hc'⟩ := hcell j u hu
              cases e'; exact hc'
            have hone : ∀ u ∈ us, u.oneCell' = true := fun u hu => by
              obtain ⟨j, hj⟩ := List.getElem?_of_mem hu
              have hlt : j < cells.length := by rw [← hlu]; exact (List.getElem?_eq_some_iff.1 hj).1
              exact (hrep j u _ hj (List.getElem?_eq_getElem hlt)).one
            rw [hrsz] at hcs htake
            simp only [Nat.mul_one] at hcs htake
            have hkl : (us.take (min m row.n)).length = min m row.n := by rw [List.length_take]; omega
            have r1 := run_copy_row (P := P) w T T' o.type e g 0 row.n cap ad m c cur row.e (us.take (min m row.n)) (telem_eq he) hs1 hgh hkl (fun j v hv => by
              rw [List.getElem?_take] at hv
              split at hv
              · exact hcell' j v hv
              · cases hv) (by omega) (fun v hv => hone v (List.mem_of_mem_take hv))
            rw [hkl] at r1
            have hus0 : us0.length = row.n := hlen0
            have hg : w.grownBy (w.setRow g (cur.toList.take 0 ++ us.take (min m row.n) ++ cur.toList.drop (0 + min m row.n)).toArray) (rb r).ownBlock :=
              ⟨rfl, rfl, rfl, by simp, fun k _ hk => setRow_other w g k _ (fun e5 => hk (by rw [hv2, e5]; rfl))⟩
            have how' : (w.setRow g (cur.toList.take 0 ++ us.take (min m row.n) ++ cur.toList.drop (0 + min m row.n)).toArray).ownsRow w0.heap.size row.e row.sz (rb r) row.n (us.take (min m row.n) ++ us0.drop (min m row.n)) := by
              refine ⟨by rw [hrsz]; simp; omega, .inr ⟨g, cap, _, hv2, hbg, setRow_heap w g cur _ row.e _ hgh, hnc, hcm, ?_, ?_⟩⟩
              · rw [hrsz]; simp; omega
              · rw [hrsz, ← htake]
                simp only [List.take_zero, List.nil_append, Nat.zero_add, Nat.mul_one]
                rw [List.take_append, List.take_of_length_le (by rw [hkl]; omega), hkl, ← List.drop_take]
            have hs := h.rowset hr hlive hg (rb r) row.n (cells.take (min m row.n) ++ row.cells.drop (min m row.n)) row.ver _ how' ((Fits.take ⟨hlu, hrep⟩ _).append (hf0.drop _)) (.inl rfl) (Nat.le_refl _) (fun _ => ⟨rfl, rfl⟩)
            refine Good.value (v := goInt (min m row.n : Nat)) (hrun _ _ ?_) _ _ (hs.put o.dst hd _ _ (lit_fits rfl))
            rw [hrv hver, hv2, hvy]
            exact r1
  · exact hb.elim

theorem good_store (T : TypeId) (x y : Operand) (cs : List Ce) (ho : o.op = .store T x y) (ht : tok P T = true) (hc : cellsOf (s.ev y) = some cs) (hl : cs.length = tsz P T) (hb : stO s cs (s.ev x)) : Good P ok0 w0 X N o a w ((stS s cs (s.ev x)).put o.dst .no) := by
  have hx := h.ev x
  obtain ⟨hf, hone⟩ := h.cellsOf hc
  have hsz : (a.eval y).cells.size = tsz P T := by have := hf.1; simp at this; omega
  have hrun : ∀ (ad : Addr) (w' : World), a.eval x = .pointer (some ad) → (storeCells ad (a.eval y).cells.toList).run P w = .ok () w' → (execOp a.eval o).run P w = .ok .skip w' := fun ad w' hv hr => by
    simp [execOp, ho, hv, Instr.storeAt, Instr.sureAddr, storeVar, run_sizeOf' ht, hsz, hr]
  have hgood : ∀ (vb' : Nat × Nat → Nat) (rb' : Nat × Nat → Value) (s' : AS) (w' : World), (execOp a.eval o).run P w = .ok .skip w' → Sat ok0 w0 X N vb' rb' s' a w' → Good P ok0 w0 X N o a w (s'.put o.dst .no) := fun vb' rb' s' w' hr hs K Q hK => by
    unfold Oper.wp
    rw [hr]
    exact hK vb' rb' _ _ (hs.put o.dst hd .no undef trivial)
  unfold stO at hb
  split at hb
  · rename_i v off e1
    rw [e1] at hx ⊢
    obtain ⟨_, _, ex⟩ := hx
    split at hb
    · rename_i cs0 hv0
      obtain ⟨hlv, hoff⟩ := hb
      obtain ⟨hbase, us, T', hh, hf0, hone0⟩ := h.var v cs0 hv0
      have husz : cs0.length ≤ us.size := by have := hf0.1; simp at this; omega
      have hcl : (a.eval y).cells.toList.length = cs.length := hf.1
      have hst := run_storeCells_at P (vb v) off T' (a.eval y).cells.toList 0 us w hh (by rw [hcl]; omega) hone
      rw [hcl] at hst
      simp only [Nat.add_zero] at hst
      have hA : (us.toList.take cs0.length).length = cs0.length := by simp; omega
      have htk : ((us.toList.take off ++ (a.eval y).cells.toList ++ us.toList.drop (off + cs.length)).toArray).toList.take (cs0.take off ++ cs ++ cs0.drop (off + cs.length)).length = (us.toList.take cs0.length).take off ++ (a.eval y).cells.toList ++ (us.toList.take cs0.length).drop (off + cs.length) := by
        have hsplit : us.toList = us.toList.take cs0.length ++ us.toList.drop cs0.length := (List.take_append_drop _ _).symm
        have e1 : us.toList.take off = (us.toList.take cs0.length).take off := by rw [List.take_take, Nat.min_eq_left (by omega)]
        have e2 : us.toList.drop (off + cs.length) = (us.toList.take cs0.length).drop (off + cs.length) ++ us.toList.drop cs0.length := by
          conv => lhs; rw [hsplit]
          rw [List.drop_append_of_le_length (by rw [hA]; exact hoff)]
        have hn : (cs0.take off ++ cs ++ cs0.drop (off + cs.length)).length = ((us.toList.take cs0.length).take off ++ (a.eval y).cells.toList ++ (us.toList.take cs0.length).drop (off + cs.length)).length := by
          simp only [List.length_append, List.length_take, List.length_drop, hcl, Array.length_toList]
          omega
        show (us.toList.take off ++ (a.eval y).cells.toList ++ us.toList.drop (off + cs.length)).take _ = _
        rw [hn, e1, e2, ← List.append_assoc, List.take_left]
      have hs := h.storev hv0 hlv (cs0.take off ++ cs ++ cs0.drop (off + cs.length)) (us.toList.take off ++ (a.eval y).cells.toList ++ us.toList.drop (off + cs.length)).toArray (by
        rw [htk]
        exact ((hf0.take _).append hf).append (hf0.drop _)) (by
        rw [htk]
        intro u hu
        simp only [List.mem_append] at hu
        rcases hu with (hu | hu) | hu
        · exact hone0 u (List.mem_of_mem_take hu)
        · exact hone u hu
        · exact hone0 u (List.mem_of_mem_drop hu))
      have hss : stS s cs (.ptr v off) = s.setv v (cs0.take off ++ cs ++ cs0.drop (off + cs.length)) := by simp only [stS, hv0]
      rw [hss]
      exact hgood vb rb _ _ (hrun _ _ ex hst) hs
    · exact hb.elim
  · rename_i r ver j e1
    rw [e1] at hx ⊢
    obtain ⟨row, hr, hle, hrv⟩ := hx
    simp only [hr] at hb
    cases hds : ceDs cs with
    | none => rw [hds] at hb; exact hb.elim
    | some ds =>
      rw [hds] at hb
      obtain ⟨hver, hlive, hl1, hj⟩ := hb
      have hfd := ceDs_fits hf hds
      have hdl : ds.length = 1 := by have := hfd.1; have := hf.1; omega
      match ds, hdl, hds, hfd with
      | [zd], _, hds, hfd =>
        obtain ⟨u, us', hu, hzu, hf0⟩ := hfd.uncons
        have hus' : us' = [] := List.eq_nil_of_length_eq_zero hf0.1
        subst hus'
        obtain ⟨g, c, hrb, ex⟩ := hrv hver
        obtain ⟨us0, how, hfr⟩ := h.row r row hr
        rw [hrb] at how
        have hst := how.stored j u
        have hcell := how.cellAt j hj
        have hlt : j < us0.length := by rw [how.1]; exact hj
        have h1 : (storeCells ⟨g, j, none⟩ (a.eval y).cells.toList).run P w = .ok () (w.setCell ⟨g, j, none⟩ u) := by
          rw [hu]
          have hs0 : (store ((⟨g, j, none⟩ : Addr).add 0) u).run P w = .ok () (w.setCell ⟨g, j, none⟩ u) := by
            rw [add_lit, run_store P w _ u _ hzu.one]
            simp only [Nat.add_zero]
            rw [hcell, List.getElem?_eq_getElem hlt]
            simp [how.frozenAt j]
          simp [storeCells, hs0]
        have hss : stS s cs (.rel r ver j) = s.setr r { row with cells := row.cells.set j zd } := by simp only [stS, hr, hds]
        rw [hss]
        have hs := h.rowset hr hlive (w' := w.setCell ⟨g, j, none⟩ u) (by rw [hrb]; exact hst.2) (rb r) row.n (row.cells.set j zd) row.ver (us0.set j u) (by rw [hrb]; exact hst.1) (hfr.set_ j hzu) (.inl rfl) (Nat.le_refl _) (fun _ => ⟨rfl, rfl⟩)
        exact hgood vb _ _ _ (hrun _ _ ex h1) hs
  · exact hb.elim

theorem good_call (f : Nat) (args : Array Operand) (Ts : Array TypeId) (avs rs : List RV) (ho : o.op = .call { callee := .value (.func f), args := args, argTypes := Ts }) (ha : toRVs s (evs s args.toList) = some avs) (hf : AFun P f avs rs) : Good P ok0 w0 X N o a w (s.put o.dst (resAV rs)) := by
  intro K Q hK
  obtain ⟨hfok, hf⟩ := hf
  have hfit := h.toRVs ha
  have hrun : (execOp a.eval o).run P w = .ok (.enter f (args.map a.eval)) w := by
    unfold fok at hfok
    split at hfok
    · rename_i fn hfn
      simp only [Bool.and_eq_true, bne_iff_ne, ne_eq] at hfok
      have hb : ¬ fn.body = none := by intro e; rw [e] at hfok; simp at hfok
      simp [execOp, ho, resolve, Act.eval, Deferred.ofValue, invoke, callFunc, hfn]
      rw [if_neg hfok.1, if_neg hb]
    · cases hfok
  unfold Oper.wp
  rw [hrun, Oper.upon_enter]
  have hcall := hf (okS ok0 w0.heap.size vb rb s w) w (args.toList.map a.eval) (fun k hk => hk.2.1) hfit
  have hargs : (args.toList.map a.eval).toArray = args.map a.eval := by rw [← Array.toList_map]
  rw [hargs] at hcall
  refine hcall.mono fun e w' ⟨v, he, hm, hb⟩ => ?_
  subst he
  have hw := h.world hb
  refine hK vb rb _ _ (hw.put o.dst hd _ _ ?_)
  have hok : ∀ k, (okS ok0 w0.heap.size vb rb s w k ∨ (w.heap.size ≤ k ∧ k < w'.heap.size)) → okS ok0 w0.heap.size vb rb s w' k ∧ w'.heap[k]? = w'.heap[k]? := fun k hk => by
    rcases hk with hk | ⟨h1, h2⟩
    · exact ⟨okS_grow hk hb.size, rfl⟩
    · exact ⟨h.fresh h1 h2, rfl⟩
  have htoav : ∀ (r : RV) (u : Value), MR w' (fun k => okS ok0 w0.heap.size vb rb s w k ∨ (w.heap.size ≤ k ∧ k < w'.heap.size)) r u → MV w' (okS ok0 w0.heap.size vb rb s w') vb rb s r.toAV u := fun r u hr => by
    have hr' := Ext.mr hok hr
    cases r with
    | one d => exact ⟨hr', Rep.one hr'⟩
    | agg ds =>
      obtain ⟨us, e', hf'⟩ := hr'
      refine ⟨us, e', ⟨by simp [hf'.1], fun i v c hv hc => ?_⟩, fun v hv => ?_⟩
      · rw [List.getElem?_map] at hc
        cases hd' : ds[i]? with
        | none => rw [hd'] at hc; simp at hc
        | some d => rw [hd'] at hc; simp at hc; subst hc; exact hf'.2 i v d hv hd'
      · obtain ⟨i, hi⟩ := List.getElem?_of_mem hv
        have hlt : i < ds.length := by rw [← hf'.1]; exact (List.getElem?_eq_some_iff.1 hi).1
        exact (hf'.2 i v _ hi (List.getElem?_eq_getElem hlt)).one
  match rs, hm with
  | [r], hm => exact htoav r v hm
  | [], hm =>
    obtain ⟨us, e, hfu⟩ := hm
    exact ⟨us, e, hfu.imp fun r u hr => Ext.mr hok hr⟩
  | r1 :: r2 :: rs, hm =>
    obtain ⟨us, e, hfu⟩ := hm
    exact ⟨us, e, hfu.imp fun r u hr => Ext.mr hok hr⟩
end
end Go.Proofs.YtljmgdepldpmdaaDoor.E

set_option linter.unusedSimpArgs false
set_option linter.unusedVariables false
namespace Go.Proofs.YtljmgdepldpmdaaDoor.E
open Go.RowKit

section
variable {ok0 : Nat → Prop} {w0 w w' : World} {X N : Nat} {vb : Nat × Nat → Nat} {rb : Nat × Nat → Value} {s s' : AS} {a : Act} {P : Program}

theorem op_good (h : Sat ok0 w0 X N vb rb s a w) (o : Oper) (hd : ∀ d, o.dst = some d → d < N) (rs : List RV) (hb : obl P o.op o.dst s rs) : Good P ok0 w0 X N o a w (eff P o.op o.dst s rs) := by
  cases ho : o.op with
  | move x => exact good_move h hd x (.inl ho)
  | assign x => exact good_move h hd x (.inr ho)
  | pick c x y => rw [ho] at hb; exact good_pick h hd c x y ho hb
  | alloc T =>
    rw [ho] at hb
    obtain ⟨h1, h2⟩ := hb
    obtain ⟨d, hdst⟩ := Option.isSome_iff_exists.mp h1
    obtain ⟨cs, hz⟩ := Option.isSome_iff_exists.mp h2
    have := good_alloc h hd T d cs ho hdst hz
    simpa only [eff, hdst, hz] using this
  | box T x =>
    rw [ho] at hb
    obtain ⟨h1, h2⟩ := hb
    obtain ⟨d, hdst⟩ := Option.isSome_iff_exists.mp h1
    obtain ⟨cs, hz⟩ := Option.isSome_iff_exists.mp h2
    have := good_box (P := P) h hd T x d cs ho hdst hz
    simpa only [eff, hdst, hz] using this
  | build T parts =>
    rw [ho] at hb
    simp only [obl] at hb
    split at hb
    · rename_i cs hz
      obtain ⟨h1, h2⟩ := hb
      obtain ⟨cells, hf⟩ := Option.isSome_iff_exists.mp h2
      have := good_build h hd T parts cs cells ho hz h1 hf
      simpa only [eff, hz, hf] using this
    · exact hb.elim
  | buildSlice T n parts =>
    rw [ho] at hb
    simp only [obl] at hb
    split at hb
    · rename_i e he
      obtain ⟨h1, h2, h3, h4⟩ := hb
      obtain ⟨d, hdst⟩ := Option.isSome_iff_exists.mp h3
      split at h4
      · rename_i hn
        subst hn
        have := good_bsl0 h hd T e d parts ho hdst he h1 h4
        simpa only [eff, he, hdst, if_true] using this
      · rename_i hn
        obtain ⟨h5, h6, h7⟩ := h4
        obtain ⟨ds, hds⟩ := Option.isSome_iff_exists.mp h5
        have := good_bsl h hd T e n d parts ds ho hdst he h1 h2 h7 h6 hds
        simpa only [eff, he, hdst, hn, if_false, hds] using this
    · exact hb.elim
  | load T x => rw [ho] at hb; exact good_load h hd T x ho hb.1 hb.2
  | store T x y =>
    rw [ho] at hb
    obtain ⟨h1, h2⟩ := hb
    split at h2
    · rename_i cs hc
      have := good_store h hd T x y cs ho h1 hc h2.1 h2.2
      simpa only [eff, hc] using this
    · exact h2.elim
  | binOp op T x y T' => rw [ho] at hb; exact good_bin h hd op T T' x y ho hb
  | unOp op T x => rw [ho] at hb; exact good_un h hd op T x ho hb
  | index T x i => rw [ho] at hb; exact good_six h hd T x i ho hb.1 hb.2
  | convert src T x => rw [ho] at hb; exact good_conv h hd src T x ho hb
  | makeSlice T l c =>
    rw [ho] at hb
    simp only [obl] at hb
    split at hb
    · rename_i e he
      obtain ⟨h1, h2, h3, h4⟩ := hb
      obtain ⟨d, hdst⟩ := Option.isSome_iff_exists.mp h1
      have := good_make h hd T e d l c ho hdst he h3 h4
      simpa only [eff, he, hdst] using this
    · exact hb.elim
  | slice T x lo hi mx =>
    rw [ho] at hb
    simp only [obl] at hb
    split at hb
    · rename_i e he
      have := good_cut h hd T e x lo hi mx ho he hb.1 hb.2
      simpa only [eff, he] using this
    · rename_i n e he ha
      have := good_acut h hd T e n x lo hi mx ho ha hb.1 hb.2
      simpa only [eff, he, ha] using this
    · exact hb.elim
  | fieldAddr T x f => rw [ho] at hb; exact good_fld h hd T x f ho hb
  | indexAddr T x i =>
    rw [ho] at hb
    simp only [obl] at hb
    split at hb
    · rename_i e he
      have := good_idx h hd T e x i ho he hb.1 hb.2
      simpa only [eff, he] using this
    · rename_i n e he ha
      have := good_arr h hd T e n x i ho ha hb.1 hb.2
      simpa only [eff, he, ha] using this
    · exact hb.elim
  | extract x j => rw [ho] at hb; exact good_ext h hd x j ho hb
  | call c =>
    rw [ho] at hb
    obtain ⟨callee, args, Ts⟩ := c
    cases callee with
    | value f =>
      cases f with
      | func f =>
        obtain ⟨avs, h1, h2⟩ := hb
        exact good_call h hd f args Ts avs rs ho h1 h2
      | _ => exact hb.elim
    | invoke r m => exact hb.elim
    | builtin b =>
      cases b with
      | len =>
        simp only [obl] at hb
        split at hb
        · rename_i x T e1 e2
          have ea : args = #[x] := by apply Array.ext'; simpa using e1
          have et : Ts = #[T] := by apply Array.ext'; simpa using e2
          subst ea; subst et
          have := good_len h hd x T T ho hb.1 hb.2
          simpa only [eff] using this
        · exact hb.elim
      | max =>
        simp only [obl] at hb
        split at hb
        · rename_i x y e1
          have ea : args = #[x, y] := by apply Array.ext'; simpa using e1
          subst ea
          have := good_max (P := P) h hd x y Ts ho hb
          simpa only [eff] using this
        · exact hb.elim
      | min =>
        simp only [obl] at hb
        split at hb
        · rename_i x y e1
          have ea : args = #[x, y] := by apply Array.ext'; simpa using e1
          subst ea
          have := good_min (P := P) h hd x y Ts ho hb
          simpa only [eff] using this
        · exact hb.elim
      | append =>
        simp only [obl] at hb
        split at hb
        · rename_i x y T T' e1 e2
          have ea : args = #[x, y] := by apply Array.ext'; simpa using e1
          have et : Ts = #[T, T'] := by apply Array.ext'; simpa using e2
          subst ea; subst et
          obtain ⟨h0, hb⟩ := hb
          subst h0
          split at hb
          · rename_i e he
            obtain ⟨h1, h2, h3, h4, h5⟩ := hb
            obtain ⟨d, hdst⟩ := Option.isSome_iff_exists.mp h1
            have := good_append h hd T' e d x y ho hdst he h3 h4 h5
            simpa only [eff, he, hdst] using this
          · exact hb.elim
        · exact hb.elim
      | copy =>
        simp only [obl] at hb
        split at hb
        · rename_i x y T T' e1 e2
          have ea : args = #[x, y] := by apply Array.ext'; simpa using e1
          have et : Ts = #[T, T'] := by apply Array.ext'; simpa using e2
          subst ea; subst et
          split at hb
          · rename_i e he
            have := good_copy h hd T T' e x y ho he hb.1 hb.2.1 hb.2.2
            simpa only [eff] using this
          · exact hb.elim
        · exact hb.elim
      | _ => exact hb.elim
  | _ => rw [ho] at hb; exact hb.elim

/-! ### lists of operations -/
structure AO where
  dst : Option Nat
  op : Op
  gd : Option (Nat × Bool)

/-- what an operation of a list asks, with its guard -/
def obl' (P : Program) (o : AO) (s : AS) (rs : List RV) : Prop := match o.gd with
  | none => obl P o.op o.dst s rs
  | some (t, want) => match asG want (s.t t) with
    | some b => if b = want then obl P o.op o.dst s rs else True
    | none => False
def eff' (P : Program) (o : AO) (s : AS) (rs : List RV) : AS := match o.gd with
  | none => eff P o.op o.dst s rs
  | some (t, want) => match asG want (s.t t) with
    | some b => if b = want then eff P o.op o.dst s rs else s.put o.dst .un
    | none => s
def dops (P : Program) : List AO → (AS → Prop) → AS → Prop
  | [], Q, s => Q s
  | o :: os, Q, s => ∃ rs, obl' P o s rs ∧ dops P os Q (eff' P o s rs)

/-- operation i of a region, with its guard's temporary -/
def ao (ops : Array Oper) (i : Nat) : AO := match ops[i]? with
  | none => ⟨none, .panic (.tmp 0), none⟩
  | some o => match o.guard with
    | none => ⟨o.dst, o.op, none⟩
    | some (j, want) => match (ops[j]?).bind (·.dst) with
      | some t => ⟨o.dst, o.op, some (t, want)⟩
      | none => ⟨none, .panic (.tmp 0), none⟩

theorem asB_eval (h : Sat ok0 w0 X N vb rb s a w) {t : Nat} {b : Bool} (hb : asB (s.t t) = some b) : a.tmps[t]? = some (.bool b) := by
  have ht := h.tmp t
  unfold asB at hb
  split at hb
  · rename_i b' e
    cases hb
    rw [e] at ht
    have hv := lit_of ht
    rw [Array.getD_eq_getD_getElem?] at hv
    cases hq : a.tmps[t]? with
    | none => rw [hq] at hv; simp [undef] at hv
    | some u => rw [hq] at hv; simp at hv; rw [hv]
  · cases hb

theorem asG_want {want : Bool} {x : AV} (h : asG want x = some want) : asB x = some want := by
  cases x with
  | un => unfold asG at h; cases want <;> simp at h
  | _ => exact h
theorem asG_not (h : Sat ok0 w0 X N vb rb s a w) {t : Nat} {b want : Bool} (hb : asG want (s.t t) = some b) (hn : ¬ b = want) : ¬ (match a.tmps[t]? with | some (.bool b) => some b | _ => none) = some want := by
  by_cases hu : s.t t = .un
  · have ht := h.tmp t
    rw [hu] at ht
    have ht' : a.tmps.getD t undef = undef := ht
    rw [Array.getD_eq_getD_getElem?] at ht'
    cases hq : a.tmps[t]? with
    | none => simp
    | some u => rw [hq] at ht'; simp at ht'; rw [ht']; simp [undef]
  · have hb' : asB (s.t t) = some b := by
      revert hb
      cases hx : s.t t with
      | un => exact absurd hx hu
      | _ => exact fun h => h
    rw [asB_eval h hb']
    simpa using hn
/-- one operation of a region -/
theorem step_sound (h : Sat ok0 w0 X N vb rb s a w) (ops : Array Oper) (i : Nat) (hi : i < ops.size) (hN : ∀ o ∈ ops, ∀ d, o.dst = some d → d < N) (rs : List RV) (hb : obl' P (ao ops i) s rs)
    {K : Act → World → Prop} {Q : Exit → Act → World → Prop} (hK : ∀ vb' rb' a' w', Sat ok0 w0 X N vb' rb' (eff' P (ao ops i) s rs) a' w' → K a' w') : wpOp P ops Q i K a w := by
  have ho : ops[i]? = some ops[i] := Array.getElem?_eq_getElem hi
  generalize ops[i] = o at ho
  have hmem : o ∈ ops := Array.mem_of_getElem? ho
  unfold wpOp
  rw [ho]
  simp only
  unfold ao at hb hK
  rw [ho] at hb hK
  simp only at hb hK
  cases hg : o.guard with
  | none =>
    rw [hg] at hb hK
    have hw : Region.wanted o (yielded ops a.tmps) = true := by simp [Region.wanted, hg]
    rw [if_pos hw]
    exact .inl (op_good h o (hN o hmem) rs hb K Q hK)
  | some p =>
    obtain ⟨j, want⟩ := p
    rw [hg] at hb hK
    simp only at hb hK
    cases ht : (ops[j]?).bind (·.dst) with
    | none => rw [ht] at hb; exact hb.elim
    | some t =>
      rw [ht] at hb hK
      simp only [obl', eff'] at hb hK
      cases hbv : asG want (s.t t) with
      | none => rw [hbv] at hb; exact hb.elim
      | some b =>
        rw [hbv] at hb hK
        simp only at hb hK
        by_cases e : b = want
        · rw [if_pos e] at hb hK
          have hy : yielded ops a.tmps j = some want := by simp [yielded, ht, asB_eval h (asG_want (e ▸ hbv))]
          have hw : Region.wanted o (yielded ops a.tmps) = true := by simp [Region.wanted, hg, hy]
          rw [if_pos hw]
          exact .inl (op_good h o (hN o hmem) rs hb K Q hK)
        · rw [if_neg e] at hb hK
          have h9 := asG_not h hbv e
          have hw : ¬ Region.wanted o (yielded ops a.tmps) = true := by simp [Region.wanted, hg, yielded, ht]; exact h9
          rw [if_neg hw]
          exact hK vb rb _ _ (h.put o.dst (hN o hmem) .un undef rfl)

end
end Go.Proofs.YtljmgdepldpmdaaDoor.E

set_option linter.unusedSimpArgs false
set_option linter.unusedVariables false
namespace Go.Proofs.YtljmgdepldpmdaaDoor.E
open Go.RowKit

def opT : Operand → List Nat
  | .tmp t => [t]
  | _ => []
def rdT (op : Op) : List Nat := op.operands.toList.flatMap opT
def rdA (o : AO) : List Nat := (match o.gd with
  | some (t, _) => [t]
  | none => []) ++ rdT o.op
/-- 0: computes alone · 1: reads memory · 2: a new variable or row · 3: a call · 4: anything else -/
def kind : Op → Nat
  | .move _ => 0
  | .assign _ => 0
  | .pick _ _ _ => 0
  | .build _ _ => 0
  | .binOp _ _ _ _ _ => 0
  | .unOp _ _ _ => 0
  | .index _ _ _ => 0
  | .convert _ _ _ => 0
  | .extract _ _ => 0
  | .buildSlice _ n _ => if n = 0 then 4 else 0
  | .load _ _ => 1
  | .fieldAddr _ _ _ => 1
  | .indexAddr _ _ _ => 1
  | .slice _ _ _ _ _ => 1
  | .alloc _ => 2
  | .call c => match c.callee with
    | .value (.func _) => 3
    | .builtin .len => 1
    | .builtin .max => 0
    | .builtin .min => 0
    | _ => 4
  | _ => 4
def indep (o1 o2 : AO) : Bool :=
  (match o1.dst with
    | some d => !(rdA o2).contains d && o2.dst != some d
    | none => true) &&
  (match o2.dst with
    | some d => !(rdA o1).contains d
    | none => true) &&
  (kind o1.op == 0 || kind o2.op == 0 || (kind o1.op ≤ 3 && kind o2.op ≤ 3))

/-- the memory that an address or a row leads to is the same -/
def MemAgree (s s' : AS) : AV → Prop
  | .ptr x _ => s'.v x = s.v x ∧ s'.f x = s.f x
  | .one (.row r _) => s'.r r = s.r r
  | .agg cs => ∀ r ver, Ce.row r ver ∈ cs → s'.r r = s.r r
  | .rel r _ _ => s'.r r = s.r r
  | .sv x _ _ => s'.v x = s.v x ∧ s'.f x = s.f x
  | _ => True

section
variable {s s' : AS}
theorem evs_agree : ∀ (xs : List Operand), (∀ x ∈ xs, s'.ev x = s.ev x) → evs s' xs = evs s xs
  | [], _ => rfl
  | x :: xs, h => by simp only [evs, h x (by simp), evs_agree xs fun y hy => h y (by simp [hy])]
theorem pairs_agree : ∀ (ps : List (Nat × Operand)), (∀ x ∈ ps.map (·.2), s'.ev x = s.ev x) → pairs s' ps = pairs s ps
  | [], _ => rfl
  | (i, x) :: ps, h => by simp only [pairs, h x (by simp), pairs_agree ps fun y hy => h y (by simp at hy ⊢; exact .inr hy)]
theorem acells_agree {a : AV} (h : MemAgree s s' a) : acells s' a = acells s a := by
  cases a with
  | ptr x off => simp only [acells, h.1]
  | rel r ver j => simp only [acells, show s'.r r = s.r r from h]
  | _ => rfl
theorem fldO_agree {a : AV} (h : MemAgree s s' a) (o : Option Nat) : fldO s' o a = fldO s o a := by
  cases a with
  | rel r ver j => cases o <;> simp only [fldO, show s'.r r = s.r r from h]
  | _ => cases o <;> rfl
theorem idxO_agree {a : AV} (h : MemAgree s s' a) (sz : Nat) (i : AV) : idxO s' sz a i = idxO s sz a i := by
  cases a with
  | one c =>
    cases c with
    | row r ver =>
      have e : s'.r r = s.r r := h
      unfold idxO
      split <;> simp_all
    | dt d =>
      unfold idxO
      split <;> simp_all
    | z =>
      unfold idxO
      split <;> simp_all
  | sv x off n => unfold idxO; split <;> simp_all
  | _ => rfl
theorem lenO_agree {a : AV} (h : MemAgree s s' a) : lenO s' a = lenO s a := by
  cases a with
  | one c =>
    cases c with
    | row r ver => simp only [lenO, show s'.r r = s.r r from h]
    | dt d => cases d <;> rfl
    | z => rfl
  | _ => rfl
theorem lenV_agree {a : AV} (h : MemAgree s s' a) : lenV s' a = lenV s a := by
  cases a with
  | one c =>
    cases c with
    | row r ver => simp only [lenV, show s'.r r = s.r r from h]
    | dt d => cases d <;> rfl
    | z => rfl
  | _ => rfl
theorem acutO_agree {a : AV} (h : MemAgree s s' a) (sz n : Nat) (lo hi mx : Option AV) : acutO s' sz n lo hi mx a = acutO s sz n lo hi mx a := by
  cases a with
  | ptr x off => simp only [acutO, h.1, h.2]
  | _ => rfl
theorem acutV_agree {a : AV} (h : MemAgree s s' a) (sz n : Nat) (lo hi : Option AV) : acutV s' sz n lo hi a = acutV s sz n lo hi a := by
  cases a with
  | ptr x off => simp only [acutV, h.1]
  | _ => rfl
theorem toDs_agree : ∀ (cs : List Ce), (∀ r ver, Ce.row r ver ∈ cs → s'.r r = s.r r) → toDs s' cs = toDs s cs
  | [], _ => rfl
  | c :: cs, h => by
    have e : toD s' c = toD s c := by
      cases c with
      | row r ver => simp only [toD, h r ver (by simp)]
      | _ => rfl
    simp only [toDs, e, toDs_agree cs fun r ver hm => h r ver (by simp [hm])]
theorem toRV_agree {a : AV} (h : MemAgree s s' a) : toRV s' a = toRV s a := by
  cases a with
  | one c =>
    cases c with
    | row r ver => simp only [toRV, toD, show s'.r r = s.r r from h]
    | _ => rfl
  | agg cs => simp only [toRV, toDs_agree cs h]
  | sv x off n => simp only [toRV, h.1, h.2]
  | _ => rfl
theorem toRVs_agree : ∀ (as : List AV), (∀ a ∈ as, MemAgree s s' a) → toRVs s' as = toRVs s as
  | [], _ => rfl
  | a :: as, h => by simp only [toRVs, toRV_agree (h a (by simp)), toRVs_agree as fun b hb => h b (by simp [hb])]
theorem mem_evs : ∀ (xs : List Operand) (a : AV), a ∈ evs s xs → ∃ x ∈ xs, a = s.ev x
  | [], a, h => by simp [evs] at h
  | x :: xs, a, h => by
    simp only [evs, List.mem_cons] at h
    rcases h with rfl | h
    · exact ⟨x, by simp, rfl⟩
    · obtain ⟨y, hy, e⟩ := mem_evs xs a h
      exact ⟨y, by simp [hy], e⟩
end

/-- what an operation of the kinds 0 to 3 does -/
inductive Dl where
  | put (x : AV)
  | var (cs : List Ce)
def Dl.app (dst : Option Nat) (dl : Dl) (s : AS) : AS := match dl with
  | .put x => s.put dst x
  | .var cs => match dst with
    | some d => ((s.setv (d, s.g d) cs).bump d).set d (.ptr (d, s.g d) 0)
    | none => s

structure Agree (op : Op) (s s' : AS) : Prop where
  ev : ∀ x ∈ op.operands.toList, s'.ev x = s.ev x
  mem : kind op = 0 ∨ ∀ x ∈ op.operands.toList, MemAgree s s' (s.ev x)

theorem agree_op {P : Program} {op : Op} {dst : Option Nat} {s s' : AS} {rs : List RV} (h : Agree op s s') (hk : kind op ≤ 3) :
    (obl P op dst s' rs ↔ obl P op dst s rs) ∧ (obl P op dst s rs → ∃ dl : Dl, (kind op = 0 → ∃ x, dl = .put x) ∧ eff P op dst s rs = dl.app dst s ∧ eff P op dst s' rs = dl.app dst s') := by
  obtain ⟨hev, hmem⟩ := h
  cases op with
  | move x => exact ⟨Iff.rfl, fun _ => ⟨.put (s.ev x), fun _ => ⟨_, rfl⟩, rfl, by simp only [eff, Dl.app, hev x (by simp [Op.operands])]⟩⟩
  | assign x => exact ⟨Iff.rfl, fun _ => ⟨.put (s.ev x), fun _ => ⟨_, rfl⟩, rfl, by simp only [eff, Dl.app, hev x (by simp [Op.operands])]⟩⟩
  | pick c x y =>
    have e1 := hev c (by simp [Op.operands])
    have e2 := hev x (by simp [Op.operands])
    have e3 := hev y (by simp [Op.operands])
    exact ⟨by simp only [obl, e1], fun _ => ⟨.put _, fun _ => ⟨_, rfl⟩, rfl, by simp only [eff, Dl.app, e1, e2, e3]⟩⟩
  | alloc T =>
    refine ⟨Iff.rfl, fun hb => ?_⟩
    obtain ⟨cs, hz⟩ := Option.isSome_iff_exists.mp hb.2
    obtain ⟨d, hd⟩ := Option.isSome_iff_exists.mp hb.1
    exact ⟨.var cs, fun h0 => by simp [kind] at h0, by simp only [eff, hz, hd, Dl.app], by simp only [eff, hz, hd, Dl.app]⟩
  | build T parts =>
    have e := pairs_agree (s := s) (s' := s') parts.toList (fun x hx => hev x (by simpa [Op.operands] using hx))
    refine ⟨by simp only [obl, e], fun hb => ?_⟩
    simp only [obl] at hb
    split at hb
    · rename_i cs hz
      obtain ⟨cells, hf⟩ := Option.isSome_iff_exists.mp hb.2
      exact ⟨.put (.agg cells), fun _ => ⟨_, rfl⟩, by simp only [eff, hz, hf, Dl.app], by simp only [eff, hz, e, hf, Dl.app]⟩
    · exact hb.elim
  | buildSlice T n parts =>
    have hn : ¬ n = 0 := by intro h0; simp [kind, h0] at hk
    have e := pairs_agree (s := s) (s' := s') parts.toList (fun x hx => hev x (by simpa [Op.operands] using hx))
    have eb : ∀ sz zs, bslC s' sz n zs parts.toList = bslC s sz n zs parts.toList := fun sz zs => by simp only [bslC, e]
    refine ⟨by simp only [obl, eb], fun hb => ?_⟩
    simp only [obl] at hb
    split at hb
    · rename_i el he
      obtain ⟨h1, h2, h3, h4⟩ := hb
      rw [if_neg hn] at h4
      obtain ⟨d, hd⟩ := Option.isSome_iff_exists.mp h3
      obtain ⟨ds, hds⟩ := Option.isSome_iff_exists.mp h4.1
      exact ⟨.put (.one (.dt (.sl n ds))), fun _ => ⟨_, rfl⟩, by simp only [eff, he, hd, hn, if_false, hds, Dl.app, AS.put], by simp only [eff, he, hd, hn, if_false, eb, hds, Dl.app, AS.put]⟩
    · exact hb.elim
  | load T x =>
    have e := hev x (by simp [Op.operands])
    have em := acells_agree ((hmem.resolve_left (by simp [kind])) x (by simp [Op.operands]))
    exact ⟨by simp only [obl, e, em], fun _ => ⟨.put _, fun h0 => by simp [kind] at h0, rfl, by simp only [eff, Dl.app, e, em]⟩⟩
  | binOp op T x y T' =>
    have e1 := hev x (by simp [Op.operands])
    have e2 := hev y (by simp [Op.operands])
    exact ⟨by simp only [obl, e1, e2], fun _ => ⟨.put _, fun _ => ⟨_, rfl⟩, rfl, by simp only [eff, Dl.app, e1, e2]⟩⟩
  | index T x i =>
    have e1 := hev x (by simp [Op.operands])
    have e2 := hev i (by simp [Op.operands])
    exact ⟨by simp only [obl, e1, e2], fun _ => ⟨.put _, fun _ => ⟨_, rfl⟩, rfl, by simp only [eff, Dl.app, e1, e2]⟩⟩
  | unOp op T x =>
    have e1 := hev x (by simp [Op.operands])
    exact ⟨by simp only [obl, e1], fun _ => ⟨.put _, fun _ => ⟨_, rfl⟩, rfl, by simp only [eff, Dl.app, e1]⟩⟩
  | convert src T x =>
    have e1 := hev x (by simp [Op.operands])
    exact ⟨by simp only [obl, e1], fun _ => ⟨.put _, fun _ => ⟨_, rfl⟩, rfl, by simp only [eff, Dl.app, e1]⟩⟩
  | slice T x lo hi mx =>
    have e := hev x (by simp [Op.operands])
    have elo : lo.map s'.ev = lo.map s.ev := by cases lo <;> simp; exact hev _ (by simp [Op.operands])
    have ehi : hi.map s'.ev = hi.map s.ev := by cases hi <;> simp; exact hev _ (by simp [Op.operands])
    have emx : mx.map s'.ev = mx.map s.ev := by cases mx <;> simp; exact hev _ (by simp [Op.operands])
    have hm := (hmem.resolve_left (by simp [kind])) x (by simp [Op.operands])
    refine ⟨by simp only [obl, e, elo, ehi, emx, acutO_agree hm], fun hb => ?_⟩
    simp only [obl] at hb
    split at hb
    · rename_i el he
      exact ⟨.put _, fun h0 => by simp [kind] at h0, by simp only [eff, he, Dl.app]; rfl, by simp only [eff, he, Dl.app, e, elo, ehi]⟩
    · rename_i n el he ha
      exact ⟨.put _, fun h0 => by simp [kind] at h0, by simp only [eff, he, ha, Dl.app]; rfl, by simp only [eff, he, ha, Dl.app, e, elo, ehi, acutV_agree hm]⟩
    · exact hb.elim
  | fieldAddr T x f =>
    have e := hev x (by simp [Op.operands])
    have em := fldO_agree ((hmem.resolve_left (by simp [kind])) x (by simp [Op.operands]))
    exact ⟨by simp only [obl, e, em], fun _ => ⟨.put _, fun h0 => by simp [kind] at h0, rfl, by simp only [eff, Dl.app, e]⟩⟩
  | indexAddr T x i =>
    have e := hev x (by simp [Op.operands])
    have e2 := hev i (by simp [Op.operands])
    have em := idxO_agree ((hmem.resolve_left (by simp [kind])) x (by simp [Op.operands]))
    refine ⟨by simp only [obl, e, e2, em], fun hb => ?_⟩
    simp only [obl] at hb
    split at hb
    · rename_i el he
      exact ⟨.put _, fun h0 => by simp [kind] at h0, by simp only [eff, he, Dl.app]; rfl, by simp only [eff, he, Dl.app, e, e2]⟩
    · rename_i n el he ha
      exact ⟨.put _, fun h0 => by simp [kind] at h0, by simp only [eff, he, ha, Dl.app]; rfl, by simp only [eff, he, ha, Dl.app, e, e2]⟩
    · exact hb.elim
  | extract x j =>
    have e1 := hev x (by simp [Op.operands])
    exact ⟨by simp only [obl, e1], fun _ => ⟨.put _, fun _ => ⟨_, rfl⟩, rfl, by simp only [eff, Dl.app, e1]⟩⟩
  | call c =>
    obtain ⟨callee, args, Ts⟩ := c
    have hevs : ∀ x ∈ args.toList, s'.ev x = s.ev x := fun x hx => hev x (by
      have hx' : x ∈ args := by simpa using hx
      simp [Op.operands, Call.operands, hx'])
    have hmm : kind (.call ⟨callee, args, Ts⟩) = 0 ∨ ∀ x ∈ args.toList, MemAgree s s' (s.ev x) := hmem.imp id fun hm x hx => hm x (by
      have hx' : x ∈ args := by simpa using hx
      simp [Op.operands, Call.operands, hx'])
    have ee := evs_agree (s := s) (s' := s') args.toList hevs
    cases callee with
    | value f =>
      cases f with
      | func f =>
        have em := toRVs_agree (s := s) (s' := s') (evs s args.toList) (fun a ha => by
          obtain ⟨x, hx, e⟩ := mem_evs _ _ ha
          rw [e]; exact (hmm.resolve_left (by simp [kind])) x hx)
        exact ⟨by simp only [obl, ee, em], fun _ => ⟨.put (resAV rs), fun h0 => by simp [kind] at h0, rfl, rfl⟩⟩
      | _ => simp [kind] at hk
    | invoke r m => simp [kind] at hk
    | builtin b =>
      cases b with
      | len =>
        refine ⟨?_, fun hb => ?_⟩
        · simp only [obl]
          split
          · rename_i x T e1 e2
            have e := hevs x (by rw [e1]; simp)
            have em := lenO_agree ((hmm.resolve_left (by simp [kind])) x (by rw [e1]; simp))
            simp only [e, em]
          · exact Iff.rfl
        · simp only [obl] at hb
          split at hb
          · rename_i x T e1 e2
            have e := hevs x (by rw [e1]; simp)
            have em := lenV_agree ((hmm.resolve_left (by simp [kind])) x (by rw [e1]; simp))
            exact ⟨.put (lenV s (s.ev x)), fun h0 => by simp [kind] at h0, by simp only [eff, e1, Dl.app], by simp only [eff, e1, Dl.app, e, em]⟩
          · exact hb.elim
      | max =>
        refine ⟨?_, fun hb => ?_⟩
        · simp only [obl]
          split
          · rename_i x y e1
            simp only [hevs x (by rw [e1]; simp), hevs y (by rw [e1]; simp)]
          · exact Iff.rfl
        · simp only [obl] at hb
          split at hb
          · rename_i x y e1
            exact ⟨.put _, fun _ => ⟨_, rfl⟩, by simp only [eff, e1, Dl.app]; rfl, by simp only [eff, e1, Dl.app, hevs x (by rw [e1]; simp), hevs y (by rw [e1]; simp)]⟩
          · exact hb.elim
      | min =>
        refine ⟨?_, fun hb => ?_⟩
        · simp only [obl]
          split
          · rename_i x y e1
            simp only [hevs x (by rw [e1]; simp), hevs y (by rw [e1]; simp)]
          · exact Iff.rfl
        · simp only [obl] at hb
          split at hb
          · rename_i x y e1
            exact ⟨.put _, fun _ => ⟨_, rfl⟩, by simp only [eff, e1, Dl.app]; rfl, by simp only [eff, e1, Dl.app, hevs x (by rw [e1]; simp), hevs y (by rw [e1]; simp)]⟩
          · exact hb.elim
      | _ => simp [kind] at hk
  | _ => simp [kind] at hk
end Go.Proofs.YtljmgdepldpmdaaDoor.E

set_option linter.unusedSimpArgs false
set_option linter.unusedVariables false
namespace Go.Proofs.YtljmgdepldpmdaaDoor.E
open Go.RowKit

section
variable {s s' : AS} {P : Program}

theorem set_comm (s : AS) {d d' : Nat} (h : d ≠ d') (x y : AV) : (s.set d x).set d' y = (s.set d' y).set d x := by
  unfold AS.set
  congr 1
  funext n
  by_cases h1 : n = d <;> by_cases h2 : n = d' <;> simp [h1, h2]
  · omega
  · intro e; exact absurd e h
  · intro e; exact absurd e.symm h
theorem put_comm (s : AS) {d d' : Option Nat} (h : ∀ x, d = some x → d' ≠ some x) (x y : AV) : (s.put d x).put d' y = (s.put d' y).put d x := by
  cases d with
  | none => cases d' <;> rfl
  | some d =>
    cases d' with
    | none => rfl
    | some d' => exact set_comm s (fun e => h d rfl (by rw [e])) x y

theorem app_comm (s : AS) {d1 d2 : Option Nat} (h : ∀ x, d1 = some x → d2 ≠ some x) (a b : Dl) : b.app d2 (a.app d1 s) = a.app d1 (b.app d2 s) := by
  cases d1 with
  | none => cases a <;> rfl
  | some d1 =>
    cases d2 with
    | none => cases b <;> rfl
    | some d2 =>
      have hne : d1 ≠ d2 := fun e => h d1 rfl (by rw [e])
      cases a with
      | put x =>
        cases b with
        | put y => exact set_comm s hne x y
        | var cs =>
          simp only [Dl.app, AS.put, AS.set, AS.setv, AS.bump]
          congr 1
          funext n
          by_cases h1 : n = d1 <;> by_cases h2 : n = d2 <;> simp [h1, h2]
          · omega
          · intro e; exact absurd e hne
          · intro e; exact absurd e.symm hne
      | var cs1 =>
        cases b with
        | put y =>
          simp only [Dl.app, AS.put, AS.set, AS.setv, AS.bump]
          congr 1
          funext n
          by_cases h1 : n = d1 <;> by_cases h2 : n = d2 <;> simp [h1, h2]
          · omega
          · intro e; exact absurd e hne
          · intro e; exact absurd e.symm hne
        | var cs2 =>
          have hne' : d2 ≠ d1 := fun e => hne e.symm
          simp only [Dl.app, AS.set, AS.setv, AS.bump, if_neg hne, if_neg hne']
          congr 1
          · funext n
            by_cases h1 : n = d1 <;> by_cases h2 : n = d2 <;> simp [h1, h2]
            · omega
            · intro e; exact absurd e hne
            · intro e; exact absurd e.symm hne
          · funext y
            by_cases h1 : y = (d1, s.g d1) <;> by_cases h2 : y = (d2, s.g d2) <;> simp [h1, h2]
            · rw [h1] at h2; simp at h2; omega
            · intro e; exact absurd e hne
            · intro e; exact absurd e.symm hne
          · funext n
            by_cases h1 : n = d1 <;> by_cases h2 : n = d2 <;> simp [h1, h2, hne, hne']

theorem ev_put (s : AS) (d : Option Nat) (v : AV) (x : Operand) (h : ∀ n, d = some n → n ∉ opT x) : (s.put d v).ev x = s.ev x := by
  cases d with
  | none => rfl
  | some d =>
    cases x with
    | tmp t =>
      have hne : t ≠ d := fun e => h d rfl (by simp [opT, e])
      simp only [AS.put, AS.ev, AS.set, if_neg hne]
    | _ => rfl
theorem ev_of_t (x : Operand) (h : ∀ t ∈ opT x, s'.t t = s.t t) : s'.ev x = s.ev x := by
  cases x with
  | tmp t => exact h t (by simp [opT])
  | _ => rfl
theorem rd_mem {op : Op} {x : Operand} (hx : x ∈ op.operands.toList) {t : Nat} (ht : t ∈ opT x) : t ∈ rdT op := List.mem_flatMap.2 ⟨x, hx, ht⟩

/-- an operation changes no temporary but its own -/
theorem put_t (s : AS) (dst : Option Nat) (x : AV) (t : Nat) (h : dst ≠ some t) : (s.put dst x).t t = s.t t := by
  cases dst with
  | none => rfl
  | some d =>
    have : t ≠ d := fun e => h (by rw [e])
    simp only [AS.put, AS.set, if_neg this]
theorem stS_t (s : AS) (cs : List Ce) (a : AV) : (stS s cs a).t = s.t := by
  unfold stS
  split
  · split <;> rfl
  · split <;> rfl
  · rfl
theorem eff_t (P : Program) (op : Op) (dst : Option Nat) (s : AS) (rs : List RV) (t : Nat) (h : dst ≠ some t) : (eff P op dst s rs).t t = s.t t := by
  have hset : ∀ (s : AS) (d : Nat) (x : AV), dst = some d → (s.set d x).t t = s.t t := fun s d x e => by
    have : t ≠ d := fun e2 => h (by rw [e, e2])
    simp only [AS.set, if_neg this]
  unfold eff
  split
  all_goals first
    | exact put_t _ _ _ _ h
    | rfl
    | skip
  · split
    · exact hset _ _ _ rfl
    · rfl
  · split
    · exact hset _ _ _ rfl
    · rfl
  · split
    · split
      · exact put_t _ _ _ _ h
      · rfl
    · rfl
  · split
    · split
      · exact hset _ _ _ rfl
      · split
        · exact hset _ _ _ rfl
        · rfl
    · rfl
  · split
    · rw [put_t _ _ _ _ h, stS_t]
    · rfl
  · split
    · unfold mkS
      split
      · split
        · split
          · exact hset _ _ _ rfl
          · rfl
        · rfl
      · rfl
    · rfl
  · split
    · exact put_t _ _ _ _ h
    · exact put_t _ _ _ _ h
    · rfl
  · split
    · exact put_t _ _ _ _ h
    · exact put_t _ _ _ _ h
    · rfl
  · split
    · exact put_t _ _ _ _ h
    · split
      · exact put_t _ _ _ _ h
      · rfl
    · split
      · exact put_t _ _ _ _ h
      · rfl
    · split
      · exact put_t _ _ _ _ h
      · rfl
    · split
      · split
        · unfold appS
          split
          · split
            · exact hset _ _ _ rfl
            · rfl
          · split
            · exact hset _ _ _ rfl
            · rfl
          · rfl
        · rfl
      · rfl
    · split
      · unfold cpS
        split
        · split
          · exact put_t _ _ _ _ h
          · rfl
        · rfl
      · rfl
    · rfl

/-- what writes commutes with a new value elsewhere -/
theorem set_put (s : AS) {d : Nat} {d1 : Option Nat} (h : d1 ≠ some d) (x y : AV) : (s.put d1 x).set d y = (s.set d y).put d1 x := by
  cases d1 with
  | none => rfl
  | some d1 => exact set_comm s (fun e => h (by rw [e])) x y
theorem eff_put4 (P : Program) (op : Op) (dst : Option Nat) (s : AS) (rs : List RV) (d1 : Option Nat) (x : AV) (hr : ∀ n, d1 = some n → n ∉ rdT op) (hd : ∀ n, d1 = some n → dst ≠ some n) (hk : kind op = 4) :
    (obl P op dst (s.put d1 x) rs ↔ obl P op dst s rs) ∧ (obl P op dst s rs → eff P op dst (s.put d1 x) rs = (eff P op dst s rs).put d1 x) := by
  have hev : ∀ y ∈ op.operands.toList, (s.put d1 x).ev y = s.ev y := fun y hy => ev_put s d1 x y fun n hn ht => hr n hn (rd_mem hy ht)
  have hv : (s.put d1 x).v = s.v := by cases d1 <;> rfl
  have hr' : (s.put d1 x).r = s.r := by cases d1 <;> rfl
  have hg : (s.put d1 x).g = s.g := by cases d1 <;> rfl
  have hf : (s.put d1 x).f = s.f := by cases d1 <;> rfl
  have hdd : ∀ d, dst = some d → d1 ≠ some d := fun d e e2 => hd d e2 e
  have hsetv : ∀ y cs, (s.put d1 x).setv y cs = (s.setv y cs).put d1 x := fun y cs => by cases d1 <;> rfl
  have hsetr : ∀ y row, (s.put d1 x).setr y row = (s.setr y row).put d1 x := fun y row => by cases d1 <;> rfl
  have hbump : ∀ (s : AS) d, (s.put d1 x).bump d = (s.bump d).put d1 x := fun s d => by cases d1 <;> rfl
  have htoD : ∀ c, toD (s.put d1 x) c = toD s c := fun c => by cases c <;> simp only [toD, hr']
  have hsrc : ∀ a, srcD (s.put d1 x) a = srcD s a := fun a => by cases a <;> simp only [srcD, htoD]
  cases op with
  | box T y =>
    have e := hev y (by simp [Op.operands])
    refine ⟨by simp only [obl, e], fun hb => ?_⟩
    obtain ⟨d, h1⟩ := Option.isSome_iff_exists.mp hb.1
    obtain ⟨cs, h2⟩ := Option.isSome_iff_exists.mp hb.2
    simp only [eff, e, h1, h2, hg, hsetv, hbump]
    exact set_put _ (hdd d h1) _ _
  | store T y z =>
    have e1 := hev y (by simp [Op.operands])
    have e2 := hev z (by simp [Op.operands])
    have hst : ∀ cs a, stO (s.put d1 x) cs a = stO s cs a := fun cs a => by cases a <;> simp only [stO, hv, hf, hr']
    have hss : ∀ cs a, stS (s.put d1 x) cs a = (stS s cs a).put d1 x := fun cs a => by
      unfold stS
      split
      · rw [hv]; split
        · exact hsetv _ _
        · rfl
      · rw [hr']; split
        · exact hsetr _ _
        · rfl
      · rfl
    refine ⟨by simp only [obl, e1, e2, hst], fun hb => ?_⟩
    simp only [obl] at hb
    split at hb
    · rename_i cs hc
      simp only [eff, e1, e2, hc, hss]
      exact put_comm _ (fun n e => hd n e) _ _
    · exact hb.2.elim
  | makeSlice T l c =>
    have e1 := hev l (by simp [Op.operands])
    have e2 := hev c (by simp [Op.operands])
    refine ⟨by simp only [obl, e1, e2], fun hb => ?_⟩
    simp only [obl] at hb
    split at hb
    · rename_i el he
      obtain ⟨d, h1⟩ := Option.isSome_iff_exists.mp hb.1
      simp only [eff, he, h1, e1]
      unfold mkS
      split
      · split
        · split
          · simp only [hg, hsetr, hbump]
            exact set_put _ (hdd d h1) _ _
          · rfl
        · rfl
      · rfl
    · exact hb.elim
  | buildSlice T n parts =>
    have hn : n = 0 := by
      by_cases h0 : n = 0
      · exact h0
      · simp [kind, h0] at hk
    subst hn
    refine ⟨by simp only [obl, if_true], fun hb => ?_⟩
    simp only [obl, if_true] at hb
    split at hb
    · rename_i el he
      obtain ⟨d, h1⟩ := Option.isSome_iff_exists.mp hb.2.2.1
      simp only [eff, he, h1, if_true, hg, hsetr, hbump]
      exact set_put _ (hdd d h1) _ _
    · exact hb.elim
  | call c =>
    obtain ⟨callee, args, Ts⟩ := c
    have hevs : ∀ y ∈ args.toList, (s.put d1 x).ev y = s.ev y := fun y hy => hev y (by
      have hy' : y ∈ args := by simpa using hy
      simp [Op.operands, Call.operands, hy'])
    cases callee with
    | value f => cases f <;> first | (simp [kind] at hk; done) | exact ⟨Iff.rfl, fun hb => hb.elim⟩
    | invoke r m => exact ⟨Iff.rfl, fun hb => hb.elim⟩
    | builtin b =>
      cases b with
      | append =>
        have happ : ∀ e sz bytes src a, appO (s.put d1 x) e sz bytes src a = appO s e sz bytes src a := fun e sz bytes src a => by
          unfold appO; split <;> simp only [hr']
        have haps : ∀ d e sz src a, d1 ≠ some d → appO s e sz (tbytes P e) src a → appS (s.put d1 x) d e sz src a = (appS s d e sz src a).put d1 x := fun d e sz src a hne hap => by
          unfold appO at hap
          unfold appS
          split
          · split
            · simp only [hg, hsetr, hbump]
              exact set_put _ hne _ _
            · rfl
          · rw [hr']
            split
            · simp only [hsetr]
              exact set_put _ hne _ _
            · rfl
          · rfl
        refine ⟨?_, fun hb => ?_⟩
        · simp only [obl]
          split
          · rename_i y z T T' e1 e2
            simp only [hevs y (by rw [e1]; simp), hevs z (by rw [e1]; simp), hsrc, happ]
          · exact Iff.rfl
        · simp only [obl] at hb
          split at hb
          · rename_i y z T T' e1 e2
            obtain ⟨hT, hb⟩ := hb
            split at hb
            · rename_i el he
              obtain ⟨d, h1⟩ := Option.isSome_iff_exists.mp hb.1
              have := haps d el (tsz P el) (srcD s (s.ev z)) (s.ev y) (hdd d h1) hb.2.2.2.2
              simp only [eff, e1, e2, h1, he, hevs y (by rw [e1]; simp), hevs z (by rw [e1]; simp), hsrc]
              exact this
            · exact hb.elim
          · exact hb.elim
      | copy =>
        have hcp : ∀ src a, cpO (s.put d1 x) src a = cpO s src a := fun src a => by
          unfold cpO; split <;> simp only [hr']
        refine ⟨?_, fun hb => ?_⟩
        · simp only [obl]
          split
          · rename_i y z T T' e1 e2
            simp only [hevs y (by rw [e1]; simp), hevs z (by rw [e1]; simp), hsrc, hcp]
          · exact Iff.rfl
        · simp only [obl] at hb
          split at hb
          · rename_i y z T T' e1 e2
            simp only [eff, e1, hevs y (by rw [e1]; simp), hevs z (by rw [e1]; simp), hsrc]
            unfold cpS
            split
            · rw [hr']
              split
              · simp only [hsetr]
                exact put_comm _ (fun n e => hd n e) _ _
              · rfl
            · rfl
          · exact hb.elim
      | len => simp [kind] at hk
      | max => simp [kind] at hk
      | min => simp [kind] at hk
      | _ => exact ⟨Iff.rfl, fun hb => hb.elim⟩
  | move _ => simp [kind] at hk
  | assign _ => simp [kind] at hk
  | pick _ _ _ => simp [kind] at hk
  | build _ _ => simp [kind] at hk
  | binOp _ _ _ _ _ => simp [kind] at hk
  | unOp _ _ _ => simp [kind] at hk
  | index _ _ _ => simp [kind] at hk
  | convert _ _ _ => simp [kind] at hk
  | extract _ _ => simp [kind] at hk
  | load _ _ => simp [kind] at hk
  | fieldAddr _ _ _ => simp [kind] at hk
  | indexAddr _ _ _ => simp [kind] at hk
  | slice _ _ _ _ _ => simp [kind] at hk
  | alloc _ => simp [kind] at hk
  | _ => exact ⟨Iff.rfl, fun hb => hb.elim⟩
end
end Go.Proofs.YtljmgdepldpmdaaDoor.E

set_option linter.unusedSimpArgs false
set_option linter.unusedVariables false
namespace Go.Proofs.YtljmgdepldpmdaaDoor.E
open Go.RowKit

theorem kind_le (op : Op) : kind op ≤ 4 := by
  unfold kind
  split <;> first | omega | (split <;> omega)

section
variable {ok0 : Nat → Prop} {w0 w w' : World} {X N : Nat} {vb : Nat × Nat → Nat} {rb : Nat × Nat → Value} {s s' : AS} {a : Act} {P : Program}

theorem Sat.agree_app (h : Sat ok0 w0 X N vb rb s a w) (dl : Dl) (d : Option Nat) (x : Operand) : MemAgree s (dl.app d s) (s.ev x) := by
  have hx := h.ev x
  have hv : ∀ y cs, s.v y = some cs → (dl.app d s).v y = s.v y := fun y cs hy => by
    cases dl with
    | put v => cases d <;> rfl
    | var cs1 =>
      cases d with
      | none => rfl
      | some d =>
        show (if y = (d, s.g d) then some cs1 else s.v y) = s.v y
        rw [if_neg]
        intro e
        rw [e, (h.wf d (s.g d) (Nat.le_refl _)).1] at hy
        cases hy
  have hr : (dl.app d s).r = s.r := by cases dl <;> cases d <;> rfl
  have hf : (dl.app d s).f = s.f := by cases dl <;> cases d <;> rfl
  cases he : s.ev x with
  | ptr y off =>
    rw [he] at hx
    obtain ⟨cs, hy, _⟩ := hx
    exact ⟨hv y cs hy, by rw [hf]⟩
  | one c => cases c <;> simp only [MemAgree, hr]
  | sv y off n =>
    rw [he] at hx
    obtain ⟨cs, _, _, hy, _⟩ := hx
    exact ⟨hv y cs hy, by rw [hf]⟩
  | agg cs => intro r ver _; rw [hr]
  | rel r ver j => simp only [MemAgree, hr]
  | _ => trivial

theorem swap0 (h : Sat ok0 w0 X N vb rb s a w) {op1 op2 : Op} {d1 d2 : Option Nat} {r1 r2 : List RV} (hA : ∀ d, d1 = some d → d ∉ rdT op2 ∧ d2 ≠ some d) (hB : ∀ d, d2 = some d → d ∉ rdT op1)
    (hK : kind op1 = 0 ∨ kind op2 = 0 ∨ (kind op1 ≤ 3 ∧ kind op2 ≤ 3)) (hb1 : obl P op1 d1 s r1) (hb2 : obl P op2 d2 (eff P op1 d1 s r1) r2) :
    obl P op2 d2 s r2 ∧ obl P op1 d1 (eff P op2 d2 s r2) r1 ∧ eff P op1 d1 (eff P op2 d2 s r2) r1 = eff P op2 d2 (eff P op1 d1 s r1) r2 := by
  have hev2 : ∀ x ∈ op2.operands.toList, (eff P op1 d1 s r1).ev x = s.ev x := fun x hx => ev_of_t x fun t ht => eff_t P op1 d1 s r1 t fun e => (hA t e).1 (rd_mem hx ht)
  have hev1 : ∀ x ∈ op1.operands.toList, (eff P op2 d2 s r2).ev x = s.ev x := fun x hx => ev_of_t x fun t ht => eff_t P op2 d2 s r2 t fun e => hB t e (rd_mem hx ht)
  have l1 := kind_le op1
  have l2 := kind_le op2
  by_cases k1 : kind op1 ≤ 3
  · by_cases k2 : kind op2 ≤ 3
    · -- both leave memory that was there alone
      obtain ⟨_, hd1⟩ := agree_op (P := P) (dst := d1) (s := s) (s' := s) (rs := r1) ⟨fun _ _ => rfl, .inr fun x _ => by
        cases hx : s.ev x with
        | one c => cases c <;> simp [MemAgree]
        | ptr => exact ⟨rfl, rfl⟩
        | sv => exact ⟨rfl, rfl⟩
        | agg => intro _ _ _; rfl
        | rel => exact rfl
        | _ => trivial⟩ k1
      obtain ⟨dl0, _, e0, _⟩ := hd1 hb1
      have ag2 : Agree op2 s (eff P op1 d1 s r1) := ⟨hev2, .inr fun x _ => by rw [e0]; exact h.agree_app dl0 d1 x⟩
      obtain ⟨i2, hd2⟩ := agree_op (P := P) (dst := d2) (rs := r2) ag2 k2
      have hb2' := i2.1 hb2
      obtain ⟨dl2, _, e2, e2'⟩ := hd2 hb2'
      have ag1 : Agree op1 s (eff P op2 d2 s r2) := ⟨hev1, .inr fun x _ => by rw [e2]; exact h.agree_app dl2 d2 x⟩
      obtain ⟨i1, hd1⟩ := agree_op (P := P) (dst := d1) (rs := r1) ag1 k1
      obtain ⟨dl1, _, e1, e1'⟩ := hd1 hb1
      refine ⟨hb2', i1.2 hb1, ?_⟩
      rw [e1', e2', e2, e1]
      exact (app_comm s (fun x hx => (hA x hx).2) dl1 dl2).symm
    · have k20 : kind op1 = 0 := by omega
      have k24 : kind op2 = 4 := by omega
      have ag1 : Agree op1 s (eff P op2 d2 s r2) := ⟨hev1, .inl k20⟩
      obtain ⟨i1, hd1⟩ := agree_op (P := P) (dst := d1) (rs := r1) ag1 k1
      obtain ⟨dl1, hp, e1, e1'⟩ := hd1 hb1
      obtain ⟨x, rfl⟩ := hp k20
      have e1p : eff P op1 d1 s r1 = s.put d1 x := e1
      rw [e1p] at hb2 ⊢
      obtain ⟨j1, j2⟩ := eff_put4 P op2 d2 s r2 d1 x (fun n hn => (hA n hn).1) (fun n hn => (hA n hn).2) k24
      have hb2' := j1.1 hb2
      exact ⟨hb2', i1.2 hb1, by rw [j2 hb2', e1']; rfl⟩
  · have k14 : kind op1 = 4 := by omega
    have k20 : kind op2 = 0 := by omega
    have ag2 : Agree op2 s (eff P op1 d1 s r1) := ⟨hev2, .inl k20⟩
    obtain ⟨i2, hd2⟩ := agree_op (P := P) (dst := d2) (rs := r2) ag2 (by omega)
    have hb2' := i2.1 hb2
    obtain ⟨dl2, hp, e2, e2'⟩ := hd2 hb2'
    obtain ⟨x, rfl⟩ := hp k20
    have e2p : eff P op2 d2 s r2 = s.put d2 x := e2
    obtain ⟨j1, j2⟩ := eff_put4 P op1 d1 s r1 d2 x hB (fun n hn e => (hA n e).2 hn) k14
    rw [e2p]
    exact ⟨hb2', j1.2 hb1, by rw [j2 hb1, e2']; rfl⟩

/-- an operation as it stands at a state: one that isn't wanted lays nothing -/
def core (o : AO) (s : AS) : Option Op := match o.gd with
  | none => some o.op
  | some (t, want) => match asG want (s.t t) with
    | some b => if b = want then some o.op else some (.assign (.const (.tuple #[])))
    | none => none
theorem obl_core (o : AO) (s : AS) (rs : List RV) : obl' P o s rs ↔ ∃ op, core o s = some op ∧ obl P op o.dst s rs := by
  unfold obl' core
  cases o.gd with
  | none => simp
  | some p =>
    obtain ⟨t, want⟩ := p
    simp only
    cases asG want (s.t t) with
    | none => simp
    | some b => by_cases e : b = want <;> simp [e, obl]
theorem eff_core {o : AO} {s : AS} {op : Op} (rs : List RV) (h : core o s = some op) : eff' P o s rs = eff P op o.dst s rs := by
  unfold core at h
  unfold eff'
  cases hg : o.gd with
  | none => rw [hg] at h; cases h; rfl
  | some p =>
    obtain ⟨t, want⟩ := p
    rw [hg] at h
    simp only at h ⊢
    cases hb : asG want (s.t t) with
    | none => rw [hb] at h; cases h
    | some b =>
      rw [hb] at h
      simp only at h ⊢
      by_cases e : b = want
      · rw [if_pos e] at h ⊢; cases h; rfl
      · rw [if_neg e] at h ⊢; cases h; rfl
theorem core_agree {o : AO} {s s' : AS} (h : ∀ t want, o.gd = some (t, want) → s'.t t = s.t t) : core o s' = core o s := by
  unfold core
  cases hg : o.gd with
  | none => rfl
  | some p => obtain ⟨t, want⟩ := p; simp only [h t want hg]
theorem core_rd {o : AO} {s : AS} {op : Op} (h : core o s = some op) : (∀ t, t ∈ rdT op → t ∈ rdA o) ∧ (kind op = kind o.op ∨ kind op = 0) := by
  unfold core at h
  have hin : ∀ t, t ∈ rdT o.op → t ∈ rdA o := fun t ht => List.mem_append.2 (.inr ht)
  cases hg : o.gd with
  | none => rw [hg] at h; cases h; exact ⟨hin, .inl rfl⟩
  | some p =>
    obtain ⟨t, want⟩ := p
    rw [hg] at h
    simp only at h
    split at h
    · split at h
      · cases h; exact ⟨hin, .inl rfl⟩
      · cases h; exact ⟨fun t ht => by simp [rdT, Op.operands, opT] at ht, .inr rfl⟩
    · cases h
theorem gd_rd {o : AO} {t : Nat} {want : Bool} (h : o.gd = some (t, want)) : t ∈ rdA o := by
  unfold rdA
  rw [h]
  simp

theorem swap (h : Sat ok0 w0 X N vb rb s a w) {o1 o2 : AO} (hi : indep o1 o2 = true) {r1 r2 : List RV} (hb1 : obl' P o1 s r1) (hb2 : obl' P o2 (eff' P o1 s r1) r2) :
    obl' P o2 s r2 ∧ obl' P o1 (eff' P o2 s r2) r1 ∧ eff' P o1 (eff' P o2 s r2) r1 = eff' P o2 (eff' P o1 s r1) r2 := by
  unfold indep at hi
  simp only [Bool.and_eq_true, Bool.or_eq_true, beq_iff_eq, decide_eq_true_eq] at hi
  obtain ⟨⟨hA, hB⟩, hK⟩ := hi
  have hA' : ∀ d, o1.dst = some d → d ∉ rdA o2 ∧ o2.dst ≠ some d := fun d hd => by
    rw [hd] at hA
    simpa using hA
  have hB' : ∀ d, o2.dst = some d → d ∉ rdA o1 := fun d hd => by
    rw [hd] at hB
    simpa using hB
  obtain ⟨op1, c1, b1⟩ := (obl_core o1 s r1).1 hb1
  have e1 := eff_core (P := P) r1 c1
  rw [e1] at hb2 ⊢
  have c2eq : core o2 (eff P op1 o1.dst s r1) = core o2 s := core_agree fun t want hg => eff_t P op1 o1.dst s r1 t fun e => (hA' t e).1 (gd_rd hg)
  obtain ⟨op2, c2, b2⟩ := (obl_core o2 _ r2).1 hb2
  have c2s : core o2 s = some op2 := c2eq ▸ c2
  have e2 := eff_core (P := P) r2 c2s
  have e2' := eff_core (P := P) r2 c2
  obtain ⟨rd1, kk1⟩ := core_rd c1
  obtain ⟨rd2, kk2⟩ := core_rd c2s
  obtain ⟨x1, x2, x3⟩ := swap0 (P := P) h (op1 := op1) (op2 := op2) (d1 := o1.dst) (d2 := o2.dst) (r1 := r1) (r2 := r2) (fun d hd => ⟨fun hm => (hA' d hd).1 (rd2 d hm), (hA' d hd).2⟩) (fun d hd hm => hB' d hd (rd1 d hm)) (by omega) b1 b2
  have c1' : core o1 (eff P op2 o2.dst s r2) = some op1 := (core_agree fun t want hg => eff_t P op2 o2.dst s r2 t fun e => hB' t e (gd_rd hg)).trans c1
  rw [e2, e2']
  exact ⟨(obl_core o2 s r2).2 ⟨op2, c2s, x1⟩, (obl_core o1 _ r1).2 ⟨op1, c1', x2⟩, by rw [eff_core (P := P) r1 c1']; exact x3⟩

/-- a step that can't panic comes to a frame and a world -/
theorem wp_comes {o : Oper} {K : Act → World → Prop} (h : o.wp P a w K (fun _ _ _ => False)) : ∃ a' w', K a' w' := by
  unfold Oper.wp at h
  generalize (execOp a.eval o).run P w = r at h
  cases r with
  | ok n w' =>
    cases n <;> simp only [Oper.upon] at h <;> first
      | exact ⟨_, _, h⟩
      | exact h.elim
      | (obtain ⟨e, w'', fr, he, _⟩ := h []
         cases e with
         | returned v => exact ⟨_, _, he⟩
         | panicked c => exact he.elim
         | outgrown => obtain ⟨_, _, hf⟩ := he; exact hf.elim)
      | (obtain ⟨v, w'', he, _⟩ := h default []
         exact ⟨_, _, he⟩)
  | halt x w' => cases x <;> simp only [Oper.upon] at h <;> exact h.elim

theorem live_step (h : Sat ok0 w0 X N vb rb s a w) (ops : Array Oper) (i : Nat) (hi : i < ops.size) (hN : ∀ o ∈ ops, ∀ d, o.dst = some d → d < N) (rs : List RV) (hb : obl' P (ao ops i) s rs) :
    ∃ vb' rb' a' w', Sat ok0 w0 X N vb' rb' (eff' P (ao ops i) s rs) a' w' := by
  have hw := step_sound (P := P) h ops i hi hN rs hb (K := fun a' w' => ∃ vb' rb', Sat ok0 w0 X N vb' rb' (eff' P (ao ops i) s rs) a' w') (Q := fun _ _ _ => False) fun vb' rb' a' w' h' => ⟨vb', rb', h'⟩
  unfold wpOp at hw
  split at hw
  · obtain ⟨vb', rb', h'⟩ := hw; exact ⟨vb', rb', _, _, h'⟩
  · split at hw
    · rcases hw with hw | ⟨_, _, _, hf⟩
      · obtain ⟨a', w', vb', rb', h'⟩ := wp_comes hw
        exact ⟨vb', rb', a', w', h'⟩
      · exact hf.elim
    · obtain ⟨vb', rb', h'⟩ := hw; exact ⟨vb', rb', _, _, h'⟩

/-- an operation that is independent of those before it may come first -/
theorem front (ops : Array Oper) (hN : ∀ o ∈ ops, ∀ d, o.dst = some d → d < N) (i : Nat) (rest : List AO) {K : AS → Prop} :
    ∀ (pre : List Nat), (∀ j ∈ pre, j < ops.size) → (∀ j ∈ pre, indep (ao ops j) (ao ops i) = true) → ∀ (vb : Nat × Nat → Nat) (rb : Nat × Nat → Value) (s : AS) (a : Act) (w : World), Sat ok0 w0 X N vb rb s a w →
      dops P (pre.map (ao ops) ++ ao ops i :: rest) K s → ∃ rs, obl' P (ao ops i) s rs ∧ dops P (pre.map (ao ops) ++ rest) K (eff' P (ao ops i) s rs)
  | [], _, _, vb, rb, s, a, w, _, hk => hk
  | j :: pre, hlt, hind, vb, rb, s, a, w, h, hk => by
    obtain ⟨rj, bj, hk⟩ := hk
    obtain ⟨vb', rb', a', w', h'⟩ := live_step (P := P) h ops j (hlt j (by simp)) hN rj bj
    obtain ⟨ri, bi, hk⟩ := front ops hN i rest pre (fun q hq => hlt q (by simp [hq])) (fun q hq => hind q (by simp [hq])) vb' rb' _ a' w' h' hk
    obtain ⟨x1, x2, x3⟩ := swap (P := P) h (hind j (by simp)) bj bi
    refine ⟨ri, x1, rj, x2, ?_⟩
    rw [x3]
    exact hk
end
end Go.Proofs.YtljmgdepldpmdaaDoor.E

set_option linter.unusedSimpArgs false
set_option linter.unusedVariables false
namespace Go.Proofs.YtljmgdepldpmdaaDoor.E
open Go.RowKit

/-! ### what comes before what -/
def maskOf (acc : List Nat) (o : Oper) : Nat := o.after.toList.foldl (fun s e => if Region.binds .any e then s ||| 2 ^ e.on ||| acc.getD e.on 0 else s) 0
def masksGo : List Oper → List Nat → List Nat
  | [], acc => acc
  | o :: os, acc => masksGo os (acc ++ [maskOf acc o])
def masks (ops : Array Oper) : List Nat := masksGo ops.toList []

/-- what has been carried out has its predecessors carried out -/
def Closed (ops : Array Oper) (L : Nat → Bool) : Prop := ∀ k o, ops[k]? = some o → L k = true → ∀ e ∈ o.after.toList, Region.binds .any e = true → L e.on = true

theorem foldl_mask (acc : List Nat) (L : Nat → Bool) : ∀ (es : List Edge) (s0 : Nat), (∀ j, s0.testBit j = true → L j = true) → (∀ e ∈ es, Region.binds .any e = true → L e.on = true ∧ ∀ j, (acc.getD e.on 0).testBit j = true → L j = true) →
    ∀ j, (es.foldl (fun s e => if Region.binds .any e then s ||| 2 ^ e.on ||| acc.getD e.on 0 else s) s0).testBit j = true → L j = true
  | [], s0, h0, _, j, hj => h0 j hj
  | e :: es, s0, h0, he, j, hj => by
    refine foldl_mask acc L es _ (fun j hj => ?_) (fun e' he' => he e' (by simp [he'])) j hj
    simp only at hj
    by_cases hb : Region.binds .any e = true
    · rw [if_pos hb] at hj
      obtain ⟨h1, h2⟩ := he e (by simp) hb
      simp only [Nat.testBit_or, Bool.or_eq_true] at hj
      rcases hj with (hj | hj) | hj
      · exact h0 j hj
      · rw [Nat.testBit_two_pow] at hj
        have : e.on = j := by simpa using hj
        rw [← this]; exact h1
      · exact h2 j hj
    · rw [if_neg hb] at hj
      exact h0 j hj

theorem masksGo_spec (ops : Array Oper) (L : Nat → Bool) (hL : Closed ops L) : ∀ (rest done : List Oper) (acc : List Nat), ops.toList = done ++ rest → acc.length = done.length →
    (∀ i o, i < done.length → ops[i]? = some o → (∀ e ∈ o.after.toList, Region.binds .any e = true → L e.on = true) → ∀ j, (acc.getD i 0).testBit j = true → L j = true) →
    ∀ i o, ops[i]? = some o → (∀ e ∈ o.after.toList, Region.binds .any e = true → L e.on = true) → ∀ j, ((masksGo rest acc).getD i 0).testBit j = true → L j = true
  | [], done, acc, hd, hl, h, i, o, ho, he, j, hj => by
    refine h i o ?_ ho he j hj
    have := (Array.getElem?_eq_some_iff.1 ho).1
    have h2 : ops.size = done.length := by rw [← Array.length_toList, hd]; simp
    omega
  | o0 :: rest, done, acc, hd, hl, h, i, o, ho, he, j, hj => by
    refine masksGo_spec ops L hL rest (done ++ [o0]) (acc ++ [maskOf acc o0]) (by rw [hd]; simp) (by simp [hl]) ?_ i o ho he j hj
    intro i o hi ho he j hj
    by_cases hlt : i < done.length
    · rw [List.getD_eq_getElem?_getD, List.getElem?_append_left (by omega), ← List.getD_eq_getElem?_getD] at hj
      exact h i o hlt ho he j hj
    · have hi' : i = done.length := by simp at hi; omega
      subst hi'
      have ho0 : ops[done.length]? = some o0 := by
        rw [← Array.getElem?_toList, hd]
        simp
      have e0 : o = o0 := by rw [ho] at ho0; exact Option.some.inj ho0
      subst e0
      rw [List.getD_eq_getElem?_getD, List.getElem?_append_right (by omega), hl, Nat.sub_self] at hj
      simp only [List.getElem?_cons_zero, Option.getD_some] at hj
      unfold maskOf at hj
      refine foldl_mask acc L o.after.toList 0 (fun j hj => by simp at hj) (fun e hm hb => ⟨he e hm hb, fun j hj => ?_⟩) j hj
      -- the mask of the predecessor
      by_cases hk : e.on < done.length
      · have hlt2 : e.on < ops.size := by rw [← Array.length_toList, hd]; simp; omega
        have hoe : ops[e.on]? = some ops[e.on] := Array.getElem?_eq_getElem hlt2
        exact h e.on _ hk hoe (hL e.on _ hoe (he e hm hb)) j hj
      · rw [List.getD_eq_getElem?_getD, List.getElem?_eq_none (by omega)] at hj
        simp at hj

def drawOK (ops : Array Oper) : Bool :=
  let ms := masks ops
  (List.range ops.size).all fun i =>
    ((ops[i]?).map fun o => o.after.toList.all fun e => !Region.binds .any e || decide (e.on < i)).getD true &&
    (List.range i).all fun j => (ms.getD i 0).testBit j || indep (ao ops j) (ao ops i)
def dstOK (N : Nat) (ops : Array Oper) : Bool := ops.toList.all fun o => match o.dst with
  | some d => decide (d < N)
  | none => true
theorem dstOK_spec {N : Nat} {ops : Array Oper} (h : dstOK N ops = true) : ∀ o ∈ ops, ∀ d, o.dst = some d → d < N := fun o ho d hd => by
  unfold dstOK at h
  have := List.all_eq_true.1 h o (by simpa using ho)
  rw [hd] at this
  simpa using this

def remL (n : Nat) (L : Array Bool) : List Nat := (List.range n).filter fun i => !L.getD i true
theorem remL_mem {n : Nat} {L : Array Bool} {i : Nat} (h : i ∈ remL n L) : i < n ∧ L.getD i true = false := by
  obtain ⟨h1, h2⟩ := List.mem_filter.1 h
  exact ⟨List.mem_range.1 h1, by revert h2; cases L.getD i true <;> simp⟩
theorem getD_eq (L : Array Bool) {i : Nat} (h : i < L.size) (d d' : Bool) : L.getD i d = L.getD i d' := by simp [Array.getD, h]

section
variable {ok0 : Nat → Prop} {w0 w w' : World} {X N : Nat} {vb : Nat × Nat → Nat} {rb : Nat × Nat → Value} {s s' : AS} {a : Act} {P : Program}

theorem any_sound (ops : Array Oper) (hN : ∀ o ∈ ops, ∀ d, o.dst = some d → d < N) (hD : drawOK ops = true) {K : AS → Prop} {Q : Exit → Act → World → Prop} (hQ : ∀ vb rb s a w, Sat ok0 w0 X N vb rb s a w → K s → Q .normal a w) :
    ∀ (fuel : Nat) (L : Array Bool), L.size = ops.size → (remL ops.size L).length ≤ fuel → Closed ops (fun k => L.getD k false) → ∀ (vb : Nat × Nat → Nat) (rb : Nat × Nat → Value) (s : AS) (a : Act) (w : World), Sat ok0 w0 X N vb rb s a w →
      dops P ((remL ops.size L).map (ao ops)) K s → wpAny P .any ops Q fuel L a w := by
  have hsub : ∀ (L : Array Bool) (i : Nat), i ∈ Region.ready .any ops L → i ∈ remL ops.size L ∧ ∀ o, ops[i]? = some o → ∀ e ∈ o.after.toList, Region.binds .any e = true → L.getD e.on false = true := fun L i hi => by
    unfold Region.ready at hi
    simp only [List.mem_filter, List.mem_range, Bool.and_eq_true, Bool.not_eq_true'] at hi
    obtain ⟨hlt, h1, h2⟩ := hi
    refine ⟨List.mem_filter.2 ⟨List.mem_range.2 hlt, by rw [h1]; rfl⟩, fun o ho e he hb => ?_⟩
    rw [ho] at h2
    simp only [Option.map_some, Option.getD_some] at h2
    have := Array.all_eq_true_iff_forall_mem.1 h2 e (by simpa using he)
    simpa [hb] using this
  intro fuel
  induction fuel with
  | zero =>
    intro L hLs hlen hC vb rb s a w h hk
    have hnil : remL ops.size L = [] := List.eq_nil_of_length_eq_zero (by omega)
    rw [hnil] at hk
    refine ⟨?_, hQ vb rb s a w h hk⟩
    cases hr : Region.ready .any ops L with
    | nil => rfl
    | cons i l =>
      have := (hsub L i (by rw [hr]; simp)).1
      rw [hnil] at this; simp at this
  | succ fuel ih =>
    intro L hLs hlen hC vb rb s a w h hk
    refine ⟨fun hr => ?_, fun i hi => ?_⟩
    · -- the first one that is left is ready
      cases hrem : remL ops.size L with
      | nil => rw [hrem] at hk; exact hQ vb rb s a w h hk
      | cons i l =>
        exfalso
        have him : i ∈ remL ops.size L := by rw [hrem]; simp
        have him' : i < ops.size ∧ L.getD i true = false := remL_mem him
        have hmin : ∀ j, j < i → L.getD j false = true := fun j hj => by
          by_cases hjL : L.getD j true = true
          · have hjs : j < L.size := by have := him'.1; omega
            rw [getD_eq L hjs false true]; exact hjL
          · exfalso
            have hjm : j ∈ remL ops.size L := by
              have : L.getD j true = false := by revert hjL; cases L.getD j true <;> simp
              exact List.mem_filter.2 ⟨List.mem_range.2 (by have := him'.1; omega), by rw [this]; rfl⟩
            rw [hrem] at hjm
            have hs : (i :: l).Pairwise (· < ·) := by
              rw [← hrem]
              exact List.Pairwise.filter _ List.pairwise_lt_range
            rcases List.mem_cons.1 hjm with e | hm
            · omega
            · have := (List.pairwise_cons.1 hs).1 j hm
              omega
        have ho : ops[i]? = some ops[i] := Array.getElem?_eq_getElem him'.1
        have hready : i ∈ Region.ready .any ops L := by
          unfold Region.ready
          simp only [List.mem_filter, List.mem_range, Bool.and_eq_true, Bool.not_eq_true']
          refine ⟨him'.1, him'.2, ?_⟩
          rw [ho]
          simp only [Option.map_some, Option.getD_some]
          refine Array.all_eq_true_iff_forall_mem.2 fun e he => ?_
          by_cases hb : Region.binds .any e = true
          · have hback : e.on < i := by
              have h1 := List.all_eq_true.1 hD i (by simpa using him'.1)
              simp only [Bool.and_eq_true] at h1
              have h2 := h1.1
              rw [ho] at h2
              simp only [Option.map_some, Option.getD_some] at h2
              have h3 := List.all_eq_true.1 h2 e (by simpa using he)
              simpa [hb] using h3
            simp only [hb, Bool.not_true, Bool.false_or]
            exact hmin e.on hback
          · simp [hb]
        rw [hr] at hready
        simp at hready
    · obtain ⟨him, hpre⟩ := hsub L i hi
      have him' : i < ops.size ∧ L.getD i true = false := remL_mem him
      obtain ⟨pre, post, hsplit⟩ := List.append_of_mem him
      have hpw : (pre ++ i :: post).Pairwise (· < ·) := by
        rw [← hsplit]
        exact List.Pairwise.filter _ List.pairwise_lt_range
      have hprelt : ∀ j ∈ pre, j < i := fun j hj => (List.pairwise_append.1 hpw).2.2 j hj i (by simp)
      have hpostgt : ∀ j ∈ post, i < j := fun j hj => (List.pairwise_cons.1 (List.pairwise_append.1 hpw).2.1).1 j hj
      have ho : ops[i]? = some ops[i] := Array.getElem?_eq_getElem him'.1
      have hind : ∀ j ∈ pre, indep (ao ops j) (ao ops i) = true := fun j hj => by
        have hjr : j ∈ remL ops.size L := by rw [hsplit]; simp [hj]
        have hjr' : j < ops.size ∧ L.getD j true = false := remL_mem hjr
        have h1 := List.all_eq_true.1 hD i (by simpa using him'.1)
        simp only [Bool.and_eq_true] at h1
        have h2 := List.all_eq_true.1 h1.2 j (by simpa using hprelt j hj)
        simp only [Bool.or_eq_true] at h2
        rcases h2 with h2 | h2
        · exfalso
          have := masksGo_spec ops (fun k => L.getD k false) hC ops.toList [] [] (by simp) rfl (fun i o hi => by simp at hi) i _ ho (hpre _ ho) j h2
          have hjs : j < L.size := by have := hjr'.1; omega
          rw [getD_eq L hjs false true, hjr'.2] at this
          cases this
        · exact h2
      rw [hsplit, List.map_append, List.map_cons] at hk
      obtain ⟨rs, hb, hk⟩ := front (P := P) ops hN i (post.map (ao ops)) pre (fun j hj => by have := hprelt j hj; omega) hind vb rb s a w h hk
      refine step_sound (P := P) h ops i him'.1 hN rs hb fun vb' rb' a' w' h' => ?_
      have hrem' : remL ops.size (L.setIfInBounds i true) = pre ++ post := by
        have hfil : ∀ l : List Nat, (∀ j ∈ l, j ≠ i) → l.filter (fun j => !(L.setIfInBounds i true).getD j true) = l.filter (fun j => !L.getD j true) := fun l hl => by
          apply List.filter_congr
          intro j hj
          have hne := hl j hj
          have : (L.setIfInBounds i true).getD j true = L.getD j true := by
            simp [Array.getD_eq_getD_getElem?, Ne.symm hne]
          rw [this]
        have hall : ∀ l : List Nat, l.Pairwise (· < ·) → i ∈ l → ∃ p q, l = p ++ i :: q ∧ (∀ j ∈ p, j ≠ i) ∧ (∀ j ∈ q, j ≠ i) := fun l hl hm => by
          obtain ⟨p, q, e⟩ := List.append_of_mem hm
          rw [e] at hl
          exact ⟨p, q, e, fun j hj => by have := (List.pairwise_append.1 hl).2.2 j hj i (by simp); omega, fun j hj => by have := (List.pairwise_cons.1 (List.pairwise_append.1 hl).2.1).1 j hj; omega⟩
        obtain ⟨p, q, e, hp, hq⟩ := hall (List.range ops.size) List.pairwise_lt_range (by simpa using him'.1)
        have hLi : (L.setIfInBounds i true).getD i true = true := by
          have : i < L.size := by have := him'.1; omega
          simp [Array.getD_eq_getD_getElem?, this]
        have e1 : remL ops.size L = p.filter (fun j => !L.getD j true) ++ i :: q.filter (fun j => !L.getD j true) := by
          unfold remL
          rw [e, List.filter_append, List.filter_cons, if_pos (by rw [him'.2]; rfl)]
        have e2 : remL ops.size (L.setIfInBounds i true) = p.filter (fun j => !L.getD j true) ++ q.filter (fun j => !L.getD j true) := by
          unfold remL
          rw [e, List.filter_append, List.filter_cons, if_neg (by simp [hLi]), hfil p hp, hfil q hq]
        rw [hsplit] at e1
        have hpne : ∀ j ∈ pre, j ≠ i := fun j hj => by have := hprelt j hj; omega
        have e3 : pre = p.filter (fun j => !L.getD j true) ∧ post = q.filter (fun j => !L.getD j true) := by
          have hp' : ∀ j ∈ p.filter (fun j => !L.getD j true), j ≠ i := fun j hj => hp j (List.mem_filter.1 hj).1
          have key : ∀ (x y u v : List Nat), (∀ j ∈ x, j ≠ i) → (∀ j ∈ u, j ≠ i) → x ++ i :: y = u ++ i :: v → x = u ∧ y = v := by
            intro x
            induction x with
            | nil =>
              intro y u v _ hu e
              cases u with
              | nil => simp at e; exact ⟨rfl, e⟩
              | cons b u => simp at e; exact absurd e.1.symm (hu b (by simp))
            | cons c x ihx =>
              intro y u v hx hu e
              cases u with
              | nil => simp at e; exact absurd e.1 (hx c (by simp))
              | cons b u =>
                simp at e
                obtain ⟨e1, e2⟩ := ihx y u v (fun j hj => hx j (by simp [hj])) (fun j hj => hu j (by simp [hj])) e.2
                exact ⟨by rw [e.1, e1], e2⟩
          exact key _ _ _ _ hpne hp' e1
        rw [e2, ← e3.1, ← e3.2]
      refine ih (L.setIfInBounds i true) (by simp [hLs]) ?_ ?_ vb' rb' _ a' w' h' ?_
      · rw [hrem']
        have : (remL ops.size L).length = (pre ++ post).length + 1 := by rw [hsplit]; simp; omega
        omega
      · intro k o hok hk e he hb
        have hset : ∀ q, L.getD q false = true → (L.setIfInBounds i true).getD q false = true := fun q hq => by
          by_cases e5 : q = i
          · have : i < L.size := by have := him'.1; omega
            rw [e5]; simp [Array.getD_eq_getD_getElem?, this]
          · have : (L.setIfInBounds i true).getD q false = L.getD q false := by
              simp [Array.getD_eq_getD_getElem?, Ne.symm e5]
            rw [this]; exact hq
        by_cases e5 : k = i
        · rw [e5] at hok
          exact hset _ (hpre o hok e he hb)
        · have : (L.setIfInBounds i true).getD k false = L.getD k false := by
            simp [Array.getD_eq_getD_getElem?, Ne.symm e5]
          simp only [this] at hk
          exact hset _ (hC k o hok hk e he hb)
      · rw [hrem', List.map_append]; exact hk
end
end Go.Proofs.YtljmgdepldpmdaaDoor.E

set_option linter.unusedSimpArgs false
set_option linter.unusedVariables false
namespace Go.Proofs.YtljmgdepldpmdaaDoor.E
open Go.RowKit

/-- a string's bytes, as cells -/
def strD (b : ByteArray) : List Dt := b.data.toList.map fun x => .lit (.int .u8 x.toNat)
theorem strD_len (b : ByteArray) : (strD b).length = b.size := by simp [strD]
def strOf (e : AV) : Option ByteArray := match e with
  | .one (.dt (.lit (.string b))) => some b
  | _ => none
def tzv (P : Program) (T : TypeId) : Option Value := match P.info? T with
  | some i => i.zero
  | none => none
/-- what the operations on strings do; in the order of the text alone -/
def specS (P : Program) (dst : Option Nat) (op : Op) (s s' : AS) : Prop := match op with
  | .slice T x lo hi none => ∃ b l h, tstr P T = true ∧ strOf (s.ev x) = some b ∧ bnd (lo.map s.ev) 0 = some l ∧ bnd (hi.map s.ev) b.size = some h ∧ 0 ≤ l ∧ l ≤ h ∧ h ≤ b.size ∧ s' = s.put dst (litV (.string (b.extract l.toNat h.toNat)))
  | .convert src T x => ∃ b e, telem P src = some e ∧ tint P e = some .u8 ∧ tstr P T = true ∧ srcD s (s.ev x) = some (b.size, strD b) ∧ s' = s.put dst (litV (.string b))
  | .call ⟨.builtin .len, ⟨[x]⟩, ⟨[T]⟩⟩ => ∃ b, tstr P T = true ∧ strOf (s.ev x) = some b ∧ s' = s.put dst (litV (.int .i64 b.size))
  | .call ⟨.builtin .append, ⟨[x, y]⟩, ⟨[T, T']⟩⟩ => ∃ b e d, dst = some d ∧ telem P T = some e ∧ tstr P T' = true ∧ tsz P e = 1 ∧ tbytes P e = 1 ∧ tzv P e = some (.int .u8 0) ∧ strOf (s.ev y) = some b ∧ appO s e 1 1 (some (b.size, strD b)) (s.ev x) ∧ s' = appS s d e 1 (some (b.size, strD b)) (s.ev x)
  | _ => False

section
variable {ok0 : Nat → Prop} {w0 w w' : World} {X N : Nat} {vb : Nat × Nat → Nat} {rb : Nat × Nat → Value} {s s' : AS} {a : Act} {P : Program}
theorem tstr_eq {T : TypeId} (h : tstr P T = true) : P.underlying T = some .string := by
  unfold tstr at h
  split at h
  · assumption
  · cases h
theorem strOf_eq {x : AV} {b : ByteArray} (h : strOf x = some b) : x = .one (.dt (.lit (.string b))) := by
  unfold strOf at h
  split at h
  · cases h; rfl
  · cases h
theorem foldl_push : ∀ (l : List UInt8) (b : ByteArray), (l.map fun (x : UInt8) => (x.toNat : Int)).foldl (fun r n => r.push (UInt8.ofNat n.toNat)) b = ⟨b.data ++ l.toArray⟩
  | [], b => by simp
  | x :: l, b => by
    simp only [List.map_cons, List.foldl_cons, Int.toNat_natCast, UInt8.ofNat_toNat]
    rw [foldl_push l]
    simp [ByteArray.push]
theorem strD_vals {ok : Nat → Prop} {b : ByteArray} {us : List Value} (hl : us.length = (strD b).length) (h : ∀ (j : Nat) (u : Value) (d : Dt), us[j]? = some u → (strD b)[j]? = some d → Rep w ok d u) : us = (b.data.toList.map fun (x : UInt8) => (x.toNat : Int)).map (Value.int .u8) := by
  refine List.ext_getElem? fun j => ?_
  cases hu : us[j]? with
  | none =>
    have : us.length ≤ j := List.getElem?_eq_none_iff.1 hu
    rw [eq_comm, List.getElem?_eq_none_iff]
    rw [hl] at this
    simpa [strD] using this
  | some u =>
    have hj : j < (strD b).length := by rw [← hl]; exact (List.getElem?_eq_some_iff.1 hu).1
    have := h j u _ hu (List.getElem?_eq_getElem hj)
    have hj' : j < b.data.toList.length := by simpa [strD] using hj
    have e : (strD b)[j] = .lit (.int .u8 (b.data.toList[j]).toNat) := by simp [strD]
    rw [e] at this
    cases this
    rw [List.getElem?_map, List.getElem?_map, List.getElem?_eq_getElem hj']
    rfl
theorem run_append_str (base : Nat) (t u ty e : TypeId) (i : TypeInfo) (ht : P.underlying t = some (.slice e)) (hu : P.underlying u = some .string) (hi : P.info? e = some i) (hz : i.zero = some (.int .u8 0))
    (hsize : i.size = 1) (hby : i.bytes = 1) (v : Value) (n : Nat) (xs : List Value) (hown : w.ownsRow base e 1 v n xs) (b : ByteArray)
    (h63 : n + b.size ≤ maxLen) (hbytes : (n + b.size) * 1 ≤ 140737488355328) (hbase : base ≤ w.heap.size) :
    ∃ v' w' us, (Builtin.append_ #[t, u] ty #[v, .string b]).run P w = .ok v' w' ∧ w'.ownsRow base e 1 v' (n + b.size) (xs ++ us) ∧ (∀ ok, Fits (Rep w ok) (strD b) us) ∧ w.grownBy w' v.ownBlock ∧ (v'.ownBlock = v.ownBlock ∨ v'.ownBlock = some w.heap.size) := by
  obtain ⟨v', w', hr, ho, hg, hn⟩ := Lib.run_append_own_string (P := P) w base t u ty e i ht hu hi hz hsize hby v n xs hown b h63 (by simpa using hbytes) hbase
  refine ⟨v', w', _, hr, ho, fun ok => ⟨by rw [Lib.strCells_length, strD_len], fun j x d hx hd => ?_⟩, hg, ?_⟩
  · simp only [Lib.strCells, strD, List.getElem?_map] at hx hd
    cases hb : b.data.toList[j]? with
    | none => rw [hb] at hx; cases hx
    | some y =>
      rw [hb] at hx hd
      cases hx; cases hd
      exact .lit _ rfl
  · unfold maxLen at h63
    rcases hown.2 with ⟨rfl, rfl⟩ | ⟨g, cap, cur, rfl, hbg, hgg, hnc, hcm, hcs, htake⟩
    · by_cases hm : b.size = 0
      · left; rw [hn.2 ⟨rfl, hm⟩]
      · right
        have h2 := run_append_nil_string (P := P) w t u ty e i (.int .u8 0) ht hu hi hz b (by omega) (by omega) (by rw [hby]; omega)
        rw [hr] at h2
        injection h2 with h3 h4
        rw [h3]; rfl
    · by_cases hroom : n + b.size ≤ cap
      · left
        have h2 := Lib.run_append_room_string (P := P) w t u ty e i ht hu hi hsize g n cap cur hgg b hroom (by omega)
        rw [hr] at h2
        injection h2 with h3 h4
        rw [h3]; rfl
      · right
        have holds : ∀ j u, xs[j]? = some u → w.cell? ((⟨g, 0, none⟩ : Addr).add j) = some u := hown.cells (g := g) rfl
        have h2 := Lib.run_append_grow_string (P := P) w t u ty e i (.int .u8 0) ht hu hi hz ⟨g, 0, none⟩ n cap xs (by rw [hsize]; exact hown.1) holds b (by omega) (by omega) (by rw [hby]; exact growslice_fits (by omega) (by omega))
        rw [hr] at h2
        injection h2 with h3 h4
        rw [h3]; rfl

variable (h : Sat ok0 w0 X N vb rb s a w) {o : Oper} (hd : ∀ d, o.dst = some d → d < N)
include h hd

theorem good_sslice (T : TypeId) (x : Operand) (lo hi : Option Operand) (ho : o.op = .slice T x lo hi none) (b : ByteArray) (l q : Int) (hT : tstr P T = true) (hx : strOf (s.ev x) = some b) (bl : bnd (lo.map s.ev) 0 = some l) (bq : bnd (hi.map s.ev) b.size = some q) (h0 : 0 ≤ l) (h1 : l ≤ q) (h2 : q ≤ b.size) :
    Good P ok0 w0 X N o a w (s.put o.dst (litV (.string (b.extract l.toNat q.toNat)))) := by
  have hv := h.ev x
  rw [strOf_eq hx] at hv
  have vx := lit_of hv
  have hu := tstr_eq hT
  have hl := h.bnd bl
  have hq := h.bnd bq
  have hrun : (execOp a.eval o).run P w = .ok (.value (.string (b.extract l.toNat q.toNat))) w := by
    rcases hq with ⟨rfl, rfl⟩ | ⟨yq, kq, rfl, eq⟩
    · rcases hl with ⟨rfl, rfl⟩ | ⟨yl, kl, rfl, el⟩
      · simp [execOp, ho, vx, Instr.sliceAt, run_underlying hu, Instr.slice, Instr.sliceBounds]
      · have h5 := run_sliceBound_ok (P := P) kl l b.size .sliceB h0 (by omega) w
        simp [execOp, ho, vx, Instr.sliceAt, run_underlying hu, Instr.slice, Instr.sliceBounds, el, h5]
    · have h6 := run_sliceBound_ok (P := P) kq q b.size .sliceAlen (by omega) (by omega) w
      rcases hl with ⟨rfl, rfl⟩ | ⟨yl, kl, rfl, el⟩
      · simp [execOp, ho, vx, Instr.sliceAt, run_underlying hu, Instr.slice, Instr.sliceBounds, eq, h6]
      · have h5 := run_sliceBound_ok (P := P) kl l q.toNat .sliceB h0 (by omega) w
        simp [execOp, ho, vx, Instr.sliceAt, run_underlying hu, Instr.slice, Instr.sliceBounds, eq, el, h6, h5]
  exact Good.value hrun vb rb (h.put o.dst hd _ _ (lit_fits rfl))

theorem good_slen (x : Operand) (T : TypeId) (ho : o.op = .call { callee := .builtin .len, args := #[x], argTypes := #[T] }) (b : ByteArray) (hT : tstr P T = true) (hx : strOf (s.ev x) = some b) : Good P ok0 w0 X N o a w (s.put o.dst (litV (.int .i64 b.size))) := by
  have hv := h.ev x
  rw [strOf_eq hx] at hv
  have vx := lit_of hv
  have hu := tstr_eq hT
  refine Good.value (v := .int .i64 b.size) (w' := w) ?_ vb rb (h.put o.dst hd _ _ (lit_fits rfl))
  simp [execOp, ho, resolve, invoke, builtin, vx, Builtin.len_, run_underlying hu, goInt]

theorem good_sconv (src T e : TypeId) (x : Operand) (ho : o.op = .convert src T x) (b : ByteArray) (hs : telem P src = some e) (he : tint P e = some .u8) (hT : tstr P T = true) (hx : srcD s (s.ev x) = some (b.size, strD b)) : Good P ok0 w0 X N o a w (s.put o.dst (litV (.string b))) := by
  have hy := h.ev x
  have hr : Rep w (okS ok0 w0.heap.size vb rb s w) (.sl b.size (strD b)) (a.eval x) := by
    unfold srcD at hx
    split at hx
    · rename_i c ec
      rw [ec] at hy
      split at hx
      · rename_i n0 cells0 hd0
        cases hx
        exact h.toD hy.1 hd0
      · cases hx
    · cases hx
  have hus := telem_eq hs
  have hu := tstr_eq hT
  have hue : P.underlying e = some (.int .u8) := by
    unfold tint at he
    split at he
    · cases he; assumption
    · cases he
  generalize hv : a.eval x = v at hr
  cases hr with
  | sl A n c cells us hl hc hcell hrep =>
    have hvals := strD_vals hl hrep
    have hrun : (execOp a.eval o).run P w = .ok (.value (.string b)) w := by
      cases A with
      | none =>
        have hm : us = [] := by
          cases us with
          | nil => rfl
          | cons u us => obtain ⟨_, e, _⟩ := hcell 0 u rfl; cases e
        have hb : b = .empty := by
          have : (strD b).length = 0 := by rw [← hl, hm]; rfl
          rw [strD_len] at this
          cases b with
          | mk d =>
            have : d.size = 0 := this
            have : d = #[] := Array.eq_empty_of_size_eq_zero this
            rw [this]; rfl
        have h1 := run_convert_bytes_string (P := P) w src T e none b.size c hus hue hu
        simp only [execOp, ho, hv, Sem.run_bind, h1]
        rw [hb]
        rfl
      | some ad =>
        have h1 := run_convert_bytes_string (P := P) w src T e (some ad) b.size c hus hue hu
        have hcell' : ∀ (j : Nat) (u : Value), us[j]? = some u → w.cell? (ad.add j) = some u := fun j u hu => by
          obtain ⟨ad', e', _, hc'⟩ := hcell j u hu
          cases e'; exact hc'
        have hlo := run_loadCells_list (P := P) w ad us hcell'
        rw [hl, strD_len, hvals] at hlo
        have h2 := run_bytesToString (P := P) w ad b.size c _ hlo
        rw [foldl_push] at h2
        have e3 : (⟨ByteArray.empty.data ++ b.data.toList.toArray⟩ : ByteArray) = b := by
          cases b with
          | mk d => simp [ByteArray.empty, ByteArray.emptyWithCapacity]; rfl
        rw [e3] at h2
        simp only [execOp, ho, hv, Sem.run_bind, h1, h2]
        rfl
    exact Good.value hrun vb rb (h.put o.dst hd _ _ (lit_fits rfl))

theorem good_sapp (T T' e : TypeId) (d : Nat) (x y : Operand) (ho : o.op = .call { callee := .builtin .append, args := #[x, y], argTypes := #[T, T'] }) (hdst : o.dst = some d) (he : telem P T = some e) (hT : tstr P T' = true) (hsz : tsz P e = 1) (hby : tbytes P e = 1)
    (hzl : tzv P e = some (.int .u8 0)) (bb : ByteArray) (hx0 : strOf (s.ev y) = some bb) (hb : appO s e 1 1 (some (bb.size, strD bb)) (s.ev x)) : Good P ok0 w0 X N o a w (appS s d e 1 (some (bb.size, strD bb)) (s.ev x)) := by
  have hx := h.ev x
  have hy := h.ev y
  rw [strOf_eq hx0] at hy
  have vy := lit_of hy
  have hu := tstr_eq hT
  obtain ⟨i, hi, hiz⟩ : ∃ i, P.info? e = some i ∧ i.zero = some (.int .u8 0) := by
    unfold tzv at hzl
    cases hi : P.info? e with
    | none => rw [hi] at hzl; cases hzl
    | some i => rw [hi] at hzl; exact ⟨i, rfl, hzl⟩
  have hrun : ∀ (v' : Value) (w' : World), (Builtin.append_ #[T, T'] o.type #[a.eval x, a.eval y]).run P w = .ok v' w' → (execOp a.eval o).run P w = .ok (.value v') w' := fun v' w' hr => by
    simp [execOp, ho, resolve, invoke, builtin, hr]
  rw [vy] at hrun
  unfold appO at hb
  split at hb
  · rename_i e1
    rw [e1] at hx ⊢
    have hv : a.eval x = .slice none 0 0 := hx.1
    obtain ⟨hl, h63, hbytes⟩ := hb
    obtain ⟨v', w', us, r1, r2, r3, r4, r5⟩ := run_append_str (P := P) w0.heap.size T T' o.type e i (telem_eq he) hu hi hiz ((tsz_eq hi).trans hsz) ((tbytes_eq hi).trans hby) (.slice none 0 0) 0 [] (World.ownsRow_nil w _ _ _) bb (by omega) (by simpa using hbytes) h.below.size
    simp only [Nat.zero_add, List.nil_append] at r2
    have r4' : w.grownBy w' none := r4
    have hb' : Below w.heap.size w w' := ⟨r4'.os, r4'.tape, r4'.output, r4'.size, fun i hi => r4'.block i hi (by simp)⟩
    have hn := h.newrow d r4' ⟨e, 1, bb.size, strD bb, 0, true⟩ v' us r2 ((r3 (okS ok0 w0.heap.size vb rb s w)).imp fun dd u hr => hr.mono fun k hk => ⟨hk, hb'.block k hk.2.1⟩) r5
    have hone : v'.oneCell' = true := by
      rcases r2.2 with ⟨hq, _⟩ | ⟨_, _, _, hq, _⟩ <;> rw [hq] <;> rfl
    have hset := hn.set d (hd d hdst) (.one (.row (d, s.g d) 0)) v' ⟨⟨_, if_pos rfl, Nat.le_refl _, fun _ => by simp⟩, hone⟩
    rw [← hdst] at hset
    rw [hv] at hrun
    exact Good.value (hrun v' w' r1) _ _ hset
  · rename_i r ver e1
    rw [e1] at hx ⊢
    obtain ⟨⟨row, hr, hle, hrv⟩, _⟩ := hx
    simp only [hr] at hb
    obtain ⟨hver, hlive, hre, hrsz, hl, h63, hbytes⟩ := hb
    obtain ⟨us0, how, hf0⟩ := h.row r row hr
    rw [hre, hrsz] at how
    obtain ⟨v', w', us, r1, r2, r3, r4, r5⟩ := run_append_str (P := P) w0.heap.size T T' o.type e i (telem_eq he) hu hi hiz ((tsz_eq hi).trans hsz) ((tbytes_eq hi).trans hby) (rb r) row.n us0 how bb h63 hbytes h.below.size
    have hs := h.rowset hr hlive r4 v' (row.n + bb.size) (row.cells ++ strD bb) (ver + 1) (us0 ++ us) (by rw [hre, hrsz]; exact r2) (hf0.append (r3 _)) r5 (by omega) (fun e => by omega)
    have hone : v'.oneCell' = true := by
      rcases r2.2 with ⟨hq, _⟩ | ⟨_, _, _, hq, _⟩ <;> rw [hq] <;> rfl
    have hset := hs.set d (hd d hdst) (.one (.row r (ver + 1))) v' ⟨⟨_, if_pos rfl, Nat.le_refl _, fun _ => by simp⟩, hone⟩
    rw [← hdst] at hset
    rw [hrv hver] at hrun
    have hap : appS s d e 1 (some (bb.size, strD bb)) (.one (.row r ver)) = ((s.setr r { row with n := row.n + bb.size, cells := row.cells ++ strD bb, ver := ver + 1 }).set d (.one (.row r (ver + 1)))) := by
      simp only [appS, hr]
    rw [hap]
    exact Good.value (hrun v' w' r1) _ _ hset
  · exact hb.elim

theorem good_specS (hb : specS P o.dst o.op s s') : Good P ok0 w0 X N o a w s' := by
  unfold specS at hb
  split at hb
  · rename_i T x lo hi ho
    obtain ⟨b, l, q, h1, h2, h3, h4, h5, h6, h7, rfl⟩ := hb
    exact good_sslice h hd T x lo hi ho b l q h1 h2 h3 h4 h5 h6 h7
  · rename_i src T x ho
    obtain ⟨b, e, h1, h2, h3, h4, rfl⟩ := hb
    exact good_sconv h hd src T e x ho b h1 h2 h3 h4
  · rename_i x T ho
    obtain ⟨b, h1, h2, rfl⟩ := hb
    exact good_slen h hd x T ho b h1 h2
  · rename_i x y T T' ho
    obtain ⟨b, e, d, h1, h2, h3, h4, h5, h6, h7, h8, rfl⟩ := hb
    exact good_sapp h hd T T' e d x y ho h1 h2 h3 h4 h5 h6 b h7 h8
  · exact hb.elim
end
end Go.Proofs.YtljmgdepldpmdaaDoor.E
