/- The operations on abstract states: what each asks, and what it gives; code; no condition. -/
import Derived.Test.YthhaoojgfbofnaaEng3
set_option linter.unusedSimpArgs false
set_option linter.unusedVariables false
namespace Go.Proofs.Ythhaoojgfbofnaa.E
open Go.RowKit

/-! ### types -/
def tok (P : Program) (T : TypeId) : Bool := (P.info? T).isSome && (P.underlying T).isSome
def tsz (P : Program) (T : TypeId) : Nat := match P.info? T with
  | some i => i.size
  | none => 0
def tagg (P : Program) (T : TypeId) : Bool := match P.underlying T with
  | some (.struct _) => true
  | some (.array _ _) => true
  | _ => false
def telem (P : Program) (T : TypeId) : Option TypeId := match P.underlying T with
  | some (.slice e) => some e
  | _ => none
def tarr (P : Program) (T : TypeId) : Option (Nat × TypeId) := match P.underlying T with
  | some (.array n e) => some (n, e)
  | _ => none
def tint (P : Program) (T : TypeId) : Option IntKind := match P.underlying T with
  | some (.int k) => some k
  | _ => none
def tbool (P : Program) (T : TypeId) : Bool := match P.underlying T with
  | some .bool => true
  | _ => false
def tbytes (P : Program) (T : TypeId) : Nat := match P.info? T with
  | some i => i.bytes
  | none => 0
def tzero (P : Program) (T : TypeId) : Option (List Value) := match P.info? T with
  | some i => match i.zero with
    | some z => some z.cells.toList
    | none => none
  | none => none
def foff (P : Program) (T : TypeId) (f : Nat) : Option Nat := match P.underlying T with
  | some (.struct fs) => match fs[f]? with
    | some fd => match P.info? fd.type with
      | some i => if i.size = 0 then none else some fd.offset
      | none => none
    | none => none
  | _ => none
/-- where the parts of a built value lie: offsets, sizes -/
def tplaces (P : Program) (T : TypeId) : Option (Nat → Option (Nat × Nat)) := match P.underlying T with
  | some (.struct fs) => match fs.toList.mapM (fun f => (P.info? f.type).map fun i => (f.offset, i.size)) with
    | some places => some fun i => places.toArray[i]?
    | none => none
  | some (.array _ e) => match P.info? e with
    | some j => some fun i => some (i * j.size, j.size)
    | none => none
  | _ => none
def tplace (P : Program) (T : TypeId) (i : Nat) : Option (Nat × Nat) := match tplaces P T with
  | some f => f i
  | none => none

/-! ### values -/
def zce : Value → Option Ce
  | .bool b => some (.dt (.lit (.bool b)))
  | .int k n => some (.dt (.lit (.int k n)))
  | .string s => some (.dt (.lit (.string s)))
  | .slice none 0 0 => some .z
  | _ => none
def zces : List Value → Option (List Ce)
  | [] => some []
  | v :: vs => match zce v, zces vs with
    | some c, some cs => some (c :: cs)
    | _, _ => none
/-- the zero value of a type, as cells -/
def zeros (P : Program) (T : TypeId) : Option (List Ce) := match tzero P T with
  | some vs => zces vs
  | none => none
def ceD : Ce → Option Dt
  | .dt d => some d
  | .z => some (.sl 0 [])
  | .row _ _ => none
def ceDs : List Ce → Option (List Dt)
  | [] => some []
  | c :: cs => match ceD c, ceDs cs with
    | some d, some ds => some (d :: ds)
    | _, _ => none

def cst : Value → AV
  | .bool b => .one (.dt (.lit (.bool b)))
  | .int k n => .one (.dt (.lit (.int k n)))
  | .string s => .one (.dt (.lit (.string s)))
  | .slice none 0 0 => .one .z
  | _ => .no
def AS.ev (s : AS) : Operand → AV
  | .tmp t => s.t t
  | .const v => cst v
  | _ => .no

def cellsOf : AV → Option (List Ce)
  | .one c => some [c]
  | .agg cs => some cs
  | _ => none
/-- the cells from an address on -/
def acells (s : AS) : AV → Option (List Ce)
  | .ptr x off => match s.v x with
    | some cs => some (cs.drop off)
    | none => none
  | .el ds => some (ds.map .dt)
  | .rel r ver j => match s.r r with
    | some row => if row.ver = ver then some ((row.cells.drop j).map .dt) else none
    | none => none
  | _ => none
def ldO (agg : Bool) (sz : Nat) : Option (List Ce) → Prop
  | some cs => if agg then sz ≤ cs.length else 0 < cs.length
  | none => False
def ldV (agg : Bool) (sz : Nat) : Option (List Ce) → AV
  | some cs => if agg then .agg (cs.take sz) else match cs with
    | c :: _ => .one c
    | [] => .no
  | none => .no
def asB : AV → Option Bool
  | .one (.dt (.lit (.bool b))) => some b
  | _ => none

/-! ### the operations that only compute -/
def binO (tb : Bool) (op : BinOp) : AV → AV → Prop
  | .one (.dt (.lit (.int k _))), .one (.dt (.lit (.int k' y))) => match op with
    | .shl => 0 ≤ y
    | .shr => 0 ≤ y
    | .quo => k = k' ∧ ¬ y = 0
    | .rem => k = k' ∧ ¬ y = 0
    | _ => k = k'
  | .one (.dt (.lit (.bool _))), .one (.dt (.lit (.bool _))) => match op with
    | .eql => tb = true
    | .neq => tb = true
    | _ => False
  | .one (.dt (.lit (.string _))), .one (.dt (.lit (.string _))) => match op with
    | .eql => True
    | .neq => True
    | _ => False
  | _, _ => False
def litV (v : Value) : AV := .one (.dt (.lit v))
def binV (op : BinOp) : AV → AV → AV
  | .one (.dt (.lit (.int k x))), .one (.dt (.lit (.int _ y))) => match op with
    | .add => litV (.int k (k.wrap (x + y)))
    | .sub => litV (.int k (k.wrap (x - y)))
    | .mul => litV (.int k (k.wrap (x * y)))
    | .quo => litV (.int k (k.wrap (x.tdiv y)))
    | .rem => litV (.int k (x.tmod y))
    | .and => litV (.int k (k.wrap (BitVec.ofInt k.bits x &&& BitVec.ofInt k.bits y).toNat))
    | .or => litV (.int k (k.wrap (BitVec.ofInt k.bits x ||| BitVec.ofInt k.bits y).toNat))
    | .xor => litV (.int k (k.wrap (BitVec.ofInt k.bits x ^^^ BitVec.ofInt k.bits y).toNat))
    | .andNot => litV (.int k (k.wrap (BitVec.ofInt k.bits x &&& ~~~BitVec.ofInt k.bits y).toNat))
    | .shl => litV (.int k (k.wrap (x * 2 ^ (min y.toNat k.bits))))
    | .shr => litV (.int k (x.fdiv (2 ^ (min y.toNat k.bits))))
    | .eql => litV (.bool (x == y))
    | .neq => litV (.bool (x != y))
    | .lss => litV (.bool (decide (x < y)))
    | .leq => litV (.bool (decide (x ≤ y)))
    | .gtr => litV (.bool (decide (x > y)))
    | .geq => litV (.bool (decide (x ≥ y)))
  | .one (.dt (.lit (.bool x))), .one (.dt (.lit (.bool y))) => match op with
    | .eql => litV (.bool (x == y))
    | .neq => litV (.bool (!(x == y)))
    | _ => .no
  | .one (.dt (.lit (.string x))), .one (.dt (.lit (.string y))) => match op with
    | .eql => litV (.bool (x.toList == y.toList))
    | .neq => litV (.bool (!(x.toList == y.toList)))
    | _ => .no
  | _, _ => .no
def unO (op : UnOp) : AV → Prop
  | .one (.dt (.lit (.bool _))) => match op with
    | .not => True
    | _ => False
  | .one (.dt (.lit (.int _ _))) => match op with
    | .neg => True
    | _ => False
  | _ => False
def unV (op : UnOp) : AV → AV
  | .one (.dt (.lit (.bool b))) => match op with
    | .not => litV (.bool (!b))
    | _ => .no
  | .one (.dt (.lit (.int k n))) => match op with
    | .neg => litV (.int k (k.wrap (0 - n)))
    | _ => .no
  | _ => .no
def cvO : Option IntKind → AV → Prop
  | some _, .one (.dt (.lit (.int _ _))) => True
  | _, _ => False
def cvV : Option IntKind → AV → AV
  | some k, .one (.dt (.lit (.int _ n))) => litV (.int k (k.wrap n))
  | _, _ => .no
def pickO : AV → Prop
  | .one (.dt (.lit (.bool _))) => True
  | _ => False
def pickV : AV → AV → AV → AV
  | .one (.dt (.lit (.bool b))), x, y => if b then x else y
  | _, _, _ => .no
def fldO (s : AS) : Option Nat → AV → Prop
  | some _, .ptr _ _ => True
  | some off, .el ds => off ≤ ds.length
  | some _, .rel r ver _ => match s.r r with
    | some row => row.ver = ver
    | none => False
  | _, _ => False
def fldV : Option Nat → AV → AV
  | some o, .ptr x off => .ptr x (off + o)
  | some o, .el ds => .el (ds.drop o)
  | some o, .rel r ver j => .rel r ver (j + o)
  | _, _ => .no
/-- an index into a slice of elements of sz cells -/
def idxO (s : AS) (sz : Nat) : AV → AV → Prop
  | .one (.dt (.sl n cells)), .one (.dt (.lit (.int _ i))) => 0 ≤ i ∧ i < n ∧ cells.length = n * sz ∧ 0 < sz
  | .one (.row r ver), .one (.dt (.lit (.int _ i))) => match s.r r with
    | some row => row.ver = ver ∧ 0 ≤ i ∧ i < row.n
    | none => False
  | _, _ => False
def idxV (sz : Nat) : AV → AV → AV
  | .one (.dt (.sl _ cells)), .one (.dt (.lit (.int _ i))) => .el ((cells.drop (i.toNat * sz)).take sz)
  | .one (.row r ver), .one (.dt (.lit (.int _ i))) => .rel r ver (i.toNat * sz)
  | _, _ => .no
/-- an index into an array in a variable -/
def arrO (len : Nat) : AV → AV → Prop
  | .ptr _ _, .one (.dt (.lit (.int _ i))) => 0 ≤ i ∧ i < len
  | _, _ => False
def arrV (sz : Nat) : AV → AV → AV
  | .ptr x off, .one (.dt (.lit (.int _ i))) => .ptr x (off + i.toNat * sz)
  | _, _ => .no
def extO : AV → Nat → Prop
  | .tup rs, j => j < rs.length
  | _, _ => False
def extV : AV → Nat → AV
  | .tup rs, j => match rs[j]? with
    | some r => r.toAV
    | none => .no
  | _, _ => .no
def lenO (s : AS) : AV → Prop
  | .one (.dt (.sl _ _)) => True
  | .one .z => True
  | .one (.row r ver) => match s.r r with
    | some row => row.ver = ver
    | none => False
  | _ => False
def lenV (s : AS) : AV → AV
  | .one (.dt (.sl n _)) => litV (.int .i64 n)
  | .one .z => litV (.int .i64 0)
  | .one (.row r _) => match s.r r with
    | some row => litV (.int .i64 row.n)
    | none => .no
  | _ => .no
def mxO : AV → AV → Prop
  | .one (.dt (.lit (.int k _))), .one (.dt (.lit (.int k' _))) => k = k'
  | _, _ => False
def mxV (f : Int → Int → Int) : AV → AV → AV
  | .one (.dt (.lit (.int k x))), .one (.dt (.lit (.int _ y))) => litV (.int k (f x y))
  | _, _ => .no
/-- the bounds of a cut: low, high (and the greatest capacity) of a slice of n elements -/
def bnd : Option AV → Int → Option Int
  | none, d => some d
  | some (.one (.dt (.lit (.int _ i)))), _ => some i
  | _, _ => none
def cutO (sz : Nat) (lo hi mx : Option AV) : AV → Prop
  | .one (.dt (.sl n cells)) => match bnd lo 0, bnd hi n, bnd mx n with
    | some l, some h, some m => 0 ≤ l ∧ l ≤ h ∧ h ≤ m ∧ m ≤ n ∧ cells.length = n * sz ∧ (mx.isSome = true → hi.isSome = true)
    | _, _, _ => False
  | _ => False
def cutV (sz : Nat) (lo hi : Option AV) : AV → AV
  | .one (.dt (.sl n cells)) => match bnd lo 0, bnd hi n with
    | some l, some h => .one (.dt (.sl (h.toNat - l.toNat) ((cells.take (h.toNat * sz)).drop (l.toNat * sz))))
    | _, _ => .no
  | _ => .no
/-- a cut of an array (of n elements) in a variable that is no longer written -/
def acutO (s : AS) (sz n : Nat) (lo hi mx : Option AV) : AV → Prop
  | .ptr x off => match s.v x, bnd lo 0, bnd hi n with
    | some cs, some l, some h => mx.isNone = true ∧ s.f x = true ∧ 0 ≤ l ∧ l ≤ h ∧ h ≤ n ∧ off + n * sz ≤ cs.length ∧ (ceDs cs).isSome = true
    | _, _, _ => False
  | _ => False
def acutV (s : AS) (sz n : Nat) (lo hi : Option AV) : AV → AV
  | .ptr x off => match s.v x, bnd lo 0, bnd hi n with
    | some cs, some l, some h => match ceDs cs with
      | some ds => .one (.dt (.sl (h.toNat - l.toNat) (((ds.drop off).take (h.toNat * sz)).drop (l.toNat * sz))))
      | none => .no
    | _, _, _ => .no
  | _ => .no

/-- parts laid into cells -/
def fillA (place : Nat → Option (Nat × Nat)) : List Ce → List (Nat × AV) → Option (List Ce)
  | cells, [] => some cells
  | cells, (i, x) :: rest => match place i, cellsOf x with
    | some (off, size), some cs => if cs.length = size ∧ off + size ≤ cells.length then fillA place (cells.take off ++ cs ++ cells.drop (off + size)) rest else none
    | _, _ => none

/-! ### stores -/
def stO (s : AS) (cs : List Ce) : AV → Prop
  | .ptr x off => match s.v x with
    | some cs0 => s.f x = false ∧ off + cs.length ≤ cs0.length
    | none => False
  | .rel r ver j => match s.r r, ceDs cs with
    | some row, some _ => row.ver = ver ∧ row.live = true ∧ cs.length = 1 ∧ j < row.n * row.sz
    | _, _ => False
  | _ => False
def stS (s : AS) (cs : List Ce) : AV → AS
  | .ptr x off => match s.v x with
    | some cs0 => s.setv x (cs0.take off ++ cs ++ cs0.drop (off + cs.length))
    | none => s
  | .rel r _ j => match s.r r, ceDs cs with
    | some row, some (d :: _) => s.setr r { row with cells := row.cells.set j d }
    | _, _ => s
  | _ => s

/-- what append takes: n elements, their cells -/
def srcD (s : AS) : AV → Option (Nat × List Dt)
  | .one c => match toD s c with
    | some (.sl n cells) => some (n, cells)
    | _ => none
  | _ => none
def appO (s : AS) (e : TypeId) (sz bytes : Nat) (src : Option (Nat × List Dt)) : AV → Prop
  | .one .z => match src with
    | some (m, cells) => cells.length = m * sz ∧ m ≤ maxLen ∧ m * bytes ≤ 140737488355328
    | none => False
  | .one (.row r ver) => match s.r r, src with
    | some row, some (m, cells) => row.ver = ver ∧ row.live = true ∧ row.e = e ∧ row.sz = sz ∧ cells.length = m * sz ∧ row.n + m ≤ maxLen ∧ (row.n + m) * bytes ≤ 140737488355328
    | _, _ => False
  | _ => False
def appS (s : AS) (d : Nat) (e : TypeId) (sz : Nat) (src : Option (Nat × List Dt)) : AV → AS
  | .one .z => match src with
    | some (m, cells) => (((s.setr (d, s.g d) ⟨e, sz, m, cells, 0, true⟩).bump d)).set d (.one (.row (d, s.g d) 0))
    | none => s
  | .one (.row r ver) => match s.r r, src with
    | some row, some (m, cells) => (s.setr r { row with n := row.n + m, cells := row.cells ++ cells, ver := ver + 1 }).set d (.one (.row r (ver + 1)))
    | _, _ => s
  | _ => s
def cpO (s : AS) (src : Option (Nat × List Dt)) : AV → Prop
  | .one (.row r ver) => match s.r r, src with
    | some row, some (m, cells) => row.ver = ver ∧ row.live = true ∧ row.sz = 1 ∧ cells.length = m
    | _, _ => False
  | _ => False
def cpS (s : AS) (dst : Option Nat) (src : Option (Nat × List Dt)) : AV → AS
  | .one (.row r _) => match s.r r, src with
    | some row, some (m, cells) => (s.setr r { row with cells := cells.take (min m row.n) ++ row.cells.drop (min m row.n) }).put dst (litV (.int .i64 (min m row.n : Nat)))
    | _, _ => s
  | _ => s

def mkO (bytes : Nat) (zs : Option (List Ce)) : AV → AV → Prop
  | .one (.dt (.lit (.int k n))), .one (.dt (.lit (.int k' m))) => k = k' ∧ n = m ∧ 0 ≤ n ∧ n ≤ 9223372036854775807 ∧ bytes * n ≤ 281474976710656 ∧ match zs with
    | some cs => (ceDs cs).isSome = true ∧ cs.length = 1
    | none => False
  | _, _ => False
def mkS (s : AS) (d : Nat) (e : TypeId) (zs : Option (List Ce)) : AV → AS
  | .one (.dt (.lit (.int _ n))) => match zs with
    | some cs => match ceDs cs with
      | some (z :: _) => ((s.setr (d, s.g d) ⟨e, 1, n.toNat, List.replicate n.toNat z, 0, true⟩).bump d).set d (.one (.row (d, s.g d) 0))
      | _ => s
    | none => s
  | _ => s

def pairs (s : AS) : List (Nat × Operand) → List (Nat × AV)
  | [] => []
  | (i, x) :: ps => (i, s.ev x) :: pairs s ps
def evs (s : AS) : List Operand → List AV
  | [] => []
  | x :: xs => s.ev x :: evs s xs

/-- the cells of a slice literal with n elements of sz cells: its zero cells, and its parts laid in -/
def bslC (s : AS) (sz n : Nat) (zs : Option (List Ce)) (parts : List (Nat × Operand)) : Option (List Dt) := match zs with
  | some cs => match fillA (fun i => some (i * sz, sz)) ((List.replicate n cs).flatten) (pairs s parts) with
    | some cells => ceDs cells
    | none => none
  | none => none

/-- what an operation asks of the state; rs: what its call returns -/
def obl (P : Program) (op : Op) (dst : Option Nat) (s : AS) (rs : List RV) : Prop := match op with
  | .move _ => True
  | .assign _ => True
  | .pick c _ _ => pickO (s.ev c)
  | .alloc T => dst.isSome = true ∧ (zeros P T).isSome = true
  | .box _ x => dst.isSome = true ∧ (cellsOf (s.ev x)).isSome = true
  | .build T parts => match zeros P T with
    | some cs => (tplaces P T).isSome = true ∧ (fillA (tplace P T) cs (pairs s parts.toList)).isSome = true
    | none => False
  | .buildSlice T n parts => match telem P T with
    | some e => tok P e = true ∧ n * tsz P e ≤ 16777216 ∧ dst.isSome = true ∧ if n = 0 then parts.size = 0 else (bslC s (tsz P e) n (zeros P e) parts.toList).isSome = true ∧ (zeros P e).map List.length = some (tsz P e) ∧ 0 < tsz P e
    | none => False
  | .load T x => tok P T = true ∧ ldO (tagg P T) (tsz P T) (acells s (s.ev x))
  | .store T a x => tok P T = true ∧ match cellsOf (s.ev x) with
    | some cs => cs.length = tsz P T ∧ stO s cs (s.ev a)
    | none => False
  | .binOp op T x y _ => binO (tbool P T) op (s.ev x) (s.ev y)
  | .unOp op _ x => unO op (s.ev x)
  | .convert src t x => (P.underlying src).isSome = true ∧ cvO (tint P t) (s.ev x)
  | .makeSlice T l c => match telem P T with
    | some e => dst.isSome = true ∧ tok P e = true ∧ tsz P e = 1 ∧ mkO (tbytes P e) (zeros P e) (s.ev l) (s.ev c)
    | none => False
  | .slice T x lo hi mx => match telem P T, tarr P T with
    | some e, _ => tok P e = true ∧ cutO (tsz P e) (lo.map s.ev) (hi.map s.ev) (mx.map s.ev) (s.ev x)
    | none, some (n, e) => tok P e = true ∧ acutO s (tsz P e) n (lo.map s.ev) (hi.map s.ev) (mx.map s.ev) (s.ev x)
    | none, none => False
  | .fieldAddr T x f => fldO s (foff P T f) (s.ev x)
  | .indexAddr T x i => match telem P T, tarr P T with
    | some e, _ => tok P e = true ∧ idxO s (tsz P e) (s.ev x) (s.ev i)
    | none, some (n, e) => tok P e = true ∧ arrO n (s.ev x) (s.ev i)
    | none, none => False
  | .extract x j => extO (s.ev x) j
  | .call c => match c.callee with
    | .value (.func f) => ∃ avs, toRVs s (evs s c.args.toList) = some avs ∧ AFun P f avs rs
    | .builtin .len => match c.args.toList, c.argTypes.toList with
      | [x], [T] => (telem P T).isSome = true ∧ lenO s (s.ev x)
      | _, _ => False
    | .builtin .max => match c.args.toList with
      | [x, y] => mxO (s.ev x) (s.ev y)
      | _ => False
    | .builtin .min => match c.args.toList with
      | [x, y] => mxO (s.ev x) (s.ev y)
      | _ => False
    | .builtin .append => match c.args.toList, c.argTypes.toList with
      | [x, y], [T, T'] => T' = T ∧ match telem P T with
        | some e => dst.isSome = true ∧ tok P e = true ∧ 0 < tsz P e ∧ (tzero P e).map List.length = some (tsz P e) ∧ appO s e (tsz P e) (tbytes P e) (srcD s (s.ev y)) (s.ev x)
        | none => False
      | _, _ => False
    | .builtin .copy => match c.args.toList, c.argTypes.toList with
      | [x, y], [T, _] => match telem P T with
        | some e => tok P e = true ∧ tsz P e = 1 ∧ cpO s (srcD s (s.ev y)) (s.ev x)
        | none => False
      | _, _ => False
    | _ => False
  | _ => False

/-- the state behind an operation -/
def eff (P : Program) (op : Op) (dst : Option Nat) (s : AS) (rs : List RV) : AS := match op with
  | .move x => s.put dst (s.ev x)
  | .assign x => s.put dst (s.ev x)
  | .pick c a b => s.put dst (pickV (s.ev c) (s.ev a) (s.ev b))
  | .alloc T => match dst, zeros P T with
    | some d, some cs => ((s.setv (d, s.g d) cs).bump d).set d (.ptr (d, s.g d) 0)
    | _, _ => s
  | .box _ x => match dst, cellsOf (s.ev x) with
    | some d, some cs => ((s.setv (d, s.g d) cs).bump d).set d (.ptr (d, s.g d) 0)
    | _, _ => s
  | .build T parts => match zeros P T with
    | some cs => match fillA (tplace P T) cs (pairs s parts.toList) with
      | some cells => s.put dst (.agg cells)
      | none => s
    | none => s
  | .buildSlice T n parts => match telem P T, dst with
    | some e, some d => if n = 0 then ((s.setr (d, s.g d) ⟨e, tsz P e, 0, [], 0, true⟩).bump d).set d (.one (.row (d, s.g d) 0))
      else match bslC s (tsz P e) n (zeros P e) parts.toList with
        | some ds => s.set d (.one (.dt (.sl n ds)))
        | none => s
    | _, _ => s
  | .load T x => s.put dst (ldV (tagg P T) (tsz P T) (acells s (s.ev x)))
  | .store _ a x => match cellsOf (s.ev x) with
    | some cs => (stS s cs (s.ev a)).put dst .no
    | none => s
  | .binOp op _ x y _ => s.put dst (binV op (s.ev x) (s.ev y))
  | .unOp op _ x => s.put dst (unV op (s.ev x))
  | .convert _ t x => s.put dst (cvV (tint P t) (s.ev x))
  | .makeSlice T l _ => match telem P T, dst with
    | some e, some d => mkS s d e (zeros P e) (s.ev l)
    | _, _ => s
  | .slice T x lo hi _ => match telem P T, tarr P T with
    | some e, _ => s.put dst (cutV (tsz P e) (lo.map s.ev) (hi.map s.ev) (s.ev x))
    | none, some (n, e) => s.put dst (acutV s (tsz P e) n (lo.map s.ev) (hi.map s.ev) (s.ev x))
    | none, none => s
  | .fieldAddr T x f => s.put dst (fldV (foff P T f) (s.ev x))
  | .indexAddr T x i => match telem P T, tarr P T with
    | some e, _ => s.put dst (idxV (tsz P e) (s.ev x) (s.ev i))
    | none, some (_, e) => s.put dst (arrV (tsz P e) (s.ev x) (s.ev i))
    | none, none => s
  | .extract x j => s.put dst (extV (s.ev x) j)
  | .call c => match c.callee with
    | .value (.func _) => s.put dst (resAV rs)
    | .builtin .len => match c.args.toList with
      | [x] => s.put dst (lenV s (s.ev x))
      | _ => s
    | .builtin .max => match c.args.toList with
      | [x, y] => s.put dst (mxV (fun x y => if y > x then y else x) (s.ev x) (s.ev y))
      | _ => s
    | .builtin .min => match c.args.toList with
      | [x, y] => s.put dst (mxV (fun x y => if y < x then y else x) (s.ev x) (s.ev y))
      | _ => s
    | .builtin .append => match c.args.toList, c.argTypes.toList, dst with
      | [x, y], [T, _], some d => match telem P T with
        | some e => appS s d e (tsz P e) (srcD s (s.ev y)) (s.ev x)
        | none => s
      | _, _, _ => s
    | .builtin .copy => match c.args.toList with
      | [x, y] => cpS s dst (srcD s (s.ev y)) (s.ev x)
      | _ => s
    | _ => s
  | _ => s

end Go.Proofs.Ythhaoojgfbofnaa.E
