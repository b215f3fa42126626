/-
  NARROWER THAN 'FOR EVERY INPUT', by the rows' own cells (each row's printed sentence says how): SpanEncloses: laid · SpanWidth: laid · SpanMonotone: laid · SpanLattice: laid · LinkingInverse: laid · LinkingMean: laid · LinkingSpread: laid · LinkingChain: laid.
  DERIVED. THE GIVEN ROWS OF THIS SEAT. 8 by the template 'for every input the law returns true; each argument reads behind the call as it read before'; 0 by the template 'total and deterministic' (their statements: YtljmgdepldpmdaaDoorTotals.lean).
  GIVEN WITH THE SEED: the statements are not yours to turn. If you find one false, say at which input.
  Laid BY PROGRAM, IN A SANDBOX (cutbox-rows.mjs): the forced cells as the released guide's own fill.sh prints them over the translation 33fe74e7480b46c5… (all of the seat's roots in one cut). By AI agents, Wed Nov 11 2026. No macro, syntax, notation, axiom, sorry.
-/
import Derived.Test.YtljmgdepldpmdaaDoorChecked
import GoSem.Claim
import GoSem.ClaimJoined
import GoSem.ClaimMapViews
import Derived.JoinedTies
import Derived.KernelRfl
namespace Go.Proofs.YtljmgdepldpmdaaDoor
/- THE CELL 'sum', in the pinned program and in every row, IS THE sha256 OF THE DUMP (.gsa) THAT YtljmgdepldpmdaaDoorProg.lean LOADS. Nothing in Lean hashes anything: it is a label: what it is worth is what the hold of that sum in a sandbox is worth. -/
noncomputable def Tryd.pinned : Pinned := { name := "ytljmgdepldpmdaadoor", sum := "33fe74e7480b46c57ce85f5b1f9ad9f498a808e6a680aab39e912a24e0ef0276", checked := Tryd.checked }
namespace Rows
def none {H : Type} : Left H := { results := [], args := [] }

/- WHAT THE LISTED PACKAGE-LEVEL VARIABLES READ AS WHEN THE CALL BEGINS. Each datum BY PROGRAM (the guide's laid-datum.mjs) off the statement by which the dump's own 'gosem.cut.vars' lays the variable. In a bare row this is a premise. The card (YtljmgdepldpmdaaDoorCards.lean) ties it to the program's text. -/
def laid_math_bits_deBruijn32tab {H : Type} : DataW H := .agg [.lit (.int .u8 0), .lit (.int .u8 1), .lit (.int .u8 28), .lit (.int .u8 2), .lit (.int .u8 29), .lit (.int .u8 14), .lit (.int .u8 24), .lit (.int .u8 3), .lit (.int .u8 30), .lit (.int .u8 22), .lit (.int .u8 20), .lit (.int .u8 15), .lit (.int .u8 25), .lit (.int .u8 17), .lit (.int .u8 4), .lit (.int .u8 8), .lit (.int .u8 31), .lit (.int .u8 27), .lit (.int .u8 13), .lit (.int .u8 23), .lit (.int .u8 21), .lit (.int .u8 19), .lit (.int .u8 16), .lit (.int .u8 7), .lit (.int .u8 26), .lit (.int .u8 12), .lit (.int .u8 18), .lit (.int .u8 6), .lit (.int .u8 11), .lit (.int .u8 5), .lit (.int .u8 10), .lit (.int .u8 9)]
def laid_math_bits_deBruijn64tab {H : Type} : DataW H := .agg [.lit (.int .u8 0), .lit (.int .u8 1), .lit (.int .u8 56), .lit (.int .u8 2), .lit (.int .u8 57), .lit (.int .u8 49), .lit (.int .u8 28), .lit (.int .u8 3), .lit (.int .u8 61), .lit (.int .u8 58), .lit (.int .u8 42), .lit (.int .u8 50), .lit (.int .u8 38), .lit (.int .u8 29), .lit (.int .u8 17), .lit (.int .u8 4), .lit (.int .u8 62), .lit (.int .u8 47), .lit (.int .u8 59), .lit (.int .u8 36), .lit (.int .u8 45), .lit (.int .u8 43), .lit (.int .u8 51), .lit (.int .u8 22), .lit (.int .u8 53), .lit (.int .u8 39), .lit (.int .u8 33), .lit (.int .u8 30), .lit (.int .u8 24), .lit (.int .u8 18), .lit (.int .u8 12), .lit (.int .u8 5), .lit (.int .u8 63), .lit (.int .u8 55), .lit (.int .u8 48), .lit (.int .u8 27), .lit (.int .u8 60), .lit (.int .u8 41), .lit (.int .u8 37), .lit (.int .u8 16), .lit (.int .u8 46), .lit (.int .u8 35), .lit (.int .u8 44), .lit (.int .u8 21), .lit (.int .u8 52), .lit (.int .u8 32), .lit (.int .u8 23), .lit (.int .u8 11), .lit (.int .u8 54), .lit (.int .u8 26), .lit (.int .u8 40), .lit (.int .u8 15), .lit (.int .u8 34), .lit (.int .u8 20), .lit (.int .u8 31), .lit (.int .u8 10), .lit (.int .u8 25), .lit (.int .u8 14), .lit (.int .u8 19), .lit (.int .u8 9), .lit (.int .u8 13), .lit (.int .u8 8), .lit (.int .u8 7), .lit (.int .u8 6)]
def laid_internal_strconv_uint64pow10 {H : Type} : DataW H := .agg [.lit (.int .u64 1), .lit (.int .u64 10), .lit (.int .u64 100), .lit (.int .u64 1000), .lit (.int .u64 10000), .lit (.int .u64 100000), .lit (.int .u64 1000000), .lit (.int .u64 10000000), .lit (.int .u64 100000000), .lit (.int .u64 1000000000), .lit (.int .u64 10000000000), .lit (.int .u64 100000000000), .lit (.int .u64 1000000000000), .lit (.int .u64 10000000000000), .lit (.int .u64 100000000000000), .lit (.int .u64 1000000000000000), .lit (.int .u64 10000000000000000), .lit (.int .u64 100000000000000000), .lit (.int .u64 1000000000000000000), .lit (.int .u64 10000000000000000000)]

/-- 'examboardlaw05.SpanEncloses': WHATEVER THE INPUT: true; the input reads as it did. -/
def spanEnclosesSpec : ChangeSpec := { name := "spanEncloses", fn := fun _ => fun
  | [d1, d2, d3, d4] => { results := [.lit (.bool true)], args := [d1, d2, d3, d4] }
  | _ => none }
def spanEnclosesRow : OpenClaim := { program := "ytljmgdepldpmdaadoor", sum := "33fe74e7480b46c57ce85f5b1f9ad9f498a808e6a680aab39e912a24e0ef0276", func := "examboard/examboardlaw05.SpanEncloses", spec := "spanEncloses", named := ["internal/strconv.uint64pow10", "math/bits.deBruijn32tab", "math/bits.deBruijn64tab"], apart := false, laid := [("math/bits.deBruijn32tab", laid_math_bits_deBruijn32tab), ("math/bits.deBruijn64tab", laid_math_bits_deBruijn64tab), ("internal/strconv.uint64pow10", laid_internal_strconv_uint64pow10)] }
def SpanEnclosesSaid : Prop := spanEnclosesRow.holds Tryd.pinned (OpenSpec.ofChange spanEnclosesSpec)

/-- ITS FALSE NEIGHBOUR: 'it returns false'. Refute it at one input. -/
def spanEnclosesWrong : ChangeSpec := { name := "spanEncloses", fn := fun _ => fun
  | [d1, d2, d3, d4] => { results := [.lit (.bool false)], args := [d1, d2, d3, d4] }
  | _ => none }
def SpanEnclosesWrongFalsely : Prop := spanEnclosesRow.holds Tryd.pinned (OpenSpec.ofChange spanEnclosesWrong)

/-- 'examboardlaw05.SpanWidth': WHATEVER THE INPUT: true; the input reads as it did. -/
def spanWidthSpec : ChangeSpec := { name := "spanWidth", fn := fun _ => fun
  | [d1, d2, d3] => { results := [.lit (.bool true)], args := [d1, d2, d3] }
  | _ => none }
def spanWidthRow : OpenClaim := { program := "ytljmgdepldpmdaadoor", sum := "33fe74e7480b46c57ce85f5b1f9ad9f498a808e6a680aab39e912a24e0ef0276", func := "examboard/examboardlaw05.SpanWidth", spec := "spanWidth", named := ["internal/strconv.uint64pow10", "math/bits.deBruijn32tab", "math/bits.deBruijn64tab"], apart := false, laid := [("math/bits.deBruijn32tab", laid_math_bits_deBruijn32tab), ("math/bits.deBruijn64tab", laid_math_bits_deBruijn64tab), ("internal/strconv.uint64pow10", laid_internal_strconv_uint64pow10)] }
def SpanWidthSaid : Prop := spanWidthRow.holds Tryd.pinned (OpenSpec.ofChange spanWidthSpec)

/-- ITS FALSE NEIGHBOUR: 'it returns false'. Refute it at one input. -/
def spanWidthWrong : ChangeSpec := { name := "spanWidth", fn := fun _ => fun
  | [d1, d2, d3] => { results := [.lit (.bool false)], args := [d1, d2, d3] }
  | _ => none }
def SpanWidthWrongFalsely : Prop := spanWidthRow.holds Tryd.pinned (OpenSpec.ofChange spanWidthWrong)

/-- 'examboardlaw05.SpanMonotone': WHATEVER THE INPUT: true; the input reads as it did. -/
def spanMonotoneSpec : ChangeSpec := { name := "spanMonotone", fn := fun _ => fun
  | [d1, d2, d3] => { results := [.lit (.bool true)], args := [d1, d2, d3] }
  | _ => none }
def spanMonotoneRow : OpenClaim := { program := "ytljmgdepldpmdaadoor", sum := "33fe74e7480b46c57ce85f5b1f9ad9f498a808e6a680aab39e912a24e0ef0276", func := "examboard/examboardlaw05.SpanMonotone", spec := "spanMonotone", named := ["internal/strconv.uint64pow10", "math/bits.deBruijn32tab", "math/bits.deBruijn64tab"], apart := false, laid := [("math/bits.deBruijn32tab", laid_math_bits_deBruijn32tab), ("math/bits.deBruijn64tab", laid_math_bits_deBruijn64tab), ("internal/strconv.uint64pow10", laid_internal_strconv_uint64pow10)] }
def SpanMonotoneSaid : Prop := spanMonotoneRow.holds Tryd.pinned (OpenSpec.ofChange spanMonotoneSpec)

/-- ITS FALSE NEIGHBOUR: 'it returns false'. Refute it at one input. -/
def spanMonotoneWrong : ChangeSpec := { name := "spanMonotone", fn := fun _ => fun
  | [d1, d2, d3] => { results := [.lit (.bool false)], args := [d1, d2, d3] }
  | _ => none }
def SpanMonotoneWrongFalsely : Prop := spanMonotoneRow.holds Tryd.pinned (OpenSpec.ofChange spanMonotoneWrong)

/-- 'examboardlaw05.SpanLattice': WHATEVER THE INPUT: true; the input reads as it did. -/
def spanLatticeSpec : ChangeSpec := { name := "spanLattice", fn := fun _ => fun
  | [d1, d2, d3, d4] => { results := [.lit (.bool true)], args := [d1, d2, d3, d4] }
  | _ => none }
def spanLatticeRow : OpenClaim := { program := "ytljmgdepldpmdaadoor", sum := "33fe74e7480b46c57ce85f5b1f9ad9f498a808e6a680aab39e912a24e0ef0276", func := "examboard/examboardlaw05.SpanLattice", spec := "spanLattice", named := ["internal/strconv.uint64pow10", "math/bits.deBruijn32tab", "math/bits.deBruijn64tab"], apart := false, laid := [("math/bits.deBruijn32tab", laid_math_bits_deBruijn32tab), ("math/bits.deBruijn64tab", laid_math_bits_deBruijn64tab), ("internal/strconv.uint64pow10", laid_internal_strconv_uint64pow10)] }
def SpanLatticeSaid : Prop := spanLatticeRow.holds Tryd.pinned (OpenSpec.ofChange spanLatticeSpec)

/-- ITS FALSE NEIGHBOUR: 'it returns false'. Refute it at one input. -/
def spanLatticeWrong : ChangeSpec := { name := "spanLattice", fn := fun _ => fun
  | [d1, d2, d3, d4] => { results := [.lit (.bool false)], args := [d1, d2, d3, d4] }
  | _ => none }
def SpanLatticeWrongFalsely : Prop := spanLatticeRow.holds Tryd.pinned (OpenSpec.ofChange spanLatticeWrong)

/-- 'examboardlaw45.LinkingInverse': WHATEVER THE INPUT: true; the input reads as it did. -/
def linkingInverseSpec : ChangeSpec := { name := "linkingInverse", fn := fun _ => fun
  | [d1, d2, d3, d4] => { results := [.lit (.bool true)], args := [d1, d2, d3, d4] }
  | _ => none }
def linkingInverseRow : OpenClaim := { program := "ytljmgdepldpmdaadoor", sum := "33fe74e7480b46c57ce85f5b1f9ad9f498a808e6a680aab39e912a24e0ef0276", func := "examboard/examboardlaw45.LinkingInverse", spec := "linkingInverse", named := ["internal/strconv.uint64pow10", "math/bits.deBruijn32tab", "math/bits.deBruijn64tab"], apart := false, laid := [("math/bits.deBruijn32tab", laid_math_bits_deBruijn32tab), ("math/bits.deBruijn64tab", laid_math_bits_deBruijn64tab), ("internal/strconv.uint64pow10", laid_internal_strconv_uint64pow10)] }
def LinkingInverseSaid : Prop := linkingInverseRow.holds Tryd.pinned (OpenSpec.ofChange linkingInverseSpec)

/-- ITS FALSE NEIGHBOUR: 'it returns false'. Refute it at one input. -/
def linkingInverseWrong : ChangeSpec := { name := "linkingInverse", fn := fun _ => fun
  | [d1, d2, d3, d4] => { results := [.lit (.bool false)], args := [d1, d2, d3, d4] }
  | _ => none }
def LinkingInverseWrongFalsely : Prop := linkingInverseRow.holds Tryd.pinned (OpenSpec.ofChange linkingInverseWrong)

/-- 'examboardlaw45.LinkingMean': WHATEVER THE INPUT: true; the input reads as it did. -/
def linkingMeanSpec : ChangeSpec := { name := "linkingMean", fn := fun _ => fun
  | [d1, d2, d3] => { results := [.lit (.bool true)], args := [d1, d2, d3] }
  | _ => none }
def linkingMeanRow : OpenClaim := { program := "ytljmgdepldpmdaadoor", sum := "33fe74e7480b46c57ce85f5b1f9ad9f498a808e6a680aab39e912a24e0ef0276", func := "examboard/examboardlaw45.LinkingMean", spec := "linkingMean", named := ["internal/strconv.uint64pow10", "math/bits.deBruijn32tab", "math/bits.deBruijn64tab"], apart := false, laid := [("math/bits.deBruijn32tab", laid_math_bits_deBruijn32tab), ("math/bits.deBruijn64tab", laid_math_bits_deBruijn64tab), ("internal/strconv.uint64pow10", laid_internal_strconv_uint64pow10)] }
def LinkingMeanSaid : Prop := linkingMeanRow.holds Tryd.pinned (OpenSpec.ofChange linkingMeanSpec)

/-- ITS FALSE NEIGHBOUR: 'it returns false'. Refute it at one input. -/
def linkingMeanWrong : ChangeSpec := { name := "linkingMean", fn := fun _ => fun
  | [d1, d2, d3] => { results := [.lit (.bool false)], args := [d1, d2, d3] }
  | _ => none }
def LinkingMeanWrongFalsely : Prop := linkingMeanRow.holds Tryd.pinned (OpenSpec.ofChange linkingMeanWrong)

/-- 'examboardlaw45.LinkingSpread': WHATEVER THE INPUT: true; the input reads as it did. -/
def linkingSpreadSpec : ChangeSpec := { name := "linkingSpread", fn := fun _ => fun
  | [d1, d2] => { results := [.lit (.bool true)], args := [d1, d2] }
  | _ => none }
def linkingSpreadRow : OpenClaim := { program := "ytljmgdepldpmdaadoor", sum := "33fe74e7480b46c57ce85f5b1f9ad9f498a808e6a680aab39e912a24e0ef0276", func := "examboard/examboardlaw45.LinkingSpread", spec := "linkingSpread", named := ["internal/strconv.uint64pow10", "math/bits.deBruijn32tab", "math/bits.deBruijn64tab"], apart := false, laid := [("math/bits.deBruijn32tab", laid_math_bits_deBruijn32tab), ("math/bits.deBruijn64tab", laid_math_bits_deBruijn64tab), ("internal/strconv.uint64pow10", laid_internal_strconv_uint64pow10)] }
def LinkingSpreadSaid : Prop := linkingSpreadRow.holds Tryd.pinned (OpenSpec.ofChange linkingSpreadSpec)

/-- ITS FALSE NEIGHBOUR: 'it returns false'. Refute it at one input. -/
def linkingSpreadWrong : ChangeSpec := { name := "linkingSpread", fn := fun _ => fun
  | [d1, d2] => { results := [.lit (.bool false)], args := [d1, d2] }
  | _ => none }
def LinkingSpreadWrongFalsely : Prop := linkingSpreadRow.holds Tryd.pinned (OpenSpec.ofChange linkingSpreadWrong)

/-- 'examboardlaw45.LinkingChain': WHATEVER THE INPUT: true; the input reads as it did. -/
def linkingChainSpec : ChangeSpec := { name := "linkingChain", fn := fun _ => fun
  | [d1, d2, d3, d4] => { results := [.lit (.bool true)], args := [d1, d2, d3, d4] }
  | _ => none }
def linkingChainRow : OpenClaim := { program := "ytljmgdepldpmdaadoor", sum := "33fe74e7480b46c57ce85f5b1f9ad9f498a808e6a680aab39e912a24e0ef0276", func := "examboard/examboardlaw45.LinkingChain", spec := "linkingChain", named := ["internal/strconv.uint64pow10", "math/bits.deBruijn32tab", "math/bits.deBruijn64tab"], apart := false, laid := [("math/bits.deBruijn32tab", laid_math_bits_deBruijn32tab), ("math/bits.deBruijn64tab", laid_math_bits_deBruijn64tab), ("internal/strconv.uint64pow10", laid_internal_strconv_uint64pow10)] }
def LinkingChainSaid : Prop := linkingChainRow.holds Tryd.pinned (OpenSpec.ofChange linkingChainSpec)

/-- ITS FALSE NEIGHBOUR: 'it returns false'. Refute it at one input. -/
def linkingChainWrong : ChangeSpec := { name := "linkingChain", fn := fun _ => fun
  | [d1, d2, d3, d4] => { results := [.lit (.bool false)], args := [d1, d2, d3, d4] }
  | _ => none }
def LinkingChainWrongFalsely : Prop := linkingChainRow.holds Tryd.pinned (OpenSpec.ofChange linkingChainWrong)

/- THE SECOND FORM. 'bulk': how many values and letters a reading holds, each counted each time it is reached (what is shared counts as often as it is met; a slice's spare places count too). A statement '..UptoSaid' is the law's where the arguments, and the package variables that the reading takes, are together of bulk at most 1048576: NARROWER than '..Said'. Prove '..Said' where nothing that the law and all that it calls make is longer than what came in: it says more and counts as full. Else prove '..UptoSaid'. A law counts once. -/
mutual
def uptoBulk {H : Type} : DataW H → Nat
  | .lit (.string bytes) => bytes.length + 1
  | .lit _ => 1
  | .nil => 1
  | .ptr d => uptoBulk d + 1
  | .slice elems spare => uptoBulkAll elems + uptoBulkAll spare + 1
  | .agg parts => uptoBulkAll parts + 1
  | .iface _ d => uptoBulk d + 1
  | .map entries => uptoBulkEntries entries + 1
  | .held _ => 1
def uptoBulkAll {H : Type} : List (DataW H) → Nat
  | [] => 0
  | d :: r => uptoBulk d + uptoBulkAll r
def uptoBulkEntries {H : Type} : List (Lit × DataW H) → Nat
  | [] => 0
  | x :: r => uptoBulkEntry x + uptoBulkEntries r
def uptoBulkEntry {H : Type} : Lit × DataW H → Nat
  | (.string bytes, d) => bytes.length + uptoBulk d + 1
  | (_, d) => uptoBulk d + 1
 end
def uptoSmall : (H : Type) → List (DataW H) → Bool := fun _ ds => decide (uptoBulkAll ds ≤ 1048576)
def OpenSpec.upto (s : _root_.Go.ChangeSpec) : _root_.Go.OpenSpec := { _root_.Go.OpenSpec.ofChange s with cond := some uptoSmall }

/-- 'examboardlaw05.SpanEncloses', WHERE WHAT IT READS IS OF BULK AT MOST 1048576: true; the input reads as it did. -/
def spanEnclosesUptoRow : OpenClaim := { program := "ytljmgdepldpmdaadoor", sum := "33fe74e7480b46c57ce85f5b1f9ad9f498a808e6a680aab39e912a24e0ef0276", func := "examboard/examboardlaw05.SpanEncloses", spec := "spanEncloses", named := ["internal/strconv.uint64pow10", "math/bits.deBruijn32tab", "math/bits.deBruijn64tab"], apart := false, laid := [("math/bits.deBruijn32tab", laid_math_bits_deBruijn32tab), ("math/bits.deBruijn64tab", laid_math_bits_deBruijn64tab), ("internal/strconv.uint64pow10", laid_internal_strconv_uint64pow10)], narrowed := true }
def SpanEnclosesUptoSaid : Prop := spanEnclosesUptoRow.holds Tryd.pinned (OpenSpec.upto spanEnclosesSpec)

/-- 'examboardlaw05.SpanWidth', WHERE WHAT IT READS IS OF BULK AT MOST 1048576: true; the input reads as it did. -/
def spanWidthUptoRow : OpenClaim := { program := "ytljmgdepldpmdaadoor", sum := "33fe74e7480b46c57ce85f5b1f9ad9f498a808e6a680aab39e912a24e0ef0276", func := "examboard/examboardlaw05.SpanWidth", spec := "spanWidth", named := ["internal/strconv.uint64pow10", "math/bits.deBruijn32tab", "math/bits.deBruijn64tab"], apart := false, laid := [("math/bits.deBruijn32tab", laid_math_bits_deBruijn32tab), ("math/bits.deBruijn64tab", laid_math_bits_deBruijn64tab), ("internal/strconv.uint64pow10", laid_internal_strconv_uint64pow10)], narrowed := true }
def SpanWidthUptoSaid : Prop := spanWidthUptoRow.holds Tryd.pinned (OpenSpec.upto spanWidthSpec)

/-- 'examboardlaw05.SpanMonotone', WHERE WHAT IT READS IS OF BULK AT MOST 1048576: true; the input reads as it did. -/
def spanMonotoneUptoRow : OpenClaim := { program := "ytljmgdepldpmdaadoor", sum := "33fe74e7480b46c57ce85f5b1f9ad9f498a808e6a680aab39e912a24e0ef0276", func := "examboard/examboardlaw05.SpanMonotone", spec := "spanMonotone", named := ["internal/strconv.uint64pow10", "math/bits.deBruijn32tab", "math/bits.deBruijn64tab"], apart := false, laid := [("math/bits.deBruijn32tab", laid_math_bits_deBruijn32tab), ("math/bits.deBruijn64tab", laid_math_bits_deBruijn64tab), ("internal/strconv.uint64pow10", laid_internal_strconv_uint64pow10)], narrowed := true }
def SpanMonotoneUptoSaid : Prop := spanMonotoneUptoRow.holds Tryd.pinned (OpenSpec.upto spanMonotoneSpec)

/-- 'examboardlaw05.SpanLattice', WHERE WHAT IT READS IS OF BULK AT MOST 1048576: true; the input reads as it did. -/
def spanLatticeUptoRow : OpenClaim := { program := "ytljmgdepldpmdaadoor", sum := "33fe74e7480b46c57ce85f5b1f9ad9f498a808e6a680aab39e912a24e0ef0276", func := "examboard/examboardlaw05.SpanLattice", spec := "spanLattice", named := ["internal/strconv.uint64pow10", "math/bits.deBruijn32tab", "math/bits.deBruijn64tab"], apart := false, laid := [("math/bits.deBruijn32tab", laid_math_bits_deBruijn32tab), ("math/bits.deBruijn64tab", laid_math_bits_deBruijn64tab), ("internal/strconv.uint64pow10", laid_internal_strconv_uint64pow10)], narrowed := true }
def SpanLatticeUptoSaid : Prop := spanLatticeUptoRow.holds Tryd.pinned (OpenSpec.upto spanLatticeSpec)

/-- 'examboardlaw45.LinkingInverse', WHERE WHAT IT READS IS OF BULK AT MOST 1048576: true; the input reads as it did. -/
def linkingInverseUptoRow : OpenClaim := { program := "ytljmgdepldpmdaadoor", sum := "33fe74e7480b46c57ce85f5b1f9ad9f498a808e6a680aab39e912a24e0ef0276", func := "examboard/examboardlaw45.LinkingInverse", spec := "linkingInverse", named := ["internal/strconv.uint64pow10", "math/bits.deBruijn32tab", "math/bits.deBruijn64tab"], apart := false, laid := [("math/bits.deBruijn32tab", laid_math_bits_deBruijn32tab), ("math/bits.deBruijn64tab", laid_math_bits_deBruijn64tab), ("internal/strconv.uint64pow10", laid_internal_strconv_uint64pow10)], narrowed := true }
def LinkingInverseUptoSaid : Prop := linkingInverseUptoRow.holds Tryd.pinned (OpenSpec.upto linkingInverseSpec)

/-- 'examboardlaw45.LinkingMean', WHERE WHAT IT READS IS OF BULK AT MOST 1048576: true; the input reads as it did. -/
def linkingMeanUptoRow : OpenClaim := { program := "ytljmgdepldpmdaadoor", sum := "33fe74e7480b46c57ce85f5b1f9ad9f498a808e6a680aab39e912a24e0ef0276", func := "examboard/examboardlaw45.LinkingMean", spec := "linkingMean", named := ["internal/strconv.uint64pow10", "math/bits.deBruijn32tab", "math/bits.deBruijn64tab"], apart := false, laid := [("math/bits.deBruijn32tab", laid_math_bits_deBruijn32tab), ("math/bits.deBruijn64tab", laid_math_bits_deBruijn64tab), ("internal/strconv.uint64pow10", laid_internal_strconv_uint64pow10)], narrowed := true }
def LinkingMeanUptoSaid : Prop := linkingMeanUptoRow.holds Tryd.pinned (OpenSpec.upto linkingMeanSpec)

/-- 'examboardlaw45.LinkingSpread', WHERE WHAT IT READS IS OF BULK AT MOST 1048576: true; the input reads as it did. -/
def linkingSpreadUptoRow : OpenClaim := { program := "ytljmgdepldpmdaadoor", sum := "33fe74e7480b46c57ce85f5b1f9ad9f498a808e6a680aab39e912a24e0ef0276", func := "examboard/examboardlaw45.LinkingSpread", spec := "linkingSpread", named := ["internal/strconv.uint64pow10", "math/bits.deBruijn32tab", "math/bits.deBruijn64tab"], apart := false, laid := [("math/bits.deBruijn32tab", laid_math_bits_deBruijn32tab), ("math/bits.deBruijn64tab", laid_math_bits_deBruijn64tab), ("internal/strconv.uint64pow10", laid_internal_strconv_uint64pow10)], narrowed := true }
def LinkingSpreadUptoSaid : Prop := linkingSpreadUptoRow.holds Tryd.pinned (OpenSpec.upto linkingSpreadSpec)

/-- 'examboardlaw45.LinkingChain', WHERE WHAT IT READS IS OF BULK AT MOST 1048576: true; the input reads as it did. -/
def linkingChainUptoRow : OpenClaim := { program := "ytljmgdepldpmdaadoor", sum := "33fe74e7480b46c57ce85f5b1f9ad9f498a808e6a680aab39e912a24e0ef0276", func := "examboard/examboardlaw45.LinkingChain", spec := "linkingChain", named := ["internal/strconv.uint64pow10", "math/bits.deBruijn32tab", "math/bits.deBruijn64tab"], apart := false, laid := [("math/bits.deBruijn32tab", laid_math_bits_deBruijn32tab), ("math/bits.deBruijn64tab", laid_math_bits_deBruijn64tab), ("internal/strconv.uint64pow10", laid_internal_strconv_uint64pow10)], narrowed := true }
def LinkingChainUptoSaid : Prop := linkingChainUptoRow.holds Tryd.pinned (OpenSpec.upto linkingChainSpec)

end Rows
end Go.Proofs.YtljmgdepldpmdaaDoor
