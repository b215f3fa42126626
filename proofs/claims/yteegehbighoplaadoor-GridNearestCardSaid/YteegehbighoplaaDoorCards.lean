/-
  DERIVED. GIVEN WITH THE SEED: THE CARDS: each row of YteegehbighoplaaDoorRows.lean that lists a variable, with what it lists TIED to the program's text (the seventh form; the later family's looks); each row that meets fmt, with fmt's text TOLD by the authors' own Lean function (tested against real Go, not proved from fmt's source: count such statements apart). THE CARD IS WHAT COUNTS. Prove the row's statement (the work); the ties are given (YteegehbighoplaaDoorTie.lean); close each card by the builder's one call (the guide's Derived/Test/ToyasCard.lean, 'card_holds'). Laid BY PROGRAM, IN A SANDBOX (cutbox-door.mjs). By AI agents, Wed Nov 11 2026. No macro, syntax, notation, axiom, sorry.
-/
import Derived.Test.YteegehbighoplaaDoorRows
import GoSem.ClaimSeven
namespace Go.Proofs.YteegehbighoplaaDoor
namespace Rows

/-- THE TIED CARD OF 'examboardlaw18.GridNearest'. -/
def gridNearestCard : Claim7 := { stood := { row := gridNearestRow, standIns := [], harness := (true, "715b3467144255dc66ff75221eb69ad75d55e3ee3070a02aeb35d5c32f313a9e"), looks := false }, kinds := [], alts := [], laidByText := true, laidKinds := [.data, .data, .data], laidTests := true, laidLooks := .later }
def GridNearestCardSaid : Prop := Claim7.holds Tryd.pinned (.plain (OpenSpec.ofChange gridNearestSpec)) gridNearestCard

/-- THE TIED CARD OF 'examboardlaw18.GridScales'. -/
def gridScalesCard : Claim7 := { stood := { row := gridScalesRow, standIns := [], harness := (true, "715b3467144255dc66ff75221eb69ad75d55e3ee3070a02aeb35d5c32f313a9e"), looks := false }, kinds := [], alts := [], laidByText := true, laidKinds := [.data, .data, .data], laidTests := true, laidLooks := .later }
def GridScalesCardSaid : Prop := Claim7.holds Tryd.pinned (.plain (OpenSpec.ofChange gridScalesSpec)) gridScalesCard

/-- THE TIED CARD OF 'examboardlaw05.SpanEncloses'. -/
def spanEnclosesCard : Claim7 := { stood := { row := spanEnclosesRow, standIns := [], harness := (true, "715b3467144255dc66ff75221eb69ad75d55e3ee3070a02aeb35d5c32f313a9e"), looks := false }, kinds := [], alts := [], laidByText := true, laidKinds := [.data, .data, .data], laidTests := true, laidLooks := .later }
def SpanEnclosesCardSaid : Prop := Claim7.holds Tryd.pinned (.plain (OpenSpec.ofChange spanEnclosesSpec)) spanEnclosesCard

/-- THE TIED CARD OF 'examboardlaw05.SpanWidth'. -/
def spanWidthCard : Claim7 := { stood := { row := spanWidthRow, standIns := [], harness := (true, "715b3467144255dc66ff75221eb69ad75d55e3ee3070a02aeb35d5c32f313a9e"), looks := false }, kinds := [], alts := [], laidByText := true, laidKinds := [.data, .data, .data], laidTests := true, laidLooks := .later }
def SpanWidthCardSaid : Prop := Claim7.holds Tryd.pinned (.plain (OpenSpec.ofChange spanWidthSpec)) spanWidthCard

/-- THE TIED CARD OF 'examboardlaw05.SpanMonotone'. -/
def spanMonotoneCard : Claim7 := { stood := { row := spanMonotoneRow, standIns := [], harness := (true, "715b3467144255dc66ff75221eb69ad75d55e3ee3070a02aeb35d5c32f313a9e"), looks := false }, kinds := [], alts := [], laidByText := true, laidKinds := [.data, .data, .data], laidTests := true, laidLooks := .later }
def SpanMonotoneCardSaid : Prop := Claim7.holds Tryd.pinned (.plain (OpenSpec.ofChange spanMonotoneSpec)) spanMonotoneCard

/-- THE TIED CARD OF 'examboardlaw05.SpanLattice'. -/
def spanLatticeCard : Claim7 := { stood := { row := spanLatticeRow, standIns := [], harness := (true, "715b3467144255dc66ff75221eb69ad75d55e3ee3070a02aeb35d5c32f313a9e"), looks := false }, kinds := [], alts := [], laidByText := true, laidKinds := [.data, .data, .data], laidTests := true, laidLooks := .later }
def SpanLatticeCardSaid : Prop := Claim7.holds Tryd.pinned (.plain (OpenSpec.ofChange spanLatticeSpec)) spanLatticeCard

/-- THE SECOND FORM's CARD OF 'examboardlaw18.GridNearest'. -/
def gridNearestUptoCard : Claim7 := { stood := { row := gridNearestUptoRow, standIns := [], harness := (true, "715b3467144255dc66ff75221eb69ad75d55e3ee3070a02aeb35d5c32f313a9e"), looks := false }, kinds := [], alts := [], laidByText := true, laidKinds := [.data, .data, .data], laidTests := true, laidLooks := .later }
def GridNearestUptoCardSaid : Prop := Claim7.holds Tryd.pinned (.plain (OpenSpec.upto gridNearestSpec)) gridNearestUptoCard

/-- THE SECOND FORM's CARD OF 'examboardlaw18.GridScales'. -/
def gridScalesUptoCard : Claim7 := { stood := { row := gridScalesUptoRow, standIns := [], harness := (true, "715b3467144255dc66ff75221eb69ad75d55e3ee3070a02aeb35d5c32f313a9e"), looks := false }, kinds := [], alts := [], laidByText := true, laidKinds := [.data, .data, .data], laidTests := true, laidLooks := .later }
def GridScalesUptoCardSaid : Prop := Claim7.holds Tryd.pinned (.plain (OpenSpec.upto gridScalesSpec)) gridScalesUptoCard

/-- THE SECOND FORM's CARD OF 'examboardlaw05.SpanEncloses'. -/
def spanEnclosesUptoCard : Claim7 := { stood := { row := spanEnclosesUptoRow, standIns := [], harness := (true, "715b3467144255dc66ff75221eb69ad75d55e3ee3070a02aeb35d5c32f313a9e"), looks := false }, kinds := [], alts := [], laidByText := true, laidKinds := [.data, .data, .data], laidTests := true, laidLooks := .later }
def SpanEnclosesUptoCardSaid : Prop := Claim7.holds Tryd.pinned (.plain (OpenSpec.upto spanEnclosesSpec)) spanEnclosesUptoCard

/-- THE SECOND FORM's CARD OF 'examboardlaw05.SpanWidth'. -/
def spanWidthUptoCard : Claim7 := { stood := { row := spanWidthUptoRow, standIns := [], harness := (true, "715b3467144255dc66ff75221eb69ad75d55e3ee3070a02aeb35d5c32f313a9e"), looks := false }, kinds := [], alts := [], laidByText := true, laidKinds := [.data, .data, .data], laidTests := true, laidLooks := .later }
def SpanWidthUptoCardSaid : Prop := Claim7.holds Tryd.pinned (.plain (OpenSpec.upto spanWidthSpec)) spanWidthUptoCard

/-- THE SECOND FORM's CARD OF 'examboardlaw05.SpanMonotone'. -/
def spanMonotoneUptoCard : Claim7 := { stood := { row := spanMonotoneUptoRow, standIns := [], harness := (true, "715b3467144255dc66ff75221eb69ad75d55e3ee3070a02aeb35d5c32f313a9e"), looks := false }, kinds := [], alts := [], laidByText := true, laidKinds := [.data, .data, .data], laidTests := true, laidLooks := .later }
def SpanMonotoneUptoCardSaid : Prop := Claim7.holds Tryd.pinned (.plain (OpenSpec.upto spanMonotoneSpec)) spanMonotoneUptoCard

/-- THE SECOND FORM's CARD OF 'examboardlaw05.SpanLattice'. -/
def spanLatticeUptoCard : Claim7 := { stood := { row := spanLatticeUptoRow, standIns := [], harness := (true, "715b3467144255dc66ff75221eb69ad75d55e3ee3070a02aeb35d5c32f313a9e"), looks := false }, kinds := [], alts := [], laidByText := true, laidKinds := [.data, .data, .data], laidTests := true, laidLooks := .later }
def SpanLatticeUptoCardSaid : Prop := Claim7.holds Tryd.pinned (.plain (OpenSpec.upto spanLatticeSpec)) spanLatticeUptoCard
end Rows
end Go.Proofs.YteegehbighoplaaDoor
