/-
  DERIVED. GIVEN WITH THE SEED: THE CARDS: each row of YtljmgdepldpmdaaGreatDoorRows.lean that lists a variable, with what it lists TIED to the program's text (the seventh form; the later family's looks); each row that meets fmt, with fmt's text TOLD by the authors' own Lean function (tested against real Go, not proved from fmt's source: count such statements apart). THE CARD IS WHAT COUNTS. Prove the row's statement (the work); the ties are given (YtljmgdepldpmdaaGreatDoorTie.lean); close each card by the builder's one call (the guide's Derived/Test/ToyasCard.lean, 'card_holds'). Laid BY PROGRAM, IN A SANDBOX (cutbox-door.mjs). By AI agents, Wed Nov 11 2026. No macro, syntax, notation, axiom, sorry.
-/
import Derived.Test.YtljmgdepldpmdaaGreatDoorRows
import GoSem.ClaimSeven
namespace Go.Proofs.YtljmgdepldpmdaaGreatDoor
namespace Rows

/-- THE TIED CARD OF 'examboardlaw05.SpanArithmetic'. -/
def spanArithmeticCard : Claim7 := { stood := { row := spanArithmeticRow, standIns := [], harness := (true, "a38ec50dcb05859f057d686093c4b193ba3f9bd10a75a846370e65ed64bdf0b1"), looks := false }, kinds := [], alts := [], laidByText := true, laidKinds := [.data, .data, .data], laidTests := true, laidLooks := .later }
def SpanArithmeticCardSaid : Prop := Claim7.holds Tryz.pinned (.plain (OpenSpec.ofChange spanArithmeticSpec)) spanArithmeticCard

/-- THE TIED CARD OF 'examboardlaw45.LinkingBasics'. -/
def linkingBasicsCard : Claim7 := { stood := { row := linkingBasicsRow, standIns := [], harness := (true, "a38ec50dcb05859f057d686093c4b193ba3f9bd10a75a846370e65ed64bdf0b1"), looks := false }, kinds := [], alts := [], laidByText := true, laidKinds := [.data, .data, .data], laidTests := true, laidLooks := .later }
def LinkingBasicsCardSaid : Prop := Claim7.holds Tryz.pinned (.plain (OpenSpec.ofChange linkingBasicsSpec)) linkingBasicsCard

/-- THE TIED CARD OF 'examboardlaw45.LinkingAnchors'. -/
def linkingAnchorsCard : Claim7 := { stood := { row := linkingAnchorsRow, standIns := [], harness := (true, "a38ec50dcb05859f057d686093c4b193ba3f9bd10a75a846370e65ed64bdf0b1"), looks := false }, kinds := [], alts := [], laidByText := true, laidKinds := [.data, .data, .data], laidTests := true, laidLooks := .later }
def LinkingAnchorsCardSaid : Prop := Claim7.holds Tryz.pinned (.plain (OpenSpec.ofChange linkingAnchorsSpec)) linkingAnchorsCard

/-- THE TIED CARD OF 'examboardlaw45.LinkingChoices'. -/
def linkingChoicesCard : Claim7 := { stood := { row := linkingChoicesRow, standIns := [], harness := (true, "a38ec50dcb05859f057d686093c4b193ba3f9bd10a75a846370e65ed64bdf0b1"), looks := false }, kinds := [], alts := [], laidByText := true, laidKinds := [.data, .data, .data], laidTests := true, laidLooks := .later }
def LinkingChoicesCardSaid : Prop := Claim7.holds Tryz.pinned (.plain (OpenSpec.ofChange linkingChoicesSpec)) linkingChoicesCard

/-- THE SECOND FORM's CARD OF 'examboardlaw05.SpanArithmetic'. -/
def spanArithmeticUptoCard : Claim7 := { stood := { row := spanArithmeticUptoRow, standIns := [], harness := (true, "a38ec50dcb05859f057d686093c4b193ba3f9bd10a75a846370e65ed64bdf0b1"), looks := false }, kinds := [], alts := [], laidByText := true, laidKinds := [.data, .data, .data], laidTests := true, laidLooks := .later }
def SpanArithmeticUptoCardSaid : Prop := Claim7.holds Tryz.pinned (.plain (OpenSpec.upto spanArithmeticSpec)) spanArithmeticUptoCard

/-- THE SECOND FORM's CARD OF 'examboardlaw45.LinkingBasics'. -/
def linkingBasicsUptoCard : Claim7 := { stood := { row := linkingBasicsUptoRow, standIns := [], harness := (true, "a38ec50dcb05859f057d686093c4b193ba3f9bd10a75a846370e65ed64bdf0b1"), looks := false }, kinds := [], alts := [], laidByText := true, laidKinds := [.data, .data, .data], laidTests := true, laidLooks := .later }
def LinkingBasicsUptoCardSaid : Prop := Claim7.holds Tryz.pinned (.plain (OpenSpec.upto linkingBasicsSpec)) linkingBasicsUptoCard

/-- THE SECOND FORM's CARD OF 'examboardlaw45.LinkingAnchors'. -/
def linkingAnchorsUptoCard : Claim7 := { stood := { row := linkingAnchorsUptoRow, standIns := [], harness := (true, "a38ec50dcb05859f057d686093c4b193ba3f9bd10a75a846370e65ed64bdf0b1"), looks := false }, kinds := [], alts := [], laidByText := true, laidKinds := [.data, .data, .data], laidTests := true, laidLooks := .later }
def LinkingAnchorsUptoCardSaid : Prop := Claim7.holds Tryz.pinned (.plain (OpenSpec.upto linkingAnchorsSpec)) linkingAnchorsUptoCard

/-- THE SECOND FORM's CARD OF 'examboardlaw45.LinkingChoices'. -/
def linkingChoicesUptoCard : Claim7 := { stood := { row := linkingChoicesUptoRow, standIns := [], harness := (true, "a38ec50dcb05859f057d686093c4b193ba3f9bd10a75a846370e65ed64bdf0b1"), looks := false }, kinds := [], alts := [], laidByText := true, laidKinds := [.data, .data, .data], laidTests := true, laidLooks := .later }
def LinkingChoicesUptoCardSaid : Prop := Claim7.holds Tryz.pinned (.plain (OpenSpec.upto linkingChoicesSpec)) linkingChoicesUptoCard
end Rows
end Go.Proofs.YtljmgdepldpmdaaGreatDoor
