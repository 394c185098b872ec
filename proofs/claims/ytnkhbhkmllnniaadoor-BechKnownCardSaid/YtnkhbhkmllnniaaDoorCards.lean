/-
  DERIVED. GIVEN WITH THE SEED: THE CARDS: each row of YtnkhbhkmllnniaaDoorRows.lean that lists a variable, with what it lists TIED to the program's text (the seventh form; the later family's looks); each row that meets fmt, with fmt's text TOLD by the authors' own Lean function (tested against real Go, not proved from fmt's source: count such statements apart). THE CARD IS WHAT COUNTS. Prove the row's statement (the work); the ties are given (YtnkhbhkmllnniaaDoorTie.lean); close each card by the builder's one call (the guide's Derived/Test/ToyasCard.lean, 'card_holds'). Laid BY PROGRAM, IN A SANDBOX (cutbox-door.mjs). By AI agents, Wed Nov 11 2026. No macro, syntax, notation, axiom, sorry.
-/
import Derived.Test.YtnkhbhkmllnniaaDoorRows
import GoSem.ClaimSeven
namespace Go.Proofs.YtnkhbhkmllnniaaDoor
namespace Rows

/-- THE TIED CARD OF 'sluicewaylaw06.BechWrites'. -/
def bechWritesCard : Claim7 := { stood := { row := bechWritesRow, standIns := [], harness := (true, "af06426387d8eae67bfb772a87ae5a620e1a15562d28c9c7176844f079e4827d"), looks := false }, kinds := [], alts := [], laidByText := true, laidKinds := [.data, .pinned, .pinned], laidTests := true, laidLooks := .later }
def BechWritesCardSaid : Prop := Claim7.holds Tryd.pinned (.plain (OpenSpec.ofChange bechWritesSpec)) bechWritesCard

/-- THE TIED CARD OF 'sluicewaylaw06.BechReads'. -/
def bechReadsCard : Claim7 := { stood := { row := bechReadsRow, standIns := [], harness := (true, "af06426387d8eae67bfb772a87ae5a620e1a15562d28c9c7176844f079e4827d"), looks := false }, kinds := [], alts := [], laidByText := true, laidKinds := [.data, .pinned, .pinned], laidTests := true, laidLooks := .later }
def BechReadsCardSaid : Prop := Claim7.holds Tryd.pinned (.plain (OpenSpec.ofChange bechReadsSpec)) bechReadsCard

/-- THE TIED CARD OF 'sluicewaylaw06.BechOne'. -/
def bechOneCard : Claim7 := { stood := { row := bechOneRow, standIns := [], harness := (true, "af06426387d8eae67bfb772a87ae5a620e1a15562d28c9c7176844f079e4827d"), looks := false }, kinds := [], alts := [], laidByText := true, laidKinds := [.data, .pinned, .pinned], laidTests := true, laidLooks := .later }
def BechOneCardSaid : Prop := Claim7.holds Tryd.pinned (.plain (OpenSpec.ofChange bechOneSpec)) bechOneCard

/-- THE TIED CARD OF 'sluicewaylaw06.BechBits'. -/
def bechBitsCard : Claim7 := { stood := { row := bechBitsRow, standIns := [], harness := (true, "af06426387d8eae67bfb772a87ae5a620e1a15562d28c9c7176844f079e4827d"), looks := false }, kinds := [], alts := [], laidByText := true, laidKinds := [.data, .pinned, .pinned], laidTests := true, laidLooks := .later }
def BechBitsCardSaid : Prop := Claim7.holds Tryd.pinned (.plain (OpenSpec.ofChange bechBitsSpec)) bechBitsCard

/-- THE TIED CARD OF 'sluicewaylaw06.BechBack'. -/
def bechBackCard : Claim7 := { stood := { row := bechBackRow, standIns := [], harness := (true, "af06426387d8eae67bfb772a87ae5a620e1a15562d28c9c7176844f079e4827d"), looks := false }, kinds := [], alts := [], laidByText := true, laidKinds := [.data, .pinned, .pinned], laidTests := true, laidLooks := .later }
def BechBackCardSaid : Prop := Claim7.holds Tryd.pinned (.plain (OpenSpec.ofChange bechBackSpec)) bechBackCard

/-- THE TIED CARD OF 'sluicewaylaw06.BechKnown'. -/
def bechKnownCard : Claim7 := { stood := { row := bechKnownRow, standIns := [], harness := (true, "af06426387d8eae67bfb772a87ae5a620e1a15562d28c9c7176844f079e4827d"), looks := false }, kinds := [], alts := [], laidByText := true, laidKinds := [.data, .pinned, .pinned], laidTests := true, laidLooks := .later }
def BechKnownCardSaid : Prop := Claim7.holds Tryd.pinned (.plain (OpenSpec.ofChange bechKnownSpec)) bechKnownCard

/-- THE SECOND FORM's CARD OF 'sluicewaylaw06.BechWrites'. -/
def bechWritesUptoCard : Claim7 := { stood := { row := bechWritesUptoRow, standIns := [], harness := (true, "af06426387d8eae67bfb772a87ae5a620e1a15562d28c9c7176844f079e4827d"), looks := false }, kinds := [], alts := [], laidByText := true, laidKinds := [.data, .pinned, .pinned], laidTests := true, laidLooks := .later }
def BechWritesUptoCardSaid : Prop := Claim7.holds Tryd.pinned (.plain (OpenSpec.upto bechWritesSpec)) bechWritesUptoCard

/-- THE SECOND FORM's CARD OF 'sluicewaylaw06.BechReads'. -/
def bechReadsUptoCard : Claim7 := { stood := { row := bechReadsUptoRow, standIns := [], harness := (true, "af06426387d8eae67bfb772a87ae5a620e1a15562d28c9c7176844f079e4827d"), looks := false }, kinds := [], alts := [], laidByText := true, laidKinds := [.data, .pinned, .pinned], laidTests := true, laidLooks := .later }
def BechReadsUptoCardSaid : Prop := Claim7.holds Tryd.pinned (.plain (OpenSpec.upto bechReadsSpec)) bechReadsUptoCard

/-- THE SECOND FORM's CARD OF 'sluicewaylaw06.BechOne'. -/
def bechOneUptoCard : Claim7 := { stood := { row := bechOneUptoRow, standIns := [], harness := (true, "af06426387d8eae67bfb772a87ae5a620e1a15562d28c9c7176844f079e4827d"), looks := false }, kinds := [], alts := [], laidByText := true, laidKinds := [.data, .pinned, .pinned], laidTests := true, laidLooks := .later }
def BechOneUptoCardSaid : Prop := Claim7.holds Tryd.pinned (.plain (OpenSpec.upto bechOneSpec)) bechOneUptoCard

/-- THE SECOND FORM's CARD OF 'sluicewaylaw06.BechBits'. -/
def bechBitsUptoCard : Claim7 := { stood := { row := bechBitsUptoRow, standIns := [], harness := (true, "af06426387d8eae67bfb772a87ae5a620e1a15562d28c9c7176844f079e4827d"), looks := false }, kinds := [], alts := [], laidByText := true, laidKinds := [.data, .pinned, .pinned], laidTests := true, laidLooks := .later }
def BechBitsUptoCardSaid : Prop := Claim7.holds Tryd.pinned (.plain (OpenSpec.upto bechBitsSpec)) bechBitsUptoCard

/-- THE SECOND FORM's CARD OF 'sluicewaylaw06.BechBack'. -/
def bechBackUptoCard : Claim7 := { stood := { row := bechBackUptoRow, standIns := [], harness := (true, "af06426387d8eae67bfb772a87ae5a620e1a15562d28c9c7176844f079e4827d"), looks := false }, kinds := [], alts := [], laidByText := true, laidKinds := [.data, .pinned, .pinned], laidTests := true, laidLooks := .later }
def BechBackUptoCardSaid : Prop := Claim7.holds Tryd.pinned (.plain (OpenSpec.upto bechBackSpec)) bechBackUptoCard

/-- THE SECOND FORM's CARD OF 'sluicewaylaw06.BechKnown'. -/
def bechKnownUptoCard : Claim7 := { stood := { row := bechKnownUptoRow, standIns := [], harness := (true, "af06426387d8eae67bfb772a87ae5a620e1a15562d28c9c7176844f079e4827d"), looks := false }, kinds := [], alts := [], laidByText := true, laidKinds := [.data, .pinned, .pinned], laidTests := true, laidLooks := .later }
def BechKnownUptoCardSaid : Prop := Claim7.holds Tryd.pinned (.plain (OpenSpec.upto bechKnownSpec)) bechKnownUptoCard
end Rows
end Go.Proofs.YtnkhbhkmllnniaaDoor
