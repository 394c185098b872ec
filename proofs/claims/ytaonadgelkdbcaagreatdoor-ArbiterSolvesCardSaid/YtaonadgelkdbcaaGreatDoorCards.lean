/-
  DERIVED. GIVEN WITH THE SEED: THE CARDS: each row of YtaonadgelkdbcaaGreatDoorRows.lean that lists a variable, with what it lists TIED to the program's text (the seventh form; the later family's looks); each row that meets fmt, with fmt's text TOLD by the authors' own Lean function (tested against real Go, not proved from fmt's source: count such statements apart). THE CARD IS WHAT COUNTS. Prove the row's statement (the work); the ties are given (YtaonadgelkdbcaaGreatDoorTie.lean); close each card by the builder's one call (the guide's Derived/Test/ToyasCard.lean, 'card_holds'). Laid BY PROGRAM, IN A SANDBOX (cutbox-door.mjs). By AI agents, Wed Nov 11 2026. No macro, syntax, notation, axiom, sorry.
-/
import Derived.Test.YtaonadgelkdbcaaGreatDoorRows
import GoSem.ClaimSeven
namespace Go.Proofs.YtaonadgelkdbcaaGreatDoor
namespace Rows

/-- THE TIED CARD OF 'sluicewaylaw27.ArbiterSolves'. -/
def arbiterSolvesCard : Claim7 := { stood := { row := arbiterSolvesRow, standIns := [], harness := (true, "6c0fe282a1cd9d954171e2047f4ba72a6b0e408f25fbf5dca3f2b7b8c7195554"), looks := true }, kinds := [], alts := [], laidByText := true, laidKinds := [.data, .data, .data, .sentinel, .sentinel], laidTests := true, laidLooks := .later }
def ArbiterSolvesCardSaid : Prop := Claim7.holds Tryz.pinned (.plain (OpenSpec.ofChange arbiterSolvesSpec)) arbiterSolvesCard

/-- THE TIED CARD OF 'sluicewaylaw27.ArbiterKeys'. -/
def arbiterKeysCard : Claim7 := { stood := { row := arbiterKeysRow, standIns := [], harness := (true, "6c0fe282a1cd9d954171e2047f4ba72a6b0e408f25fbf5dca3f2b7b8c7195554"), looks := true }, kinds := [], alts := [], laidByText := true, laidKinds := [.data, .data, .data, .sentinel, .sentinel], laidTests := true, laidLooks := .later }
def ArbiterKeysCardSaid : Prop := Claim7.holds Tryz.pinned (.plain (OpenSpec.ofChange arbiterKeysSpec)) arbiterKeysCard

/-- THE SECOND FORM's CARD OF 'sluicewaylaw27.ArbiterSolves'. -/
def arbiterSolvesUptoCard : Claim7 := { stood := { row := arbiterSolvesUptoRow, standIns := [], harness := (true, "6c0fe282a1cd9d954171e2047f4ba72a6b0e408f25fbf5dca3f2b7b8c7195554"), looks := true }, kinds := [], alts := [], laidByText := true, laidKinds := [.data, .data, .data, .sentinel, .sentinel], laidTests := true, laidLooks := .later }
def ArbiterSolvesUptoCardSaid : Prop := Claim7.holds Tryz.pinned (.plain (OpenSpec.upto arbiterSolvesSpec)) arbiterSolvesUptoCard

/-- THE SECOND FORM's CARD OF 'sluicewaylaw27.ArbiterKeys'. -/
def arbiterKeysUptoCard : Claim7 := { stood := { row := arbiterKeysUptoRow, standIns := [], harness := (true, "6c0fe282a1cd9d954171e2047f4ba72a6b0e408f25fbf5dca3f2b7b8c7195554"), looks := true }, kinds := [], alts := [], laidByText := true, laidKinds := [.data, .data, .data, .sentinel, .sentinel], laidTests := true, laidLooks := .later }
def ArbiterKeysUptoCardSaid : Prop := Claim7.holds Tryz.pinned (.plain (OpenSpec.upto arbiterKeysSpec)) arbiterKeysUptoCard
end Rows
end Go.Proofs.YtaonadgelkdbcaaGreatDoor
