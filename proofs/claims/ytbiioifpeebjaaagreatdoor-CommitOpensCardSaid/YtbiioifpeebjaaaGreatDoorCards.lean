/-
  DERIVED. GIVEN WITH THE SEED: THE CARDS: each row of YtbiioifpeebjaaaGreatDoorRows.lean that lists a variable, with what it lists TIED to the program's text (the seventh form; the later family's looks); each row that meets fmt, with fmt's text TOLD by the authors' own Lean function (tested against real Go, not proved from fmt's source: count such statements apart). THE CARD IS WHAT COUNTS. Prove the row's statement (the work); the ties are given (YtbiioifpeebjaaaGreatDoorTie.lean); close each card by the builder's one call (the guide's Derived/Test/ToyasCard.lean, 'card_holds'). Laid BY PROGRAM, IN A SANDBOX (cutbox-door.mjs). By AI agents, Wed Nov 11 2026. No macro, syntax, notation, axiom, sorry.
-/
import Derived.Test.YtbiioifpeebjaaaGreatDoorRows
import GoSem.ClaimSeven
namespace Go.Proofs.YtbiioifpeebjaaaGreatDoor
namespace Rows

/-- THE TIED CARD OF 'sluicewaylaw18.CommitOpens'. -/
def commitOpensCard : Claim7 := { stood := { row := commitOpensRow, standIns := [], harness := (true, "eeb03592beb7a2cd784ab65a08934267cb3892e80629e5c02bc78afba6b39421"), looks := true }, kinds := [], alts := [], laidByText := true, laidKinds := [.data, .data, .data, .sentinel, .sentinel], laidTests := true, laidLooks := .later }
def CommitOpensCardSaid : Prop := Claim7.holds Tryz.pinned (.plain (OpenSpec.ofChange commitOpensSpec)) commitOpensCard

/-- THE SECOND FORM's CARD OF 'sluicewaylaw18.CommitOpens'. -/
def commitOpensUptoCard : Claim7 := { stood := { row := commitOpensUptoRow, standIns := [], harness := (true, "eeb03592beb7a2cd784ab65a08934267cb3892e80629e5c02bc78afba6b39421"), looks := true }, kinds := [], alts := [], laidByText := true, laidKinds := [.data, .data, .data, .sentinel, .sentinel], laidTests := true, laidLooks := .later }
def CommitOpensUptoCardSaid : Prop := Claim7.holds Tryz.pinned (.plain (OpenSpec.upto commitOpensSpec)) commitOpensUptoCard
end Rows
end Go.Proofs.YtbiioifpeebjaaaGreatDoor
