/-
  DERIVED. GIVEN WITH THE SEED: THE CARDS: each row of YtaonadgelkdbcaaDoorRows.lean that lists a variable, with what it lists TIED to the program's text (the seventh form; the later family's looks); each row that meets fmt, with fmt's text TOLD by the authors' own Lean function (tested against real Go, not proved from fmt's source: count such statements apart). THE CARD IS WHAT COUNTS. Prove the row's statement (the work); the ties are given (YtaonadgelkdbcaaDoorTie.lean); close each card by the builder's one call (the guide's Derived/Test/ToyasCard.lean, 'card_holds'). Laid BY PROGRAM, IN A SANDBOX (cutbox-door.mjs). By AI agents, Wed Nov 11 2026. No macro, syntax, notation, axiom, sorry.
-/
import Derived.Test.YtaonadgelkdbcaaDoorRows
import GoSem.ClaimSeven
namespace Go.Proofs.YtaonadgelkdbcaaDoor
namespace Rows

/-- THE TIED CARD OF 'sluicewaylaw27.ArbiterLate'. -/
def arbiterLateCard : Claim7 := { stood := { row := arbiterLateRow, standIns := [], harness := (true, "77a2a14d9461cd2748be34e8c5032cea2d8473aab38f00d6b3d0fa2e764b96ae"), looks := true }, kinds := [], alts := [], laidByText := true, laidKinds := [.data, .data, .data, .sentinel, .sentinel], laidTests := true, laidLooks := .later }
def ArbiterLateCardSaid : Prop := Claim7.holds Tryd.pinned (.plain (OpenSpec.ofChange arbiterLateSpec)) arbiterLateCard

/-- THE SECOND FORM's CARD OF 'sluicewaylaw27.ArbiterLate'. -/
def arbiterLateUptoCard : Claim7 := { stood := { row := arbiterLateUptoRow, standIns := [], harness := (true, "77a2a14d9461cd2748be34e8c5032cea2d8473aab38f00d6b3d0fa2e764b96ae"), looks := true }, kinds := [], alts := [], laidByText := true, laidKinds := [.data, .data, .data, .sentinel, .sentinel], laidTests := true, laidLooks := .later }
def ArbiterLateUptoCardSaid : Prop := Claim7.holds Tryd.pinned (.plain (OpenSpec.upto arbiterLateSpec)) arbiterLateUptoCard
end Rows
end Go.Proofs.YtaonadgelkdbcaaDoor
