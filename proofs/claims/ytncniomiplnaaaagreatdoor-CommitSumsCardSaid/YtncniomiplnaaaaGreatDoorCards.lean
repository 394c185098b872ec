/-
  DERIVED. GIVEN WITH THE SEED: THE CARDS: each row of YtncniomiplnaaaaGreatDoorRows.lean that lists a variable, with what it lists TIED to the program's text (the seventh form; the later family's looks); each row that meets fmt, with fmt's text TOLD by the authors' own Lean function (tested against real Go, not proved from fmt's source: count such statements apart). THE CARD IS WHAT COUNTS. Prove the row's statement (the work); the ties are given (YtncniomiplnaaaaGreatDoorTie.lean); close each card by the builder's one call (the guide's Derived/Test/ToyasCard.lean, 'card_holds'). Laid BY PROGRAM, IN A SANDBOX (cutbox-door.mjs). By AI agents, Wed Nov 11 2026. No macro, syntax, notation, axiom, sorry.
-/
import Derived.Test.YtncniomiplnaaaaGreatDoorRows
import GoSem.ClaimSeven
namespace Go.Proofs.YtncniomiplnaaaaGreatDoor
namespace Rows

/-- THE TIED CARD OF 'sluicewaylaw18.CommitDeals'. -/
def commitDealsCard : Claim7 := { stood := { row := commitDealsRow, standIns := [], harness := (true, "60d21c52b81a3a718e220ac9439e7cb197996b094b04d6cfab26aa8eb3dd8d49"), looks := true }, kinds := [], alts := [], laidByText := true, laidKinds := [.data, .data, .data, .sentinel, .sentinel], laidTests := true, laidLooks := .later }
def CommitDealsCardSaid : Prop := Claim7.holds Tryz.pinned (.plain (OpenSpec.ofChange commitDealsSpec)) commitDealsCard

/-- THE TIED CARD OF 'sluicewaylaw18.CommitBuilds'. -/
def commitBuildsCard : Claim7 := { stood := { row := commitBuildsRow, standIns := [], harness := (true, "60d21c52b81a3a718e220ac9439e7cb197996b094b04d6cfab26aa8eb3dd8d49"), looks := true }, kinds := [], alts := [], laidByText := true, laidKinds := [.data, .data, .data, .sentinel, .sentinel], laidTests := true, laidLooks := .later }
def CommitBuildsCardSaid : Prop := Claim7.holds Tryz.pinned (.plain (OpenSpec.ofChange commitBuildsSpec)) commitBuildsCard

/-- THE TIED CARD OF 'sluicewaylaw18.CommitLocks'. -/
def commitLocksCard : Claim7 := { stood := { row := commitLocksRow, standIns := [], harness := (true, "60d21c52b81a3a718e220ac9439e7cb197996b094b04d6cfab26aa8eb3dd8d49"), looks := true }, kinds := [], alts := [], laidByText := true, laidKinds := [.data, .data, .data, .sentinel, .sentinel], laidTests := true, laidLooks := .later }
def CommitLocksCardSaid : Prop := Claim7.holds Tryz.pinned (.plain (OpenSpec.ofChange commitLocksSpec)) commitLocksCard

/-- THE TIED CARD OF 'sluicewaylaw18.CommitSums'. -/
def commitSumsCard : Claim7 := { stood := { row := commitSumsRow, standIns := [], harness := (true, "60d21c52b81a3a718e220ac9439e7cb197996b094b04d6cfab26aa8eb3dd8d49"), looks := true }, kinds := [], alts := [], laidByText := true, laidKinds := [.data, .data, .data, .sentinel, .sentinel], laidTests := true, laidLooks := .later }
def CommitSumsCardSaid : Prop := Claim7.holds Tryz.pinned (.plain (OpenSpec.ofChange commitSumsSpec)) commitSumsCard

/-- THE TIED CARD OF 'sluicewaylaw18.CommitCloses'. -/
def commitClosesCard : Claim7 := { stood := { row := commitClosesRow, standIns := [], harness := (true, "60d21c52b81a3a718e220ac9439e7cb197996b094b04d6cfab26aa8eb3dd8d49"), looks := true }, kinds := [], alts := [], laidByText := true, laidKinds := [.data, .data, .data, .sentinel, .sentinel], laidTests := true, laidLooks := .later }
def CommitClosesCardSaid : Prop := Claim7.holds Tryz.pinned (.plain (OpenSpec.ofChange commitClosesSpec)) commitClosesCard

/-- THE SECOND FORM's CARD OF 'sluicewaylaw18.CommitDeals'. -/
def commitDealsUptoCard : Claim7 := { stood := { row := commitDealsUptoRow, standIns := [], harness := (true, "60d21c52b81a3a718e220ac9439e7cb197996b094b04d6cfab26aa8eb3dd8d49"), looks := true }, kinds := [], alts := [], laidByText := true, laidKinds := [.data, .data, .data, .sentinel, .sentinel], laidTests := true, laidLooks := .later }
def CommitDealsUptoCardSaid : Prop := Claim7.holds Tryz.pinned (.plain (OpenSpec.upto commitDealsSpec)) commitDealsUptoCard

/-- THE SECOND FORM's CARD OF 'sluicewaylaw18.CommitBuilds'. -/
def commitBuildsUptoCard : Claim7 := { stood := { row := commitBuildsUptoRow, standIns := [], harness := (true, "60d21c52b81a3a718e220ac9439e7cb197996b094b04d6cfab26aa8eb3dd8d49"), looks := true }, kinds := [], alts := [], laidByText := true, laidKinds := [.data, .data, .data, .sentinel, .sentinel], laidTests := true, laidLooks := .later }
def CommitBuildsUptoCardSaid : Prop := Claim7.holds Tryz.pinned (.plain (OpenSpec.upto commitBuildsSpec)) commitBuildsUptoCard

/-- THE SECOND FORM's CARD OF 'sluicewaylaw18.CommitLocks'. -/
def commitLocksUptoCard : Claim7 := { stood := { row := commitLocksUptoRow, standIns := [], harness := (true, "60d21c52b81a3a718e220ac9439e7cb197996b094b04d6cfab26aa8eb3dd8d49"), looks := true }, kinds := [], alts := [], laidByText := true, laidKinds := [.data, .data, .data, .sentinel, .sentinel], laidTests := true, laidLooks := .later }
def CommitLocksUptoCardSaid : Prop := Claim7.holds Tryz.pinned (.plain (OpenSpec.upto commitLocksSpec)) commitLocksUptoCard

/-- THE SECOND FORM's CARD OF 'sluicewaylaw18.CommitSums'. -/
def commitSumsUptoCard : Claim7 := { stood := { row := commitSumsUptoRow, standIns := [], harness := (true, "60d21c52b81a3a718e220ac9439e7cb197996b094b04d6cfab26aa8eb3dd8d49"), looks := true }, kinds := [], alts := [], laidByText := true, laidKinds := [.data, .data, .data, .sentinel, .sentinel], laidTests := true, laidLooks := .later }
def CommitSumsUptoCardSaid : Prop := Claim7.holds Tryz.pinned (.plain (OpenSpec.upto commitSumsSpec)) commitSumsUptoCard

/-- THE SECOND FORM's CARD OF 'sluicewaylaw18.CommitCloses'. -/
def commitClosesUptoCard : Claim7 := { stood := { row := commitClosesUptoRow, standIns := [], harness := (true, "60d21c52b81a3a718e220ac9439e7cb197996b094b04d6cfab26aa8eb3dd8d49"), looks := true }, kinds := [], alts := [], laidByText := true, laidKinds := [.data, .data, .data, .sentinel, .sentinel], laidTests := true, laidLooks := .later }
def CommitClosesUptoCardSaid : Prop := Claim7.holds Tryz.pinned (.plain (OpenSpec.upto commitClosesSpec)) commitClosesUptoCard
end Rows
end Go.Proofs.YtncniomiplnaaaaGreatDoor
