/-
  No cell of these rows narrows 'for every input' (looked for: loops, veiled, ifaces, maps, wideKeys, modest, calm, conditions, laid).
  DERIVED. THE GIVEN ROWS OF THIS SEAT. 5 by the template 'for every input the law returns true; each argument reads behind the call as it read before'; 0 by the template 'total and deterministic' (their statements: YtmlcojhanimnpaaTotals.lean).
  GIVEN WITH THE SEED: the statements are not yours to turn. If you find one false, say at which input.
  Laid BY PROGRAM, IN A SANDBOX (cutbox-rows.mjs): the forced cells as the released guide's own fill.sh prints them over the translation 8f20f60d0f0c7b08… (all of the seat's roots in one cut). By AI agents, Wed Nov 11 2026. No macro, syntax, notation, axiom, sorry.
-/
import Derived.Test.YtmlcojhanimnpaaChecked
import GoSem.Claim
import GoSem.ClaimJoined
import GoSem.ClaimMapViews
import Derived.JoinedTies
import Derived.KernelRfl
namespace Go.Proofs.Ytmlcojhanimnpaa
/- THE CELL 'sum', in the pinned program and in every row, IS THE sha256 OF THE DUMP (.gsa) THAT YtmlcojhanimnpaaProg.lean LOADS. Nothing in Lean hashes anything: it is a label: what it is worth is what the hold of that sum in a sandbox is worth. -/
noncomputable def Try.pinned : Pinned := { name := "ytmlcojhanimnpaa", sum := "8f20f60d0f0c7b08b4ac838870333530bad3a8da7475021ee83b76a393625ce6", checked := Try.checked }
namespace Rows
def none {H : Type} : Left H := { results := [], args := [] }

/-- 'sluicewaylaw30.IdealSettles': WHATEVER THE INPUT: true; the input reads as it did. -/
def idealSettlesSpec : ChangeSpec := { name := "idealSettles", fn := fun _ => fun
  | [d1, d2] => { results := [.lit (.bool true)], args := [d1, d2] }
  | _ => none }
def idealSettlesRow : OpenClaim := { program := "ytmlcojhanimnpaa", sum := "8f20f60d0f0c7b08b4ac838870333530bad3a8da7475021ee83b76a393625ce6", func := "sluiceway/sluicewaylaw30.IdealSettles", spec := "idealSettles", inPlace := ["maps.clone"], unfollowed := true, recurses := true, apart := false }
def IdealSettlesSaid : Prop := idealSettlesRow.holds Try.pinned (OpenSpec.ofChange idealSettlesSpec)

/-- ITS FALSE NEIGHBOUR: 'it returns false'. Refute it at one input. -/
def idealSettlesWrong : ChangeSpec := { name := "idealSettles", fn := fun _ => fun
  | [d1, d2] => { results := [.lit (.bool false)], args := [d1, d2] }
  | _ => none }
def IdealSettlesWrongFalsely : Prop := idealSettlesRow.holds Try.pinned (OpenSpec.ofChange idealSettlesWrong)

/-- 'sluicewaylaw30.IdealSums': WHATEVER THE INPUT: true; the input reads as it did. -/
def idealSumsSpec : ChangeSpec := { name := "idealSums", fn := fun _ => fun
  | [d] => { results := [.lit (.bool true)], args := [d] }
  | _ => none }
def idealSumsRow : OpenClaim := { program := "ytmlcojhanimnpaa", sum := "8f20f60d0f0c7b08b4ac838870333530bad3a8da7475021ee83b76a393625ce6", func := "sluiceway/sluicewaylaw30.IdealSums", spec := "idealSums", inPlace := ["maps.clone"], unfollowed := true, recurses := true, apart := false }
def IdealSumsSaid : Prop := idealSumsRow.holds Try.pinned (OpenSpec.ofChange idealSumsSpec)

/-- ITS FALSE NEIGHBOUR: 'it returns false'. Refute it at one input. -/
def idealSumsWrong : ChangeSpec := { name := "idealSums", fn := fun _ => fun
  | [d] => { results := [.lit (.bool false)], args := [d] }
  | _ => none }
def IdealSumsWrongFalsely : Prop := idealSumsRow.holds Try.pinned (OpenSpec.ofChange idealSumsWrong)

/-- 'sluicewaylaw30.IdealPlays': WHATEVER THE INPUT: true; the input reads as it did. -/
def idealPlaysSpec : ChangeSpec := { name := "idealPlays", fn := fun _ => fun
  | [d] => { results := [.lit (.bool true)], args := [d] }
  | _ => none }
def idealPlaysRow : OpenClaim := { program := "ytmlcojhanimnpaa", sum := "8f20f60d0f0c7b08b4ac838870333530bad3a8da7475021ee83b76a393625ce6", func := "sluiceway/sluicewaylaw30.IdealPlays", spec := "idealPlays", inPlace := ["maps.clone"], unfollowed := true, recurses := true, apart := false }
def IdealPlaysSaid : Prop := idealPlaysRow.holds Try.pinned (OpenSpec.ofChange idealPlaysSpec)

/-- ITS FALSE NEIGHBOUR: 'it returns false'. Refute it at one input. -/
def idealPlaysWrong : ChangeSpec := { name := "idealPlays", fn := fun _ => fun
  | [d] => { results := [.lit (.bool false)], args := [d] }
  | _ => none }
def IdealPlaysWrongFalsely : Prop := idealPlaysRow.holds Try.pinned (OpenSpec.ofChange idealPlaysWrong)

/-- 'sluicewaylaw30.IdealFails': WHATEVER THE INPUT: true; the input reads as it did. -/
def idealFailsSpec : ChangeSpec := { name := "idealFails", fn := fun _ => fun
  | [d1, d2] => { results := [.lit (.bool true)], args := [d1, d2] }
  | _ => none }
def idealFailsRow : OpenClaim := { program := "ytmlcojhanimnpaa", sum := "8f20f60d0f0c7b08b4ac838870333530bad3a8da7475021ee83b76a393625ce6", func := "sluiceway/sluicewaylaw30.IdealFails", spec := "idealFails", inPlace := ["maps.clone"], unfollowed := true, recurses := true, apart := false }
def IdealFailsSaid : Prop := idealFailsRow.holds Try.pinned (OpenSpec.ofChange idealFailsSpec)

/-- ITS FALSE NEIGHBOUR: 'it returns false'. Refute it at one input. -/
def idealFailsWrong : ChangeSpec := { name := "idealFails", fn := fun _ => fun
  | [d1, d2] => { results := [.lit (.bool false)], args := [d1, d2] }
  | _ => none }
def IdealFailsWrongFalsely : Prop := idealFailsRow.holds Try.pinned (OpenSpec.ofChange idealFailsWrong)

/-- 'sluicewaylaw30.IdealKnown': WHATEVER THE INPUT: true; the input reads as it did. -/
def idealKnownSpec : ChangeSpec := { name := "idealKnown", fn := fun _ => fun
  | [] => { results := [.lit (.bool true)], args := [] }
  | _ => none }
def idealKnownRow : OpenClaim := { program := "ytmlcojhanimnpaa", sum := "8f20f60d0f0c7b08b4ac838870333530bad3a8da7475021ee83b76a393625ce6", func := "sluiceway/sluicewaylaw30.IdealKnown", spec := "idealKnown", inPlace := ["maps.clone"], unfollowed := true, recurses := true, apart := false }
def IdealKnownSaid : Prop := idealKnownRow.holds Try.pinned (OpenSpec.ofChange idealKnownSpec)

/-- ITS FALSE NEIGHBOUR: 'it returns false'. Refute it at one input. -/
def idealKnownWrong : ChangeSpec := { name := "idealKnown", fn := fun _ => fun
  | [] => { results := [.lit (.bool false)], args := [] }
  | _ => none }
def IdealKnownWrongFalsely : Prop := idealKnownRow.holds Try.pinned (OpenSpec.ofChange idealKnownWrong)

/- THE SECOND FORM. 'bulk': how many values and letters a reading holds, each counted each time it is reached (what is shared counts as often as it is met; a slice's spare places count too). A statement '..UptoSaid' is the law's where the arguments, and the package variables that the reading takes, are together of bulk at most 1048576: NARROWER than '..Said'. Prove '..Said' where nothing that the law and all that it calls make is longer than what came in: it says more and counts as full. Else prove '..UptoSaid'. A law counts once. -/
mutual
def uptoBulk {H : Type} : DataW H → Nat
  | .lit (.string bytes) => bytes.length + 1
  | .lit _ => 1
  | .nil => 1
  | .ptr d => uptoBulk d + 1
  | .slice elems spare => uptoBulkAll elems + uptoBulkAll spare + 1
  | .agg parts => uptoBulkAll parts + 1
  | .iface _ d => uptoBulk d + 1
  | .map entries => uptoBulkEntries entries + 1
  | .held _ => 1
def uptoBulkAll {H : Type} : List (DataW H) → Nat
  | [] => 0
  | d :: r => uptoBulk d + uptoBulkAll r
def uptoBulkEntries {H : Type} : List (Lit × DataW H) → Nat
  | [] => 0
  | x :: r => uptoBulkEntry x + uptoBulkEntries r
def uptoBulkEntry {H : Type} : Lit × DataW H → Nat
  | (.string bytes, d) => bytes.length + uptoBulk d + 1
  | (_, d) => uptoBulk d + 1
 end
def uptoSmall : (H : Type) → List (DataW H) → Bool := fun _ ds => decide (uptoBulkAll ds ≤ 1048576)
def OpenSpec.upto (s : _root_.Go.ChangeSpec) : _root_.Go.OpenSpec := { _root_.Go.OpenSpec.ofChange s with cond := some uptoSmall }

/-- 'sluicewaylaw30.IdealSettles', WHERE WHAT IT READS IS OF BULK AT MOST 1048576: true; the input reads as it did. -/
def idealSettlesUptoRow : OpenClaim := { program := "ytmlcojhanimnpaa", sum := "8f20f60d0f0c7b08b4ac838870333530bad3a8da7475021ee83b76a393625ce6", func := "sluiceway/sluicewaylaw30.IdealSettles", spec := "idealSettles", inPlace := ["maps.clone"], unfollowed := true, recurses := true, apart := false, narrowed := true }
def IdealSettlesUptoSaid : Prop := idealSettlesUptoRow.holds Try.pinned (OpenSpec.upto idealSettlesSpec)

/-- 'sluicewaylaw30.IdealSums', WHERE WHAT IT READS IS OF BULK AT MOST 1048576: true; the input reads as it did. -/
def idealSumsUptoRow : OpenClaim := { program := "ytmlcojhanimnpaa", sum := "8f20f60d0f0c7b08b4ac838870333530bad3a8da7475021ee83b76a393625ce6", func := "sluiceway/sluicewaylaw30.IdealSums", spec := "idealSums", inPlace := ["maps.clone"], unfollowed := true, recurses := true, apart := false, narrowed := true }
def IdealSumsUptoSaid : Prop := idealSumsUptoRow.holds Try.pinned (OpenSpec.upto idealSumsSpec)

/-- 'sluicewaylaw30.IdealPlays', WHERE WHAT IT READS IS OF BULK AT MOST 1048576: true; the input reads as it did. -/
def idealPlaysUptoRow : OpenClaim := { program := "ytmlcojhanimnpaa", sum := "8f20f60d0f0c7b08b4ac838870333530bad3a8da7475021ee83b76a393625ce6", func := "sluiceway/sluicewaylaw30.IdealPlays", spec := "idealPlays", inPlace := ["maps.clone"], unfollowed := true, recurses := true, apart := false, narrowed := true }
def IdealPlaysUptoSaid : Prop := idealPlaysUptoRow.holds Try.pinned (OpenSpec.upto idealPlaysSpec)

/-- 'sluicewaylaw30.IdealFails', WHERE WHAT IT READS IS OF BULK AT MOST 1048576: true; the input reads as it did. -/
def idealFailsUptoRow : OpenClaim := { program := "ytmlcojhanimnpaa", sum := "8f20f60d0f0c7b08b4ac838870333530bad3a8da7475021ee83b76a393625ce6", func := "sluiceway/sluicewaylaw30.IdealFails", spec := "idealFails", inPlace := ["maps.clone"], unfollowed := true, recurses := true, apart := false, narrowed := true }
def IdealFailsUptoSaid : Prop := idealFailsUptoRow.holds Try.pinned (OpenSpec.upto idealFailsSpec)

/-- 'sluicewaylaw30.IdealKnown', WHERE WHAT IT READS IS OF BULK AT MOST 1048576: true; the input reads as it did. -/
def idealKnownUptoRow : OpenClaim := { program := "ytmlcojhanimnpaa", sum := "8f20f60d0f0c7b08b4ac838870333530bad3a8da7475021ee83b76a393625ce6", func := "sluiceway/sluicewaylaw30.IdealKnown", spec := "idealKnown", inPlace := ["maps.clone"], unfollowed := true, recurses := true, apart := false, narrowed := true }
def IdealKnownUptoSaid : Prop := idealKnownUptoRow.holds Try.pinned (OpenSpec.upto idealKnownSpec)

end Rows
end Go.Proofs.Ytmlcojhanimnpaa
