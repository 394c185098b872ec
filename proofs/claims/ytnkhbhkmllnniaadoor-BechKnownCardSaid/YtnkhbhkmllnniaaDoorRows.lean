/-
  NARROWER THAN 'FOR EVERY INPUT', by the rows' own cells (each row's printed sentence says how): BechWrites: laid · BechReads: laid · BechOne: laid · BechBits: laid · BechBack: laid · BechKnown: laid.
  DERIVED. THE GIVEN ROWS OF THIS SEAT. 6 by the template 'for every input the law returns true; each argument reads behind the call as it read before'; 0 by the template 'total and deterministic' (their statements: YtnkhbhkmllnniaaDoorTotals.lean).
  GIVEN WITH THE SEED: the statements are not yours to turn. If you find one false, say at which input.
  Laid BY PROGRAM, IN A SANDBOX (cutbox-rows.mjs): the forced cells as the released guide's own fill.sh prints them over the translation db0d92a72cbd54f6… (all of the seat's roots in one cut). By AI agents, Wed Nov 11 2026. No macro, syntax, notation, axiom, sorry.
-/
import Derived.Test.YtnkhbhkmllnniaaDoorChecked
import GoSem.PinnedTables
import GoSem.Claim
import GoSem.ClaimJoined
import GoSem.ClaimMapViews
import Derived.JoinedTies
import Derived.KernelRfl
namespace Go.Proofs.YtnkhbhkmllnniaaDoor
/- THE CELL 'sum', in the pinned program and in every row, IS THE sha256 OF THE DUMP (.gsa) THAT YtnkhbhkmllnniaaDoorProg.lean LOADS. Nothing in Lean hashes anything: it is a label: what it is worth is what the hold of that sum in a sandbox is worth. -/
noncomputable def Tryd.pinned : Pinned := { name := "ytnkhbhkmllnniaadoor", sum := "db0d92a72cbd54f62994c1e827c1db846af6bd1de4b1e6a5d1f3d1b7885e2a26", checked := Tryd.checked }
namespace Rows
def none {H : Type} : Left H := { results := [], args := [] }

/- WHAT THE LISTED PACKAGE-LEVEL VARIABLES READ AS WHEN THE CALL BEGINS. Each datum BY PROGRAM (the guide's laid-datum.mjs) off the statement by which the dump's own 'gosem.cut.vars' lays the variable. In a bare row this is a premise. The card (YtnkhbhkmllnniaaDoorCards.lean) ties it to the program's text. -/
def laid_unicode_utf8_acceptRanges {H : Type} : DataW H := .agg [.agg [.lit (.int .u8 128), .lit (.int .u8 191)], .agg [.lit (.int .u8 160), .lit (.int .u8 191)], .agg [.lit (.int .u8 128), .lit (.int .u8 159)], .agg [.lit (.int .u8 144), .lit (.int .u8 191)], .agg [.lit (.int .u8 128), .lit (.int .u8 143)], .agg [.lit (.int .u8 0), .lit (.int .u8 0)], .agg [.lit (.int .u8 0), .lit (.int .u8 0)], .agg [.lit (.int .u8 0), .lit (.int .u8 0)], .agg [.lit (.int .u8 0), .lit (.int .u8 0)], .agg [.lit (.int .u8 0), .lit (.int .u8 0)], .agg [.lit (.int .u8 0), .lit (.int .u8 0)], .agg [.lit (.int .u8 0), .lit (.int .u8 0)], .agg [.lit (.int .u8 0), .lit (.int .u8 0)], .agg [.lit (.int .u8 0), .lit (.int .u8 0)], .agg [.lit (.int .u8 0), .lit (.int .u8 0)], .agg [.lit (.int .u8 0), .lit (.int .u8 0)]]
/-- One of Go's own tables, pinned by name: the form's constant. -/
def laid_unicode_CaseRanges : DataW Unit := Go.Pinned.caseRanges
/-- One of Go's own tables, pinned by name: the form's constant. -/
def laid_unicode_utf8_first : DataW Unit := Go.Pinned.utf8First

/-- 'sluicewaylaw06.BechWrites': WHATEVER THE INPUT: true; the input reads as it did. -/
def bechWritesSpec : ChangeSpec := { name := "bechWrites", fn := fun _ => fun
  | [d1, d2] => { results := [.lit (.bool true)], args := [d1, d2] }
  | _ => none }
def bechWritesRow : OpenClaim := { program := "ytnkhbhkmllnniaadoor", sum := "db0d92a72cbd54f62994c1e827c1db846af6bd1de4b1e6a5d1f3d1b7885e2a26", func := "sluiceway/sluicewaylaw06.BechWrites", spec := "bechWrites", inPlace := ["internal/abi.NoEscape", "internal/bytealg.MakeNoZero"], unfollowed := true, recurses := true, named := ["unicode/utf8.first", "unicode/utf8.acceptRanges", "unicode.CaseRanges"], apart := false, laid := [("unicode/utf8.acceptRanges", laid_unicode_utf8_acceptRanges), ("unicode.CaseRanges", laid_unicode_CaseRanges), ("unicode/utf8.first", laid_unicode_utf8_first)] }
def BechWritesSaid : Prop := bechWritesRow.holds Tryd.pinned (OpenSpec.ofChange bechWritesSpec)

/-- ITS FALSE NEIGHBOUR: 'it returns false'. Refute it at one input. -/
def bechWritesWrong : ChangeSpec := { name := "bechWrites", fn := fun _ => fun
  | [d1, d2] => { results := [.lit (.bool false)], args := [d1, d2] }
  | _ => none }
def BechWritesWrongFalsely : Prop := bechWritesRow.holds Tryd.pinned (OpenSpec.ofChange bechWritesWrong)

/-- 'sluicewaylaw06.BechReads': WHATEVER THE INPUT: true; the input reads as it did. -/
def bechReadsSpec : ChangeSpec := { name := "bechReads", fn := fun _ => fun
  | [d] => { results := [.lit (.bool true)], args := [d] }
  | _ => none }
def bechReadsRow : OpenClaim := { program := "ytnkhbhkmllnniaadoor", sum := "db0d92a72cbd54f62994c1e827c1db846af6bd1de4b1e6a5d1f3d1b7885e2a26", func := "sluiceway/sluicewaylaw06.BechReads", spec := "bechReads", inPlace := ["internal/abi.NoEscape", "internal/bytealg.MakeNoZero"], unfollowed := true, recurses := true, named := ["unicode/utf8.first", "unicode/utf8.acceptRanges", "unicode.CaseRanges"], apart := false, laid := [("unicode/utf8.acceptRanges", laid_unicode_utf8_acceptRanges), ("unicode.CaseRanges", laid_unicode_CaseRanges), ("unicode/utf8.first", laid_unicode_utf8_first)] }
def BechReadsSaid : Prop := bechReadsRow.holds Tryd.pinned (OpenSpec.ofChange bechReadsSpec)

/-- ITS FALSE NEIGHBOUR: 'it returns false'. Refute it at one input. -/
def bechReadsWrong : ChangeSpec := { name := "bechReads", fn := fun _ => fun
  | [d] => { results := [.lit (.bool false)], args := [d] }
  | _ => none }
def BechReadsWrongFalsely : Prop := bechReadsRow.holds Tryd.pinned (OpenSpec.ofChange bechReadsWrong)

/-- 'sluicewaylaw06.BechOne': WHATEVER THE INPUT: true; the input reads as it did. -/
def bechOneSpec : ChangeSpec := { name := "bechOne", fn := fun _ => fun
  | [d1, d2, d3, d4] => { results := [.lit (.bool true)], args := [d1, d2, d3, d4] }
  | _ => none }
def bechOneRow : OpenClaim := { program := "ytnkhbhkmllnniaadoor", sum := "db0d92a72cbd54f62994c1e827c1db846af6bd1de4b1e6a5d1f3d1b7885e2a26", func := "sluiceway/sluicewaylaw06.BechOne", spec := "bechOne", inPlace := ["internal/abi.NoEscape", "internal/bytealg.MakeNoZero"], unfollowed := true, recurses := true, named := ["unicode/utf8.first", "unicode/utf8.acceptRanges", "unicode.CaseRanges"], apart := false, laid := [("unicode/utf8.acceptRanges", laid_unicode_utf8_acceptRanges), ("unicode.CaseRanges", laid_unicode_CaseRanges), ("unicode/utf8.first", laid_unicode_utf8_first)] }
def BechOneSaid : Prop := bechOneRow.holds Tryd.pinned (OpenSpec.ofChange bechOneSpec)

/-- ITS FALSE NEIGHBOUR: 'it returns false'. Refute it at one input. -/
def bechOneWrong : ChangeSpec := { name := "bechOne", fn := fun _ => fun
  | [d1, d2, d3, d4] => { results := [.lit (.bool false)], args := [d1, d2, d3, d4] }
  | _ => none }
def BechOneWrongFalsely : Prop := bechOneRow.holds Tryd.pinned (OpenSpec.ofChange bechOneWrong)

/-- 'sluicewaylaw06.BechBits': WHATEVER THE INPUT: true; the input reads as it did. -/
def bechBitsSpec : ChangeSpec := { name := "bechBits", fn := fun _ => fun
  | [d1, d2, d3, d4] => { results := [.lit (.bool true)], args := [d1, d2, d3, d4] }
  | _ => none }
def bechBitsRow : OpenClaim := { program := "ytnkhbhkmllnniaadoor", sum := "db0d92a72cbd54f62994c1e827c1db846af6bd1de4b1e6a5d1f3d1b7885e2a26", func := "sluiceway/sluicewaylaw06.BechBits", spec := "bechBits", inPlace := ["internal/abi.NoEscape", "internal/bytealg.MakeNoZero"], unfollowed := true, recurses := true, named := ["unicode/utf8.first", "unicode/utf8.acceptRanges", "unicode.CaseRanges"], apart := false, laid := [("unicode/utf8.acceptRanges", laid_unicode_utf8_acceptRanges), ("unicode.CaseRanges", laid_unicode_CaseRanges), ("unicode/utf8.first", laid_unicode_utf8_first)] }
def BechBitsSaid : Prop := bechBitsRow.holds Tryd.pinned (OpenSpec.ofChange bechBitsSpec)

/-- ITS FALSE NEIGHBOUR: 'it returns false'. Refute it at one input. -/
def bechBitsWrong : ChangeSpec := { name := "bechBits", fn := fun _ => fun
  | [d1, d2, d3, d4] => { results := [.lit (.bool false)], args := [d1, d2, d3, d4] }
  | _ => none }
def BechBitsWrongFalsely : Prop := bechBitsRow.holds Tryd.pinned (OpenSpec.ofChange bechBitsWrong)

/-- 'sluicewaylaw06.BechBack': WHATEVER THE INPUT: true; the input reads as it did. -/
def bechBackSpec : ChangeSpec := { name := "bechBack", fn := fun _ => fun
  | [d1, d2, d3] => { results := [.lit (.bool true)], args := [d1, d2, d3] }
  | _ => none }
def bechBackRow : OpenClaim := { program := "ytnkhbhkmllnniaadoor", sum := "db0d92a72cbd54f62994c1e827c1db846af6bd1de4b1e6a5d1f3d1b7885e2a26", func := "sluiceway/sluicewaylaw06.BechBack", spec := "bechBack", inPlace := ["internal/abi.NoEscape", "internal/bytealg.MakeNoZero"], unfollowed := true, recurses := true, named := ["unicode/utf8.first", "unicode/utf8.acceptRanges", "unicode.CaseRanges"], apart := false, laid := [("unicode/utf8.acceptRanges", laid_unicode_utf8_acceptRanges), ("unicode.CaseRanges", laid_unicode_CaseRanges), ("unicode/utf8.first", laid_unicode_utf8_first)] }
def BechBackSaid : Prop := bechBackRow.holds Tryd.pinned (OpenSpec.ofChange bechBackSpec)

/-- ITS FALSE NEIGHBOUR: 'it returns false'. Refute it at one input. -/
def bechBackWrong : ChangeSpec := { name := "bechBack", fn := fun _ => fun
  | [d1, d2, d3] => { results := [.lit (.bool false)], args := [d1, d2, d3] }
  | _ => none }
def BechBackWrongFalsely : Prop := bechBackRow.holds Tryd.pinned (OpenSpec.ofChange bechBackWrong)

/-- 'sluicewaylaw06.BechKnown': WHATEVER THE INPUT: true; the input reads as it did. -/
def bechKnownSpec : ChangeSpec := { name := "bechKnown", fn := fun _ => fun
  | [] => { results := [.lit (.bool true)], args := [] }
  | _ => none }
def bechKnownRow : OpenClaim := { program := "ytnkhbhkmllnniaadoor", sum := "db0d92a72cbd54f62994c1e827c1db846af6bd1de4b1e6a5d1f3d1b7885e2a26", func := "sluiceway/sluicewaylaw06.BechKnown", spec := "bechKnown", inPlace := ["internal/abi.NoEscape", "internal/bytealg.MakeNoZero"], unfollowed := true, recurses := true, named := ["unicode/utf8.first", "unicode/utf8.acceptRanges", "unicode.CaseRanges"], apart := false, laid := [("unicode/utf8.acceptRanges", laid_unicode_utf8_acceptRanges), ("unicode.CaseRanges", laid_unicode_CaseRanges), ("unicode/utf8.first", laid_unicode_utf8_first)] }
def BechKnownSaid : Prop := bechKnownRow.holds Tryd.pinned (OpenSpec.ofChange bechKnownSpec)

/-- ITS FALSE NEIGHBOUR: 'it returns false'. Refute it at one input. -/
def bechKnownWrong : ChangeSpec := { name := "bechKnown", fn := fun _ => fun
  | [] => { results := [.lit (.bool false)], args := [] }
  | _ => none }
def BechKnownWrongFalsely : Prop := bechKnownRow.holds Tryd.pinned (OpenSpec.ofChange bechKnownWrong)

/- THE SECOND FORM. 'bulk': how many values and letters a reading holds, each counted each time it is reached (what is shared counts as often as it is met; a slice's spare places count too). A statement '..UptoSaid' is the law's where the arguments, and the package variables that the reading takes, are together of bulk at most 1048576: NARROWER than '..Said'. Prove '..Said' where nothing that the law and all that it calls make is longer than what came in: it says more and counts as full. Else prove '..UptoSaid'. A law counts once. -/
mutual
def uptoBulk {H : Type} : DataW H → Nat
  | .lit (.string bytes) => bytes.length + 1
  | .lit _ => 1
  | .nil => 1
  | .ptr d => uptoBulk d + 1
  | .slice elems spare => uptoBulkAll elems + uptoBulkAll spare + 1
  | .agg parts => uptoBulkAll parts + 1
  | .iface _ d => uptoBulk d + 1
  | .map entries => uptoBulkEntries entries + 1
  | .held _ => 1
def uptoBulkAll {H : Type} : List (DataW H) → Nat
  | [] => 0
  | d :: r => uptoBulk d + uptoBulkAll r
def uptoBulkEntries {H : Type} : List (Lit × DataW H) → Nat
  | [] => 0
  | x :: r => uptoBulkEntry x + uptoBulkEntries r
def uptoBulkEntry {H : Type} : Lit × DataW H → Nat
  | (.string bytes, d) => bytes.length + uptoBulk d + 1
  | (_, d) => uptoBulk d + 1
 end
def uptoSmall : (H : Type) → List (DataW H) → Bool := fun _ ds => decide (uptoBulkAll ds ≤ 1048576)
def OpenSpec.upto (s : _root_.Go.ChangeSpec) : _root_.Go.OpenSpec := { _root_.Go.OpenSpec.ofChange s with cond := some uptoSmall }

/-- 'sluicewaylaw06.BechWrites', WHERE WHAT IT READS IS OF BULK AT MOST 1048576: true; the input reads as it did. -/
def bechWritesUptoRow : OpenClaim := { program := "ytnkhbhkmllnniaadoor", sum := "db0d92a72cbd54f62994c1e827c1db846af6bd1de4b1e6a5d1f3d1b7885e2a26", func := "sluiceway/sluicewaylaw06.BechWrites", spec := "bechWrites", inPlace := ["internal/abi.NoEscape", "internal/bytealg.MakeNoZero"], unfollowed := true, recurses := true, named := ["unicode/utf8.first", "unicode/utf8.acceptRanges", "unicode.CaseRanges"], apart := false, laid := [("unicode/utf8.acceptRanges", laid_unicode_utf8_acceptRanges), ("unicode.CaseRanges", laid_unicode_CaseRanges), ("unicode/utf8.first", laid_unicode_utf8_first)], narrowed := true }
def BechWritesUptoSaid : Prop := bechWritesUptoRow.holds Tryd.pinned (OpenSpec.upto bechWritesSpec)

/-- 'sluicewaylaw06.BechReads', WHERE WHAT IT READS IS OF BULK AT MOST 1048576: true; the input reads as it did. -/
def bechReadsUptoRow : OpenClaim := { program := "ytnkhbhkmllnniaadoor", sum := "db0d92a72cbd54f62994c1e827c1db846af6bd1de4b1e6a5d1f3d1b7885e2a26", func := "sluiceway/sluicewaylaw06.BechReads", spec := "bechReads", inPlace := ["internal/abi.NoEscape", "internal/bytealg.MakeNoZero"], unfollowed := true, recurses := true, named := ["unicode/utf8.first", "unicode/utf8.acceptRanges", "unicode.CaseRanges"], apart := false, laid := [("unicode/utf8.acceptRanges", laid_unicode_utf8_acceptRanges), ("unicode.CaseRanges", laid_unicode_CaseRanges), ("unicode/utf8.first", laid_unicode_utf8_first)], narrowed := true }
def BechReadsUptoSaid : Prop := bechReadsUptoRow.holds Tryd.pinned (OpenSpec.upto bechReadsSpec)

/-- 'sluicewaylaw06.BechOne', WHERE WHAT IT READS IS OF BULK AT MOST 1048576: true; the input reads as it did. -/
def bechOneUptoRow : OpenClaim := { program := "ytnkhbhkmllnniaadoor", sum := "db0d92a72cbd54f62994c1e827c1db846af6bd1de4b1e6a5d1f3d1b7885e2a26", func := "sluiceway/sluicewaylaw06.BechOne", spec := "bechOne", inPlace := ["internal/abi.NoEscape", "internal/bytealg.MakeNoZero"], unfollowed := true, recurses := true, named := ["unicode/utf8.first", "unicode/utf8.acceptRanges", "unicode.CaseRanges"], apart := false, laid := [("unicode/utf8.acceptRanges", laid_unicode_utf8_acceptRanges), ("unicode.CaseRanges", laid_unicode_CaseRanges), ("unicode/utf8.first", laid_unicode_utf8_first)], narrowed := true }
def BechOneUptoSaid : Prop := bechOneUptoRow.holds Tryd.pinned (OpenSpec.upto bechOneSpec)

/-- 'sluicewaylaw06.BechBits', WHERE WHAT IT READS IS OF BULK AT MOST 1048576: true; the input reads as it did. -/
def bechBitsUptoRow : OpenClaim := { program := "ytnkhbhkmllnniaadoor", sum := "db0d92a72cbd54f62994c1e827c1db846af6bd1de4b1e6a5d1f3d1b7885e2a26", func := "sluiceway/sluicewaylaw06.BechBits", spec := "bechBits", inPlace := ["internal/abi.NoEscape", "internal/bytealg.MakeNoZero"], unfollowed := true, recurses := true, named := ["unicode/utf8.first", "unicode/utf8.acceptRanges", "unicode.CaseRanges"], apart := false, laid := [("unicode/utf8.acceptRanges", laid_unicode_utf8_acceptRanges), ("unicode.CaseRanges", laid_unicode_CaseRanges), ("unicode/utf8.first", laid_unicode_utf8_first)], narrowed := true }
def BechBitsUptoSaid : Prop := bechBitsUptoRow.holds Tryd.pinned (OpenSpec.upto bechBitsSpec)

/-- 'sluicewaylaw06.BechBack', WHERE WHAT IT READS IS OF BULK AT MOST 1048576: true; the input reads as it did. -/
def bechBackUptoRow : OpenClaim := { program := "ytnkhbhkmllnniaadoor", sum := "db0d92a72cbd54f62994c1e827c1db846af6bd1de4b1e6a5d1f3d1b7885e2a26", func := "sluiceway/sluicewaylaw06.BechBack", spec := "bechBack", inPlace := ["internal/abi.NoEscape", "internal/bytealg.MakeNoZero"], unfollowed := true, recurses := true, named := ["unicode/utf8.first", "unicode/utf8.acceptRanges", "unicode.CaseRanges"], apart := false, laid := [("unicode/utf8.acceptRanges", laid_unicode_utf8_acceptRanges), ("unicode.CaseRanges", laid_unicode_CaseRanges), ("unicode/utf8.first", laid_unicode_utf8_first)], narrowed := true }
def BechBackUptoSaid : Prop := bechBackUptoRow.holds Tryd.pinned (OpenSpec.upto bechBackSpec)

/-- 'sluicewaylaw06.BechKnown', WHERE WHAT IT READS IS OF BULK AT MOST 1048576: true; the input reads as it did. -/
def bechKnownUptoRow : OpenClaim := { program := "ytnkhbhkmllnniaadoor", sum := "db0d92a72cbd54f62994c1e827c1db846af6bd1de4b1e6a5d1f3d1b7885e2a26", func := "sluiceway/sluicewaylaw06.BechKnown", spec := "bechKnown", inPlace := ["internal/abi.NoEscape", "internal/bytealg.MakeNoZero"], unfollowed := true, recurses := true, named := ["unicode/utf8.first", "unicode/utf8.acceptRanges", "unicode.CaseRanges"], apart := false, laid := [("unicode/utf8.acceptRanges", laid_unicode_utf8_acceptRanges), ("unicode.CaseRanges", laid_unicode_CaseRanges), ("unicode/utf8.first", laid_unicode_utf8_first)], narrowed := true }
def BechKnownUptoSaid : Prop := bechKnownUptoRow.holds Tryd.pinned (OpenSpec.upto bechKnownSpec)

end Rows
end Go.Proofs.YtnkhbhkmllnniaaDoor
