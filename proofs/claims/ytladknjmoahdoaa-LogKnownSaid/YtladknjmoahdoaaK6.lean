/- What Rename and Sync do once their step happens. -/
import Derived.Test.YtladknjmoahdoaaK5
set_option linter.all false
namespace Go.Proofs.Ytladknjmoahdoaa
open Go.RowKit

def BoxF (w : World) (b bl : Nat) : Prop := w.heap[b]? = some (.cells #[.pointer (some ⟨bl, 0, none⟩)] 68)
def movedD (d : DiskT) (src dst : ByteArray) (f : FileT) : DiskT := { goneD d dst with files := mset (mdel (goneD d dst).files src) dst f }
end Go.Proofs.Ytladknjmoahdoaa
