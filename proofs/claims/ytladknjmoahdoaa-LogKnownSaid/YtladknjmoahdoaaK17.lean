/- Copy. -/
import Derived.Test.YtladknjmoahdoaaK16
import Derived.Laws.EntriesVeiled
set_option linter.all false
namespace Go.Proofs.Ytladknjmoahdoaa
open Go.RowKit

end Go.Proofs.Ytladknjmoahdoaa
