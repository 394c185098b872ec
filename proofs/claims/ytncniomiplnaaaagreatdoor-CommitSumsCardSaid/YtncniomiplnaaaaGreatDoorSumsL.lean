/- The law: what a commitment pays out. -/
import Derived.Test.YtncniomiplnaaaaGreatDoorQ45
import Derived.Test.YtncniomiplnaaaaGreatDoorQ47
import Derived.Test.YtncniomiplnaaaaGreatDoorQ49
import Derived.Test.YtncniomiplnaaaaGreatDoorQ19
import Derived.Test.YtncniomiplnaaaaGreatDoorSumsT
import Derived.Test.YtncniomiplnaaaaGreatDoorQ10
import Derived.Lib.QuietBelow
import Derived.Deep.DeepCutAuto
set_option linter.all false
namespace Go.Proofs.YtncniomiplnaaaaGreatDoor
open Go.RowKit Go.Sort

set_option maxRecDepth 100000 in
set_option maxHeartbeats 4000000 in
theorem sums_law (d : DealR) (opener : Bool) (n own other : Int) (hs : List PayR) (A : Option Addr) (cap : Nat) (w : World) (hl : hs.length ≤ 140737488355328) (hh : ∀ h ∈ hs, h.hash.size ≤ 140737488355328) (hc : Cells w A (hs.flatMap payC)) (hv : VarsOk w) (ht : TabOk w) :
    Calls Tryz.prog 6 #[dealV d, .bool opener, .agg #[.int .i64 n, .int .i64 own, .int .i64 other, .slice A hs.length cap]] w fun e w' => e = .returned (.bool true) ∧ Below w.heap.size w w' := by
  have hb0 : Below w.heap.size w ((w.alloc (.cells #[.int .i64 d.cap, .int .i64 d.push, .int .i64 d.dust, .int .i64 d.res, .int .i64 d.rate, .int .i64 d.delay, .int .i64 d.maxH, .int .i64 d.flight, .int .i64 d.minH] 23)).alloc (.cells #[.int .i64 n, .int .i64 own, .int .i64 other, .slice A hs.length cap] 38)) := ((Below.refl w.heap.size w).alloc (Nat.le_refl _) (.cells #[.int .i64 d.cap, .int .i64 d.push, .int .i64 d.dust, .int .i64 d.res, .int .i64 d.rate, .int .i64 d.delay, .int .i64 d.maxH, .int .i64 d.flight, .int .i64 d.minH] 23)).alloc (by simp) (.cells #[.int .i64 n, .int .i64 own, .int .i64 other, .slice A hs.length cap] 38)
  have HB := Lib.hid hb0
  have H0 := Lib.hid (show ((w.alloc (.cells #[.int .i64 d.cap, .int .i64 d.push, .int .i64 d.dust, .int .i64 d.res, .int .i64 d.rate, .int .i64 d.delay, .int .i64 d.maxH, .int .i64 d.flight, .int .i64 d.minH] 23)).alloc (.cells #[.int .i64 n, .int .i64 own, .int .i64 other, .slice A hs.length cap] 38)).heap[w.heap.size]? = some (.cells #[.int .i64 d.cap, .int .i64 d.push, .int .i64 d.dust, .int .i64 d.res, .int .i64 d.rate, .int .i64 d.delay, .int .i64 d.maxH, .int .i64 d.flight, .int .i64 d.minH] 23) from allocs_at [(.cells #[.int .i64 d.cap, .int .i64 d.push, .int .i64 d.dust, .int .i64 d.res, .int .i64 d.rate, .int .i64 d.delay, .int .i64 d.maxH, .int .i64 d.flight, .int .i64 d.minH] 23), (.cells #[.int .i64 n, .int .i64 own, .int .i64 other, .slice A hs.length cap] 38)] w 0 _ rfl)
  have H1 := Lib.hid (show ((w.alloc (.cells #[.int .i64 d.cap, .int .i64 d.push, .int .i64 d.dust, .int .i64 d.res, .int .i64 d.rate, .int .i64 d.delay, .int .i64 d.maxH, .int .i64 d.flight, .int .i64 d.minH] 23)).alloc (.cells #[.int .i64 n, .int .i64 own, .int .i64 other, .slice A hs.length cap] 38)).heap[w.heap.size + 1]? = some (.cells #[.int .i64 n, .int .i64 own, .int .i64 other, .slice A hs.length cap] 38) from allocs_at [(.cells #[.int .i64 d.cap, .int .i64 d.push, .int .i64 d.dust, .int .i64 d.res, .int .i64 d.rate, .int .i64 d.delay, .int .i64 d.maxH, .int .i64 d.flight, .int .i64 d.minH] 23), (.cells #[.int .i64 n, .int .i64 own, .int .i64 other, .slice A hs.length cap] 38)] w 1 _ rfl)
  have HLG := Lib.hid (fun (X : World) hcx => large_any exK n own other hs A cap X (by decide) (by omega) hh hcx)
  have HCA := Lib.hid (hc.below hb0)
  have HV := Lib.hid (hv.below hb0)
  have HT := Lib.hid (ht.below hb0)
  have hs4 : w.heap.size + 1 < ((w.alloc (.cells #[.int .i64 d.cap, .int .i64 d.push, .int .i64 d.dust, .int .i64 d.res, .int .i64 d.rate, .int .i64 d.delay, .int .i64 d.maxH, .int .i64 d.flight, .int .i64 d.minH] 23)).alloc (.cells #[.int .i64 n, .int .i64 own, .int .i64 other, .slice A hs.length cap] 38)).heap.size := by simp
  have HH := Lib.hid hh
  unfold dealV
  have d0 : ((w.alloc (.cells #[.int .i64 d.cap, .int .i64 d.push, .int .i64 d.dust, .int .i64 d.res, .int .i64 d.rate, .int .i64 d.delay, .int .i64 d.maxH, .int .i64 d.flight, .int .i64 d.minH] 23)).alloc (.cells #[.int .i64 n, .int .i64 own, .int .i64 other, .slice A hs.length cap] 38)).cell? ⟨w.heap.size, 0, none⟩ = some (.int .i64 d.cap) := cell_of (j := 0) (((Below.refl ((w.alloc (.cells #[.int .i64 d.cap, .int .i64 d.push, .int .i64 d.dust, .int .i64 d.res, .int .i64 d.rate, .int .i64 d.delay, .int .i64 d.maxH, .int .i64 d.flight, .int .i64 d.minH] 23)).alloc (.cells #[.int .i64 n, .int .i64 own, .int .i64 other, .slice A hs.length cap] 38)).heap.size ((w.alloc (.cells #[.int .i64 d.cap, .int .i64 d.push, .int .i64 d.dust, .int .i64 d.res, .int .i64 d.rate, .int .i64 d.delay, .int .i64 d.maxH, .int .i64 d.flight, .int .i64 d.minH] 23)).alloc (.cells #[.int .i64 n, .int .i64 own, .int .i64 other, .slice A hs.length cap] 38))).block _ (lt_of_block H0.out)).trans H0.out) rfl
  have d1 : ((w.alloc (.cells #[.int .i64 d.cap, .int .i64 d.push, .int .i64 d.dust, .int .i64 d.res, .int .i64 d.rate, .int .i64 d.delay, .int .i64 d.maxH, .int .i64 d.flight, .int .i64 d.minH] 23)).alloc (.cells #[.int .i64 n, .int .i64 own, .int .i64 other, .slice A hs.length cap] 38)).cell? ⟨w.heap.size, 1, none⟩ = some (.int .i64 d.push) := cell_of (j := 1) (((Below.refl ((w.alloc (.cells #[.int .i64 d.cap, .int .i64 d.push, .int .i64 d.dust, .int .i64 d.res, .int .i64 d.rate, .int .i64 d.delay, .int .i64 d.maxH, .int .i64 d.flight, .int .i64 d.minH] 23)).alloc (.cells #[.int .i64 n, .int .i64 own, .int .i64 other, .slice A hs.length cap] 38)).heap.size ((w.alloc (.cells #[.int .i64 d.cap, .int .i64 d.push, .int .i64 d.dust, .int .i64 d.res, .int .i64 d.rate, .int .i64 d.delay, .int .i64 d.maxH, .int .i64 d.flight, .int .i64 d.minH] 23)).alloc (.cells #[.int .i64 n, .int .i64 own, .int .i64 other, .slice A hs.length cap] 38))).block _ (lt_of_block H0.out)).trans H0.out) rfl
  have d2 : ((w.alloc (.cells #[.int .i64 d.cap, .int .i64 d.push, .int .i64 d.dust, .int .i64 d.res, .int .i64 d.rate, .int .i64 d.delay, .int .i64 d.maxH, .int .i64 d.flight, .int .i64 d.minH] 23)).alloc (.cells #[.int .i64 n, .int .i64 own, .int .i64 other, .slice A hs.length cap] 38)).cell? ⟨w.heap.size, 2, none⟩ = some (.int .i64 d.dust) := cell_of (j := 2) (((Below.refl ((w.alloc (.cells #[.int .i64 d.cap, .int .i64 d.push, .int .i64 d.dust, .int .i64 d.res, .int .i64 d.rate, .int .i64 d.delay, .int .i64 d.maxH, .int .i64 d.flight, .int .i64 d.minH] 23)).alloc (.cells #[.int .i64 n, .int .i64 own, .int .i64 other, .slice A hs.length cap] 38)).heap.size ((w.alloc (.cells #[.int .i64 d.cap, .int .i64 d.push, .int .i64 d.dust, .int .i64 d.res, .int .i64 d.rate, .int .i64 d.delay, .int .i64 d.maxH, .int .i64 d.flight, .int .i64 d.minH] 23)).alloc (.cells #[.int .i64 n, .int .i64 own, .int .i64 other, .slice A hs.length cap] 38))).block _ (lt_of_block H0.out)).trans H0.out) rfl
  have d3 : ((w.alloc (.cells #[.int .i64 d.cap, .int .i64 d.push, .int .i64 d.dust, .int .i64 d.res, .int .i64 d.rate, .int .i64 d.delay, .int .i64 d.maxH, .int .i64 d.flight, .int .i64 d.minH] 23)).alloc (.cells #[.int .i64 n, .int .i64 own, .int .i64 other, .slice A hs.length cap] 38)).cell? ⟨w.heap.size, 3, none⟩ = some (.int .i64 d.res) := cell_of (j := 3) (((Below.refl ((w.alloc (.cells #[.int .i64 d.cap, .int .i64 d.push, .int .i64 d.dust, .int .i64 d.res, .int .i64 d.rate, .int .i64 d.delay, .int .i64 d.maxH, .int .i64 d.flight, .int .i64 d.minH] 23)).alloc (.cells #[.int .i64 n, .int .i64 own, .int .i64 other, .slice A hs.length cap] 38)).heap.size ((w.alloc (.cells #[.int .i64 d.cap, .int .i64 d.push, .int .i64 d.dust, .int .i64 d.res, .int .i64 d.rate, .int .i64 d.delay, .int .i64 d.maxH, .int .i64 d.flight, .int .i64 d.minH] 23)).alloc (.cells #[.int .i64 n, .int .i64 own, .int .i64 other, .slice A hs.length cap] 38))).block _ (lt_of_block H0.out)).trans H0.out) rfl
  have d4 : ((w.alloc (.cells #[.int .i64 d.cap, .int .i64 d.push, .int .i64 d.dust, .int .i64 d.res, .int .i64 d.rate, .int .i64 d.delay, .int .i64 d.maxH, .int .i64 d.flight, .int .i64 d.minH] 23)).alloc (.cells #[.int .i64 n, .int .i64 own, .int .i64 other, .slice A hs.length cap] 38)).cell? ⟨w.heap.size, 4, none⟩ = some (.int .i64 d.rate) := cell_of (j := 4) (((Below.refl ((w.alloc (.cells #[.int .i64 d.cap, .int .i64 d.push, .int .i64 d.dust, .int .i64 d.res, .int .i64 d.rate, .int .i64 d.delay, .int .i64 d.maxH, .int .i64 d.flight, .int .i64 d.minH] 23)).alloc (.cells #[.int .i64 n, .int .i64 own, .int .i64 other, .slice A hs.length cap] 38)).heap.size ((w.alloc (.cells #[.int .i64 d.cap, .int .i64 d.push, .int .i64 d.dust, .int .i64 d.res, .int .i64 d.rate, .int .i64 d.delay, .int .i64 d.maxH, .int .i64 d.flight, .int .i64 d.minH] 23)).alloc (.cells #[.int .i64 n, .int .i64 own, .int .i64 other, .slice A hs.length cap] 38))).block _ (lt_of_block H0.out)).trans H0.out) rfl
  have d5 : ((w.alloc (.cells #[.int .i64 d.cap, .int .i64 d.push, .int .i64 d.dust, .int .i64 d.res, .int .i64 d.rate, .int .i64 d.delay, .int .i64 d.maxH, .int .i64 d.flight, .int .i64 d.minH] 23)).alloc (.cells #[.int .i64 n, .int .i64 own, .int .i64 other, .slice A hs.length cap] 38)).cell? ⟨w.heap.size, 5, none⟩ = some (.int .i64 d.delay) := cell_of (j := 5) (((Below.refl ((w.alloc (.cells #[.int .i64 d.cap, .int .i64 d.push, .int .i64 d.dust, .int .i64 d.res, .int .i64 d.rate, .int .i64 d.delay, .int .i64 d.maxH, .int .i64 d.flight, .int .i64 d.minH] 23)).alloc (.cells #[.int .i64 n, .int .i64 own, .int .i64 other, .slice A hs.length cap] 38)).heap.size ((w.alloc (.cells #[.int .i64 d.cap, .int .i64 d.push, .int .i64 d.dust, .int .i64 d.res, .int .i64 d.rate, .int .i64 d.delay, .int .i64 d.maxH, .int .i64 d.flight, .int .i64 d.minH] 23)).alloc (.cells #[.int .i64 n, .int .i64 own, .int .i64 other, .slice A hs.length cap] 38))).block _ (lt_of_block H0.out)).trans H0.out) rfl
  have d6 : ((w.alloc (.cells #[.int .i64 d.cap, .int .i64 d.push, .int .i64 d.dust, .int .i64 d.res, .int .i64 d.rate, .int .i64 d.delay, .int .i64 d.maxH, .int .i64 d.flight, .int .i64 d.minH] 23)).alloc (.cells #[.int .i64 n, .int .i64 own, .int .i64 other, .slice A hs.length cap] 38)).cell? ⟨w.heap.size, 6, none⟩ = some (.int .i64 d.maxH) := cell_of (j := 6) (((Below.refl ((w.alloc (.cells #[.int .i64 d.cap, .int .i64 d.push, .int .i64 d.dust, .int .i64 d.res, .int .i64 d.rate, .int .i64 d.delay, .int .i64 d.maxH, .int .i64 d.flight, .int .i64 d.minH] 23)).alloc (.cells #[.int .i64 n, .int .i64 own, .int .i64 other, .slice A hs.length cap] 38)).heap.size ((w.alloc (.cells #[.int .i64 d.cap, .int .i64 d.push, .int .i64 d.dust, .int .i64 d.res, .int .i64 d.rate, .int .i64 d.delay, .int .i64 d.maxH, .int .i64 d.flight, .int .i64 d.minH] 23)).alloc (.cells #[.int .i64 n, .int .i64 own, .int .i64 other, .slice A hs.length cap] 38))).block _ (lt_of_block H0.out)).trans H0.out) rfl
  have d7 : ((w.alloc (.cells #[.int .i64 d.cap, .int .i64 d.push, .int .i64 d.dust, .int .i64 d.res, .int .i64 d.rate, .int .i64 d.delay, .int .i64 d.maxH, .int .i64 d.flight, .int .i64 d.minH] 23)).alloc (.cells #[.int .i64 n, .int .i64 own, .int .i64 other, .slice A hs.length cap] 38)).cell? ⟨w.heap.size, 7, none⟩ = some (.int .i64 d.flight) := cell_of (j := 7) (((Below.refl ((w.alloc (.cells #[.int .i64 d.cap, .int .i64 d.push, .int .i64 d.dust, .int .i64 d.res, .int .i64 d.rate, .int .i64 d.delay, .int .i64 d.maxH, .int .i64 d.flight, .int .i64 d.minH] 23)).alloc (.cells #[.int .i64 n, .int .i64 own, .int .i64 other, .slice A hs.length cap] 38)).heap.size ((w.alloc (.cells #[.int .i64 d.cap, .int .i64 d.push, .int .i64 d.dust, .int .i64 d.res, .int .i64 d.rate, .int .i64 d.delay, .int .i64 d.maxH, .int .i64 d.flight, .int .i64 d.minH] 23)).alloc (.cells #[.int .i64 n, .int .i64 own, .int .i64 other, .slice A hs.length cap] 38))).block _ (lt_of_block H0.out)).trans H0.out) rfl
  have d8 : ((w.alloc (.cells #[.int .i64 d.cap, .int .i64 d.push, .int .i64 d.dust, .int .i64 d.res, .int .i64 d.rate, .int .i64 d.delay, .int .i64 d.maxH, .int .i64 d.flight, .int .i64 d.minH] 23)).alloc (.cells #[.int .i64 n, .int .i64 own, .int .i64 other, .slice A hs.length cap] 38)).cell? ⟨w.heap.size, 8, none⟩ = some (.int .i64 d.minH) := cell_of (j := 8) (((Below.refl ((w.alloc (.cells #[.int .i64 d.cap, .int .i64 d.push, .int .i64 d.dust, .int .i64 d.res, .int .i64 d.rate, .int .i64 d.delay, .int .i64 d.maxH, .int .i64 d.flight, .int .i64 d.minH] 23)).alloc (.cells #[.int .i64 n, .int .i64 own, .int .i64 other, .slice A hs.length cap] 38)).heap.size ((w.alloc (.cells #[.int .i64 d.cap, .int .i64 d.push, .int .i64 d.dust, .int .i64 d.res, .int .i64 d.rate, .int .i64 d.delay, .int .i64 d.maxH, .int .i64 d.flight, .int .i64 d.minH] 23)).alloc (.cells #[.int .i64 n, .int .i64 own, .int .i64 other, .slice A hs.length cap] 38))).block _ (lt_of_block H0.out)).trans H0.out) rfl
  have s0 : ((w.alloc (.cells #[.int .i64 d.cap, .int .i64 d.push, .int .i64 d.dust, .int .i64 d.res, .int .i64 d.rate, .int .i64 d.delay, .int .i64 d.maxH, .int .i64 d.flight, .int .i64 d.minH] 23)).alloc (.cells #[.int .i64 n, .int .i64 own, .int .i64 other, .slice A hs.length cap] 38)).cell? ⟨w.heap.size + 1, 0, none⟩ = some (.int .i64 n) := cell_of (j := 0) (((Below.refl ((w.alloc (.cells #[.int .i64 d.cap, .int .i64 d.push, .int .i64 d.dust, .int .i64 d.res, .int .i64 d.rate, .int .i64 d.delay, .int .i64 d.maxH, .int .i64 d.flight, .int .i64 d.minH] 23)).alloc (.cells #[.int .i64 n, .int .i64 own, .int .i64 other, .slice A hs.length cap] 38)).heap.size ((w.alloc (.cells #[.int .i64 d.cap, .int .i64 d.push, .int .i64 d.dust, .int .i64 d.res, .int .i64 d.rate, .int .i64 d.delay, .int .i64 d.maxH, .int .i64 d.flight, .int .i64 d.minH] 23)).alloc (.cells #[.int .i64 n, .int .i64 own, .int .i64 other, .slice A hs.length cap] 38))).block _ (lt_of_block H1.out)).trans H1.out) rfl
  have s1 : ((w.alloc (.cells #[.int .i64 d.cap, .int .i64 d.push, .int .i64 d.dust, .int .i64 d.res, .int .i64 d.rate, .int .i64 d.delay, .int .i64 d.maxH, .int .i64 d.flight, .int .i64 d.minH] 23)).alloc (.cells #[.int .i64 n, .int .i64 own, .int .i64 other, .slice A hs.length cap] 38)).cell? ⟨w.heap.size + 1, 1, none⟩ = some (.int .i64 own) := cell_of (j := 1) (((Below.refl ((w.alloc (.cells #[.int .i64 d.cap, .int .i64 d.push, .int .i64 d.dust, .int .i64 d.res, .int .i64 d.rate, .int .i64 d.delay, .int .i64 d.maxH, .int .i64 d.flight, .int .i64 d.minH] 23)).alloc (.cells #[.int .i64 n, .int .i64 own, .int .i64 other, .slice A hs.length cap] 38)).heap.size ((w.alloc (.cells #[.int .i64 d.cap, .int .i64 d.push, .int .i64 d.dust, .int .i64 d.res, .int .i64 d.rate, .int .i64 d.delay, .int .i64 d.maxH, .int .i64 d.flight, .int .i64 d.minH] 23)).alloc (.cells #[.int .i64 n, .int .i64 own, .int .i64 other, .slice A hs.length cap] 38))).block _ (lt_of_block H1.out)).trans H1.out) rfl
  have s2 : ((w.alloc (.cells #[.int .i64 d.cap, .int .i64 d.push, .int .i64 d.dust, .int .i64 d.res, .int .i64 d.rate, .int .i64 d.delay, .int .i64 d.maxH, .int .i64 d.flight, .int .i64 d.minH] 23)).alloc (.cells #[.int .i64 n, .int .i64 own, .int .i64 other, .slice A hs.length cap] 38)).cell? ⟨w.heap.size + 1, 2, none⟩ = some (.int .i64 other) := cell_of (j := 2) (((Below.refl ((w.alloc (.cells #[.int .i64 d.cap, .int .i64 d.push, .int .i64 d.dust, .int .i64 d.res, .int .i64 d.rate, .int .i64 d.delay, .int .i64 d.maxH, .int .i64 d.flight, .int .i64 d.minH] 23)).alloc (.cells #[.int .i64 n, .int .i64 own, .int .i64 other, .slice A hs.length cap] 38)).heap.size ((w.alloc (.cells #[.int .i64 d.cap, .int .i64 d.push, .int .i64 d.dust, .int .i64 d.res, .int .i64 d.rate, .int .i64 d.delay, .int .i64 d.maxH, .int .i64 d.flight, .int .i64 d.minH] 23)).alloc (.cells #[.int .i64 n, .int .i64 own, .int .i64 other, .slice A hs.length cap] 38))).block _ (lt_of_block H1.out)).trans H1.out) rfl
  have s3 : ((w.alloc (.cells #[.int .i64 d.cap, .int .i64 d.push, .int .i64 d.dust, .int .i64 d.res, .int .i64 d.rate, .int .i64 d.delay, .int .i64 d.maxH, .int .i64 d.flight, .int .i64 d.minH] 23)).alloc (.cells #[.int .i64 n, .int .i64 own, .int .i64 other, .slice A hs.length cap] 38)).cell? ⟨w.heap.size + 1, 3, none⟩ = some (.slice A hs.length cap) := cell_of (j := 3) (((Below.refl ((w.alloc (.cells #[.int .i64 d.cap, .int .i64 d.push, .int .i64 d.dust, .int .i64 d.res, .int .i64 d.rate, .int .i64 d.delay, .int .i64 d.maxH, .int .i64 d.flight, .int .i64 d.minH] 23)).alloc (.cells #[.int .i64 n, .int .i64 own, .int .i64 other, .slice A hs.length cap] 38)).heap.size ((w.alloc (.cells #[.int .i64 d.cap, .int .i64 d.push, .int .i64 d.dust, .int .i64 d.res, .int .i64 d.rate, .int .i64 d.delay, .int .i64 d.maxH, .int .i64 d.flight, .int .i64 d.minH] 23)).alloc (.cells #[.int .i64 n, .int .i64 own, .int .i64 other, .slice A hs.length cap] 38))).block _ (lt_of_block H1.out)).trans H1.out) rfl
  clear hb0 hc hv ht hh
  go_enter Tryz.func6, Tryz.ntmps6
  go_upto_region 1 with fail
  generalize ((w.alloc (.cells #[.int .i64 d.cap, .int .i64 d.push, .int .i64 d.dust, .int .i64 d.res, .int .i64 d.rate, .int .i64 d.delay, .int .i64 d.maxH, .int .i64 d.flight, .int .i64 d.minH] 23)).alloc (.cells #[.int .i64 n, .int .i64 own, .int .i64 other, .slice A hs.length cap] 38)) = V at HB H0 H1 HCA HV HT hs4 d0 d1 d2 d3 d4 d5 d6 d7 d8 s0 s1 s2 s3 ⊢
  clear d0 d1 d2 d3 d4 d5 d6 d7 d8 s0 s1 s2 s3
  refine wp_region_noPanic ?_
  refine wp_region_any (by kernel_rfl) (anyG_any (S := (fun X : World => X.heap[w.heap.size]? = some (.cells #[.int .i64 d.cap, .int .i64 d.push, .int .i64 d.dust, .int .i64 d.res, .int .i64 d.rate, .int .i64 d.delay, .int .i64 d.maxH, .int .i64 d.flight, .int .i64 d.minH] 23) ∧ X.heap[w.heap.size + 1]? = some (.cells #[.int .i64 n, .int .i64 own, .int .i64 other, .slice A hs.length cap] 38))) (n := 2) _ _ _ _ ?_)
  have hS : (fun X : World => X.heap[w.heap.size]? = some (.cells #[.int .i64 d.cap, .int .i64 d.push, .int .i64 d.dust, .int .i64 d.res, .int .i64 d.rate, .int .i64 d.delay, .int .i64 d.maxH, .int .i64 d.flight, .int .i64 d.minH] 23) ∧ X.heap[w.heap.size + 1]? = some (.cells #[.int .i64 n, .int .i64 own, .int .i64 other, .slice A hs.length cap] 38)) V.drew := ⟨H0.out, H1.out⟩
  change AnyG _ _ _ _ _ _ 3 (Array.replicate 3 false) _ V.drew
  refine anyG_take (i := 1) (v := ?_) rfl rfl (by kernel_rfl) (by kernel_rfl) (by kernel_rfl) (by kernel_rfl) (by kernel_rfl) (fun _ _ _ h => h) (Or.inl ⟨by rfl, ?_⟩) hS ?_
  rotate_left
  · (intro w' hSw; have s0 := cell_of (j := 0) hSw.2 rfl; have s1 := cell_of (j := 1) hSw.2 rfl; have s2 := cell_of (j := 2) hSw.2 rfl; have s3 := cell_of (j := 3) hSw.2 rfl; (try dsimp only at hSw); go_simp; (try with_reducible rfl))
  try simp only [Act.put, List.setIfInBounds_toArray, List.set_cons_zero, List.set_cons_succ]
  clear hS
  refine anyG_all (rs := [0]) (by kernel_rfl) (by simp) (List.forall_mem_singleton.2 ?_)
  refine wpOp_step rfl (fun K' hK => ?_)
  have HK := Lib.hid hK
  clear hK
  rw [if_pos (by rfl)]
  go_simp
  refine Calls.mono (keys_any V.drew) ?_
  rintro e w1 ⟨rfl, hb1⟩
  have hb1' : Below V.heap.size V w1 := ⟨hb1.os, hb1.tape, hb1.output, hb1.size, hb1.block⟩
  have HB1 := Lib.hid hb1'
  clear hb1 hb1'
  go_wp2_with fail
  refine HK.out _ _ ⟨fun _ => ⟨(HB1.out.block _ (lt_of_block H0.out)).trans H0.out, (HB1.out.block _ (lt_of_block H1.out)).trans H1.out⟩, ?_⟩
  clear HK
  try simp only [Act.put, List.setIfInBounds_toArray, List.set_cons_zero, List.set_cons_succ]
  refine anyG_all (rs := [2]) (by kernel_rfl) (by simp) (List.forall_mem_singleton.2 ?_)
  refine wpOp_step rfl (fun K' hK => ?_)
  have HK := Lib.hid hK
  clear hK
  rw [if_pos (by rfl)]
  go_simp
  refine Calls.mono (HLG.out w1 (HCA.out.below HB1.out)) ?_
  rintro e w2 ⟨rfl, hb2⟩
  have hb2' := HB1.out.trans (hb2.mono HB1.out.size)
  have HB2 := Lib.hid hb2'
  go_wp2_with fail
  refine HK.out _ _ ⟨fun h => absurd rfl h, anyG_done (by kernel_rfl) ?_⟩
  clear HK HB1 hb2
  refine NoPanic.normal ?_
  have d0 : w2.cell? ⟨w.heap.size, 0, none⟩ = some (.int .i64 d.cap) := cell_of (j := 0) ((hb2'.block _ (lt_of_block H0.out)).trans H0.out) rfl
  have d1 : w2.cell? ⟨w.heap.size, 1, none⟩ = some (.int .i64 d.push) := cell_of (j := 1) ((hb2'.block _ (lt_of_block H0.out)).trans H0.out) rfl
  have d2 : w2.cell? ⟨w.heap.size, 2, none⟩ = some (.int .i64 d.dust) := cell_of (j := 2) ((hb2'.block _ (lt_of_block H0.out)).trans H0.out) rfl
  have d3 : w2.cell? ⟨w.heap.size, 3, none⟩ = some (.int .i64 d.res) := cell_of (j := 3) ((hb2'.block _ (lt_of_block H0.out)).trans H0.out) rfl
  have d4 : w2.cell? ⟨w.heap.size, 4, none⟩ = some (.int .i64 d.rate) := cell_of (j := 4) ((hb2'.block _ (lt_of_block H0.out)).trans H0.out) rfl
  have d5 : w2.cell? ⟨w.heap.size, 5, none⟩ = some (.int .i64 d.delay) := cell_of (j := 5) ((hb2'.block _ (lt_of_block H0.out)).trans H0.out) rfl
  have d6 : w2.cell? ⟨w.heap.size, 6, none⟩ = some (.int .i64 d.maxH) := cell_of (j := 6) ((hb2'.block _ (lt_of_block H0.out)).trans H0.out) rfl
  have d7 : w2.cell? ⟨w.heap.size, 7, none⟩ = some (.int .i64 d.flight) := cell_of (j := 7) ((hb2'.block _ (lt_of_block H0.out)).trans H0.out) rfl
  have d8 : w2.cell? ⟨w.heap.size, 8, none⟩ = some (.int .i64 d.minH) := cell_of (j := 8) ((hb2'.block _ (lt_of_block H0.out)).trans H0.out) rfl
  have s0 : w2.cell? ⟨w.heap.size + 1, 0, none⟩ = some (.int .i64 n) := cell_of (j := 0) ((hb2'.block _ (lt_of_block H1.out)).trans H1.out) rfl
  have s1 : w2.cell? ⟨w.heap.size + 1, 1, none⟩ = some (.int .i64 own) := cell_of (j := 1) ((hb2'.block _ (lt_of_block H1.out)).trans H1.out) rfl
  have s2 : w2.cell? ⟨w.heap.size + 1, 2, none⟩ = some (.int .i64 other) := cell_of (j := 2) ((hb2'.block _ (lt_of_block H1.out)).trans H1.out) rfl
  have s3 : w2.cell? ⟨w.heap.size + 1, 3, none⟩ = some (.slice A hs.length cap) := cell_of (j := 3) ((hb2'.block _ (lt_of_block H1.out)).trans H1.out) rfl
  clear hb2'
  cases hlg : largeB exK hs with
  | true =>
    go_wp2_with fail
    go_ret
    exact ⟨rfl, HB.out.trans (HB2.out.mono HB.out.size)⟩
  | false =>
    have hlb : hs.length ≤ 80 ∧ keysN exK + hashN hs ≤ 4000 := by
      unfold largeB at hlg
      rw [Bool.or_eq_false_iff] at hlg
      have h1 := of_decide_eq_false hlg.1
      have h2 := of_decide_eq_false hlg.2
      rw [List.take_of_length_le (by omega)] at h2
      omega
    obtain ⟨hl80, hk4⟩ := hlb
    have hhs : ∀ h ∈ hs, h.hash.size ≤ 900000 := fun h hm => by have := hashN_mem hs h hm; omega
    have HHS := Lib.hid hhs
    clear hlg hk4 hhs
    go_upto_region 3 with fail
    refine wp_region_noPanic ?_
    refine wp_region_any (by kernel_rfl) (anyG_any (S := fun X : World => Below w2.heap.size w2 X) (n := 13) _ _ _ _ ?_)
    have hpt : ptOk ⟨ones 64, 1, 0⟩ := ⟨by rw [ones_size]; decide, by decide⟩
    have HBU := Lib.hid (fun (X : World) (hX : Below V.heap.size V X) => build_any (ones 64) 1 d opener n own other hs A cap exK X (by omega) (HCA.out.below hX) hpt (by rw [ones_size]; decide) (HV.out.below hX) (HT.out.below hX) (by decide) HHS.out)
    obtain ⟨t, ws, er, hre⟩ : ∃ t ws er, buildE (ones 64) 1 d opener n own other hs exK = (t, ws, er) := ⟨_, _, _, rfl⟩
    rw [hre] at HBU
    unfold dealV at HBU
    have HRE := Lib.hid hre
    clear hre hpt
    have hS : Below w2.heap.size w2 w2.drew := (Below.refl _ _).drew
    change AnyG _ _ _ _ _ _ 14 (Array.replicate 14 false) _ w2.drew
    refine anyG_take (i := 1) (v := ?_) rfl rfl (by kernel_rfl) (by kernel_rfl) (by kernel_rfl) (by kernel_rfl) (by kernel_rfl) (fun _ _ _ h => h) (Or.inl ⟨by rfl, ?_⟩) hS ?_
    rotate_left
    · (intro w' hSw; have e0 := cell_below hSw d0; have e1 := cell_below hSw d1; have e2 := cell_below hSw d2; have e3 := cell_below hSw d3; have e4 := cell_below hSw d4; have e5 := cell_below hSw d5; have e6 := cell_below hSw d6; have e7 := cell_below hSw d7; have e8 := cell_below hSw d8; (try dsimp only at hSw); go_simp; (try with_reducible rfl))
    try simp only [Act.put, List.setIfInBounds_toArray, List.set_cons_zero, List.set_cons_succ]
    refine anyG_take (i := 2) (v := ?_) rfl rfl (by kernel_rfl) (by kernel_rfl) (by kernel_rfl) (by kernel_rfl) (by kernel_rfl) (fun _ _ _ h => h) (Or.inl ⟨by rfl, ?_⟩) hS ?_
    rotate_left
    · (intro w' hSw; (try dsimp only at hSw); go_simp; (try with_reducible rfl))
    try simp only [Act.put, List.setIfInBounds_toArray, List.set_cons_zero, List.set_cons_succ]
    refine anyG_take (i := 3) (v := ?_) rfl rfl (by kernel_rfl) (by kernel_rfl) (by kernel_rfl) (by kernel_rfl) (by kernel_rfl) (fun _ _ _ h => h) (Or.inl ⟨by rfl, ?_⟩) hS ?_
    rotate_left
    · (intro w' hSw; have e0 := cell_below hSw s0; have e1 := cell_below hSw s1; have e2 := cell_below hSw s2; have e3 := cell_below hSw s3; (try dsimp only at hSw); go_simp; (try with_reducible rfl))
    try simp only [Act.put, List.setIfInBounds_toArray, List.set_cons_zero, List.set_cons_succ]
    refine anyG_rest (f1 := 3) (l1 := #[true, true, true, true, true, true, true, true, true, true, true, false, false, false]) (R := fun a u => ∃ (x : Nat) (A9 B9 : Option Addr) (ca cb : Nat) (AW : Option Addr) (cW : Nat), a = (⟨#[.agg #[.int .i64 d.cap, .int .i64 d.push, .int .i64 d.dust, .int .i64 d.res, .int .i64 d.rate, .int .i64 d.delay, .int .i64 d.maxH, .int .i64 d.flight, .int .i64 d.minH], .bool opener, .agg #[.int .i64 n, .int .i64 own, .int .i64 other, .slice A hs.length cap], .pointer (some ⟨w.heap.size, 0, none⟩), undef, .pointer (some ⟨w.heap.size + 1, 0, none⟩), .bool false, .pointer (some ⟨x, 0, none⟩), undef, undef, undef, undef, undef, undef, undef, undef, undef, undef, undef, undef, undef, keysV exK, .agg #[.int .i64 n, .int .i64 own, .int .i64 other, .slice A hs.length cap], .bool false, .tuple #[.agg #[.slice A9 t.ins.length ca, .slice B9 t.outs.length cb, .int .i64 t.after, .int .i64 t.tag], .slice AW ws.length cW, .int .i64 er], .agg #[.string (ones 64), .int .i64 1], .agg #[.int .i64 d.cap, .int .i64 d.push, .int .i64 d.dust, .int .i64 d.res, .int .i64 d.rate, .int .i64 d.delay, .int .i64 d.maxH, .int .i64 d.flight, .int .i64 d.minH], .bool opener, .agg #[.int .i64 n, .int .i64 own, .int .i64 other, .slice A hs.length cap], keysV exK, .tuple #[.agg #[.slice A9 t.ins.length ca, .slice B9 t.outs.length cb, .int .i64 t.after, .int .i64 t.tag], .slice AW ws.length cW, .int .i64 er], .agg #[.slice A9 t.ins.length ca, .slice B9 t.outs.length cb, .int .i64 t.after, .int .i64 t.tag], .slice AW ws.length cW, .int .i64 er, undef, undef, undef, undef, undef, undef, undef, undef, undef, undef, undef, undef, undef, undef, undef, undef, undef, undef, undef, undef, undef, undef, undef, undef, undef, undef, undef, undef, undef, undef, undef, undef, undef, undef, undef, undef, undef, undef, undef, undef, undef, undef, undef, undef, undef, undef, undef, undef, undef, undef, undef, undef, undef, undef, undef, undef, undef, undef, undef, undef, undef, undef, undef, undef, undef, undef, undef, undef, undef, undef, undef, undef, undef, undef, undef, undef, undef, undef, undef, undef, undef, undef, undef, undef, undef, undef, undef, undef, undef, undef, undef, undef, undef, undef, undef, undef, undef, undef, undef, undef, undef, undef, undef, undef, undef, undef, undef, undef, undef, undef, undef, undef, undef, undef, undef, undef, undef, undef, undef, undef, undef, undef, undef, undef, undef, undef, undef, undef, undef, undef, undef, undef, undef, undef, undef, undef, undef, undef, undef, undef, undef, undef, undef, undef, undef, undef, undef, undef, undef, undef, undef, undef, undef], []⟩ : Act) ∧ w2.heap.size ≤ x ∧ TxBox u x none 0 0 none 0 0 0 0 ∧ TxC u t A9 B9 ∧ (∀ X, Stay u X → Cells X AW (wordsV ws)) ∧ Below w2.heap.size w2 u) ?rest (fun REST => ?_)
    case rest =>
      rintro a u ⟨x, A9, B9, ca, cb, AW, cW, rfl, hx, hbox, hT, hI, hS⟩
      obtain ⟨p0, p1, p2, p3⟩ := hbox.cells
      have z0 := hbox.frozen 0
      have z1 := hbox.frozen 1
      have z2 := hbox.frozen 2
      have z3 := hbox.frozen 3
      refine anyG_all (rs := [11]) (by kernel_rfl) (by simp) (List.forall_mem_singleton.2 ?_)
      refine wpOp_step rfl (fun K' hK => ?_)
      have HK := Lib.hid hK
      clear hK
      rw [if_pos (by rfl)]
      go_simp
      have hF := putL_fr u x (.slice A9 t.ins.length ca) (.slice B9 t.outs.length cb) (.int .i64 t.after) (.int .i64 t.tag) (F := [x]) (List.mem_singleton.2 rfl)
      have GT := Lib.hid (txc_tx (W := (putL u x (.slice A9 t.ins.length ca) (.slice B9 t.outs.length cb) (.int .i64 t.after) (.int .i64 t.tag))) hbox (fun p v hp hc => hF.cellKept (by simpa using hp) hc) hT)
      have GW := Lib.hid (hI _ (stay_tx hbox hF))
      have GX := Lib.hid (hbox.put A9 t.ins.length ca B9 t.outs.length cb t.after t.tag)
      have hSf := hS.trans (hF.toBelowOf (B := w2.heap.size) hS.size (fun i hi => by rw [List.mem_singleton.1 hi]; exact hx))
      have HB3 := Lib.hid hSf
      refine HK.out _ _ ⟨fun _ => hSf, ?_⟩
      change AnyG _ _ _ _ _ _ _ _ _ (putL u x (.slice A9 t.ins.length ca) (.slice B9 t.outs.length cb) (.int .i64 t.after) (.int .i64 t.tag))
      clear HK p0 p1 p2 p3 z0 z1 z2 z3
      generalize (putL u x (.slice A9 t.ins.length ca) (.slice B9 t.outs.length cb) (.int .i64 t.after) (.int .i64 t.tag)) = Wf at GT GW GX HB3 hSf ⊢
      clear hF hbox hT hI hS
      try simp only [Act.put, List.setIfInBounds_toArray, List.set_cons_zero, List.set_cons_succ]
      refine anyG_all (rs := [12]) (by kernel_rfl) (by simp) (List.forall_mem_singleton.2 ?_)
      refine wpOp_step rfl (fun K' hK => ?_)
      have HK := Lib.hid hK
      clear hK
      rw [if_pos (by rfl)]
      go_simp
      refine HK.out _ _ ⟨fun _ => hSf, ?_⟩
      clear HK
      try simp only [Act.put, List.setIfInBounds_toArray, List.set_cons_zero, List.set_cons_succ]
      refine anyG_all (rs := [13]) (by kernel_rfl) (by simp) (List.forall_mem_singleton.2 ?_)
      refine wpOp_step rfl (fun K' hK => ?_)
      have HK := Lib.hid hK
      clear hK
      rw [if_pos (by rfl)]
      go_simp
      refine HK.out _ _ ⟨fun h => absurd rfl h, anyG_done (by kernel_rfl) ?_⟩
      clear HK
      refine NoPanic.normal ?_
      have G0 := Lib.hid ((hSf.block _ (lt_of_block ((HB2.out.block _ (lt_of_block H0.out)).trans H0.out))).trans ((HB2.out.block _ (lt_of_block H0.out)).trans H0.out))
      have G1 := Lib.hid ((hSf.block _ (lt_of_block ((HB2.out.block _ (lt_of_block H1.out)).trans H1.out))).trans ((HB2.out.block _ (lt_of_block H1.out)).trans H1.out))
      have HBF := Lib.hid (HB2.out.trans (hSf.mono HB2.out.size))
      have HWB := Lib.hid (HB.out.trans (HBF.out.mono HB.out.size))
      have GA := Lib.hid (HCA.out.below HBF.out)
      have GV := Lib.hid (HV.out.below HBF.out)
      have GTB := Lib.hid (HT.out.below HBF.out)
      clear hSf HBU hx d0 d1 d2 d3 d4 d5 d6 d7 d8 s0 s1 s2 s3
      by_cases her : er = 0
      · subst her
        obtain ⟨S, rfl, rfl, htB, hdE, hl60, hSl, hcap, hok, hcP, hc1, hc2, hv1, hv2, hord⟩ := sums_facts ltP_weak HRE.out
        have hbnd := bnd_ok (build_bnd HRE.out)
        have hsm := buildE_small (tx := ones 64) (pn := 1) (d := d) (opener := opener) (n := n) (own := own) (other := other) (hs := hs) (k := exK) (by decide) HHS.out (by omega)
        rw [HRE.out] at hsm
        have hfee := fee_ok hdE (m := cntN d hs) (Nat.le_trans (cnt_le d hs) hl60)
        have hdl := deal_ok hdE
        rw [linesH_cnt] at hcP hv1 hv2
        have HFE := Lib.hid (fun X => fee_any d.rate ((cntN d hs : Nat) : Int) X)
        obtain ⟨fee, hfq⟩ : ∃ fee, (feeE d.rate ((cntN d hs : Nat) : Int)).1 = fee := ⟨_, rfl⟩
        rw [hfq] at HFE hfee hv1 hv2
        rw [hfee.1] at HFE
        have hSv : ∀ x ∈ S, 0 ≤ x.v := fun x hx => (hok x hx).1
        have htt := tot_outs S
        have hsmx : smallTx (txOf (ones 64) 1 S n) := ⟨fun x hx => by rw [List.mem_singleton.1 hx]; exact ⟨⟨by rw [ones_size]; decide, by decide⟩, by rw [ones_size]; decide⟩, hsm.1, by show (1 : Nat) ≤ 1000; omega, by show (S.map outP).length ≤ 1000; rw [List.length_map]; omega⟩
        have HTOT : ∀ X, Below Wf.heap.size Wf X → Calls Tryz.prog 31 #[.agg #[.slice A9 1 ca, .slice B9 S.length cb, .int .i64 0, .int .i64 n]] X fun e w' => e = .returned (.int .i64 (fS LineP.v S)) ∧ Below X.heap.size X w' := fun X hX => by
          have h := total_any [⟨ones 64, 1, 0⟩] (S.map outP) 0 n A9 B9 ca cb X hsmx (GT.out.below hX) (GV.out.below hX) htB (fun y hy => by obtain ⟨z, hz, rfl⟩ := List.mem_map.1 hy; exact hSv z hz) (by rw [tot_outs]; omega) (by rw [List.length_map]; omega)
          rw [tot_outs, List.length_map] at h
          exact h
        have HTOT := Lib.hid HTOT
        have gx : TxBox Wf x A9 1 ca B9 S.length cb 0 n := by
          have h := GX.out
          rw [show (txOf (ones 64) 1 S n).outs.length = S.length from List.length_map ..] at h
          exact h
        clear GX
        have GX := Lib.hid gx
        have gw : (S.map LineP.what).length = S.length := List.length_map ..
        rw [gw]
        clear gx gw hsm hsmx htt htB hfq
        have HOK := Lib.hid hok
        have HCP := Lib.hid hcP
        have HC1 := Lib.hid hc1
        have HC2 := Lib.hid hc2
        have HV1 := Lib.hid hv1
        have HV2 := Lib.hid hv2
        have HOR := Lib.hid hord
        have HBN := Lib.hid hbnd
        have HFB := Lib.hid hfee
        have HDL := Lib.hid hdl
        have hcx : decide (d.cap < fS LineP.v S) = false := decide_eq_false (by omega)
        obtain ⟨tt, htt⟩ : ∃ tt, fS LineP.v S = tt := ⟨_, rfl⟩
        rw [htt] at HTOT hcx
        clear hok hcP hc1 hc2 hv1 hv2 hord hbnd hfee hdl hcap hdE hSv htt HRE
        have s3 : Wf.cell? ⟨w.heap.size + 1, 3, none⟩ = some (.slice A hs.length cap) := cell_of (j := 3) (((Below.refl _ _).block _ (lt_of_block G1.out)).trans G1.out) rfl
        go_wp2_with fail
        clear s3
        go_loopw [10, 11] (fun vn vi wr => ∃ i : Nat, i ≤ hs.length ∧ vn = .int .i64 ((cntN d (hs.take i) : Nat) : Int) ∧ vi = .int .i64 (i : Int) ∧ Below Wf.heap.size Wf wr) (fun _ vi _ => hs.length - (intOf vi).toNat)
        case atStart => exact ⟨0, Nat.zero_le _, rfl, rfl, Below.refl _ _⟩
        case round =>
          obtain ⟨i, hi, rfl, rfl, hbr⟩ := hrel
          have HBR := Lib.hid hbr
          by_cases hlt : i < hs.length
          · have d0 : ∀ dd os, (grow (redrawn wr dd) os).cell? ⟨w.heap.size, 0, none⟩ = some (.int .i64 d.cap) := fun dd os => cell_regrown (cell_of (j := 0) (((HBR.out).block _ (lt_of_block G0.out)).trans G0.out) rfl) dd os
            have d1 : ∀ dd os, (grow (redrawn wr dd) os).cell? ⟨w.heap.size, 1, none⟩ = some (.int .i64 d.push) := fun dd os => cell_regrown (cell_of (j := 1) (((HBR.out).block _ (lt_of_block G0.out)).trans G0.out) rfl) dd os
            have d2 : ∀ dd os, (grow (redrawn wr dd) os).cell? ⟨w.heap.size, 2, none⟩ = some (.int .i64 d.dust) := fun dd os => cell_regrown (cell_of (j := 2) (((HBR.out).block _ (lt_of_block G0.out)).trans G0.out) rfl) dd os
            have d3 : ∀ dd os, (grow (redrawn wr dd) os).cell? ⟨w.heap.size, 3, none⟩ = some (.int .i64 d.res) := fun dd os => cell_regrown (cell_of (j := 3) (((HBR.out).block _ (lt_of_block G0.out)).trans G0.out) rfl) dd os
            have d4 : ∀ dd os, (grow (redrawn wr dd) os).cell? ⟨w.heap.size, 4, none⟩ = some (.int .i64 d.rate) := fun dd os => cell_regrown (cell_of (j := 4) (((HBR.out).block _ (lt_of_block G0.out)).trans G0.out) rfl) dd os
            have d5 : ∀ dd os, (grow (redrawn wr dd) os).cell? ⟨w.heap.size, 5, none⟩ = some (.int .i64 d.delay) := fun dd os => cell_regrown (cell_of (j := 5) (((HBR.out).block _ (lt_of_block G0.out)).trans G0.out) rfl) dd os
            have d6 : ∀ dd os, (grow (redrawn wr dd) os).cell? ⟨w.heap.size, 6, none⟩ = some (.int .i64 d.maxH) := fun dd os => cell_regrown (cell_of (j := 6) (((HBR.out).block _ (lt_of_block G0.out)).trans G0.out) rfl) dd os
            have d7 : ∀ dd os, (grow (redrawn wr dd) os).cell? ⟨w.heap.size, 7, none⟩ = some (.int .i64 d.flight) := fun dd os => cell_regrown (cell_of (j := 7) (((HBR.out).block _ (lt_of_block G0.out)).trans G0.out) rfl) dd os
            have d8 : ∀ dd os, (grow (redrawn wr dd) os).cell? ⟨w.heap.size, 8, none⟩ = some (.int .i64 d.minH) := fun dd os => cell_regrown (cell_of (j := 8) (((HBR.out).block _ (lt_of_block G0.out)).trans G0.out) rfl) dd os
            have s3 : ∀ dd os, (grow (redrawn wr dd) os).cell? ⟨w.heap.size + 1, 3, none⟩ = some (.slice A hs.length cap) := fun dd os => cell_regrown (cell_of (j := 3) (((HBR.out).block _ (lt_of_block G1.out)).trans G1.out) rfl) dd os
            have s3w : wr.cell? ⟨w.heap.size + 1, 3, none⟩ = some (.slice A hs.length cap) := cell_of (j := 3) (((HBR.out).block _ (lt_of_block G1.out)).trans G1.out) rfl
            obtain ⟨ad, rfl, z0, z1, z2, z3, z4⟩ := pay_at (GA.out.below hbr) hlt
            have y0 := fun dd os => cell_regrown z0 dd os
            have y1 := fun dd os => cell_regrown z1 dd os
            have y2 := fun dd os => cell_regrown z2 dd os
            have y3 := fun dd os => cell_regrown z3 dd os
            have y4 := fun dd os => cell_regrown z4 dd os
            have HK := Lib.hid (cnt_snoc d (hs.take i) hs[i])
            have HKT := Lib.hid (List.take_succ_eq_append_getElem hlt)
            have HTR := Lib.hid (fun X => trim_any d hs[i] X)
            have hcn := cnt_le d (hs.take i)
            rw [List.length_take] at hcn
            unfold dealV htlcV at HTR
            obtain ⟨b, hb⟩ : ∃ b, trimB d hs[i].mine hs[i].amt = b := ⟨_, rfl⟩
            rw [hb] at HTR HK
            clear hb
            obtain ⟨c, hc⟩ : ∃ c, cntN d (hs.take i) = c := ⟨_, rfl⟩
            rw [hc] at HK hcn
            rw [hc]
            clear hc z0 z1 z2 z3 z4
            go_wp2_with fail
            refine wp_region_quiet_below (by kernel_rfl) (by kernel_rfl) ?_
            repeat (quiet_step (first | (go_at_call 12; exact Calls.regrown_of (HTR.out _))))
            refine wpQuiet_nil ?_
            intro _ hw'
            obtain ⟨⟨nq, osq⟩, hw''⟩ := hw'
            subst hw''
            have HBQ := Lib.hid (HBR.out.trans ((below_regrown wr nq osq).mono HBR.out.size))
            clear d0 d1 d2 d3 d4 d5 d6 d7 d8 s3 s3w y0 y1 y2 y3 y4
            cases b with
            | true =>
              go_wp2_with fail
              go_roundw
              case rel => exact ⟨i + 1, hlt, by rw [HKT.out, HK.out]; rfl, by go_num, HBQ.out⟩
              case measure => simp [intOf]; omega
            | false =>
              go_wp2_with fail
              go_roundw
              case rel => exact ⟨i + 1, hlt, by rw [HKT.out, HK.out]; go_num, by go_num, HBQ.out⟩
              case measure => simp [intOf]; omega
          · obtain rfl : i = hs.length := by omega
            rw [List.take_length]
            have d0 : wr.cell? ⟨w.heap.size, 0, none⟩ = some (.int .i64 d.cap) := cell_of (j := 0) (((HBR.out).block _ (lt_of_block G0.out)).trans G0.out) rfl
            have d1 : wr.cell? ⟨w.heap.size, 1, none⟩ = some (.int .i64 d.push) := cell_of (j := 1) (((HBR.out).block _ (lt_of_block G0.out)).trans G0.out) rfl
            have d2 : wr.cell? ⟨w.heap.size, 2, none⟩ = some (.int .i64 d.dust) := cell_of (j := 2) (((HBR.out).block _ (lt_of_block G0.out)).trans G0.out) rfl
            have d3 : wr.cell? ⟨w.heap.size, 3, none⟩ = some (.int .i64 d.res) := cell_of (j := 3) (((HBR.out).block _ (lt_of_block G0.out)).trans G0.out) rfl
            have d4 : wr.cell? ⟨w.heap.size, 4, none⟩ = some (.int .i64 d.rate) := cell_of (j := 4) (((HBR.out).block _ (lt_of_block G0.out)).trans G0.out) rfl
            have d5 : wr.cell? ⟨w.heap.size, 5, none⟩ = some (.int .i64 d.delay) := cell_of (j := 5) (((HBR.out).block _ (lt_of_block G0.out)).trans G0.out) rfl
            have d6 : wr.cell? ⟨w.heap.size, 6, none⟩ = some (.int .i64 d.maxH) := cell_of (j := 6) (((HBR.out).block _ (lt_of_block G0.out)).trans G0.out) rfl
            have d7 : wr.cell? ⟨w.heap.size, 7, none⟩ = some (.int .i64 d.flight) := cell_of (j := 7) (((HBR.out).block _ (lt_of_block G0.out)).trans G0.out) rfl
            have d8 : wr.cell? ⟨w.heap.size, 8, none⟩ = some (.int .i64 d.minH) := cell_of (j := 8) (((HBR.out).block _ (lt_of_block G0.out)).trans G0.out) rfl
            have s3 : wr.cell? ⟨w.heap.size + 1, 3, none⟩ = some (.slice A hs.length cap) := cell_of (j := 3) (((HBR.out).block _ (lt_of_block G1.out)).trans G1.out) rfl
            go_wp2_with fail
            refine (HFE.out wr).mono ?_
            rintro e w6 ⟨rfl, hb6⟩
            have HB6 := Lib.hid (HBR.out.trans (hb6.mono HBR.out.size))
            clear d0 d1 d2 d3 d4 d5 d6 d7 d8 s3 hb6 HBR hbr hi
            have d0 : ∀ dd os, (grow (redrawn w6 dd) os).cell? ⟨w.heap.size, 0, none⟩ = some (.int .i64 d.cap) := fun dd os => cell_regrown (cell_of (j := 0) (((HB6.out).block _ (lt_of_block G0.out)).trans G0.out) rfl) dd os
            obtain ⟨q0, q1, q2, q3⟩ := (GX.out.below HB6.out).cells
            have p0 := fun dd os => cell_regrown q0 dd os
            have p1 := fun dd os => cell_regrown q1 dd os
            have p2 := fun dd os => cell_regrown q2 dd os
            have p3 := fun dd os => cell_regrown q3 dd os
            have HTQ := Lib.hid (fun dd os => HTOT.out (grow (redrawn w6 dd) os) (HB6.out.trans ((below_regrown w6 dd os).mono HB6.out.size)))
            clear q0 q1 q2 q3
            go_wp2_with fail
            refine wp_region_quiet_below (by kernel_rfl) (by kernel_rfl) ?_
            repeat (quiet_step (first | (go_at_call 31; exact Calls.regrown_of (HTQ.out _ _))))
            refine wpQuiet_nil ?_
            intro _ hw'
            obtain ⟨⟨nq, osq⟩, hw''⟩ := hw'
            subst hw''
            have HB7 := Lib.hid (HB6.out.trans ((below_regrown w6 nq osq).mono HB6.out.size))
            clear d0 p0 p1 p2 p3 HTQ HB6
            generalize grow (redrawn w6 nq) osq = w7 at HB7 ⊢
            have HMK := mk2i
            go_wp2_with fail
            have HB9 := Lib.hid (HB7.out.trans (((Below.refl _ _).alloc (Nat.le_refl _) (.cells #[.int .i64 0, .int .i64 0] 2)).mono HB7.out.size))
            have hb9 : (w7.alloc (.cells #[.int .i64 0, .int .i64 0] 2)).heap[w7.heap.size]? = some (.cells #[.int .i64 0, .int .i64 0] 2) := Go.heap_alloc_new w7 _
            have hgb : Wf.heap.size ≤ w7.heap.size := HB7.out.size
            generalize w7.alloc (.cells #[.int .i64 0, .int .i64 0] 2) = w9 at HB9 hb9 ⊢
            clear HB7
            generalize w7.heap.size = hv at hb9 hgb ⊢
            have HAM := Lib.hid (fun h (hm : h ∈ hs) => (sumE_all _ _ HBN.out.2.2.2.2.2.1).1 h.amt (List.mem_cons_of_mem _ (List.mem_cons_of_mem _ (List.mem_map_of_mem hm))))
            have HGB := Lib.hid hgb
            have HB9v := Lib.hid hb9
            clear HMK HTOT HFE hb9 hgb
            go_loopw [10, 15] (fun vn vi wr => ∃ i : Nat, i ≤ S.length ∧ vn = .int .i64 (((cntN d hs : Nat) : Int) - fS cP (S.take i)) ∧ vi = .int .i64 (i : Int) ∧ Below Wf.heap.size Wf wr ∧ wr.heap[hv]? = some (.cells #[.int .i64 (fS (vA (-1)) (S.take i)), .int .i64 (fS (vA (-2)) (S.take i))] 2)) (fun _ vi _ => S.length - (intOf vi).toNat)
            case atStart => exact ⟨0, Nat.zero_le _, by show _ = Value.int .i64 (_ - 0); rw [Int.sub_zero], rfl, HB9.out, HB9v.out⟩
            case round =>
              obtain ⟨i, hi, rfl, rfl, hbr, hbv⟩ := hrel
              have HBR := Lib.hid hbr
              have HBV := Lib.hid hbv
              obtain ⟨p0, p1, p2, p3⟩ := (GX.out.below hbr).cells
              clear hbv p0 p2 p3
              by_cases hlt : i < S.length
              · obtain ⟨-, ys, hy1, hy2⟩ := GT.out.below hbr
                have hlo : i < (txOf (ones 64) 1 S n).outs.length := by show i < (S.map outP).length; rw [List.length_map]; exact hlt
                obtain ⟨bd, C, cp, hB, o0, -⟩ := out_at hy1 hy2 hlo
                have e0 : (txOf (ones 64) 1 S n).outs[i].value = S[i].v := by simp [txOf, outP]
                rw [e0] at o0
                obtain ⟨wd, hW, u0⟩ := (GW.out.below hbr).at_ (k := i) (by rw [wordsV, List.length_map, List.length_map]; exact hlt)
                have e1 : (wordsV (S.map LineP.what))[i]'(by rw [wordsV, List.length_map, List.length_map]; exact hlt) = .int .i64 S[i].what := by simp [wordsV]
                rw [e1] at u0
                subst hB hW
                have K1 := Lib.hid (fS_step cP S hlt)
                have K2 := Lib.hid (fun h => one_v HC1.out hlt h)
                have K3 := Lib.hid (fun h => one_v HC2.out hlt h)
                have K4 := Lib.hid (fun j h => other_v (j := j) hlt h)
                have K5 := Lib.hid (HOK.out _ (List.getElem_mem hlt))
                have hcl := cnt_le d hs
                have hP0 := fS_nn (f := cP) (l := S.take i) (fun y _ => by unfold cP; split <;> omega)
                have hP1 := fS_take_le (f := cP) (S := S) (fun y => by unfold cP; split <;> omega) i
                rw [HCP.out] at hP1
                clear hy1 hy2 hlo e0 e1 hbr
                obtain ⟨y, hy⟩ : ∃ y, S[i] = y := ⟨_, rfl⟩
                rw [hy] at o0 u0 K1 K2 K3 K4 K5
                clear hy
                by_cases hw : 0 ≤ y.what
                · obtain ⟨j, hj, hjw, hjv, hjt⟩ : ∃ (j : Nat) (hj : j < hs.length), y.what = (j : Int) ∧ y.v = hs[j].amt / 1000 ∧ trimB d hs[j].mine hs[j].amt = false := by
                    rcases K5.out.2 with h | h | h
                    · omega
                    · omega
                    · exact h
                  have hyv := K5.out.1
                  rw [hjv] at hyv
                  have q1 : Int.tdiv hs[j].amt 1000 = hs[j].amt / 1000 := Int.tdiv_eq_ediv_of_nonneg (by omega)
                  have hab := HAM.out _ (List.getElem_mem hj)
                  have q2 : IntKind.i64.wrap (hs[j].amt / 1000) = hs[j].amt / 1000 := by rw [IntKind.wrap_i64]; omega
                  have KP := Lib.hid (show fS cP (S.take (i + 1)) = fS cP (S.take i) + 1 by rw [K1.out]; unfold cP; rw [if_pos hw])
                  have KA := Lib.hid (K4.out (-1) (by omega))
                  have KB := Lib.hid (K4.out (-2) (by omega))
                  rw [hjw] at u0
                  rw [hjv] at o0
                  clear hw hjw hjv K1 K2 K3 K4 K5
                  have s3 : wr.cell? ⟨w.heap.size + 1, 3, none⟩ = some (.slice A hs.length cap) := cell_of (j := 3) (((HBR.out).block _ (lt_of_block G1.out)).trans G1.out) rfl
                  obtain ⟨ad, rfl, z0, z1, z2, z3, z4⟩ := pay_at (GA.out.below HBR.out) hj
                  obtain ⟨am, ham⟩ : ∃ am, hs[j].amt / 1000 = am := ⟨_, rfl⟩
                  rw [ham] at q1 q2 o0 hyv
                  clear ham hab
                  have HTR := Lib.hid (fun X => trim_any d hs[j] X)
                  rw [hjt] at HTR
                  unfold dealV htlcV at HTR
                  go_wp2_with fail
                  have hq0 : wr.cell? ⟨w.heap.size + 1, 3, none⟩ = some (.slice (some ad) hs.length cap) ∧ wr.cell? (wd.add i) = some (.int .i64 (j : Int)) ∧ wr.cell? (ad.add (j * 5)) = some (.bool hs[j].mine) ∧ wr.cell? ⟨(ad.add (j * 5)).block, (ad.add (j * 5)).off + 1, none⟩ = some (.int .i64 hs[j].id) ∧ wr.cell? ⟨(ad.add (j * 5)).block, (ad.add (j * 5)).off + 2, none⟩ = some (.int .i64 hs[j].amt) ∧ wr.cell? ⟨(ad.add (j * 5)).block, (ad.add (j * 5)).off + 3, none⟩ = some (.string hs[j].hash) ∧ wr.cell? ⟨(ad.add (j * 5)).block, (ad.add (j * 5)).off + 4, none⟩ = some (.int .i64 hs[j].exp) := ⟨s3, u0, z0, z1, z2, z3, z4⟩
                  have hq1 : ∀ o, (wr.alloc o).cell? ⟨w.heap.size + 1, 3, none⟩ = some (.slice (some ad) hs.length cap) ∧ (wr.alloc o).cell? (wd.add i) = some (.int .i64 (j : Int)) ∧ (wr.alloc o).cell? (ad.add (j * 5)) = some (.bool hs[j].mine) ∧ (wr.alloc o).cell? ⟨(ad.add (j * 5)).block, (ad.add (j * 5)).off + 1, none⟩ = some (.int .i64 hs[j].id) ∧ (wr.alloc o).cell? ⟨(ad.add (j * 5)).block, (ad.add (j * 5)).off + 2, none⟩ = some (.int .i64 hs[j].amt) ∧ (wr.alloc o).cell? ⟨(ad.add (j * 5)).block, (ad.add (j * 5)).off + 3, none⟩ = some (.string hs[j].hash) ∧ (wr.alloc o).cell? ⟨(ad.add (j * 5)).block, (ad.add (j * 5)).off + 4, none⟩ = some (.int .i64 hs[j].exp) := fun o => by
                    have hq := (Below.refl wr.heap.size wr).alloc (Nat.le_refl _) o
                    exact ⟨cell_below hq s3, cell_below hq u0, cell_below hq z0, cell_below hq z1, cell_below hq z2, cell_below hq z3, cell_below hq z4⟩
                  have HQ0 := Lib.hid hq0
                  have HQ1 := Lib.hid hq1
                  clear hq0 hq1
                  go_region_held3 (fun V => V.cell? ⟨w.heap.size + 1, 3, none⟩ = some (.slice (some ad) hs.length cap) ∧ V.cell? (wd.add i) = some (.int .i64 (j : Int)) ∧ V.cell? (ad.add (j * 5)) = some (.bool hs[j].mine) ∧ V.cell? ⟨(ad.add (j * 5)).block, (ad.add (j * 5)).off + 1, none⟩ = some (.int .i64 hs[j].id) ∧ V.cell? ⟨(ad.add (j * 5)).block, (ad.add (j * 5)).off + 2, none⟩ = some (.int .i64 hs[j].amt) ∧ V.cell? ⟨(ad.add (j * 5)).block, (ad.add (j * 5)).off + 3, none⟩ = some (.string hs[j].hash) ∧ V.cell? ⟨(ad.add (j * 5)).block, (ad.add (j * 5)).off + 4, none⟩ = some (.int .i64 hs[j].exp))
                    (first | exact HQ0.out | exact HQ1.out _)
                    (fail)
                  have hbq : Below wr.heap.size wr ((wr.alloc (.cells #[.bool hs[j].mine, .int .i64 hs[j].id, .int .i64 hs[j].amt, .string hs[j].hash, .int .i64 hs[j].exp] 26)).drew) := ((Below.refl _ _).alloc (Nat.le_refl _) _).drew
                  have HBQ := Lib.hid (HBR.out.trans (hbq.mono HBR.out.size))
                  have HBVQ := Lib.hid ((hbq.block hv (lt_of_block HBV.out)).trans HBV.out)
                  have y0 : ((wr.alloc (.cells #[.bool hs[j].mine, .int .i64 hs[j].id, .int .i64 hs[j].amt, .string hs[j].hash, .int .i64 hs[j].exp] 26)).drew).cell? ⟨wr.heap.size, 0, none⟩ = some (.bool hs[j].mine) := alloc_cells 0 _ rfl
                  have y1 : ((wr.alloc (.cells #[.bool hs[j].mine, .int .i64 hs[j].id, .int .i64 hs[j].amt, .string hs[j].hash, .int .i64 hs[j].exp] 26)).drew).cell? ⟨wr.heap.size, 1, none⟩ = some (.int .i64 hs[j].id) := alloc_cells 1 _ rfl
                  have y2 : ((wr.alloc (.cells #[.bool hs[j].mine, .int .i64 hs[j].id, .int .i64 hs[j].amt, .string hs[j].hash, .int .i64 hs[j].exp] 26)).drew).cell? ⟨wr.heap.size, 2, none⟩ = some (.int .i64 hs[j].amt) := alloc_cells 2 _ rfl
                  have y3 : ((wr.alloc (.cells #[.bool hs[j].mine, .int .i64 hs[j].id, .int .i64 hs[j].amt, .string hs[j].hash, .int .i64 hs[j].exp] 26)).drew).cell? ⟨wr.heap.size, 3, none⟩ = some (.string hs[j].hash) := alloc_cells 3 _ rfl
                  have y4 : ((wr.alloc (.cells #[.bool hs[j].mine, .int .i64 hs[j].id, .int .i64 hs[j].amt, .string hs[j].hash, .int .i64 hs[j].exp] 26)).drew).cell? ⟨wr.heap.size, 4, none⟩ = some (.int .i64 hs[j].exp) := alloc_cells 4 _ rfl
                  generalize (wr.alloc (.cells #[.bool hs[j].mine, .int .i64 hs[j].id, .int .i64 hs[j].amt, .string hs[j].hash, .int .i64 hs[j].exp] 26)).drew = wq at HBQ HBVQ y0 y1 y2 y3 y4 ⊢
                  clear hbq HQ0 HQ1 z0 z1 z2 z3 z4 s3 u0 p1
                  generalize wr.heap.size = wrs at y0 y1 y2 y3 y4 ⊢
                  have d0 : wq.cell? ⟨w.heap.size, 0, none⟩ = some (.int .i64 d.cap) := cell_of (j := 0) (((HBQ.out).block _ (lt_of_block G0.out)).trans G0.out) rfl
                  have d1 : wq.cell? ⟨w.heap.size, 1, none⟩ = some (.int .i64 d.push) := cell_of (j := 1) (((HBQ.out).block _ (lt_of_block G0.out)).trans G0.out) rfl
                  have d2 : wq.cell? ⟨w.heap.size, 2, none⟩ = some (.int .i64 d.dust) := cell_of (j := 2) (((HBQ.out).block _ (lt_of_block G0.out)).trans G0.out) rfl
                  have d3 : wq.cell? ⟨w.heap.size, 3, none⟩ = some (.int .i64 d.res) := cell_of (j := 3) (((HBQ.out).block _ (lt_of_block G0.out)).trans G0.out) rfl
                  have d4 : wq.cell? ⟨w.heap.size, 4, none⟩ = some (.int .i64 d.rate) := cell_of (j := 4) (((HBQ.out).block _ (lt_of_block G0.out)).trans G0.out) rfl
                  have d5 : wq.cell? ⟨w.heap.size, 5, none⟩ = some (.int .i64 d.delay) := cell_of (j := 5) (((HBQ.out).block _ (lt_of_block G0.out)).trans G0.out) rfl
                  have d6 : wq.cell? ⟨w.heap.size, 6, none⟩ = some (.int .i64 d.maxH) := cell_of (j := 6) (((HBQ.out).block _ (lt_of_block G0.out)).trans G0.out) rfl
                  have d7 : wq.cell? ⟨w.heap.size, 7, none⟩ = some (.int .i64 d.flight) := cell_of (j := 7) (((HBQ.out).block _ (lt_of_block G0.out)).trans G0.out) rfl
                  have d8 : wq.cell? ⟨w.heap.size, 8, none⟩ = some (.int .i64 d.minH) := cell_of (j := 8) (((HBQ.out).block _ (lt_of_block G0.out)).trans G0.out) rfl
                  go_wp2_with fail
                  refine (HTR.out _).mono ?_
                  rintro e wt ⟨rfl, hbt⟩
                  have HBT := Lib.hid (HBQ.out.trans (hbt.mono HBQ.out.size))
                  have HBVT := Lib.hid ((hbt.block hv (lt_of_block HBVQ.out)).trans HBVQ.out)
                  clear hbt y0 y1 y2 y3 y4 d0 d1 d2 d3 d4 d5 d6 d7 d8
                  go_wp2_with fail
                  go_roundw
                  case rel => exact ⟨i + 1, hlt, by rw [KP.out]; go_num, by go_num, HBT.out, by rw [KA.out, KB.out]; exact HBVT.out⟩
                  case measure => simp [intOf]; omega
                · rcases K5.out.2 with h | h | ⟨j, hj, h, -, -⟩
                  · rw [h] at u0
                    have KA := Lib.hid (K2.out h)
                    have KB := Lib.hid (K4.out (-2) (by rw [h]; decide))
                    have KP := Lib.hid (show fS cP (S.take (i + 1)) = fS cP (S.take i) by rw [K1.out]; unfold cP; rw [if_neg hw]; omega)
                    have hz : wr.frozen? ⟨hv, 0, none⟩ = false := by simp [World.frozen?, HBV.out]
                    have hcv := cell_of (j := 0) HBV.out rfl
                    have hsb := setCell_cells HBV.out 0 (.int .i64 y.v)
                    have HSB := Lib.hid hsb
                    have HBS := Lib.hid (HBR.out.trans ((Fr.put0 (F := [hv]) wr hv 0 (.int .i64 y.v) (List.mem_singleton.2 rfl)).toBelowOf (B := Wf.heap.size) HBR.out.size (fun q hq => by rw [List.mem_singleton.1 hq]; exact HGB.out)))
                    have hn1 : IntKind.i64.wrap (-1 - (-1)) = 0 := by decide
                    clear K1 K2 K3 K4 K5 hw h hsb
                    go_wp2_with fail
                    go_roundw
                    case rel => exact ⟨i + 1, hlt, by rw [KP.out], by go_num, HBS.out, by rw [KA.out, KB.out]; exact HSB.out⟩
                    case measure => simp [intOf]; omega
                  · rw [h] at u0
                    have KA := Lib.hid (K3.out h)
                    have KB := Lib.hid (K4.out (-1) (by rw [h]; decide))
                    have KP := Lib.hid (show fS cP (S.take (i + 1)) = fS cP (S.take i) by rw [K1.out]; unfold cP; rw [if_neg hw]; omega)
                    have hz : wr.frozen? ⟨hv, 1, none⟩ = false := by simp [World.frozen?, HBV.out]
                    have hcv := cell_of (j := 1) HBV.out rfl
                    have hsb := setCell_cells HBV.out 1 (.int .i64 y.v)
                    have HSB := Lib.hid hsb
                    have HBS := Lib.hid (HBR.out.trans ((Fr.put0 (F := [hv]) wr hv 1 (.int .i64 y.v) (List.mem_singleton.2 rfl)).toBelowOf (B := Wf.heap.size) HBR.out.size (fun q hq => by rw [List.mem_singleton.1 hq]; exact HGB.out)))
                    have hn1 : IntKind.i64.wrap (-1 - (-2)) = 1 := by decide
                    clear K1 K2 K3 K4 K5 hw h hsb
                    go_wp2_with fail
                    go_roundw
                    case rel => exact ⟨i + 1, hlt, by rw [KP.out], by go_num, HBS.out, by rw [KA.out, KB.out]; exact HSB.out⟩
                    case measure => simp [intOf]; omega
                  · omega
              · obtain rfl : i = S.length := by omega
                have hbv := HBV.out
                rw [List.take_length, HV1.out, HV2.out] at hbv
                rw [List.take_length, HCP.out, Int.sub_self]
                have HBW := Lib.hid hbv
                have d2 : wr.cell? ⟨w.heap.size, 2, none⟩ = some (.int .i64 d.dust) := cell_of (j := 2) (((HBR.out).block _ (lt_of_block G0.out)).trans G0.out) rfl
                have s1 : wr.cell? ⟨w.heap.size + 1, 1, none⟩ = some (.int .i64 own) := cell_of (j := 1) (((HBR.out).block _ (lt_of_block G1.out)).trans G1.out) rfl
                have s2 : wr.cell? ⟨w.heap.size + 1, 2, none⟩ = some (.int .i64 other) := cell_of (j := 2) (((HBR.out).block _ (lt_of_block G1.out)).trans G1.out) rfl
                obtain ⟨bo0, bo1, br0, br1, -, -, -⟩ := HBN.out
                obtain ⟨-, hf0, hf1⟩ := HFB.out
                have hd1 := HDL.out.2.2.1
                obtain ⟨qo, hqo⟩ : ∃ qo, own / 1000 = qo := ⟨_, rfl⟩
                obtain ⟨qr, hqr⟩ : ∃ qr, other / 1000 = qr := ⟨_, rfl⟩
                have q1 : Int.tdiv own 1000 = qo := by rw [← hqo]; exact Int.tdiv_eq_ediv_of_nonneg bo0
                have q2 : Int.tdiv other 1000 = qr := by rw [← hqr]; exact Int.tdiv_eq_ediv_of_nonneg br0
                have q3 : IntKind.i64.wrap qo = qo := by rw [IntKind.wrap_i64]; omega
                have q4 : IntKind.i64.wrap qr = qr := by rw [IntKind.wrap_i64]; omega
                have q5 : IntKind.i64.wrap (qo - fee) = qo - fee := by rw [IntKind.wrap_i64]; omega
                have q6 : IntKind.i64.wrap (qr - fee) = qr - fee := by rw [IntKind.wrap_i64]; omega
                have hqo0 : 0 ≤ qo := by omega
                have hqr0 : 0 ≤ qr := by omega
                have HQO := Lib.hid hqo
                have HQR := Lib.hid hqr
                clear hbv bo0 bo1 br0 br1 hqo hqr HV1 HV2 HCP HC1 HC2 HAM HOK HBV p1
                go_wp2_with fail
                go_quiet (fail)
                go_upto_if 130 with fail
                have HBZ := Lib.hid (below_drewN HBR.out nq)
                have HBWZ := Lib.hid (show (wr.drewN nq).heap[hv]? = _ from HBW.out)
                clear d2 s1 s2
                generalize wr.drewN nq = wz at HBZ HBWZ ⊢
                have d2 : wz.cell? ⟨w.heap.size, 2, none⟩ = some (.int .i64 d.dust) := cell_of (j := 2) (((HBZ.out).block _ (lt_of_block G0.out)).trans G0.out) rfl
                obtain ⟨oo, hoo⟩ : ∃ oo, (if opener = true then max 0 (qo - fee) else qo) = oo := ⟨_, rfl⟩
                obtain ⟨rr, hrr⟩ : ∃ rr, (if opener = true then qr else max 0 (qr - fee)) = rr := ⟨_, rfl⟩
                have HOO := Lib.hid hoo
                have HRR := Lib.hid hrr
                clear hoo hrr
                go_cut [18, 19] (fun a b wx => a = .int .i64 oo ∧ b = .int .i64 rr ∧ wx = wz)
                case first =>
                  cases opener with
                  | true =>
                    go_wp2_with fail
                    go_meet
                    exact ⟨by rw [← HOO.out]; simp, by rw [← HRR.out]; simp, rfl⟩
                  | false =>
                    go_wp2_with fail
                    go_meet
                    exact ⟨by rw [← HOO.out, if_neg (by decide)], by rw [← HRR.out, if_neg (by decide)], rfl⟩
                case rest =>
                  obtain ⟨rfl, rfl, rfl⟩ := hcut
                  go_upto_if 142 with fail
                  obtain ⟨ow, how⟩ : ∃ ow, (if oo < d.dust then 0 else oo) = ow := ⟨_, rfl⟩
                  obtain ⟨rv, hrv⟩ : ∃ rv, (if rr < d.dust then 0 else rr) = rv := ⟨_, rfl⟩
                  have HLE := Lib.hid (last_eq hd1 HQO.out HQR.out hqo0 hqr0 HOO.out HRR.out how hrv)
                  have HOW := Lib.hid how
                  have HRW := Lib.hid hrv
                  clear how hrv HOO HRR HQO HQR q1 q2 q3 q4 q5 q6 hqo0 hqr0 hf0 hf1
                  go_cut [18] (fun a wx => a = .int .i64 ow ∧ wx = wc)
                  case first =>
                    by_cases hx1 : oo < d.dust
                    · have hx2 : decide (oo < d.dust) = true := decide_eq_true hx1
                      go_wp2_with fail
                      go_meet
                      exact ⟨by rw [← HOW.out, if_pos hx1], rfl⟩
                    · have hx2 : decide (oo < d.dust) = false := decide_eq_false hx1
                      go_wp2_with fail
                      go_meet
                      exact ⟨by rw [← HOW.out, if_neg (by omega)], rfl⟩
                  case rest =>
                    obtain ⟨rfl, rfl⟩ := hcut
                    go_upto_if 146 with fail
                    go_cut [19] (fun a wx => a = .int .i64 rv ∧ wx = wc)
                    case first =>
                      by_cases hx1 : rr < d.dust
                      · have hx2 : decide (rr < d.dust) = true := decide_eq_true hx1
                        go_wp2_with fail
                        go_meet
                        exact ⟨by rw [← HRW.out, if_pos hx1], rfl⟩
                      · have hx2 : decide (rr < d.dust) = false := decide_eq_false hx1
                        go_wp2_with fail
                        go_meet
                        exact ⟨by rw [← HRW.out, if_neg (by omega)], rfl⟩
                    case rest =>
                      obtain ⟨rfl, rfl⟩ := hcut
                      have hbz := HBWZ.out
                      rw [HLE.out.1, HLE.out.2] at hbz
                      have HBX := Lib.hid hbz
                      clear hbz HBWZ HLE HOW HRW d2 hd1
                      go_wp2_with fail
                      go_loopw [20] (fun vi wx => ∃ i : Nat, 1 ≤ i ∧ vi = .int .i64 (i : Int) ∧ Below Wf.heap.size Wf wx ∧ wx.heap[hv]? = some (.cells #[.int .i64 ow, .int .i64 rv] 2)) (fun vi _ => S.length + 1 - (intOf vi).toNat)
                      case atStart => exact ⟨1, Nat.le_refl _, rfl, HBZ.out, HBX.out⟩
                      case round =>
                        clear HBZ HBX
                        obtain ⟨i, hi1, rfl, hbz, hbx⟩ := hrel
                        have HBZ := Lib.hid hbz
                        have HBX := Lib.hid hbx
                        obtain ⟨p0, p1, p2, p3⟩ := (GX.out.below hbz).cells
                        clear hbx p0 p2 p3
                        by_cases hlt : i < S.length
                        · obtain ⟨k, hk⟩ : ∃ k, i = k + 1 := ⟨i - 1, by omega⟩
                          have hki : IntKind.i64.wrap ((i : Int) - 1) = (k : Int) := by rw [IntKind.wrap_i64]; omega
                          have hkl : k < S.length := by omega
                          have hor := HOR.out k (by omega)
                          obtain ⟨-, ys, hy1, hy2⟩ := GT.out.below hbz
                          have hl1 : i < (txOf (ones 64) 1 S n).outs.length := by show i < (S.map outP).length; rw [List.length_map]; exact hlt
                          have hl2 : k < (txOf (ones 64) 1 S n).outs.length := by show k < (S.map outP).length; rw [List.length_map]; exact hkl
                          obtain ⟨bd, C, cp, hB, o0, -⟩ := out_at hy1 hy2 hl1
                          obtain ⟨bd', C', cp', hB', o1, -⟩ := out_at hy1 hy2 hl2
                          subst hB
                          injection hB' with hB'
                          subst hB'
                          have e0 : (txOf (ones 64) 1 S n).outs[i].value = S[i].v := by simp [txOf, outP]
                          have e1 : (txOf (ones 64) 1 S n).outs[k].value = S[k].v := by simp [txOf, outP]
                          rw [e0] at o0
                          rw [e1] at o1
                          have hSi : S[i].v = (S[k + 1]'(by omega)).v := by subst hk; rfl
                          rw [← hSi] at hor
                          obtain ⟨v0, hv0⟩ : ∃ v0, S[i].v = v0 := ⟨_, rfl⟩
                          obtain ⟨v1, hv1'⟩ : ∃ v1, S[k].v = v1 := ⟨_, rfl⟩
                          rw [hv0] at o0 hor
                          rw [hv1'] at o1 hor
                          have hg1 : decide (v0 < v1) = false := decide_eq_false (by omega)
                          have hg2 : ¬ v0 < v1 := by omega
                          clear hk hl1 hl2 hy1 hy2 e0 e1 hSi hv0 hv1' hor hbz
                          go_wp2_with fail
                          go_quiet (fail)
                          go_wp2_with fail
                          go_roundw
                          case rel => exact ⟨i + 1, by omega, by go_num, below_drewN HBZ.out _, HBX.out⟩
                          case measure => simp [intOf]; omega
                        · have hc0 := cell_of (j := 0) HBX.out rfl
                          have hc1 := cell_of (j := 1) HBX.out rfl
                          clear hbz
                          go_wp2_with fail
                          refine (works_any _ (GV.out.below HBZ.out) (GTB.out.below HBZ.out)).mono ?_
                          rintro e w5 ⟨rfl, hb5⟩
                          go_wp2_with fail
                          go_ret
                          exact ⟨rfl, HWB.out.trans ((HBZ.out.trans (hb5.mono HBZ.out.size)).mono HWB.out.size)⟩
      · have hne : ¬ er = 0 := her
        clear her
        go_wp2_with fail
        refine (works_any Wf GV.out GTB.out).mono ?_
        rintro e w5 ⟨rfl, hb5⟩
        go_wp2_with fail
        go_ret
        exact ⟨rfl, HWB.out.trans (hb5.mono HWB.out.size)⟩

    refine anyG_all (rs := [0, 10]) (by kernel_rfl) (by simp) (List.forall_mem_cons.2 ⟨?_, List.forall_mem_singleton.2 ?_⟩)
    · refine wpOp_step rfl (fun K' hK => ?_)
      have HK := Lib.hid hK
      clear hK
      rw [if_pos (by rfl)]
      go_simp
      refine Calls.mono (point_any _) ?_
      rintro e v0 ⟨rfl, hb⟩
      have HBB := Lib.hid (hS.trans (hb.mono hS.size))
      skip
      clear hS hb
      have hS := HBB.out
      go_wp2_with fail
      refine HK.out _ _ ⟨fun _ => HBB.out, ?_⟩
      clear HK HBB
      try simp only [Act.put, List.setIfInBounds_toArray, List.set_cons_zero, List.set_cons_succ]
      refine anyG_all (rs := [4, 10]) (by kernel_rfl) (by simp) (List.forall_mem_cons.2 ⟨?_, List.forall_mem_singleton.2 ?_⟩)
      · refine wpOp_step rfl (fun K' hK => ?_)
        have HK := Lib.hid hK
        clear hK
        rw [if_pos (by rfl)]
        go_simp
        refine Calls.mono (keys_any _) ?_
        rintro e v4 ⟨rfl, hb⟩
        have HBB := Lib.hid (hS.trans (hb.mono hS.size))
        skip
        clear hS hb
        have hS := HBB.out
        go_wp2_with fail
        refine HK.out _ _ ⟨fun _ => HBB.out, ?_⟩
        clear HK HBB
        try simp only [Act.put, List.setIfInBounds_toArray, List.set_cons_zero, List.set_cons_succ]
        refine anyG_all (rs := [5, 10]) (by kernel_rfl) (by simp) (List.forall_mem_cons.2 ⟨?_, List.forall_mem_singleton.2 ?_⟩)
        · refine wpOp_step rfl (fun K' hK => ?_)
          have HK := Lib.hid hK
          clear hK
          rw [if_pos (by rfl)]
          go_simp
          refine Calls.mono (HBU.out _ (HB2.out.trans (hS.mono HB2.out.size))) ?_
          rintro e v5 ⟨tv, wv, rfl, hT, hI, hb⟩
          obtain ⟨A9, ca, B9, cb, rfl, hT⟩ := hT
          obtain ⟨AW, cW, rfl, hI⟩ := hI
          have HT9 := Lib.hid (hT v5 (Below.refl _ _) (Stay.refl _))
          have HI9 := Lib.hid hI
          have HBB := Lib.hid (hS.trans (hb.mono hS.size))
          skip
          clear hS hb hT hI
          have hS := HBB.out
          go_wp2_with fail
          refine HK.out _ _ ⟨fun _ => HBB.out, ?_⟩
          clear HK HBB
          try simp only [Act.put, List.setIfInBounds_toArray, List.set_cons_zero, List.set_cons_succ]
          refine anyG_take (i := 6) (v := ?_) rfl rfl (by kernel_rfl) (by kernel_rfl) (by kernel_rfl) (by kernel_rfl) (by kernel_rfl) (fun _ _ _ h => h) (Or.inl ⟨by rfl, ?_⟩) hS ?_
          rotate_left
          · (intro w' hSw; (try dsimp only at hSw); go_simp; (try with_reducible rfl))
          try simp only [Act.put, List.setIfInBounds_toArray, List.set_cons_zero, List.set_cons_succ]
          refine anyG_take (i := 7) (v := ?_) rfl rfl (by kernel_rfl) (by kernel_rfl) (by kernel_rfl) (by kernel_rfl) (by kernel_rfl) (fun _ _ _ h => h) (Or.inl ⟨by rfl, ?_⟩) hS ?_
          rotate_left
          · (intro w' hSw; (try dsimp only at hSw); go_simp; (try with_reducible rfl))
          try simp only [Act.put, List.setIfInBounds_toArray, List.set_cons_zero, List.set_cons_succ]
          refine anyG_take (i := 8) (v := ?_) rfl rfl (by kernel_rfl) (by kernel_rfl) (by kernel_rfl) (by kernel_rfl) (by kernel_rfl) (fun _ _ _ h => h) (Or.inl ⟨by rfl, ?_⟩) hS ?_
          rotate_left
          · (intro w' hSw; (try dsimp only at hSw); go_simp; (try with_reducible rfl))
          try simp only [Act.put, List.setIfInBounds_toArray, List.set_cons_zero, List.set_cons_succ]
          refine anyG_take (i := 9) (v := ?_) rfl rfl (by kernel_rfl) (by kernel_rfl) (by kernel_rfl) (by kernel_rfl) (by kernel_rfl) (fun _ _ _ h => h) (Or.inl ⟨by rfl, ?_⟩) hS ?_
          rotate_left
          · (intro w' hSw; (try dsimp only at hSw); go_simp; (try with_reducible rfl))
          try simp only [Act.put, List.setIfInBounds_toArray, List.set_cons_zero, List.set_cons_succ]
          refine anyG_all (rs := [10]) (by kernel_rfl) (by simp) (List.forall_mem_singleton.2 ?_)
          refine wpOp_step rfl (fun K' hK => ?_)
          have HK := Lib.hid hK
          clear hK
          rw [if_pos (by rfl)]
          go_simp
          refine HK.out _ _ ⟨fun _ => hS.alloc hS.size _, ?_⟩
          clear HK
          try simp only [Act.put, List.setIfInBounds_toArray, List.set_cons_zero, List.set_cons_succ]
          exact REST _ _ ⟨v5.heap.size, A9, B9, ca, cb, AW, cW, rfl, hS.size, Go.heap_alloc_new v5 _, HT9.out.below ((Below.refl _ _).alloc (Nat.le_refl _) _), fun X hX => HI9.out X ((Stay.below ((Below.refl _ _).alloc (Nat.le_refl _) _)).trans hX), hS.alloc hS.size _⟩
        · refine wpOp_step rfl (fun K' hK => ?_)
          have HK := Lib.hid hK
          clear hK
          rw [if_pos (by rfl)]
          go_simp
          refine HK.out _ _ ⟨fun _ => hS.alloc hS.size _, ?_⟩
          clear HK
          try simp only [Act.put, List.setIfInBounds_toArray, List.set_cons_zero, List.set_cons_succ]
          have hx1 : w2.heap.size ≤ v4.heap.size := hS.size
          have HX := Lib.hid (show TxBox (v4.alloc (.cells #[.slice none 0 0, .slice none 0 0, .int .i64 0, .int .i64 0] 45)) v4.heap.size none 0 0 none 0 0 0 0 from Go.heap_alloc_new v4 _)
          have hS' := hS.alloc hS.size (.cells #[.slice none 0 0, .slice none 0 0, .int .i64 0, .int .i64 0] 45)
          clear hS
          have hS := hS'
          clear hS'
          refine anyG_all (rs := [5]) (by kernel_rfl) (by simp) (List.forall_mem_singleton.2 ?_)
          refine wpOp_step rfl (fun K' hK => ?_)
          have HK := Lib.hid hK
          clear hK
          rw [if_pos (by rfl)]
          go_simp
          refine Calls.mono (HBU.out _ (HB2.out.trans (hS.mono HB2.out.size))) ?_
          rintro e v5 ⟨tv, wv, rfl, hT, hI, hb⟩
          obtain ⟨A9, ca, B9, cb, rfl, hT⟩ := hT
          obtain ⟨AW, cW, rfl, hI⟩ := hI
          have HT9 := Lib.hid (hT v5 (Below.refl _ _) (Stay.refl _))
          have HI9 := Lib.hid hI
          have HBB := Lib.hid (hS.trans (hb.mono hS.size))
          have hxb := Lib.hid (HX.out.below hb)
          clear HX
          have HX := hxb
          clear hxb
          clear hS hb hT hI
          have hS := HBB.out
          go_wp2_with fail
          refine HK.out _ _ ⟨fun _ => HBB.out, ?_⟩
          clear HK HBB
          try simp only [Act.put, List.setIfInBounds_toArray, List.set_cons_zero, List.set_cons_succ]
          refine anyG_take (i := 6) (v := ?_) rfl rfl (by kernel_rfl) (by kernel_rfl) (by kernel_rfl) (by kernel_rfl) (by kernel_rfl) (fun _ _ _ h => h) (Or.inl ⟨by rfl, ?_⟩) hS ?_
          rotate_left
          · (intro w' hSw; (try dsimp only at hSw); go_simp; (try with_reducible rfl))
          try simp only [Act.put, List.setIfInBounds_toArray, List.set_cons_zero, List.set_cons_succ]
          refine anyG_take (i := 7) (v := ?_) rfl rfl (by kernel_rfl) (by kernel_rfl) (by kernel_rfl) (by kernel_rfl) (by kernel_rfl) (fun _ _ _ h => h) (Or.inl ⟨by rfl, ?_⟩) hS ?_
          rotate_left
          · (intro w' hSw; (try dsimp only at hSw); go_simp; (try with_reducible rfl))
          try simp only [Act.put, List.setIfInBounds_toArray, List.set_cons_zero, List.set_cons_succ]
          refine anyG_take (i := 8) (v := ?_) rfl rfl (by kernel_rfl) (by kernel_rfl) (by kernel_rfl) (by kernel_rfl) (by kernel_rfl) (fun _ _ _ h => h) (Or.inl ⟨by rfl, ?_⟩) hS ?_
          rotate_left
          · (intro w' hSw; (try dsimp only at hSw); go_simp; (try with_reducible rfl))
          try simp only [Act.put, List.setIfInBounds_toArray, List.set_cons_zero, List.set_cons_succ]
          refine anyG_take (i := 9) (v := ?_) rfl rfl (by kernel_rfl) (by kernel_rfl) (by kernel_rfl) (by kernel_rfl) (by kernel_rfl) (fun _ _ _ h => h) (Or.inl ⟨by rfl, ?_⟩) hS ?_
          rotate_left
          · (intro w' hSw; (try dsimp only at hSw); go_simp; (try with_reducible rfl))
          try simp only [Act.put, List.setIfInBounds_toArray, List.set_cons_zero, List.set_cons_succ]
          exact REST _ _ ⟨v4.heap.size, A9, B9, ca, cb, AW, cW, rfl, hx1, HX.out, HT9.out, HI9.out, hS⟩
      · refine wpOp_step rfl (fun K' hK => ?_)
        have HK := Lib.hid hK
        clear hK
        rw [if_pos (by rfl)]
        go_simp
        refine HK.out _ _ ⟨fun _ => hS.alloc hS.size _, ?_⟩
        clear HK
        try simp only [Act.put, List.setIfInBounds_toArray, List.set_cons_zero, List.set_cons_succ]
        have hx1 : w2.heap.size ≤ v0.heap.size := hS.size
        have HX := Lib.hid (show TxBox (v0.alloc (.cells #[.slice none 0 0, .slice none 0 0, .int .i64 0, .int .i64 0] 45)) v0.heap.size none 0 0 none 0 0 0 0 from Go.heap_alloc_new v0 _)
        have hS' := hS.alloc hS.size (.cells #[.slice none 0 0, .slice none 0 0, .int .i64 0, .int .i64 0] 45)
        clear hS
        have hS := hS'
        clear hS'
        refine anyG_all (rs := [4]) (by kernel_rfl) (by simp) (List.forall_mem_singleton.2 ?_)
        refine wpOp_step rfl (fun K' hK => ?_)
        have HK := Lib.hid hK
        clear hK
        rw [if_pos (by rfl)]
        go_simp
        refine Calls.mono (keys_any _) ?_
        rintro e v4 ⟨rfl, hb⟩
        have HBB := Lib.hid (hS.trans (hb.mono hS.size))
        have hxb := Lib.hid (HX.out.below hb)
        clear HX
        have HX := hxb
        clear hxb
        clear hS hb
        have hS := HBB.out
        go_wp2_with fail
        refine HK.out _ _ ⟨fun _ => HBB.out, ?_⟩
        clear HK HBB
        try simp only [Act.put, List.setIfInBounds_toArray, List.set_cons_zero, List.set_cons_succ]
        refine anyG_all (rs := [5]) (by kernel_rfl) (by simp) (List.forall_mem_singleton.2 ?_)
        refine wpOp_step rfl (fun K' hK => ?_)
        have HK := Lib.hid hK
        clear hK
        rw [if_pos (by rfl)]
        go_simp
        refine Calls.mono (HBU.out _ (HB2.out.trans (hS.mono HB2.out.size))) ?_
        rintro e v5 ⟨tv, wv, rfl, hT, hI, hb⟩
        obtain ⟨A9, ca, B9, cb, rfl, hT⟩ := hT
        obtain ⟨AW, cW, rfl, hI⟩ := hI
        have HT9 := Lib.hid (hT v5 (Below.refl _ _) (Stay.refl _))
        have HI9 := Lib.hid hI
        have HBB := Lib.hid (hS.trans (hb.mono hS.size))
        have hxb := Lib.hid (HX.out.below hb)
        clear HX
        have HX := hxb
        clear hxb
        clear hS hb hT hI
        have hS := HBB.out
        go_wp2_with fail
        refine HK.out _ _ ⟨fun _ => HBB.out, ?_⟩
        clear HK HBB
        try simp only [Act.put, List.setIfInBounds_toArray, List.set_cons_zero, List.set_cons_succ]
        refine anyG_take (i := 6) (v := ?_) rfl rfl (by kernel_rfl) (by kernel_rfl) (by kernel_rfl) (by kernel_rfl) (by kernel_rfl) (fun _ _ _ h => h) (Or.inl ⟨by rfl, ?_⟩) hS ?_
        rotate_left
        · (intro w' hSw; (try dsimp only at hSw); go_simp; (try with_reducible rfl))
        try simp only [Act.put, List.setIfInBounds_toArray, List.set_cons_zero, List.set_cons_succ]
        refine anyG_take (i := 7) (v := ?_) rfl rfl (by kernel_rfl) (by kernel_rfl) (by kernel_rfl) (by kernel_rfl) (by kernel_rfl) (fun _ _ _ h => h) (Or.inl ⟨by rfl, ?_⟩) hS ?_
        rotate_left
        · (intro w' hSw; (try dsimp only at hSw); go_simp; (try with_reducible rfl))
        try simp only [Act.put, List.setIfInBounds_toArray, List.set_cons_zero, List.set_cons_succ]
        refine anyG_take (i := 8) (v := ?_) rfl rfl (by kernel_rfl) (by kernel_rfl) (by kernel_rfl) (by kernel_rfl) (by kernel_rfl) (fun _ _ _ h => h) (Or.inl ⟨by rfl, ?_⟩) hS ?_
        rotate_left
        · (intro w' hSw; (try dsimp only at hSw); go_simp; (try with_reducible rfl))
        try simp only [Act.put, List.setIfInBounds_toArray, List.set_cons_zero, List.set_cons_succ]
        refine anyG_take (i := 9) (v := ?_) rfl rfl (by kernel_rfl) (by kernel_rfl) (by kernel_rfl) (by kernel_rfl) (by kernel_rfl) (fun _ _ _ h => h) (Or.inl ⟨by rfl, ?_⟩) hS ?_
        rotate_left
        · (intro w' hSw; (try dsimp only at hSw); go_simp; (try with_reducible rfl))
        try simp only [Act.put, List.setIfInBounds_toArray, List.set_cons_zero, List.set_cons_succ]
        exact REST _ _ ⟨v0.heap.size, A9, B9, ca, cb, AW, cW, rfl, hx1, HX.out, HT9.out, HI9.out, hS⟩
    · refine wpOp_step rfl (fun K' hK => ?_)
      have HK := Lib.hid hK
      clear hK
      rw [if_pos (by rfl)]
      go_simp
      refine HK.out _ _ ⟨fun _ => hS.alloc hS.size _, ?_⟩
      clear HK
      try simp only [Act.put, List.setIfInBounds_toArray, List.set_cons_zero, List.set_cons_succ]
      have hx1 : w2.heap.size ≤ w2.drew.heap.size := hS.size
      have HX := Lib.hid (show TxBox (w2.drew.alloc (.cells #[.slice none 0 0, .slice none 0 0, .int .i64 0, .int .i64 0] 45)) w2.drew.heap.size none 0 0 none 0 0 0 0 from Go.heap_alloc_new w2.drew _)
      have hS' := hS.alloc hS.size (.cells #[.slice none 0 0, .slice none 0 0, .int .i64 0, .int .i64 0] 45)
      clear hS
      have hS := hS'
      clear hS'
      refine anyG_all (rs := [0]) (by kernel_rfl) (by simp) (List.forall_mem_singleton.2 ?_)
      refine wpOp_step rfl (fun K' hK => ?_)
      have HK := Lib.hid hK
      clear hK
      rw [if_pos (by rfl)]
      go_simp
      refine Calls.mono (point_any _) ?_
      rintro e v0 ⟨rfl, hb⟩
      have HBB := Lib.hid (hS.trans (hb.mono hS.size))
      have hxb := Lib.hid (HX.out.below hb)
      clear HX
      have HX := hxb
      clear hxb
      clear hS hb
      have hS := HBB.out
      go_wp2_with fail
      refine HK.out _ _ ⟨fun _ => HBB.out, ?_⟩
      clear HK HBB
      try simp only [Act.put, List.setIfInBounds_toArray, List.set_cons_zero, List.set_cons_succ]
      refine anyG_all (rs := [4]) (by kernel_rfl) (by simp) (List.forall_mem_singleton.2 ?_)
      refine wpOp_step rfl (fun K' hK => ?_)
      have HK := Lib.hid hK
      clear hK
      rw [if_pos (by rfl)]
      go_simp
      refine Calls.mono (keys_any _) ?_
      rintro e v4 ⟨rfl, hb⟩
      have HBB := Lib.hid (hS.trans (hb.mono hS.size))
      have hxb := Lib.hid (HX.out.below hb)
      clear HX
      have HX := hxb
      clear hxb
      clear hS hb
      have hS := HBB.out
      go_wp2_with fail
      refine HK.out _ _ ⟨fun _ => HBB.out, ?_⟩
      clear HK HBB
      try simp only [Act.put, List.setIfInBounds_toArray, List.set_cons_zero, List.set_cons_succ]
      refine anyG_all (rs := [5]) (by kernel_rfl) (by simp) (List.forall_mem_singleton.2 ?_)
      refine wpOp_step rfl (fun K' hK => ?_)
      have HK := Lib.hid hK
      clear hK
      rw [if_pos (by rfl)]
      go_simp
      refine Calls.mono (HBU.out _ (HB2.out.trans (hS.mono HB2.out.size))) ?_
      rintro e v5 ⟨tv, wv, rfl, hT, hI, hb⟩
      obtain ⟨A9, ca, B9, cb, rfl, hT⟩ := hT
      obtain ⟨AW, cW, rfl, hI⟩ := hI
      have HT9 := Lib.hid (hT v5 (Below.refl _ _) (Stay.refl _))
      have HI9 := Lib.hid hI
      have HBB := Lib.hid (hS.trans (hb.mono hS.size))
      have hxb := Lib.hid (HX.out.below hb)
      clear HX
      have HX := hxb
      clear hxb
      clear hS hb hT hI
      have hS := HBB.out
      go_wp2_with fail
      refine HK.out _ _ ⟨fun _ => HBB.out, ?_⟩
      clear HK HBB
      try simp only [Act.put, List.setIfInBounds_toArray, List.set_cons_zero, List.set_cons_succ]
      refine anyG_take (i := 6) (v := ?_) rfl rfl (by kernel_rfl) (by kernel_rfl) (by kernel_rfl) (by kernel_rfl) (by kernel_rfl) (fun _ _ _ h => h) (Or.inl ⟨by rfl, ?_⟩) hS ?_
      rotate_left
      · (intro w' hSw; (try dsimp only at hSw); go_simp; (try with_reducible rfl))
      try simp only [Act.put, List.setIfInBounds_toArray, List.set_cons_zero, List.set_cons_succ]
      refine anyG_take (i := 7) (v := ?_) rfl rfl (by kernel_rfl) (by kernel_rfl) (by kernel_rfl) (by kernel_rfl) (by kernel_rfl) (fun _ _ _ h => h) (Or.inl ⟨by rfl, ?_⟩) hS ?_
      rotate_left
      · (intro w' hSw; (try dsimp only at hSw); go_simp; (try with_reducible rfl))
      try simp only [Act.put, List.setIfInBounds_toArray, List.set_cons_zero, List.set_cons_succ]
      refine anyG_take (i := 8) (v := ?_) rfl rfl (by kernel_rfl) (by kernel_rfl) (by kernel_rfl) (by kernel_rfl) (by kernel_rfl) (fun _ _ _ h => h) (Or.inl ⟨by rfl, ?_⟩) hS ?_
      rotate_left
      · (intro w' hSw; (try dsimp only at hSw); go_simp; (try with_reducible rfl))
      try simp only [Act.put, List.setIfInBounds_toArray, List.set_cons_zero, List.set_cons_succ]
      refine anyG_take (i := 9) (v := ?_) rfl rfl (by kernel_rfl) (by kernel_rfl) (by kernel_rfl) (by kernel_rfl) (by kernel_rfl) (fun _ _ _ h => h) (Or.inl ⟨by rfl, ?_⟩) hS ?_
      rotate_left
      · (intro w' hSw; (try dsimp only at hSw); go_simp; (try with_reducible rfl))
      try simp only [Act.put, List.setIfInBounds_toArray, List.set_cons_zero, List.set_cons_succ]
      exact REST _ _ ⟨w2.drew.heap.size, A9, B9, ca, cb, AW, cW, rfl, hx1, HX.out, HT9.out, HI9.out, hS⟩

end Go.Proofs.YtncniomiplnaaaaGreatDoor
