/- The law: the locks of any keys. -/
import Derived.Test.YtncniomiplnaaaaGreatDoorQ25
namespace Go.Proofs.YtncniomiplnaaaaGreatDoor
open Go.RowKit

set_option maxRecDepth 100000 in
set_option maxHeartbeats 32000000 in
theorem locks_law (d : DealR) (k : KeysR) (h : PayR) (w : World) (k1 : k.rev.size ≤ 140737488355328) (k2 : k.later.size ≤ 140737488355328) (k3 : k.mine.size ≤ 140737488355328) (k4 : k.theirs.size ≤ 140737488355328) (k5 : k.pay.size ≤ 140737488355328) (k6 : h.hash.size ≤ 140737488355328) (hv : VarsOk w) (ht : TabOk w) :
    Calls Tryz.prog 5 #[dealV d, keysV k, htlcV h] w fun e w' => e = .returned (.bool true) ∧ Below w.heap.size w w' := by
  have hb0 : Below w.heap.size w (((w.alloc (.cells #[.int .i64 d.cap, .int .i64 d.push, .int .i64 d.dust, .int .i64 d.res, .int .i64 d.rate, .int .i64 d.delay, .int .i64 d.maxH, .int .i64 d.flight, .int .i64 d.minH] 23)).alloc (.cells #[.string k.rev, .string k.later, .string k.mine, .string k.theirs, .string k.pay] 40)).alloc (.cells #[.bool h.mine, .int .i64 h.id, .int .i64 h.amt, .string h.hash, .int .i64 h.exp] 26)) := (((Below.refl w.heap.size w).alloc (Nat.le_refl _) (.cells #[.int .i64 d.cap, .int .i64 d.push, .int .i64 d.dust, .int .i64 d.res, .int .i64 d.rate, .int .i64 d.delay, .int .i64 d.maxH, .int .i64 d.flight, .int .i64 d.minH] 23)).alloc (by simp) (.cells #[.string k.rev, .string k.later, .string k.mine, .string k.theirs, .string k.pay] 40)).alloc (by simp; try omega) (.cells #[.bool h.mine, .int .i64 h.id, .int .i64 h.amt, .string h.hash, .int .i64 h.exp] 26)
  have HB := Lib.hid hb0
  have HX0 := Lib.hid (show (((w.alloc (.cells #[.int .i64 d.cap, .int .i64 d.push, .int .i64 d.dust, .int .i64 d.res, .int .i64 d.rate, .int .i64 d.delay, .int .i64 d.maxH, .int .i64 d.flight, .int .i64 d.minH] 23)).alloc (.cells #[.string k.rev, .string k.later, .string k.mine, .string k.theirs, .string k.pay] 40)).alloc (.cells #[.bool h.mine, .int .i64 h.id, .int .i64 h.amt, .string h.hash, .int .i64 h.exp] 26)).heap[w.heap.size]? = some (.cells #[.int .i64 d.cap, .int .i64 d.push, .int .i64 d.dust, .int .i64 d.res, .int .i64 d.rate, .int .i64 d.delay, .int .i64 d.maxH, .int .i64 d.flight, .int .i64 d.minH] 23) from allocs_at [(.cells #[.int .i64 d.cap, .int .i64 d.push, .int .i64 d.dust, .int .i64 d.res, .int .i64 d.rate, .int .i64 d.delay, .int .i64 d.maxH, .int .i64 d.flight, .int .i64 d.minH] 23), (.cells #[.string k.rev, .string k.later, .string k.mine, .string k.theirs, .string k.pay] 40), (.cells #[.bool h.mine, .int .i64 h.id, .int .i64 h.amt, .string h.hash, .int .i64 h.exp] 26)] w 0 _ rfl)
  have HX1 := Lib.hid (show (((w.alloc (.cells #[.int .i64 d.cap, .int .i64 d.push, .int .i64 d.dust, .int .i64 d.res, .int .i64 d.rate, .int .i64 d.delay, .int .i64 d.maxH, .int .i64 d.flight, .int .i64 d.minH] 23)).alloc (.cells #[.string k.rev, .string k.later, .string k.mine, .string k.theirs, .string k.pay] 40)).alloc (.cells #[.bool h.mine, .int .i64 h.id, .int .i64 h.amt, .string h.hash, .int .i64 h.exp] 26)).heap[w.heap.size + 1]? = some (.cells #[.string k.rev, .string k.later, .string k.mine, .string k.theirs, .string k.pay] 40) from allocs_at [(.cells #[.int .i64 d.cap, .int .i64 d.push, .int .i64 d.dust, .int .i64 d.res, .int .i64 d.rate, .int .i64 d.delay, .int .i64 d.maxH, .int .i64 d.flight, .int .i64 d.minH] 23), (.cells #[.string k.rev, .string k.later, .string k.mine, .string k.theirs, .string k.pay] 40), (.cells #[.bool h.mine, .int .i64 h.id, .int .i64 h.amt, .string h.hash, .int .i64 h.exp] 26)] w 1 _ rfl)
  have HX2 := Lib.hid (show (((w.alloc (.cells #[.int .i64 d.cap, .int .i64 d.push, .int .i64 d.dust, .int .i64 d.res, .int .i64 d.rate, .int .i64 d.delay, .int .i64 d.maxH, .int .i64 d.flight, .int .i64 d.minH] 23)).alloc (.cells #[.string k.rev, .string k.later, .string k.mine, .string k.theirs, .string k.pay] 40)).alloc (.cells #[.bool h.mine, .int .i64 h.id, .int .i64 h.amt, .string h.hash, .int .i64 h.exp] 26)).heap[w.heap.size + 1 + 1]? = some (.cells #[.bool h.mine, .int .i64 h.id, .int .i64 h.amt, .string h.hash, .int .i64 h.exp] 26) from allocs_at [(.cells #[.int .i64 d.cap, .int .i64 d.push, .int .i64 d.dust, .int .i64 d.res, .int .i64 d.rate, .int .i64 d.delay, .int .i64 d.maxH, .int .i64 d.flight, .int .i64 d.minH] 23), (.cells #[.string k.rev, .string k.later, .string k.mine, .string k.theirs, .string k.pay] 40), (.cells #[.bool h.mine, .int .i64 h.id, .int .i64 h.amt, .string h.hash, .int .i64 h.exp] 26)] w 2 _ rfl)
  have hal : Below (((w.alloc (.cells #[.int .i64 d.cap, .int .i64 d.push, .int .i64 d.dust, .int .i64 d.res, .int .i64 d.rate, .int .i64 d.delay, .int .i64 d.maxH, .int .i64 d.flight, .int .i64 d.minH] 23)).alloc (.cells #[.string k.rev, .string k.later, .string k.mine, .string k.theirs, .string k.pay] 40)).alloc (.cells #[.bool h.mine, .int .i64 h.id, .int .i64 h.amt, .string h.hash, .int .i64 h.exp] 26)).heap.size (((w.alloc (.cells #[.int .i64 d.cap, .int .i64 d.push, .int .i64 d.dust, .int .i64 d.res, .int .i64 d.rate, .int .i64 d.delay, .int .i64 d.maxH, .int .i64 d.flight, .int .i64 d.minH] 23)).alloc (.cells #[.string k.rev, .string k.later, .string k.mine, .string k.theirs, .string k.pay] 40)).alloc (.cells #[.bool h.mine, .int .i64 h.id, .int .i64 h.amt, .string h.hash, .int .i64 h.exp] 26)) ((((w.alloc (.cells #[.int .i64 d.cap, .int .i64 d.push, .int .i64 d.dust, .int .i64 d.res, .int .i64 d.rate, .int .i64 d.delay, .int .i64 d.maxH, .int .i64 d.flight, .int .i64 d.minH] 23)).alloc (.cells #[.string k.rev, .string k.later, .string k.mine, .string k.theirs, .string k.pay] 40)).alloc (.cells #[.bool h.mine, .int .i64 h.id, .int .i64 h.amt, .string h.hash, .int .i64 h.exp] 26)).alloc (.cells #[.bool h.mine, .int .i64 h.id, .int .i64 h.amt, .string h.hash, .int .i64 h.exp] 26)) := (Below.refl _ _).alloc (Nat.le_refl _) _
  have HAL := Lib.hid hal
  have HLG := Lib.hid (large_one k h (((w.alloc (.cells #[.int .i64 d.cap, .int .i64 d.push, .int .i64 d.dust, .int .i64 d.res, .int .i64 d.rate, .int .i64 d.delay, .int .i64 d.maxH, .int .i64 d.flight, .int .i64 d.minH] 23)).alloc (.cells #[.string k.rev, .string k.later, .string k.mine, .string k.theirs, .string k.pay] 40)).alloc (.cells #[.bool h.mine, .int .i64 h.id, .int .i64 h.amt, .string h.hash, .int .i64 h.exp] 26)).heap.size ((((w.alloc (.cells #[.int .i64 d.cap, .int .i64 d.push, .int .i64 d.dust, .int .i64 d.res, .int .i64 d.rate, .int .i64 d.delay, .int .i64 d.maxH, .int .i64 d.flight, .int .i64 d.minH] 23)).alloc (.cells #[.string k.rev, .string k.later, .string k.mine, .string k.theirs, .string k.pay] 40)).alloc (.cells #[.bool h.mine, .int .i64 h.id, .int .i64 h.amt, .string h.hash, .int .i64 h.exp] 26)).alloc (.cells #[.bool h.mine, .int .i64 h.id, .int .i64 h.amt, .string h.hash, .int .i64 h.exp] 26)) (by unfold keysN; omega) (by omega) (Go.heap_alloc_new _ _))
  have hsz : (((w.alloc (.cells #[.int .i64 d.cap, .int .i64 d.push, .int .i64 d.dust, .int .i64 d.res, .int .i64 d.rate, .int .i64 d.delay, .int .i64 d.maxH, .int .i64 d.flight, .int .i64 d.minH] 23)).alloc (.cells #[.string k.rev, .string k.later, .string k.mine, .string k.theirs, .string k.pay] 40)).alloc (.cells #[.bool h.mine, .int .i64 h.id, .int .i64 h.amt, .string h.hash, .int .i64 h.exp] 26)).heap.size = w.heap.size + 1 + 1 + 1 := by simp
  rw [hsz] at HLG
  have HV := Lib.hid hv
  have HT := Lib.hid ht
  obtain ⟨x1, hx1⟩ : ∃ x, fundL k.rev k.pay = x := ⟨_, rfl⟩
  obtain ⟨x2, hx2⟩ : ∃ x, ownL d.delay k = x := ⟨_, rfl⟩
  obtain ⟨x3, hx3⟩ : ∃ x, otherL k = x := ⟨_, rfl⟩
  obtain ⟨x4, hx4⟩ : ∃ x, htlcL d.delay k h.mine h.hash h.exp = x := ⟨_, rfl⟩
  have C1 := Lib.hid (fun W => hx1 ▸ lockV_out (fund_any k.rev k.pay W))
  have C2 := Lib.hid (fun W => hx1 ▸ lockV_out (rfund_any k.rev k.pay W))
  have C3 := Lib.hid (fun W => hx2 ▸ lockV_out (own_any d k W))
  have C4 := Lib.hid (fun W => hx2 ▸ lockV_out (rown_any d k W))
  have C5 := Lib.hid (fun W => hx3 ▸ lockV_out (other_any k W))
  have C6 := Lib.hid (fun W => hx3 ▸ lockV_out (rother_any k W))
  have C7 := Lib.hid (fun W => hx4 ▸ lockV_out (htlc_any d k h W))
  have C8 := Lib.hid (fun W => hx4 ▸ lockV_out (rhtlc_any d k h W))
  have S1 := fun a b => hx1 ▸ small_fund (a := k.rev) (b := k.pay) a b
  have S2 := fun a b => hx2 ▸ small_own d.delay k a b
  have S3 := fun a => hx3 ▸ small_other k a
  have S4 := fun a b c e => hx4 ▸ small_htlc d.delay k h.mine h.hash h.exp a b c e
  clear hb0 hal hv ht hx1 hx2 hx3 hx4
  unfold dealV keysV htlcV at *
  cases hq : decide (4000 < keysN k + h.hash.size) with
  | true =>
    rw [hq] at HLG
    have q0 : (((w.alloc (.cells #[.int .i64 d.cap, .int .i64 d.push, .int .i64 d.dust, .int .i64 d.res, .int .i64 d.rate, .int .i64 d.delay, .int .i64 d.maxH, .int .i64 d.flight, .int .i64 d.minH] 23)).alloc (.cells #[.string k.rev, .string k.later, .string k.mine, .string k.theirs, .string k.pay] 40)).alloc (.cells #[.bool h.mine, .int .i64 h.id, .int .i64 h.amt, .string h.hash, .int .i64 h.exp] 26)).cell? ⟨w.heap.size, 0, none⟩ = some (.int .i64 d.cap) := cell_of (j := 0) HX0.out rfl
    have q1 : (((w.alloc (.cells #[.int .i64 d.cap, .int .i64 d.push, .int .i64 d.dust, .int .i64 d.res, .int .i64 d.rate, .int .i64 d.delay, .int .i64 d.maxH, .int .i64 d.flight, .int .i64 d.minH] 23)).alloc (.cells #[.string k.rev, .string k.later, .string k.mine, .string k.theirs, .string k.pay] 40)).alloc (.cells #[.bool h.mine, .int .i64 h.id, .int .i64 h.amt, .string h.hash, .int .i64 h.exp] 26)).cell? ⟨w.heap.size, 1, none⟩ = some (.int .i64 d.push) := cell_of (j := 1) HX0.out rfl
    have q2 : (((w.alloc (.cells #[.int .i64 d.cap, .int .i64 d.push, .int .i64 d.dust, .int .i64 d.res, .int .i64 d.rate, .int .i64 d.delay, .int .i64 d.maxH, .int .i64 d.flight, .int .i64 d.minH] 23)).alloc (.cells #[.string k.rev, .string k.later, .string k.mine, .string k.theirs, .string k.pay] 40)).alloc (.cells #[.bool h.mine, .int .i64 h.id, .int .i64 h.amt, .string h.hash, .int .i64 h.exp] 26)).cell? ⟨w.heap.size, 2, none⟩ = some (.int .i64 d.dust) := cell_of (j := 2) HX0.out rfl
    have q3 : (((w.alloc (.cells #[.int .i64 d.cap, .int .i64 d.push, .int .i64 d.dust, .int .i64 d.res, .int .i64 d.rate, .int .i64 d.delay, .int .i64 d.maxH, .int .i64 d.flight, .int .i64 d.minH] 23)).alloc (.cells #[.string k.rev, .string k.later, .string k.mine, .string k.theirs, .string k.pay] 40)).alloc (.cells #[.bool h.mine, .int .i64 h.id, .int .i64 h.amt, .string h.hash, .int .i64 h.exp] 26)).cell? ⟨w.heap.size, 3, none⟩ = some (.int .i64 d.res) := cell_of (j := 3) HX0.out rfl
    have q4 : (((w.alloc (.cells #[.int .i64 d.cap, .int .i64 d.push, .int .i64 d.dust, .int .i64 d.res, .int .i64 d.rate, .int .i64 d.delay, .int .i64 d.maxH, .int .i64 d.flight, .int .i64 d.minH] 23)).alloc (.cells #[.string k.rev, .string k.later, .string k.mine, .string k.theirs, .string k.pay] 40)).alloc (.cells #[.bool h.mine, .int .i64 h.id, .int .i64 h.amt, .string h.hash, .int .i64 h.exp] 26)).cell? ⟨w.heap.size, 4, none⟩ = some (.int .i64 d.rate) := cell_of (j := 4) HX0.out rfl
    have q5 : (((w.alloc (.cells #[.int .i64 d.cap, .int .i64 d.push, .int .i64 d.dust, .int .i64 d.res, .int .i64 d.rate, .int .i64 d.delay, .int .i64 d.maxH, .int .i64 d.flight, .int .i64 d.minH] 23)).alloc (.cells #[.string k.rev, .string k.later, .string k.mine, .string k.theirs, .string k.pay] 40)).alloc (.cells #[.bool h.mine, .int .i64 h.id, .int .i64 h.amt, .string h.hash, .int .i64 h.exp] 26)).cell? ⟨w.heap.size, 5, none⟩ = some (.int .i64 d.delay) := cell_of (j := 5) HX0.out rfl
    have q6 : (((w.alloc (.cells #[.int .i64 d.cap, .int .i64 d.push, .int .i64 d.dust, .int .i64 d.res, .int .i64 d.rate, .int .i64 d.delay, .int .i64 d.maxH, .int .i64 d.flight, .int .i64 d.minH] 23)).alloc (.cells #[.string k.rev, .string k.later, .string k.mine, .string k.theirs, .string k.pay] 40)).alloc (.cells #[.bool h.mine, .int .i64 h.id, .int .i64 h.amt, .string h.hash, .int .i64 h.exp] 26)).cell? ⟨w.heap.size, 6, none⟩ = some (.int .i64 d.maxH) := cell_of (j := 6) HX0.out rfl
    have q7 : (((w.alloc (.cells #[.int .i64 d.cap, .int .i64 d.push, .int .i64 d.dust, .int .i64 d.res, .int .i64 d.rate, .int .i64 d.delay, .int .i64 d.maxH, .int .i64 d.flight, .int .i64 d.minH] 23)).alloc (.cells #[.string k.rev, .string k.later, .string k.mine, .string k.theirs, .string k.pay] 40)).alloc (.cells #[.bool h.mine, .int .i64 h.id, .int .i64 h.amt, .string h.hash, .int .i64 h.exp] 26)).cell? ⟨w.heap.size, 7, none⟩ = some (.int .i64 d.flight) := cell_of (j := 7) HX0.out rfl
    have q8 : (((w.alloc (.cells #[.int .i64 d.cap, .int .i64 d.push, .int .i64 d.dust, .int .i64 d.res, .int .i64 d.rate, .int .i64 d.delay, .int .i64 d.maxH, .int .i64 d.flight, .int .i64 d.minH] 23)).alloc (.cells #[.string k.rev, .string k.later, .string k.mine, .string k.theirs, .string k.pay] 40)).alloc (.cells #[.bool h.mine, .int .i64 h.id, .int .i64 h.amt, .string h.hash, .int .i64 h.exp] 26)).cell? ⟨w.heap.size, 8, none⟩ = some (.int .i64 d.minH) := cell_of (j := 8) HX0.out rfl
    have r0 : (((w.alloc (.cells #[.int .i64 d.cap, .int .i64 d.push, .int .i64 d.dust, .int .i64 d.res, .int .i64 d.rate, .int .i64 d.delay, .int .i64 d.maxH, .int .i64 d.flight, .int .i64 d.minH] 23)).alloc (.cells #[.string k.rev, .string k.later, .string k.mine, .string k.theirs, .string k.pay] 40)).alloc (.cells #[.bool h.mine, .int .i64 h.id, .int .i64 h.amt, .string h.hash, .int .i64 h.exp] 26)).cell? ⟨w.heap.size + 1, 0, none⟩ = some (.string k.rev) := cell_of (j := 0) HX1.out rfl
    have r1 : (((w.alloc (.cells #[.int .i64 d.cap, .int .i64 d.push, .int .i64 d.dust, .int .i64 d.res, .int .i64 d.rate, .int .i64 d.delay, .int .i64 d.maxH, .int .i64 d.flight, .int .i64 d.minH] 23)).alloc (.cells #[.string k.rev, .string k.later, .string k.mine, .string k.theirs, .string k.pay] 40)).alloc (.cells #[.bool h.mine, .int .i64 h.id, .int .i64 h.amt, .string h.hash, .int .i64 h.exp] 26)).cell? ⟨w.heap.size + 1, 1, none⟩ = some (.string k.later) := cell_of (j := 1) HX1.out rfl
    have r2 : (((w.alloc (.cells #[.int .i64 d.cap, .int .i64 d.push, .int .i64 d.dust, .int .i64 d.res, .int .i64 d.rate, .int .i64 d.delay, .int .i64 d.maxH, .int .i64 d.flight, .int .i64 d.minH] 23)).alloc (.cells #[.string k.rev, .string k.later, .string k.mine, .string k.theirs, .string k.pay] 40)).alloc (.cells #[.bool h.mine, .int .i64 h.id, .int .i64 h.amt, .string h.hash, .int .i64 h.exp] 26)).cell? ⟨w.heap.size + 1, 2, none⟩ = some (.string k.mine) := cell_of (j := 2) HX1.out rfl
    have r3 : (((w.alloc (.cells #[.int .i64 d.cap, .int .i64 d.push, .int .i64 d.dust, .int .i64 d.res, .int .i64 d.rate, .int .i64 d.delay, .int .i64 d.maxH, .int .i64 d.flight, .int .i64 d.minH] 23)).alloc (.cells #[.string k.rev, .string k.later, .string k.mine, .string k.theirs, .string k.pay] 40)).alloc (.cells #[.bool h.mine, .int .i64 h.id, .int .i64 h.amt, .string h.hash, .int .i64 h.exp] 26)).cell? ⟨w.heap.size + 1, 3, none⟩ = some (.string k.theirs) := cell_of (j := 3) HX1.out rfl
    have r4 : (((w.alloc (.cells #[.int .i64 d.cap, .int .i64 d.push, .int .i64 d.dust, .int .i64 d.res, .int .i64 d.rate, .int .i64 d.delay, .int .i64 d.maxH, .int .i64 d.flight, .int .i64 d.minH] 23)).alloc (.cells #[.string k.rev, .string k.later, .string k.mine, .string k.theirs, .string k.pay] 40)).alloc (.cells #[.bool h.mine, .int .i64 h.id, .int .i64 h.amt, .string h.hash, .int .i64 h.exp] 26)).cell? ⟨w.heap.size + 1, 4, none⟩ = some (.string k.pay) := cell_of (j := 4) HX1.out rfl
    have s0 : (((w.alloc (.cells #[.int .i64 d.cap, .int .i64 d.push, .int .i64 d.dust, .int .i64 d.res, .int .i64 d.rate, .int .i64 d.delay, .int .i64 d.maxH, .int .i64 d.flight, .int .i64 d.minH] 23)).alloc (.cells #[.string k.rev, .string k.later, .string k.mine, .string k.theirs, .string k.pay] 40)).alloc (.cells #[.bool h.mine, .int .i64 h.id, .int .i64 h.amt, .string h.hash, .int .i64 h.exp] 26)).cell? ⟨w.heap.size + 1 + 1, 0, none⟩ = some (.bool h.mine) := cell_of (j := 0) HX2.out rfl
    have s1 : (((w.alloc (.cells #[.int .i64 d.cap, .int .i64 d.push, .int .i64 d.dust, .int .i64 d.res, .int .i64 d.rate, .int .i64 d.delay, .int .i64 d.maxH, .int .i64 d.flight, .int .i64 d.minH] 23)).alloc (.cells #[.string k.rev, .string k.later, .string k.mine, .string k.theirs, .string k.pay] 40)).alloc (.cells #[.bool h.mine, .int .i64 h.id, .int .i64 h.amt, .string h.hash, .int .i64 h.exp] 26)).cell? ⟨w.heap.size + 1 + 1, 1, none⟩ = some (.int .i64 h.id) := cell_of (j := 1) HX2.out rfl
    have s2 : (((w.alloc (.cells #[.int .i64 d.cap, .int .i64 d.push, .int .i64 d.dust, .int .i64 d.res, .int .i64 d.rate, .int .i64 d.delay, .int .i64 d.maxH, .int .i64 d.flight, .int .i64 d.minH] 23)).alloc (.cells #[.string k.rev, .string k.later, .string k.mine, .string k.theirs, .string k.pay] 40)).alloc (.cells #[.bool h.mine, .int .i64 h.id, .int .i64 h.amt, .string h.hash, .int .i64 h.exp] 26)).cell? ⟨w.heap.size + 1 + 1, 2, none⟩ = some (.int .i64 h.amt) := cell_of (j := 2) HX2.out rfl
    have s3 : (((w.alloc (.cells #[.int .i64 d.cap, .int .i64 d.push, .int .i64 d.dust, .int .i64 d.res, .int .i64 d.rate, .int .i64 d.delay, .int .i64 d.maxH, .int .i64 d.flight, .int .i64 d.minH] 23)).alloc (.cells #[.string k.rev, .string k.later, .string k.mine, .string k.theirs, .string k.pay] 40)).alloc (.cells #[.bool h.mine, .int .i64 h.id, .int .i64 h.amt, .string h.hash, .int .i64 h.exp] 26)).cell? ⟨w.heap.size + 1 + 1, 3, none⟩ = some (.string h.hash) := cell_of (j := 3) HX2.out rfl
    have s4 : (((w.alloc (.cells #[.int .i64 d.cap, .int .i64 d.push, .int .i64 d.dust, .int .i64 d.res, .int .i64 d.rate, .int .i64 d.delay, .int .i64 d.maxH, .int .i64 d.flight, .int .i64 d.minH] 23)).alloc (.cells #[.string k.rev, .string k.later, .string k.mine, .string k.theirs, .string k.pay] 40)).alloc (.cells #[.bool h.mine, .int .i64 h.id, .int .i64 h.amt, .string h.hash, .int .i64 h.exp] 26)).cell? ⟨w.heap.size + 1 + 1, 4, none⟩ = some (.int .i64 h.exp) := cell_of (j := 4) HX2.out rfl
    go_enter Tryz.func5, Tryz.ntmps5
    go_wp2_with fail
    refine HLG.out.mono ?_
    rintro e w1 ⟨rfl, hb1⟩
    have hv1 : Below (((w.alloc (.cells #[.int .i64 d.cap, .int .i64 d.push, .int .i64 d.dust, .int .i64 d.res, .int .i64 d.rate, .int .i64 d.delay, .int .i64 d.maxH, .int .i64 d.flight, .int .i64 d.minH] 23)).alloc (.cells #[.string k.rev, .string k.later, .string k.mine, .string k.theirs, .string k.pay] 40)).alloc (.cells #[.bool h.mine, .int .i64 h.id, .int .i64 h.amt, .string h.hash, .int .i64 h.exp] 26)).heap.size (((w.alloc (.cells #[.int .i64 d.cap, .int .i64 d.push, .int .i64 d.dust, .int .i64 d.res, .int .i64 d.rate, .int .i64 d.delay, .int .i64 d.maxH, .int .i64 d.flight, .int .i64 d.minH] 23)).alloc (.cells #[.string k.rev, .string k.later, .string k.mine, .string k.theirs, .string k.pay] 40)).alloc (.cells #[.bool h.mine, .int .i64 h.id, .int .i64 h.amt, .string h.hash, .int .i64 h.exp] 26)) w1 := HAL.out.trans (hb1.mono HAL.out.size)
    have HB1 := Lib.hid (HB.out.trans (hv1.mono HB.out.size))
    clear q0 q1 q2 q3 q4 q5 q6 q7 q8 r0 r1 r2 r3 r4 s0 s1 s2 s3 s4
    go_wp2_with fail
    go_ret
    exact ⟨rfl, HB1.out⟩
  | false =>
    rw [hq] at HLG
    have hn := of_decide_eq_false hq
    unfold keysN at hn
    have HS1 := Lib.hid (S1 (by omega) (by omega))
    have HS2 := Lib.hid (S2 (by omega) (by omega))
    have HS3 := Lib.hid (S3 (by omega))
    have HS4 := Lib.hid (S4 (by omega) (by omega) (by omega) (by omega))
    clear S1 S2 S3 S4 hq hn
    have q0 : (((w.alloc (.cells #[.int .i64 d.cap, .int .i64 d.push, .int .i64 d.dust, .int .i64 d.res, .int .i64 d.rate, .int .i64 d.delay, .int .i64 d.maxH, .int .i64 d.flight, .int .i64 d.minH] 23)).alloc (.cells #[.string k.rev, .string k.later, .string k.mine, .string k.theirs, .string k.pay] 40)).alloc (.cells #[.bool h.mine, .int .i64 h.id, .int .i64 h.amt, .string h.hash, .int .i64 h.exp] 26)).cell? ⟨w.heap.size, 0, none⟩ = some (.int .i64 d.cap) := cell_of (j := 0) HX0.out rfl
    have q1 : (((w.alloc (.cells #[.int .i64 d.cap, .int .i64 d.push, .int .i64 d.dust, .int .i64 d.res, .int .i64 d.rate, .int .i64 d.delay, .int .i64 d.maxH, .int .i64 d.flight, .int .i64 d.minH] 23)).alloc (.cells #[.string k.rev, .string k.later, .string k.mine, .string k.theirs, .string k.pay] 40)).alloc (.cells #[.bool h.mine, .int .i64 h.id, .int .i64 h.amt, .string h.hash, .int .i64 h.exp] 26)).cell? ⟨w.heap.size, 1, none⟩ = some (.int .i64 d.push) := cell_of (j := 1) HX0.out rfl
    have q2 : (((w.alloc (.cells #[.int .i64 d.cap, .int .i64 d.push, .int .i64 d.dust, .int .i64 d.res, .int .i64 d.rate, .int .i64 d.delay, .int .i64 d.maxH, .int .i64 d.flight, .int .i64 d.minH] 23)).alloc (.cells #[.string k.rev, .string k.later, .string k.mine, .string k.theirs, .string k.pay] 40)).alloc (.cells #[.bool h.mine, .int .i64 h.id, .int .i64 h.amt, .string h.hash, .int .i64 h.exp] 26)).cell? ⟨w.heap.size, 2, none⟩ = some (.int .i64 d.dust) := cell_of (j := 2) HX0.out rfl
    have q3 : (((w.alloc (.cells #[.int .i64 d.cap, .int .i64 d.push, .int .i64 d.dust, .int .i64 d.res, .int .i64 d.rate, .int .i64 d.delay, .int .i64 d.maxH, .int .i64 d.flight, .int .i64 d.minH] 23)).alloc (.cells #[.string k.rev, .string k.later, .string k.mine, .string k.theirs, .string k.pay] 40)).alloc (.cells #[.bool h.mine, .int .i64 h.id, .int .i64 h.amt, .string h.hash, .int .i64 h.exp] 26)).cell? ⟨w.heap.size, 3, none⟩ = some (.int .i64 d.res) := cell_of (j := 3) HX0.out rfl
    have q4 : (((w.alloc (.cells #[.int .i64 d.cap, .int .i64 d.push, .int .i64 d.dust, .int .i64 d.res, .int .i64 d.rate, .int .i64 d.delay, .int .i64 d.maxH, .int .i64 d.flight, .int .i64 d.minH] 23)).alloc (.cells #[.string k.rev, .string k.later, .string k.mine, .string k.theirs, .string k.pay] 40)).alloc (.cells #[.bool h.mine, .int .i64 h.id, .int .i64 h.amt, .string h.hash, .int .i64 h.exp] 26)).cell? ⟨w.heap.size, 4, none⟩ = some (.int .i64 d.rate) := cell_of (j := 4) HX0.out rfl
    have q5 : (((w.alloc (.cells #[.int .i64 d.cap, .int .i64 d.push, .int .i64 d.dust, .int .i64 d.res, .int .i64 d.rate, .int .i64 d.delay, .int .i64 d.maxH, .int .i64 d.flight, .int .i64 d.minH] 23)).alloc (.cells #[.string k.rev, .string k.later, .string k.mine, .string k.theirs, .string k.pay] 40)).alloc (.cells #[.bool h.mine, .int .i64 h.id, .int .i64 h.amt, .string h.hash, .int .i64 h.exp] 26)).cell? ⟨w.heap.size, 5, none⟩ = some (.int .i64 d.delay) := cell_of (j := 5) HX0.out rfl
    have q6 : (((w.alloc (.cells #[.int .i64 d.cap, .int .i64 d.push, .int .i64 d.dust, .int .i64 d.res, .int .i64 d.rate, .int .i64 d.delay, .int .i64 d.maxH, .int .i64 d.flight, .int .i64 d.minH] 23)).alloc (.cells #[.string k.rev, .string k.later, .string k.mine, .string k.theirs, .string k.pay] 40)).alloc (.cells #[.bool h.mine, .int .i64 h.id, .int .i64 h.amt, .string h.hash, .int .i64 h.exp] 26)).cell? ⟨w.heap.size, 6, none⟩ = some (.int .i64 d.maxH) := cell_of (j := 6) HX0.out rfl
    have q7 : (((w.alloc (.cells #[.int .i64 d.cap, .int .i64 d.push, .int .i64 d.dust, .int .i64 d.res, .int .i64 d.rate, .int .i64 d.delay, .int .i64 d.maxH, .int .i64 d.flight, .int .i64 d.minH] 23)).alloc (.cells #[.string k.rev, .string k.later, .string k.mine, .string k.theirs, .string k.pay] 40)).alloc (.cells #[.bool h.mine, .int .i64 h.id, .int .i64 h.amt, .string h.hash, .int .i64 h.exp] 26)).cell? ⟨w.heap.size, 7, none⟩ = some (.int .i64 d.flight) := cell_of (j := 7) HX0.out rfl
    have q8 : (((w.alloc (.cells #[.int .i64 d.cap, .int .i64 d.push, .int .i64 d.dust, .int .i64 d.res, .int .i64 d.rate, .int .i64 d.delay, .int .i64 d.maxH, .int .i64 d.flight, .int .i64 d.minH] 23)).alloc (.cells #[.string k.rev, .string k.later, .string k.mine, .string k.theirs, .string k.pay] 40)).alloc (.cells #[.bool h.mine, .int .i64 h.id, .int .i64 h.amt, .string h.hash, .int .i64 h.exp] 26)).cell? ⟨w.heap.size, 8, none⟩ = some (.int .i64 d.minH) := cell_of (j := 8) HX0.out rfl
    have r0 : (((w.alloc (.cells #[.int .i64 d.cap, .int .i64 d.push, .int .i64 d.dust, .int .i64 d.res, .int .i64 d.rate, .int .i64 d.delay, .int .i64 d.maxH, .int .i64 d.flight, .int .i64 d.minH] 23)).alloc (.cells #[.string k.rev, .string k.later, .string k.mine, .string k.theirs, .string k.pay] 40)).alloc (.cells #[.bool h.mine, .int .i64 h.id, .int .i64 h.amt, .string h.hash, .int .i64 h.exp] 26)).cell? ⟨w.heap.size + 1, 0, none⟩ = some (.string k.rev) := cell_of (j := 0) HX1.out rfl
    have r1 : (((w.alloc (.cells #[.int .i64 d.cap, .int .i64 d.push, .int .i64 d.dust, .int .i64 d.res, .int .i64 d.rate, .int .i64 d.delay, .int .i64 d.maxH, .int .i64 d.flight, .int .i64 d.minH] 23)).alloc (.cells #[.string k.rev, .string k.later, .string k.mine, .string k.theirs, .string k.pay] 40)).alloc (.cells #[.bool h.mine, .int .i64 h.id, .int .i64 h.amt, .string h.hash, .int .i64 h.exp] 26)).cell? ⟨w.heap.size + 1, 1, none⟩ = some (.string k.later) := cell_of (j := 1) HX1.out rfl
    have r2 : (((w.alloc (.cells #[.int .i64 d.cap, .int .i64 d.push, .int .i64 d.dust, .int .i64 d.res, .int .i64 d.rate, .int .i64 d.delay, .int .i64 d.maxH, .int .i64 d.flight, .int .i64 d.minH] 23)).alloc (.cells #[.string k.rev, .string k.later, .string k.mine, .string k.theirs, .string k.pay] 40)).alloc (.cells #[.bool h.mine, .int .i64 h.id, .int .i64 h.amt, .string h.hash, .int .i64 h.exp] 26)).cell? ⟨w.heap.size + 1, 2, none⟩ = some (.string k.mine) := cell_of (j := 2) HX1.out rfl
    have r3 : (((w.alloc (.cells #[.int .i64 d.cap, .int .i64 d.push, .int .i64 d.dust, .int .i64 d.res, .int .i64 d.rate, .int .i64 d.delay, .int .i64 d.maxH, .int .i64 d.flight, .int .i64 d.minH] 23)).alloc (.cells #[.string k.rev, .string k.later, .string k.mine, .string k.theirs, .string k.pay] 40)).alloc (.cells #[.bool h.mine, .int .i64 h.id, .int .i64 h.amt, .string h.hash, .int .i64 h.exp] 26)).cell? ⟨w.heap.size + 1, 3, none⟩ = some (.string k.theirs) := cell_of (j := 3) HX1.out rfl
    have r4 : (((w.alloc (.cells #[.int .i64 d.cap, .int .i64 d.push, .int .i64 d.dust, .int .i64 d.res, .int .i64 d.rate, .int .i64 d.delay, .int .i64 d.maxH, .int .i64 d.flight, .int .i64 d.minH] 23)).alloc (.cells #[.string k.rev, .string k.later, .string k.mine, .string k.theirs, .string k.pay] 40)).alloc (.cells #[.bool h.mine, .int .i64 h.id, .int .i64 h.amt, .string h.hash, .int .i64 h.exp] 26)).cell? ⟨w.heap.size + 1, 4, none⟩ = some (.string k.pay) := cell_of (j := 4) HX1.out rfl
    have s0 : (((w.alloc (.cells #[.int .i64 d.cap, .int .i64 d.push, .int .i64 d.dust, .int .i64 d.res, .int .i64 d.rate, .int .i64 d.delay, .int .i64 d.maxH, .int .i64 d.flight, .int .i64 d.minH] 23)).alloc (.cells #[.string k.rev, .string k.later, .string k.mine, .string k.theirs, .string k.pay] 40)).alloc (.cells #[.bool h.mine, .int .i64 h.id, .int .i64 h.amt, .string h.hash, .int .i64 h.exp] 26)).cell? ⟨w.heap.size + 1 + 1, 0, none⟩ = some (.bool h.mine) := cell_of (j := 0) HX2.out rfl
    have s1 : (((w.alloc (.cells #[.int .i64 d.cap, .int .i64 d.push, .int .i64 d.dust, .int .i64 d.res, .int .i64 d.rate, .int .i64 d.delay, .int .i64 d.maxH, .int .i64 d.flight, .int .i64 d.minH] 23)).alloc (.cells #[.string k.rev, .string k.later, .string k.mine, .string k.theirs, .string k.pay] 40)).alloc (.cells #[.bool h.mine, .int .i64 h.id, .int .i64 h.amt, .string h.hash, .int .i64 h.exp] 26)).cell? ⟨w.heap.size + 1 + 1, 1, none⟩ = some (.int .i64 h.id) := cell_of (j := 1) HX2.out rfl
    have s2 : (((w.alloc (.cells #[.int .i64 d.cap, .int .i64 d.push, .int .i64 d.dust, .int .i64 d.res, .int .i64 d.rate, .int .i64 d.delay, .int .i64 d.maxH, .int .i64 d.flight, .int .i64 d.minH] 23)).alloc (.cells #[.string k.rev, .string k.later, .string k.mine, .string k.theirs, .string k.pay] 40)).alloc (.cells #[.bool h.mine, .int .i64 h.id, .int .i64 h.amt, .string h.hash, .int .i64 h.exp] 26)).cell? ⟨w.heap.size + 1 + 1, 2, none⟩ = some (.int .i64 h.amt) := cell_of (j := 2) HX2.out rfl
    have s3 : (((w.alloc (.cells #[.int .i64 d.cap, .int .i64 d.push, .int .i64 d.dust, .int .i64 d.res, .int .i64 d.rate, .int .i64 d.delay, .int .i64 d.maxH, .int .i64 d.flight, .int .i64 d.minH] 23)).alloc (.cells #[.string k.rev, .string k.later, .string k.mine, .string k.theirs, .string k.pay] 40)).alloc (.cells #[.bool h.mine, .int .i64 h.id, .int .i64 h.amt, .string h.hash, .int .i64 h.exp] 26)).cell? ⟨w.heap.size + 1 + 1, 3, none⟩ = some (.string h.hash) := cell_of (j := 3) HX2.out rfl
    have s4 : (((w.alloc (.cells #[.int .i64 d.cap, .int .i64 d.push, .int .i64 d.dust, .int .i64 d.res, .int .i64 d.rate, .int .i64 d.delay, .int .i64 d.maxH, .int .i64 d.flight, .int .i64 d.minH] 23)).alloc (.cells #[.string k.rev, .string k.later, .string k.mine, .string k.theirs, .string k.pay] 40)).alloc (.cells #[.bool h.mine, .int .i64 h.id, .int .i64 h.amt, .string h.hash, .int .i64 h.exp] 26)).cell? ⟨w.heap.size + 1 + 1, 4, none⟩ = some (.int .i64 h.exp) := cell_of (j := 4) HX2.out rfl
    go_enter Tryz.func5, Tryz.ntmps5
    go_wp2_with fail
    refine HLG.out.mono ?_
    rintro e w1 ⟨rfl, hb1⟩
    have hv1 : Below (((w.alloc (.cells #[.int .i64 d.cap, .int .i64 d.push, .int .i64 d.dust, .int .i64 d.res, .int .i64 d.rate, .int .i64 d.delay, .int .i64 d.maxH, .int .i64 d.flight, .int .i64 d.minH] 23)).alloc (.cells #[.string k.rev, .string k.later, .string k.mine, .string k.theirs, .string k.pay] 40)).alloc (.cells #[.bool h.mine, .int .i64 h.id, .int .i64 h.amt, .string h.hash, .int .i64 h.exp] 26)).heap.size (((w.alloc (.cells #[.int .i64 d.cap, .int .i64 d.push, .int .i64 d.dust, .int .i64 d.res, .int .i64 d.rate, .int .i64 d.delay, .int .i64 d.maxH, .int .i64 d.flight, .int .i64 d.minH] 23)).alloc (.cells #[.string k.rev, .string k.later, .string k.mine, .string k.theirs, .string k.pay] 40)).alloc (.cells #[.bool h.mine, .int .i64 h.id, .int .i64 h.amt, .string h.hash, .int .i64 h.exp] 26)) w1 := HAL.out.trans (hb1.mono HAL.out.size)
    have HB1 := Lib.hid (HB.out.trans (hv1.mono HB.out.size))
    have y0 := (hv1.block _ (lt_of_block HX0.out)).trans HX0.out
    have y1 := (hv1.block _ (lt_of_block HX1.out)).trans HX1.out
    have y2 := (hv1.block _ (lt_of_block HX2.out)).trans HX2.out
    clear q0 q1 q2 q3 q4 q5 q6 q7 q8 r0 r1 r2 r3 r4 s0 s1 s2 s3 s4 hb1 hv1
    go_upto_region 3 with fail
    generalize w1 = V at HB1 y0 y1 y2 ⊢
    have D0 := Lib.hid (cell_of (j := 0) y0 rfl)
    have D1 := Lib.hid (cell_of (j := 1) y0 rfl)
    have D2 := Lib.hid (cell_of (j := 2) y0 rfl)
    have D3 := Lib.hid (cell_of (j := 3) y0 rfl)
    have D4 := Lib.hid (cell_of (j := 4) y0 rfl)
    have D5 := Lib.hid (cell_of (j := 5) y0 rfl)
    have D6 := Lib.hid (cell_of (j := 6) y0 rfl)
    have D7 := Lib.hid (cell_of (j := 7) y0 rfl)
    have D8 := Lib.hid (cell_of (j := 8) y0 rfl)
    have K0 := Lib.hid (cell_of (j := 0) y1 rfl)
    have K1 := Lib.hid (cell_of (j := 1) y1 rfl)
    have K2 := Lib.hid (cell_of (j := 2) y1 rfl)
    have K3 := Lib.hid (cell_of (j := 3) y1 rfl)
    have K4 := Lib.hid (cell_of (j := 4) y1 rfl)
    have P0 := Lib.hid (cell_of (j := 0) y2 rfl)
    have P1 := Lib.hid (cell_of (j := 1) y2 rfl)
    have P2 := Lib.hid (cell_of (j := 2) y2 rfl)
    have P3 := Lib.hid (cell_of (j := 3) y2 rfl)
    have P4 := Lib.hid (cell_of (j := 4) y2 rfl)
    clear y0 y1 y2
    refine wp_region_noPanic ?_
    refine wp_region_any (by kernel_rfl) ?_
    have hS : Below V.heap.size V V.drew := (Below.refl _ _).drew
    change wpAny _ _ _ _ 42 (Array.replicate 42 false) _ V.drew
    refine float_all (F := []) (o := (.cells #[.int .u8 0, .string ⟨#[]⟩, .int .i64 0, .slice none 0 0] 55)) (base := V.heap.size) (g := 1) (f := 41) (stop := #[true, true, true, true, true, true, true, true, true, true, true, true, true, true, true, true, true, true, true, true, true, true, true, true, true, true, true, true, true, true, true, true, true, true, true, true, true, true, true, true, true, false]) (R := fun a u => ∃ (A1 A2 A3 A4 A5 A6 A7 A8 : Option Addr) (c1 c2 c3 c4 c5 c6 c7 c8 : Nat), a = (⟨#[.agg #[.int .i64 d.cap, .int .i64 d.push, .int .i64 d.dust, .int .i64 d.res, .int .i64 d.rate, .int .i64 d.delay, .int .i64 d.maxH, .int .i64 d.flight, .int .i64 d.minH], .agg #[.string k.rev, .string k.later, .string k.mine, .string k.theirs, .string k.pay], .agg #[.bool h.mine, .int .i64 h.id, .int .i64 h.amt, .string h.hash, .int .i64 h.exp], .pointer (some ⟨w.heap.size, 0, none⟩), .pointer (some ⟨w.heap.size + 1, 0, none⟩), .pointer (some ⟨w.heap.size + 1 + 1, 0, none⟩), .bool false, .agg #[.string k.rev, .string k.later, .string k.mine, .string k.theirs, .string k.pay], .agg #[.bool h.mine, .int .i64 h.id, .int .i64 h.amt, .string h.hash, .int .i64 h.exp], .slice (some ⟨w.heap.size + 1 + 1 + 1, 0, none⟩) 1 1, .agg #[.int .i64 0, .int .i64 0, .int .i64 0, .slice (some ⟨w.heap.size + 1 + 1 + 1, 0, none⟩) 1 1], .bool false, .pointer (some ⟨w.heap.size + 1, 0, none⟩), .string k.rev, .pointer (some ⟨w.heap.size + 1, 4, none⟩), .string k.pay, .agg #[.int .u8 x1.kind, .string x1.term, .int .i64 x1.n, .slice A1 x1.kids.length c1], .pointer (some ⟨w.heap.size + 1, 0, none⟩), .string k.rev, .pointer (some ⟨w.heap.size + 1, 4, none⟩), .string k.pay, .agg #[.int .u8 x1.kind, .string x1.term, .int .i64 x1.n, .slice A2 x1.kids.length c2], .bool true, .bool true, .agg #[.int .i64 d.cap, .int .i64 d.push, .int .i64 d.dust, .int .i64 d.res, .int .i64 d.rate, .int .i64 d.delay, .int .i64 d.maxH, .int .i64 d.flight, .int .i64 d.minH], .agg #[.string k.rev, .string k.later, .string k.mine, .string k.theirs, .string k.pay], .agg #[.int .u8 x2.kind, .string x2.term, .int .i64 x2.n, .slice A3 x2.kids.length c3], .agg #[.int .i64 d.cap, .int .i64 d.push, .int .i64 d.dust, .int .i64 d.res, .int .i64 d.rate, .int .i64 d.delay, .int .i64 d.maxH, .int .i64 d.flight, .int .i64 d.minH], .agg #[.string k.rev, .string k.later, .string k.mine, .string k.theirs, .string k.pay], .agg #[.int .u8 x2.kind, .string x2.term, .int .i64 x2.n, .slice A4 x2.kids.length c4], .bool true, .bool true, .bool true, .agg #[.string k.rev, .string k.later, .string k.mine, .string k.theirs, .string k.pay], .agg #[.int .u8 x3.kind, .string x3.term, .int .i64 x3.n, .slice A5 x3.kids.length c5], .agg #[.string k.rev, .string k.later, .string k.mine, .string k.theirs, .string k.pay], .agg #[.int .u8 x3.kind, .string x3.term, .int .i64 x3.n, .slice A6 x3.kids.length c6], .bool true, .bool true, .bool true, .agg #[.int .i64 d.cap, .int .i64 d.push, .int .i64 d.dust, .int .i64 d.res, .int .i64 d.rate, .int .i64 d.delay, .int .i64 d.maxH, .int .i64 d.flight, .int .i64 d.minH], .agg #[.string k.rev, .string k.later, .string k.mine, .string k.theirs, .string k.pay], .agg #[.bool h.mine, .int .i64 h.id, .int .i64 h.amt, .string h.hash, .int .i64 h.exp], .agg #[.int .u8 x4.kind, .string x4.term, .int .i64 x4.n, .slice A7 x4.kids.length c7], .agg #[.int .i64 d.cap, .int .i64 d.push, .int .i64 d.dust, .int .i64 d.res, .int .i64 d.rate, .int .i64 d.delay, .int .i64 d.maxH, .int .i64 d.flight, .int .i64 d.minH], .agg #[.string k.rev, .string k.later, .string k.mine, .string k.theirs, .string k.pay], .agg #[.bool h.mine, .int .i64 h.id, .int .i64 h.amt, .string h.hash, .int .i64 h.exp], .agg #[.int .u8 x4.kind, .string x4.term, .int .i64 x4.n, .slice A8 x4.kids.length c8], .bool true, .bool true, .bool true, .bool true, .bool true], []⟩ : Act) ∧ Below V.heap.size V u) rfl (by kernel_rfl) (by kernel_rfl) (by decide) (by decide) (by kernel_rfl) (fun _ _ _ _ _ h => h) ?hal ?hfin hS.size ?chain
    case hal => intro p hp; cases hp
    case chain =>
      refine anyB_take (S := fun U => Below V.heap.size V U) (i := 0) (v := ?_) (fun _ _ h hb => below_step h hb) rfl (by kernel_rfl) (by kernel_rfl) (by kernel_rfl) (by kernel_rfl) (by kernel_rfl) (by kernel_rfl) (fun _ _ _ h => h) (Or.inl ⟨by rfl, ?_⟩) hS ?_
      rotate_left
      · (intro w' hSw; (try dsimp only at hSw); go_simp; (try with_reducible rfl))
      try simp only [Act.put, List.setIfInBounds_toArray]
      refine anyB_take (S := fun U => Below V.heap.size V U) (i := 1) (v := ?_) (fun _ _ h hb => below_step h hb) rfl (by kernel_rfl) (by kernel_rfl) (by kernel_rfl) (by kernel_rfl) (by kernel_rfl) (by kernel_rfl) (fun _ _ _ h => h) (Or.inl ⟨by rfl, ?_⟩) hS ?_
      rotate_left
      · (intro w' hSw; have hc0 := cell_below hSw K0.out; (try dsimp only at hSw); go_simp; (try with_reducible rfl))
      try simp only [Act.put]
      refine anyB_take (S := fun U => Below V.heap.size V U) (i := 2) (v := ?_) (fun _ _ h hb => below_step h hb) rfl (by kernel_rfl) (by kernel_rfl) (by kernel_rfl) (by kernel_rfl) (by kernel_rfl) (by kernel_rfl) (fun _ _ _ h => h) (Or.inl ⟨by rfl, ?_⟩) hS ?_
      rotate_left
      · (intro w' hSw; (try dsimp only at hSw); go_simp; (try with_reducible rfl))
      try simp only [Act.put]
      refine anyB_take (S := fun U => Below V.heap.size V U) (i := 3) (v := ?_) (fun _ _ h hb => below_step h hb) rfl (by kernel_rfl) (by kernel_rfl) (by kernel_rfl) (by kernel_rfl) (by kernel_rfl) (by kernel_rfl) (fun _ _ _ h => h) (Or.inl ⟨by rfl, ?_⟩) hS ?_
      rotate_left
      · (intro w' hSw; have hc0 := cell_below hSw K4.out; (try dsimp only at hSw); go_simp; (try with_reducible rfl))
      try simp only [Act.put]
      refine anyB_take (S := fun U => Below V.heap.size V U) (i := 5) (v := ?_) (fun _ _ h hb => below_step h hb) rfl (by kernel_rfl) (by kernel_rfl) (by kernel_rfl) (by kernel_rfl) (by kernel_rfl) (by kernel_rfl) (fun _ _ _ h => h) (Or.inl ⟨by rfl, ?_⟩) hS ?_
      rotate_left
      · (intro w' hSw; (try dsimp only at hSw); go_simp; (try with_reducible rfl))
      try simp only [Act.put]
      refine anyB_take (S := fun U => Below V.heap.size V U) (i := 6) (v := ?_) (fun _ _ h hb => below_step h hb) rfl (by kernel_rfl) (by kernel_rfl) (by kernel_rfl) (by kernel_rfl) (by kernel_rfl) (by kernel_rfl) (fun _ _ _ h => h) (Or.inl ⟨by rfl, ?_⟩) hS ?_
      rotate_left
      · (intro w' hSw; have hc0 := cell_below hSw K0.out; (try dsimp only at hSw); go_simp; (try with_reducible rfl))
      try simp only [Act.put]
      refine anyB_take (S := fun U => Below V.heap.size V U) (i := 7) (v := ?_) (fun _ _ h hb => below_step h hb) rfl (by kernel_rfl) (by kernel_rfl) (by kernel_rfl) (by kernel_rfl) (by kernel_rfl) (by kernel_rfl) (fun _ _ _ h => h) (Or.inl ⟨by rfl, ?_⟩) hS ?_
      rotate_left
      · (intro w' hSw; (try dsimp only at hSw); go_simp; (try with_reducible rfl))
      try simp only [Act.put]
      refine anyB_take (S := fun U => Below V.heap.size V U) (i := 8) (v := ?_) (fun _ _ h hb => below_step h hb) rfl (by kernel_rfl) (by kernel_rfl) (by kernel_rfl) (by kernel_rfl) (by kernel_rfl) (by kernel_rfl) (fun _ _ _ h => h) (Or.inl ⟨by rfl, ?_⟩) hS ?_
      rotate_left
      · (intro w' hSw; have hc0 := cell_below hSw K4.out; (try dsimp only at hSw); go_simp; (try with_reducible rfl))
      try simp only [Act.put]
      refine anyB_one (k := 4) (by kernel_rfl) (by kernel_rfl) (by kernel_rfl) (fun g1_V hg => ?_)
      have hS := below_step hS hg
      refine wpOp_step rfl (fun K' hK => ?_)
      have HK := Lib.hid hK
      clear hK
      rw [if_pos (by rfl)]
      go_simp
      refine Calls.mono (C1.out _) ?_
      rintro e w1_V ⟨A1, c1, rfl, hl, hb⟩
      have hS := below_step hS hb
      have HB := Lib.hid hb
      have L1 := Lib.hid hl
      clear hb hg hl
      go_wp2_with fail
      refine HK.out _ _ ⟨HB.out, ?_⟩
      clear HK HB
      try simp only [Act.put, List.setIfInBounds_toArray, List.set_cons_zero, List.set_cons_succ]
      refine anyB_one (k := 9) (by kernel_rfl) (by kernel_rfl) (by kernel_rfl) (fun g2_V hg => ?_)
      have hS := below_step hS hg
      replace L1 := Lib.hid (L1.out.mono (DepEq.below hg))
      refine wpOp_step rfl (fun K' hK => ?_)
      have HK := Lib.hid hK
      clear hK
      rw [if_pos (by rfl)]
      go_simp
      refine Calls.mono (C2.out _) ?_
      rintro e w2_V ⟨A2, c2, rfl, hl, hb⟩
      have hS := below_step hS hb
      replace L1 := Lib.hid (L1.out.mono (DepEq.below hb))
      have HB := Lib.hid hb
      have L2 := Lib.hid hl
      clear hb hg hl
      go_wp2_with fail
      refine HK.out _ _ ⟨HB.out, ?_⟩
      clear HK HB
      try simp only [Act.put, List.setIfInBounds_toArray, List.set_cons_zero, List.set_cons_succ]
      refine anyB_one (k := 10) (by kernel_rfl) (by kernel_rfl) (by kernel_rfl) (fun g3_V hg => ?_)
      have hS := below_step hS hg
      replace L1 := Lib.hid (L1.out.mono (DepEq.below hg))
      replace L2 := Lib.hid (L2.out.mono (DepEq.below hg))
      refine wpOp_step rfl (fun K' hK => ?_)
      have HK := Lib.hid hK
      clear hK
      rw [if_pos (by rfl)]
      go_simp
      refine Calls.mono (sameLock_eq x1 _ _ _ HS1.out L1.out.at L2.out.at) ?_
      rintro e w3_V ⟨rfl, hb⟩
      have hS := below_step hS hb
      clear L1
      clear L2
      have HB := Lib.hid hb
      clear hb hg
      go_wp2_with fail
      refine HK.out _ _ ⟨HB.out, ?_⟩
      clear HK HB
      try simp only [Act.put, List.setIfInBounds_toArray, List.set_cons_zero, List.set_cons_succ]
      refine anyB_take (S := fun U => Below V.heap.size V U) (i := 11) (v := ?_) (fun _ _ h hb => below_step h hb) rfl (by kernel_rfl) (by kernel_rfl) (by kernel_rfl) (by kernel_rfl) (by kernel_rfl) (by kernel_rfl) (fun _ _ _ h => h) (Or.inl ⟨by rfl, ?_⟩) hS ?_
      rotate_left
      · (intro w' hSw; (try dsimp only at hSw); go_simp; (try with_reducible rfl))
      try simp only [Act.put, List.setIfInBounds_toArray]
      refine anyB_take (S := fun U => Below V.heap.size V U) (i := 12) (v := ?_) (fun _ _ h hb => below_step h hb) rfl (by kernel_rfl) (by kernel_rfl) (by kernel_rfl) (by kernel_rfl) (by kernel_rfl) (by kernel_rfl) (fun _ _ _ h => h) (Or.inl ⟨by rfl, ?_⟩) hS ?_
      rotate_left
      · (intro w' hSw; have hc0 := cell_below hSw D0.out; have hc1 := cell_below hSw D1.out; have hc2 := cell_below hSw D2.out; have hc3 := cell_below hSw D3.out; have hc4 := cell_below hSw D4.out; have hc5 := cell_below hSw D5.out; have hc6 := cell_below hSw D6.out; have hc7 := cell_below hSw D7.out; have hc8 := cell_below hSw D8.out; (try dsimp only at hSw); go_simp; (try with_reducible rfl))
      try simp only [Act.put]
      refine anyB_take (S := fun U => Below V.heap.size V U) (i := 13) (v := ?_) (fun _ _ h hb => below_step h hb) rfl (by kernel_rfl) (by kernel_rfl) (by kernel_rfl) (by kernel_rfl) (by kernel_rfl) (by kernel_rfl) (fun _ _ _ h => h) (Or.inl ⟨by rfl, ?_⟩) hS ?_
      rotate_left
      · (intro w' hSw; have hc0 := cell_below hSw K0.out; have hc1 := cell_below hSw K1.out; have hc2 := cell_below hSw K2.out; have hc3 := cell_below hSw K3.out; have hc4 := cell_below hSw K4.out; (try dsimp only at hSw); go_simp; (try with_reducible rfl))
      try simp only [Act.put]
      refine anyB_take (S := fun U => Below V.heap.size V U) (i := 15) (v := ?_) (fun _ _ h hb => below_step h hb) rfl (by kernel_rfl) (by kernel_rfl) (by kernel_rfl) (by kernel_rfl) (by kernel_rfl) (by kernel_rfl) (fun _ _ _ h => h) (Or.inl ⟨by rfl, ?_⟩) hS ?_
      rotate_left
      · (intro w' hSw; have hc0 := cell_below hSw D0.out; have hc1 := cell_below hSw D1.out; have hc2 := cell_below hSw D2.out; have hc3 := cell_below hSw D3.out; have hc4 := cell_below hSw D4.out; have hc5 := cell_below hSw D5.out; have hc6 := cell_below hSw D6.out; have hc7 := cell_below hSw D7.out; have hc8 := cell_below hSw D8.out; (try dsimp only at hSw); go_simp; (try with_reducible rfl))
      try simp only [Act.put]
      refine anyB_take (S := fun U => Below V.heap.size V U) (i := 16) (v := ?_) (fun _ _ h hb => below_step h hb) rfl (by kernel_rfl) (by kernel_rfl) (by kernel_rfl) (by kernel_rfl) (by kernel_rfl) (by kernel_rfl) (fun _ _ _ h => h) (Or.inl ⟨by rfl, ?_⟩) hS ?_
      rotate_left
      · (intro w' hSw; have hc0 := cell_below hSw K0.out; have hc1 := cell_below hSw K1.out; have hc2 := cell_below hSw K2.out; have hc3 := cell_below hSw K3.out; have hc4 := cell_below hSw K4.out; (try dsimp only at hSw); go_simp; (try with_reducible rfl))
      try simp only [Act.put]
      refine anyB_one (k := 14) (by kernel_rfl) (by kernel_rfl) (by kernel_rfl) (fun g4_V hg => ?_)
      have hS := below_step hS hg
      refine wpOp_step rfl (fun K' hK => ?_)
      have HK := Lib.hid hK
      clear hK
      rw [if_pos (by rfl)]
      go_simp
      refine Calls.mono (C3.out _) ?_
      rintro e w4_V ⟨A3, c3, rfl, hl, hb⟩
      have hS := below_step hS hb
      have HB := Lib.hid hb
      have L3 := Lib.hid hl
      clear hb hg hl
      go_wp2_with fail
      refine HK.out _ _ ⟨HB.out, ?_⟩
      clear HK HB
      try simp only [Act.put, List.setIfInBounds_toArray, List.set_cons_zero, List.set_cons_succ]
      refine anyB_one (k := 17) (by kernel_rfl) (by kernel_rfl) (by kernel_rfl) (fun g5_V hg => ?_)
      have hS := below_step hS hg
      replace L3 := Lib.hid (L3.out.mono (DepEq.below hg))
      refine wpOp_step rfl (fun K' hK => ?_)
      have HK := Lib.hid hK
      clear hK
      rw [if_pos (by rfl)]
      go_simp
      refine Calls.mono (C4.out _) ?_
      rintro e w5_V ⟨A4, c4, rfl, hl, hb⟩
      have hS := below_step hS hb
      replace L3 := Lib.hid (L3.out.mono (DepEq.below hb))
      have HB := Lib.hid hb
      have L4 := Lib.hid hl
      clear hb hg hl
      go_wp2_with fail
      refine HK.out _ _ ⟨HB.out, ?_⟩
      clear HK HB
      try simp only [Act.put, List.setIfInBounds_toArray, List.set_cons_zero, List.set_cons_succ]
      refine anyB_one (k := 18) (by kernel_rfl) (by kernel_rfl) (by kernel_rfl) (fun g6_V hg => ?_)
      have hS := below_step hS hg
      replace L3 := Lib.hid (L3.out.mono (DepEq.below hg))
      replace L4 := Lib.hid (L4.out.mono (DepEq.below hg))
      refine wpOp_step rfl (fun K' hK => ?_)
      have HK := Lib.hid hK
      clear hK
      rw [if_pos (by rfl)]
      go_simp
      refine Calls.mono (sameLock_eq x2 _ _ _ HS2.out L3.out.at L4.out.at) ?_
      rintro e w6_V ⟨rfl, hb⟩
      have hS := below_step hS hb
      clear L3
      clear L4
      have HB := Lib.hid hb
      clear hb hg
      go_wp2_with fail
      refine HK.out _ _ ⟨HB.out, ?_⟩
      clear HK HB
      try simp only [Act.put, List.setIfInBounds_toArray, List.set_cons_zero, List.set_cons_succ]
      refine anyB_take (S := fun U => Below V.heap.size V U) (i := 19) (v := ?_) (fun _ _ h hb => below_step h hb) rfl (by kernel_rfl) (by kernel_rfl) (by kernel_rfl) (by kernel_rfl) (by kernel_rfl) (by kernel_rfl) (fun _ _ _ h => h) (Or.inl ⟨by rfl, ?_⟩) hS ?_
      rotate_left
      · (intro w' hSw; (try dsimp only at hSw); go_simp; (try with_reducible rfl))
      try simp only [Act.put, List.setIfInBounds_toArray]
      refine anyB_take (S := fun U => Below V.heap.size V U) (i := 20) (v := ?_) (fun _ _ h hb => below_step h hb) rfl (by kernel_rfl) (by kernel_rfl) (by kernel_rfl) (by kernel_rfl) (by kernel_rfl) (by kernel_rfl) (fun _ _ _ h => h) (Or.inl ⟨by rfl, ?_⟩) hS ?_
      rotate_left
      · (intro w' hSw; (try dsimp only at hSw); go_simp; (try with_reducible rfl))
      try simp only [Act.put]
      refine anyB_take (S := fun U => Below V.heap.size V U) (i := 21) (v := ?_) (fun _ _ h hb => below_step h hb) rfl (by kernel_rfl) (by kernel_rfl) (by kernel_rfl) (by kernel_rfl) (by kernel_rfl) (by kernel_rfl) (fun _ _ _ h => h) (Or.inl ⟨by rfl, ?_⟩) hS ?_
      rotate_left
      · (intro w' hSw; have hc0 := cell_below hSw K0.out; have hc1 := cell_below hSw K1.out; have hc2 := cell_below hSw K2.out; have hc3 := cell_below hSw K3.out; have hc4 := cell_below hSw K4.out; (try dsimp only at hSw); go_simp; (try with_reducible rfl))
      try simp only [Act.put]
      refine anyB_take (S := fun U => Below V.heap.size V U) (i := 23) (v := ?_) (fun _ _ h hb => below_step h hb) rfl (by kernel_rfl) (by kernel_rfl) (by kernel_rfl) (by kernel_rfl) (by kernel_rfl) (by kernel_rfl) (fun _ _ _ h => h) (Or.inl ⟨by rfl, ?_⟩) hS ?_
      rotate_left
      · (intro w' hSw; have hc0 := cell_below hSw K0.out; have hc1 := cell_below hSw K1.out; have hc2 := cell_below hSw K2.out; have hc3 := cell_below hSw K3.out; have hc4 := cell_below hSw K4.out; (try dsimp only at hSw); go_simp; (try with_reducible rfl))
      try simp only [Act.put]
      refine anyB_one (k := 22) (by kernel_rfl) (by kernel_rfl) (by kernel_rfl) (fun g7_V hg => ?_)
      have hS := below_step hS hg
      refine wpOp_step rfl (fun K' hK => ?_)
      have HK := Lib.hid hK
      clear hK
      rw [if_pos (by rfl)]
      go_simp
      refine Calls.mono (C5.out _) ?_
      rintro e w7_V ⟨A5, c5, rfl, hl, hb⟩
      have hS := below_step hS hb
      have HB := Lib.hid hb
      have L5 := Lib.hid hl
      clear hb hg hl
      go_wp2_with fail
      refine HK.out _ _ ⟨HB.out, ?_⟩
      clear HK HB
      try simp only [Act.put, List.setIfInBounds_toArray, List.set_cons_zero, List.set_cons_succ]
      refine anyB_one (k := 24) (by kernel_rfl) (by kernel_rfl) (by kernel_rfl) (fun g8_V hg => ?_)
      have hS := below_step hS hg
      replace L5 := Lib.hid (L5.out.mono (DepEq.below hg))
      refine wpOp_step rfl (fun K' hK => ?_)
      have HK := Lib.hid hK
      clear hK
      rw [if_pos (by rfl)]
      go_simp
      refine Calls.mono (C6.out _) ?_
      rintro e w8_V ⟨A6, c6, rfl, hl, hb⟩
      have hS := below_step hS hb
      replace L5 := Lib.hid (L5.out.mono (DepEq.below hb))
      have HB := Lib.hid hb
      have L6 := Lib.hid hl
      clear hb hg hl
      go_wp2_with fail
      refine HK.out _ _ ⟨HB.out, ?_⟩
      clear HK HB
      try simp only [Act.put, List.setIfInBounds_toArray, List.set_cons_zero, List.set_cons_succ]
      refine anyB_one (k := 25) (by kernel_rfl) (by kernel_rfl) (by kernel_rfl) (fun g9_V hg => ?_)
      have hS := below_step hS hg
      replace L5 := Lib.hid (L5.out.mono (DepEq.below hg))
      replace L6 := Lib.hid (L6.out.mono (DepEq.below hg))
      refine wpOp_step rfl (fun K' hK => ?_)
      have HK := Lib.hid hK
      clear hK
      rw [if_pos (by rfl)]
      go_simp
      refine Calls.mono (sameLock_eq x3 _ _ _ HS3.out L5.out.at L6.out.at) ?_
      rintro e w9_V ⟨rfl, hb⟩
      have hS := below_step hS hb
      clear L5
      clear L6
      have HB := Lib.hid hb
      clear hb hg
      go_wp2_with fail
      refine HK.out _ _ ⟨HB.out, ?_⟩
      clear HK HB
      try simp only [Act.put, List.setIfInBounds_toArray, List.set_cons_zero, List.set_cons_succ]
      refine anyB_take (S := fun U => Below V.heap.size V U) (i := 26) (v := ?_) (fun _ _ h hb => below_step h hb) rfl (by kernel_rfl) (by kernel_rfl) (by kernel_rfl) (by kernel_rfl) (by kernel_rfl) (by kernel_rfl) (fun _ _ _ h => h) (Or.inl ⟨by rfl, ?_⟩) hS ?_
      rotate_left
      · (intro w' hSw; (try dsimp only at hSw); go_simp; (try with_reducible rfl))
      try simp only [Act.put, List.setIfInBounds_toArray]
      refine anyB_take (S := fun U => Below V.heap.size V U) (i := 27) (v := ?_) (fun _ _ h hb => below_step h hb) rfl (by kernel_rfl) (by kernel_rfl) (by kernel_rfl) (by kernel_rfl) (by kernel_rfl) (by kernel_rfl) (fun _ _ _ h => h) (Or.inl ⟨by rfl, ?_⟩) hS ?_
      rotate_left
      · (intro w' hSw; (try dsimp only at hSw); go_simp; (try with_reducible rfl))
      try simp only [Act.put]
      refine anyB_take (S := fun U => Below V.heap.size V U) (i := 28) (v := ?_) (fun _ _ h hb => below_step h hb) rfl (by kernel_rfl) (by kernel_rfl) (by kernel_rfl) (by kernel_rfl) (by kernel_rfl) (by kernel_rfl) (fun _ _ _ h => h) (Or.inl ⟨by rfl, ?_⟩) hS ?_
      rotate_left
      · (intro w' hSw; have hc0 := cell_below hSw D0.out; have hc1 := cell_below hSw D1.out; have hc2 := cell_below hSw D2.out; have hc3 := cell_below hSw D3.out; have hc4 := cell_below hSw D4.out; have hc5 := cell_below hSw D5.out; have hc6 := cell_below hSw D6.out; have hc7 := cell_below hSw D7.out; have hc8 := cell_below hSw D8.out; (try dsimp only at hSw); go_simp; (try with_reducible rfl))
      try simp only [Act.put]
      refine anyB_take (S := fun U => Below V.heap.size V U) (i := 29) (v := ?_) (fun _ _ h hb => below_step h hb) rfl (by kernel_rfl) (by kernel_rfl) (by kernel_rfl) (by kernel_rfl) (by kernel_rfl) (by kernel_rfl) (fun _ _ _ h => h) (Or.inl ⟨by rfl, ?_⟩) hS ?_
      rotate_left
      · (intro w' hSw; have hc0 := cell_below hSw K0.out; have hc1 := cell_below hSw K1.out; have hc2 := cell_below hSw K2.out; have hc3 := cell_below hSw K3.out; have hc4 := cell_below hSw K4.out; (try dsimp only at hSw); go_simp; (try with_reducible rfl))
      try simp only [Act.put]
      refine anyB_take (S := fun U => Below V.heap.size V U) (i := 30) (v := ?_) (fun _ _ h hb => below_step h hb) rfl (by kernel_rfl) (by kernel_rfl) (by kernel_rfl) (by kernel_rfl) (by kernel_rfl) (by kernel_rfl) (fun _ _ _ h => h) (Or.inl ⟨by rfl, ?_⟩) hS ?_
      rotate_left
      · (intro w' hSw; have hc0 := cell_below hSw P0.out; have hc1 := cell_below hSw P1.out; have hc2 := cell_below hSw P2.out; have hc3 := cell_below hSw P3.out; have hc4 := cell_below hSw P4.out; (try dsimp only at hSw); go_simp; (try with_reducible rfl))
      try simp only [Act.put]
      refine anyB_take (S := fun U => Below V.heap.size V U) (i := 32) (v := ?_) (fun _ _ h hb => below_step h hb) rfl (by kernel_rfl) (by kernel_rfl) (by kernel_rfl) (by kernel_rfl) (by kernel_rfl) (by kernel_rfl) (fun _ _ _ h => h) (Or.inl ⟨by rfl, ?_⟩) hS ?_
      rotate_left
      · (intro w' hSw; have hc0 := cell_below hSw D0.out; have hc1 := cell_below hSw D1.out; have hc2 := cell_below hSw D2.out; have hc3 := cell_below hSw D3.out; have hc4 := cell_below hSw D4.out; have hc5 := cell_below hSw D5.out; have hc6 := cell_below hSw D6.out; have hc7 := cell_below hSw D7.out; have hc8 := cell_below hSw D8.out; (try dsimp only at hSw); go_simp; (try with_reducible rfl))
      try simp only [Act.put]
      refine anyB_take (S := fun U => Below V.heap.size V U) (i := 33) (v := ?_) (fun _ _ h hb => below_step h hb) rfl (by kernel_rfl) (by kernel_rfl) (by kernel_rfl) (by kernel_rfl) (by kernel_rfl) (by kernel_rfl) (fun _ _ _ h => h) (Or.inl ⟨by rfl, ?_⟩) hS ?_
      rotate_left
      · (intro w' hSw; have hc0 := cell_below hSw K0.out; have hc1 := cell_below hSw K1.out; have hc2 := cell_below hSw K2.out; have hc3 := cell_below hSw K3.out; have hc4 := cell_below hSw K4.out; (try dsimp only at hSw); go_simp; (try with_reducible rfl))
      try simp only [Act.put]
      refine anyB_take (S := fun U => Below V.heap.size V U) (i := 34) (v := ?_) (fun _ _ h hb => below_step h hb) rfl (by kernel_rfl) (by kernel_rfl) (by kernel_rfl) (by kernel_rfl) (by kernel_rfl) (by kernel_rfl) (fun _ _ _ h => h) (Or.inl ⟨by rfl, ?_⟩) hS ?_
      rotate_left
      · (intro w' hSw; have hc0 := cell_below hSw P0.out; have hc1 := cell_below hSw P1.out; have hc2 := cell_below hSw P2.out; have hc3 := cell_below hSw P3.out; have hc4 := cell_below hSw P4.out; (try dsimp only at hSw); go_simp; (try with_reducible rfl))
      try simp only [Act.put]
      refine anyB_one (k := 31) (by kernel_rfl) (by kernel_rfl) (by kernel_rfl) (fun g10_V hg => ?_)
      have hS := below_step hS hg
      refine wpOp_step rfl (fun K' hK => ?_)
      have HK := Lib.hid hK
      clear hK
      rw [if_pos (by rfl)]
      go_simp
      refine Calls.mono (C7.out _) ?_
      rintro e w10_V ⟨A7, c7, rfl, hl, hb⟩
      have hS := below_step hS hb
      have HB := Lib.hid hb
      have L7 := Lib.hid hl
      clear hb hg hl
      go_wp2_with fail
      refine HK.out _ _ ⟨HB.out, ?_⟩
      clear HK HB
      try simp only [Act.put, List.setIfInBounds_toArray, List.set_cons_zero, List.set_cons_succ]
      refine anyB_one (k := 35) (by kernel_rfl) (by kernel_rfl) (by kernel_rfl) (fun g11_V hg => ?_)
      have hS := below_step hS hg
      replace L7 := Lib.hid (L7.out.mono (DepEq.below hg))
      refine wpOp_step rfl (fun K' hK => ?_)
      have HK := Lib.hid hK
      clear hK
      rw [if_pos (by rfl)]
      go_simp
      refine Calls.mono (C8.out _) ?_
      rintro e w11_V ⟨A8, c8, rfl, hl, hb⟩
      have hS := below_step hS hb
      replace L7 := Lib.hid (L7.out.mono (DepEq.below hb))
      have HB := Lib.hid hb
      have L8 := Lib.hid hl
      clear hb hg hl
      go_wp2_with fail
      refine HK.out _ _ ⟨HB.out, ?_⟩
      clear HK HB
      try simp only [Act.put, List.setIfInBounds_toArray, List.set_cons_zero, List.set_cons_succ]
      refine anyB_one (k := 36) (by kernel_rfl) (by kernel_rfl) (by kernel_rfl) (fun g12_V hg => ?_)
      have hS := below_step hS hg
      replace L7 := Lib.hid (L7.out.mono (DepEq.below hg))
      replace L8 := Lib.hid (L8.out.mono (DepEq.below hg))
      refine wpOp_step rfl (fun K' hK => ?_)
      have HK := Lib.hid hK
      clear hK
      rw [if_pos (by rfl)]
      go_simp
      refine Calls.mono (sameLock_eq x4 _ _ _ HS4.out L7.out.at L8.out.at) ?_
      rintro e w12_V ⟨rfl, hb⟩
      have hS := below_step hS hb
      clear L7
      clear L8
      have HB := Lib.hid hb
      clear hb hg
      go_wp2_with fail
      refine HK.out _ _ ⟨HB.out, ?_⟩
      clear HK HB
      try simp only [Act.put, List.setIfInBounds_toArray, List.set_cons_zero, List.set_cons_succ]
      refine anyB_take (S := fun U => Below V.heap.size V U) (i := 37) (v := ?_) (fun _ _ h hb => below_step h hb) rfl (by kernel_rfl) (by kernel_rfl) (by kernel_rfl) (by kernel_rfl) (by kernel_rfl) (by kernel_rfl) (fun _ _ _ h => h) (Or.inl ⟨by rfl, ?_⟩) hS ?_
      rotate_left
      · (intro w' hSw; (try dsimp only at hSw); go_simp; (try with_reducible rfl))
      try simp only [Act.put, List.setIfInBounds_toArray]
      refine anyB_take (S := fun U => Below V.heap.size V U) (i := 38) (v := ?_) (fun _ _ h hb => below_step h hb) rfl (by kernel_rfl) (by kernel_rfl) (by kernel_rfl) (by kernel_rfl) (by kernel_rfl) (by kernel_rfl) (fun _ _ _ h => h) (Or.inl ⟨by rfl, ?_⟩) hS ?_
      rotate_left
      · (intro w' hSw; (try dsimp only at hSw); go_simp; (try with_reducible rfl))
      try simp only [Act.put]
      refine anyB_one (k := 39) (by kernel_rfl) (by kernel_rfl) (by kernel_rfl) (fun g13_V hg => ?_)
      have hS := below_step hS hg
      refine wpOp_step rfl (fun K' hK => ?_)
      have HK := Lib.hid hK
      clear hK
      rw [if_pos (by rfl)]
      go_simp
      refine Calls.mono (works_any _ (HV.out.below (HB1.out.trans (hS.mono HB1.out.size))) (HT.out.below (HB1.out.trans (hS.mono HB1.out.size)))) ?_
      rintro e w13_V ⟨rfl, hb⟩
      have hS := below_step hS hb
      have HB := Lib.hid hb
      clear hb hg
      go_wp2_with fail
      refine HK.out _ _ ⟨HB.out, ?_⟩
      clear HK HB
      try simp only [Act.put, List.setIfInBounds_toArray, List.set_cons_zero, List.set_cons_succ]
      refine anyB_take (S := fun U => Below V.heap.size V U) (i := 40) (v := ?_) (fun _ _ h hb => below_step h hb) rfl (by kernel_rfl) (by kernel_rfl) (by kernel_rfl) (by kernel_rfl) (by kernel_rfl) (by kernel_rfl) (fun _ _ _ h => h) (Or.inl ⟨by rfl, ?_⟩) hS ?_
      rotate_left
      · (intro w' hSw; (try dsimp only at hSw); go_simp; (try with_reducible rfl))
      try simp only [Act.put, List.setIfInBounds_toArray]
      exact anyB_stop (by kernel_rfl) (fun u hu => ⟨A1, A2, A3, A4, A5, A6, A7, A8, c1, c2, c3, c4, c5, c6, c7, c8, rfl, below_step hS hu⟩)
    case hfin =>
      rintro a u bs hl ⟨A1, A2, A3, A4, A5, A6, A7, A8, c1, c2, c3, c4, c5, c6, c7, c8, rfl, hS⟩ hbx hnd
      obtain rfl : bs = [] := List.length_eq_zero_iff.1 (by simpa using hl)
      change wpAny _ _ _ _ 1 #[true, true, true, true, true, true, true, true, true, true, true, true, true, true, true, true, true, true, true, true, true, true, true, true, true, true, true, true, true, true, true, true, true, true, true, true, true, true, true, true, true, false] (⟨#[.agg #[.int .i64 d.cap, .int .i64 d.push, .int .i64 d.dust, .int .i64 d.res, .int .i64 d.rate, .int .i64 d.delay, .int .i64 d.maxH, .int .i64 d.flight, .int .i64 d.minH], .agg #[.string k.rev, .string k.later, .string k.mine, .string k.theirs, .string k.pay], .agg #[.bool h.mine, .int .i64 h.id, .int .i64 h.amt, .string h.hash, .int .i64 h.exp], .pointer (some ⟨w.heap.size, 0, none⟩), .pointer (some ⟨w.heap.size + 1, 0, none⟩), .pointer (some ⟨w.heap.size + 1 + 1, 0, none⟩), .bool false, .agg #[.string k.rev, .string k.later, .string k.mine, .string k.theirs, .string k.pay], .agg #[.bool h.mine, .int .i64 h.id, .int .i64 h.amt, .string h.hash, .int .i64 h.exp], .slice (some ⟨w.heap.size + 1 + 1 + 1, 0, none⟩) 1 1, .agg #[.int .i64 0, .int .i64 0, .int .i64 0, .slice (some ⟨w.heap.size + 1 + 1 + 1, 0, none⟩) 1 1], .bool false, .pointer (some ⟨w.heap.size + 1, 0, none⟩), .string k.rev, .pointer (some ⟨w.heap.size + 1, 4, none⟩), .string k.pay, .agg #[.int .u8 x1.kind, .string x1.term, .int .i64 x1.n, .slice A1 x1.kids.length c1], .pointer (some ⟨w.heap.size + 1, 0, none⟩), .string k.rev, .pointer (some ⟨w.heap.size + 1, 4, none⟩), .string k.pay, .agg #[.int .u8 x1.kind, .string x1.term, .int .i64 x1.n, .slice A2 x1.kids.length c2], .bool true, .bool true, .agg #[.int .i64 d.cap, .int .i64 d.push, .int .i64 d.dust, .int .i64 d.res, .int .i64 d.rate, .int .i64 d.delay, .int .i64 d.maxH, .int .i64 d.flight, .int .i64 d.minH], .agg #[.string k.rev, .string k.later, .string k.mine, .string k.theirs, .string k.pay], .agg #[.int .u8 x2.kind, .string x2.term, .int .i64 x2.n, .slice A3 x2.kids.length c3], .agg #[.int .i64 d.cap, .int .i64 d.push, .int .i64 d.dust, .int .i64 d.res, .int .i64 d.rate, .int .i64 d.delay, .int .i64 d.maxH, .int .i64 d.flight, .int .i64 d.minH], .agg #[.string k.rev, .string k.later, .string k.mine, .string k.theirs, .string k.pay], .agg #[.int .u8 x2.kind, .string x2.term, .int .i64 x2.n, .slice A4 x2.kids.length c4], .bool true, .bool true, .bool true, .agg #[.string k.rev, .string k.later, .string k.mine, .string k.theirs, .string k.pay], .agg #[.int .u8 x3.kind, .string x3.term, .int .i64 x3.n, .slice A5 x3.kids.length c5], .agg #[.string k.rev, .string k.later, .string k.mine, .string k.theirs, .string k.pay], .agg #[.int .u8 x3.kind, .string x3.term, .int .i64 x3.n, .slice A6 x3.kids.length c6], .bool true, .bool true, .bool true, .agg #[.int .i64 d.cap, .int .i64 d.push, .int .i64 d.dust, .int .i64 d.res, .int .i64 d.rate, .int .i64 d.delay, .int .i64 d.maxH, .int .i64 d.flight, .int .i64 d.minH], .agg #[.string k.rev, .string k.later, .string k.mine, .string k.theirs, .string k.pay], .agg #[.bool h.mine, .int .i64 h.id, .int .i64 h.amt, .string h.hash, .int .i64 h.exp], .agg #[.int .u8 x4.kind, .string x4.term, .int .i64 x4.n, .slice A7 x4.kids.length c7], .agg #[.int .i64 d.cap, .int .i64 d.push, .int .i64 d.dust, .int .i64 d.res, .int .i64 d.rate, .int .i64 d.delay, .int .i64 d.maxH, .int .i64 d.flight, .int .i64 d.minH], .agg #[.string k.rev, .string k.later, .string k.mine, .string k.theirs, .string k.pay], .agg #[.bool h.mine, .int .i64 h.id, .int .i64 h.amt, .string h.hash, .int .i64 h.exp], .agg #[.int .u8 x4.kind, .string x4.term, .int .i64 x4.n, .slice A8 x4.kids.length c8], .bool true, .bool true, .bool true, .bool true, .bool true], []⟩ : Act) u
      refine wpAny_one (k := 41) (by kernel_rfl) ?_
      refine wpOp_step rfl (fun K' hK => ?_)
      have HK := Lib.hid hK
      clear hK
      rw [if_pos (by rfl)]
      go_simp
      refine HK.out _ _ ?_
      clear HK
      refine wpAny_end (by kernel_rfl) ?_
      refine NoPanic.normal ?_
      have HFF := Lib.hid (HB1.out.trans (hS.mono HB1.out.size))
      clear hS
      go_wp2_with fail
      go_ret
      exact ⟨rfl, HFF.out⟩
end Go.Proofs.YtncniomiplnaaaaGreatDoor
