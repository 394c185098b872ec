/- A commitment without payments. · The chapter's examples: the deal, the keys, a point; equal lists. · A commitment without payments works. -/
import Derived.Test.YtncniomiplnaaaaGreatDoorQ14
import Derived.Test.YtncniomiplnaaaaGreatDoorQ15
import Derived.Test.YtncniomiplnaaaaGreatDoorQ18
namespace Go.Proofs.YtncniomiplnaaaaGreatDoor
open Go.RowKit

theorem LockH.lineK {base : Nat} {w : World} {x : LockT} {k : Int} {t : ByteArray} {m : Int} {A : Option Addr} {len cap : Nat} (v what : Int) (text : ByteArray) (hs : smallT x) (h : LockH w x [.int .u8 k, .string t, .int .i64 m, .slice A len cap]) : LineK base w (⟨v, x, what⟩, ⟨v, k, t, m, A, len, cap, what, text⟩) :=
  ⟨rfl, rfl, hs, fun W _ hd => h W hd⟩
theorem dep_grown {w w' : World} {base n : Nat} {v : Value} {xs : List Value} (hg : w.grownBy w' v.ownBlock) (h : w.ownsRow base 81 7 v n xs) : DepEq w w' := fun i hi => hg.block i hi.lt fun e => by
  obtain ⟨cur, hc⟩ := row_kind h e.symm
  obtain ⟨cs, z, hh, -⟩ := hi
  rw [hc] at hh
  injection hh with hh
  injection hh with _ h2
  exact absurd h2 (by decide)
theorem row_take {cur : Array Value} {n : Nat} {xs : List Value} (h : cur.toList.take n = xs) {j : Nat} {u : Value} (hj : xs[j]? = some u) : cur[j]? = some u := by
  rw [← h, List.getElem?_take] at hj
  split at hj
  · simpa using hj
  · cases hj
theorem small_other (k : KeysR) (h : k.pay.size ≤ 900000) : smallT (otherL k) := by
  unfold otherL sigL smallT smallTs
  exact ⟨h, by simp, trivial⟩
theorem small_own (delay : Int) (k : KeysR) (h : k.rev.size ≤ 900000) (h2 : k.later.size ≤ 900000) : smallT (ownL delay k) := by
  unfold ownL anyL sigL allL olderL
  simp only [smallT, smallTs]
  refine ⟨by decide, by simp, ⟨h, by simp, trivial⟩, ⟨by decide, by simp, ⟨by decide, by simp, trivial⟩, ⟨h2, by simp, trivial⟩, trivial⟩, trivial⟩
set_option maxRecDepth 100000 in
set_option maxHeartbeats 16000000 in
theorem build_two (tx : ByteArray) (pn : Int) (d : DealR) (k : KeysR) (n own other fee : Int) (w : World) (hd : dealE d = 0) (hb : boundsE d n own other = 0) (hf : feeE d.rate 0 = (fee, 0)) (h0 : 0 ≤ d.cap) (h1 : d.cap ≤ 2100000000000000) (hf0 : 0 ≤ fee) (hf1 : fee ≤ 2100000000000000)
    (ho0 : 0 ≤ own) (ho1 : own ≤ 2100000000000000000) (hr0 : 0 ≤ other) (hr1 : other ≤ 2100000000000000000) (hlo : d.dust ≤ own / 1000 - fee) (hlr : d.dust ≤ other / 1000) (hpt : ptOk ⟨tx, pn, 0⟩) (htx : tx.size ≤ 1125899906842624) (hv : VarsOk w) (ht : TabOk w)
    (hks : k.rev.size ≤ 900000 ∧ k.later.size ≤ 900000 ∧ k.pay.size ≤ 900000) :
    Calls Tryz.prog 16 #[.agg #[.string tx, .int .i64 pn], dealV d, .bool true, .agg #[.int .i64 n, .int .i64 own, .int .i64 other, .slice none 0 0], keysV k] w fun e w' =>
      ∃ t ws, e = .returned (.tuple #[t, ws, .int .i64 (wholeE tx pn [⟨own / 1000 - fee, ownL d.delay k, -1⟩, ⟨other / 1000, otherL k, -2⟩] n).2.2]) ∧ TxF w.heap.size w' (wholeE tx pn [⟨own / 1000 - fee, ownL d.delay k, -1⟩, ⟨other / 1000, otherL k, -2⟩] n).1 t ∧ IntsF w' (wholeE tx pn [⟨own / 1000 - fee, ownL d.delay k, -1⟩, ⟨other / 1000, otherL k, -2⟩] n).2.1 ws ∧ Below w.heap.size w w' := by
  have hw0 : Below w.heap.size w (((((w.alloc (.cells #[.string tx, .int .i64 pn] 35)).alloc (.cells #[.int .i64 d.cap, .int .i64 d.push, .int .i64 d.dust, .int .i64 d.res, .int .i64 d.rate, .int .i64 d.delay, .int .i64 d.maxH, .int .i64 d.flight, .int .i64 d.minH] 23)).alloc (.cells #[.int .i64 n, .int .i64 own, .int .i64 other, .slice none 0 0] 38)).alloc (.cells #[.string k.rev, .string k.later, .string k.mine, .string k.theirs, .string k.pay] 40)).alloc (.cells #[.slice none 0 0, .slice none 0 0, .int .i64 0, .int .i64 0] 45)) := (((((Below.refl w.heap.size w).alloc (Nat.le_refl _) (.cells #[.string tx, .int .i64 pn] 35)).alloc (by simp) (.cells #[.int .i64 d.cap, .int .i64 d.push, .int .i64 d.dust, .int .i64 d.res, .int .i64 d.rate, .int .i64 d.delay, .int .i64 d.maxH, .int .i64 d.flight, .int .i64 d.minH] 23)).alloc (by simp; try omega) (.cells #[.int .i64 n, .int .i64 own, .int .i64 other, .slice none 0 0] 38)).alloc (by simp; try omega) (.cells #[.string k.rev, .string k.later, .string k.mine, .string k.theirs, .string k.pay] 40)).alloc (by simp; try omega) (.cells #[.slice none 0 0, .slice none 0 0, .int .i64 0, .int .i64 0] 45)
  have HB0 := Lib.hid (show (((((w.alloc (.cells #[.string tx, .int .i64 pn] 35)).alloc (.cells #[.int .i64 d.cap, .int .i64 d.push, .int .i64 d.dust, .int .i64 d.res, .int .i64 d.rate, .int .i64 d.delay, .int .i64 d.maxH, .int .i64 d.flight, .int .i64 d.minH] 23)).alloc (.cells #[.int .i64 n, .int .i64 own, .int .i64 other, .slice none 0 0] 38)).alloc (.cells #[.string k.rev, .string k.later, .string k.mine, .string k.theirs, .string k.pay] 40)).alloc (.cells #[.slice none 0 0, .slice none 0 0, .int .i64 0, .int .i64 0] 45)).heap[w.heap.size]? = some (.cells #[.string tx, .int .i64 pn] 35) from allocs_at [(.cells #[.string tx, .int .i64 pn] 35), (.cells #[.int .i64 d.cap, .int .i64 d.push, .int .i64 d.dust, .int .i64 d.res, .int .i64 d.rate, .int .i64 d.delay, .int .i64 d.maxH, .int .i64 d.flight, .int .i64 d.minH] 23), (.cells #[.int .i64 n, .int .i64 own, .int .i64 other, .slice none 0 0] 38), (.cells #[.string k.rev, .string k.later, .string k.mine, .string k.theirs, .string k.pay] 40), (.cells #[.slice none 0 0, .slice none 0 0, .int .i64 0, .int .i64 0] 45)] w 0 _ rfl)
  have HB1 := Lib.hid (show (((((w.alloc (.cells #[.string tx, .int .i64 pn] 35)).alloc (.cells #[.int .i64 d.cap, .int .i64 d.push, .int .i64 d.dust, .int .i64 d.res, .int .i64 d.rate, .int .i64 d.delay, .int .i64 d.maxH, .int .i64 d.flight, .int .i64 d.minH] 23)).alloc (.cells #[.int .i64 n, .int .i64 own, .int .i64 other, .slice none 0 0] 38)).alloc (.cells #[.string k.rev, .string k.later, .string k.mine, .string k.theirs, .string k.pay] 40)).alloc (.cells #[.slice none 0 0, .slice none 0 0, .int .i64 0, .int .i64 0] 45)).heap[w.heap.size + 1]? = some (.cells #[.int .i64 d.cap, .int .i64 d.push, .int .i64 d.dust, .int .i64 d.res, .int .i64 d.rate, .int .i64 d.delay, .int .i64 d.maxH, .int .i64 d.flight, .int .i64 d.minH] 23) from allocs_at [(.cells #[.string tx, .int .i64 pn] 35), (.cells #[.int .i64 d.cap, .int .i64 d.push, .int .i64 d.dust, .int .i64 d.res, .int .i64 d.rate, .int .i64 d.delay, .int .i64 d.maxH, .int .i64 d.flight, .int .i64 d.minH] 23), (.cells #[.int .i64 n, .int .i64 own, .int .i64 other, .slice none 0 0] 38), (.cells #[.string k.rev, .string k.later, .string k.mine, .string k.theirs, .string k.pay] 40), (.cells #[.slice none 0 0, .slice none 0 0, .int .i64 0, .int .i64 0] 45)] w 1 _ rfl)
  have HB2 := Lib.hid (show (((((w.alloc (.cells #[.string tx, .int .i64 pn] 35)).alloc (.cells #[.int .i64 d.cap, .int .i64 d.push, .int .i64 d.dust, .int .i64 d.res, .int .i64 d.rate, .int .i64 d.delay, .int .i64 d.maxH, .int .i64 d.flight, .int .i64 d.minH] 23)).alloc (.cells #[.int .i64 n, .int .i64 own, .int .i64 other, .slice none 0 0] 38)).alloc (.cells #[.string k.rev, .string k.later, .string k.mine, .string k.theirs, .string k.pay] 40)).alloc (.cells #[.slice none 0 0, .slice none 0 0, .int .i64 0, .int .i64 0] 45)).heap[w.heap.size + 1 + 1]? = some (.cells #[.int .i64 n, .int .i64 own, .int .i64 other, .slice none 0 0] 38) from allocs_at [(.cells #[.string tx, .int .i64 pn] 35), (.cells #[.int .i64 d.cap, .int .i64 d.push, .int .i64 d.dust, .int .i64 d.res, .int .i64 d.rate, .int .i64 d.delay, .int .i64 d.maxH, .int .i64 d.flight, .int .i64 d.minH] 23), (.cells #[.int .i64 n, .int .i64 own, .int .i64 other, .slice none 0 0] 38), (.cells #[.string k.rev, .string k.later, .string k.mine, .string k.theirs, .string k.pay] 40), (.cells #[.slice none 0 0, .slice none 0 0, .int .i64 0, .int .i64 0] 45)] w 2 _ rfl)
  have HB3 := Lib.hid (show (((((w.alloc (.cells #[.string tx, .int .i64 pn] 35)).alloc (.cells #[.int .i64 d.cap, .int .i64 d.push, .int .i64 d.dust, .int .i64 d.res, .int .i64 d.rate, .int .i64 d.delay, .int .i64 d.maxH, .int .i64 d.flight, .int .i64 d.minH] 23)).alloc (.cells #[.int .i64 n, .int .i64 own, .int .i64 other, .slice none 0 0] 38)).alloc (.cells #[.string k.rev, .string k.later, .string k.mine, .string k.theirs, .string k.pay] 40)).alloc (.cells #[.slice none 0 0, .slice none 0 0, .int .i64 0, .int .i64 0] 45)).heap[w.heap.size + 1 + 1 + 1]? = some (.cells #[.string k.rev, .string k.later, .string k.mine, .string k.theirs, .string k.pay] 40) from allocs_at [(.cells #[.string tx, .int .i64 pn] 35), (.cells #[.int .i64 d.cap, .int .i64 d.push, .int .i64 d.dust, .int .i64 d.res, .int .i64 d.rate, .int .i64 d.delay, .int .i64 d.maxH, .int .i64 d.flight, .int .i64 d.minH] 23), (.cells #[.int .i64 n, .int .i64 own, .int .i64 other, .slice none 0 0] 38), (.cells #[.string k.rev, .string k.later, .string k.mine, .string k.theirs, .string k.pay] 40), (.cells #[.slice none 0 0, .slice none 0 0, .int .i64 0, .int .i64 0] 45)] w 3 _ rfl)
  have HB4 := Lib.hid (show TxBox (((((w.alloc (.cells #[.string tx, .int .i64 pn] 35)).alloc (.cells #[.int .i64 d.cap, .int .i64 d.push, .int .i64 d.dust, .int .i64 d.res, .int .i64 d.rate, .int .i64 d.delay, .int .i64 d.maxH, .int .i64 d.flight, .int .i64 d.minH] 23)).alloc (.cells #[.int .i64 n, .int .i64 own, .int .i64 other, .slice none 0 0] 38)).alloc (.cells #[.string k.rev, .string k.later, .string k.mine, .string k.theirs, .string k.pay] 40)).alloc (.cells #[.slice none 0 0, .slice none 0 0, .int .i64 0, .int .i64 0] 45)) (w.heap.size + 1 + 1 + 1 + 1) none 0 0 none 0 0 0 0 from allocs_at [(.cells #[.string tx, .int .i64 pn] 35), (.cells #[.int .i64 d.cap, .int .i64 d.push, .int .i64 d.dust, .int .i64 d.res, .int .i64 d.rate, .int .i64 d.delay, .int .i64 d.maxH, .int .i64 d.flight, .int .i64 d.minH] 23), (.cells #[.int .i64 n, .int .i64 own, .int .i64 other, .slice none 0 0] 38), (.cells #[.string k.rev, .string k.later, .string k.mine, .string k.theirs, .string k.pay] 40), (.cells #[.slice none 0 0, .slice none 0 0, .int .i64 0, .int .i64 0] 45)] w 4 _ rfl)
  have hsz : (((((w.alloc (.cells #[.string tx, .int .i64 pn] 35)).alloc (.cells #[.int .i64 d.cap, .int .i64 d.push, .int .i64 d.dust, .int .i64 d.res, .int .i64 d.rate, .int .i64 d.delay, .int .i64 d.maxH, .int .i64 d.flight, .int .i64 d.minH] 23)).alloc (.cells #[.int .i64 n, .int .i64 own, .int .i64 other, .slice none 0 0] 38)).alloc (.cells #[.string k.rev, .string k.later, .string k.mine, .string k.theirs, .string k.pay] 40)).alloc (.cells #[.slice none 0 0, .slice none 0 0, .int .i64 0, .int .i64 0] 45)).heap.size = w.heap.size + 5 := by simp
  have P := Lib.hid (fun (W : World) (h : Below (((((w.alloc (.cells #[.string tx, .int .i64 pn] 35)).alloc (.cells #[.int .i64 d.cap, .int .i64 d.push, .int .i64 d.dust, .int .i64 d.res, .int .i64 d.rate, .int .i64 d.delay, .int .i64 d.maxH, .int .i64 d.flight, .int .i64 d.minH] 23)).alloc (.cells #[.int .i64 n, .int .i64 own, .int .i64 other, .slice none 0 0] 38)).alloc (.cells #[.string k.rev, .string k.later, .string k.mine, .string k.theirs, .string k.pay] 40)).alloc (.cells #[.slice none 0 0, .slice none 0 0, .int .i64 0, .int .i64 0] 45)).heap.size (((((w.alloc (.cells #[.string tx, .int .i64 pn] 35)).alloc (.cells #[.int .i64 d.cap, .int .i64 d.push, .int .i64 d.dust, .int .i64 d.res, .int .i64 d.rate, .int .i64 d.delay, .int .i64 d.maxH, .int .i64 d.flight, .int .i64 d.minH] 23)).alloc (.cells #[.int .i64 n, .int .i64 own, .int .i64 other, .slice none 0 0] 38)).alloc (.cells #[.string k.rev, .string k.later, .string k.mine, .string k.theirs, .string k.pay] 40)).alloc (.cells #[.slice none 0 0, .slice none 0 0, .int .i64 0, .int .i64 0] 45)) W) => (show W.cell? ⟨w.heap.size, 0, none⟩ = some (.string tx) ∧ W.cell? ⟨w.heap.size, 1, none⟩ = some (.int .i64 pn) ∧ W.cell? ⟨w.heap.size + 1, 0, none⟩ = some (.int .i64 d.cap) ∧ W.cell? ⟨w.heap.size + 1, 1, none⟩ = some (.int .i64 d.push) ∧ W.cell? ⟨w.heap.size + 1, 2, none⟩ = some (.int .i64 d.dust) ∧ W.cell? ⟨w.heap.size + 1, 3, none⟩ = some (.int .i64 d.res) ∧ W.cell? ⟨w.heap.size + 1, 4, none⟩ = some (.int .i64 d.rate) ∧ W.cell? ⟨w.heap.size + 1, 5, none⟩ = some (.int .i64 d.delay) ∧ W.cell? ⟨w.heap.size + 1, 6, none⟩ = some (.int .i64 d.maxH) ∧ W.cell? ⟨w.heap.size + 1, 7, none⟩ = some (.int .i64 d.flight) ∧ W.cell? ⟨w.heap.size + 1, 8, none⟩ = some (.int .i64 d.minH) ∧ W.cell? ⟨w.heap.size + 1 + 1, 0, none⟩ = some (.int .i64 n) ∧ W.cell? ⟨w.heap.size + 1 + 1, 1, none⟩ = some (.int .i64 own) ∧ W.cell? ⟨w.heap.size + 1 + 1, 2, none⟩ = some (.int .i64 other) ∧ W.cell? ⟨w.heap.size + 1 + 1, 3, none⟩ = some (.slice none 0 0) ∧ W.cell? ⟨w.heap.size + 1 + 1 + 1, 0, none⟩ = some (.string k.rev) ∧ W.cell? ⟨w.heap.size + 1 + 1 + 1, 1, none⟩ = some (.string k.later) ∧ W.cell? ⟨w.heap.size + 1 + 1 + 1, 2, none⟩ = some (.string k.mine) ∧ W.cell? ⟨w.heap.size + 1 + 1 + 1, 3, none⟩ = some (.string k.theirs) ∧ W.cell? ⟨w.heap.size + 1 + 1 + 1, 4, none⟩ = some (.string k.pay) from ⟨cell_below h (cell_of (j := 0) HB0.out rfl), cell_below h (cell_of (j := 1) HB0.out rfl), cell_below h (cell_of (j := 0) HB1.out rfl), cell_below h (cell_of (j := 1) HB1.out rfl), cell_below h (cell_of (j := 2) HB1.out rfl), cell_below h (cell_of (j := 3) HB1.out rfl), cell_below h (cell_of (j := 4) HB1.out rfl), cell_below h (cell_of (j := 5) HB1.out rfl), cell_below h (cell_of (j := 6) HB1.out rfl), cell_below h (cell_of (j := 7) HB1.out rfl), cell_below h (cell_of (j := 8) HB1.out rfl), cell_below h (cell_of (j := 0) HB2.out rfl), cell_below h (cell_of (j := 1) HB2.out rfl), cell_below h (cell_of (j := 2) HB2.out rfl), cell_below h (cell_of (j := 3) HB2.out rfl), cell_below h (cell_of (j := 0) HB3.out rfl), cell_below h (cell_of (j := 1) HB3.out rfl), cell_below h (cell_of (j := 2) HB3.out rfl), cell_below h (cell_of (j := 3) HB3.out rfl), cell_below h (cell_of (j := 4) HB3.out rfl)⟩))
  have HW := Lib.hid hw0
  have HR := Lib.hid (fun (W : World) => right_deal d W)
  have HBD := Lib.hid (fun (W : World) => bounds_nil d n own other W h0 h1)
  have HF := Lib.hid (fun (W : World) => fee_any d.rate 0 W)
  rw [hd] at HR
  rw [hb] at HBD
  rw [hf] at HF
  have HO := Lib.hid (fun (W : World) => other_any k W)
  have HN := Lib.hid (fun (W : World) => own_any d k W)
  have HV := Lib.hid hv
  have HT := Lib.hid ht
  have HPT := Lib.hid hpt
  obtain ⟨p0, p1, d0, d1, d2, d3, d4, d5, d6, d7, d8, s0, s1, s2, s3, k0, k1, k2, k3, k4⟩ := P.out (((((w.alloc (.cells #[.string tx, .int .i64 pn] 35)).alloc (.cells #[.int .i64 d.cap, .int .i64 d.push, .int .i64 d.dust, .int .i64 d.res, .int .i64 d.rate, .int .i64 d.delay, .int .i64 d.maxH, .int .i64 d.flight, .int .i64 d.minH] 23)).alloc (.cells #[.int .i64 n, .int .i64 own, .int .i64 other, .slice none 0 0] 38)).alloc (.cells #[.string k.rev, .string k.later, .string k.mine, .string k.theirs, .string k.pay] 40)).alloc (.cells #[.slice none 0 0, .slice none 0 0, .int .i64 0, .int .i64 0] 45)) (Below.refl _ _)
  obtain ⟨R, hR⟩ : ∃ R, wholeE tx pn [⟨own / 1000 - fee, ownL d.delay k, -1⟩, ⟨other / 1000, otherL k, -2⟩] n = R := ⟨_, rfl⟩
  rw [hR]
  have HRR := Lib.hid hR
  clear hw0 hd hb hf hv ht hpt hR
  unfold dealV keysV at *
  go_enter Tryz.func16, Tryz.ntmps16
  go_wp2_with fail
  generalize (((((w.alloc (.cells #[.string tx, .int .i64 pn] 35)).alloc (.cells #[.int .i64 d.cap, .int .i64 d.push, .int .i64 d.dust, .int .i64 d.res, .int .i64 d.rate, .int .i64 d.delay, .int .i64 d.maxH, .int .i64 d.flight, .int .i64 d.minH] 23)).alloc (.cells #[.int .i64 n, .int .i64 own, .int .i64 other, .slice none 0 0] 38)).alloc (.cells #[.string k.rev, .string k.later, .string k.mine, .string k.theirs, .string k.pay] 40)).alloc (.cells #[.slice none 0 0, .slice none 0 0, .int .i64 0, .int .i64 0] 45)) = V at HB0 HB1 HB2 HB3 HB4 hsz P HW p0 p1 d0 d1 d2 d3 d4 d5 d6 d7 d8 s0 s1 s2 s3 k0 k1 k2 k3 k4 ⊢
  refine (HR.out _).mono ?_
  rintro e w1 ⟨rfl, hb1⟩
  have HC1 := Lib.hid hb1
  clear p0 p1 d0 d1 d2 d3 d4 d5 d6 d7 d8 s0 s1 s2 s3 k0 k1 k2 k3 k4
  obtain ⟨p0, p1, d0, d1, d2, d3, d4, d5, d6, d7, d8, s0, s1, s2, s3, k0, k1, k2, k3, k4⟩ := P.out w1 hb1
  clear hb1
  go_wp2_with fail
  refine (HBD.out _).mono ?_
  rintro e w2 ⟨rfl, hb2⟩
  have HC2 := Lib.hid (HC1.out.trans (hb2.mono HC1.out.size))
  clear p0 p1 d0 d1 d2 d3 d4 d5 d6 d7 d8 s0 s1 s2 s3 k0 k1 k2 k3 k4 hb2
  obtain ⟨p0, p1, d0, d1, d2, d3, d4, d5, d6, d7, d8, s0, s1, s2, s3, k0, k1, k2, k3, k4⟩ := P.out w2 HC2.out
  go_wp2_with fail
  go_loopw [15, 38] (fun l i wr => l = .slice none 0 0 ∧ i = .int .i64 0 ∧ wr = w2) (fun _ _ _ => 0)
  case atStart => exact ⟨rfl, rfl, rfl⟩
  case round =>
    obtain ⟨rfl, rfl, rfl⟩ := hrel
    go_wp2_with fail
    refine (HF.out _).mono ?_
    rintro e w3 ⟨rfl, hb3⟩
    have HC3 := Lib.hid (HC2.out.trans (hb3.mono HC2.out.size))
    clear p0 p1 d0 d1 d2 d3 d4 d5 d6 d7 d8 s0 s1 s2 s3 k0 k1 k2 k3 k4 hb3
    obtain ⟨p0, p1, d0, d1, d2, d3, d4, d5, d6, d7, d8, s0, s1, s2, s3, k0, k1, k2, k3, k4⟩ := P.out w3 HC3.out
    go_wp2_with fail
    have q1 : Int.tdiv own 1000 = own / 1000 := Int.tdiv_eq_ediv_of_nonneg ho0
    have q2 : Int.tdiv other 1000 = other / 1000 := Int.tdiv_eq_ediv_of_nonneg hr0
    have q3 : IntKind.i64.wrap (own / 1000) = own / 1000 := by rw [IntKind.wrap_i64]; omega
    have q4 : IntKind.i64.wrap (other / 1000) = other / 1000 := by rw [IntKind.wrap_i64]; omega
    have q5 : IntKind.i64.wrap (own / 1000 - fee) = own / 1000 - fee := by rw [IntKind.wrap_i64]; omega
    go_quiet (fail)
    clear q1 q2 q3 q4
    have HC4 := Lib.hid (show Below V.heap.size V (w3.drewN nq) from ⟨HC3.out.os, HC3.out.tape, HC3.out.output, HC3.out.size, HC3.out.block⟩)
    clear p0 p1 d0 d1 d2 d3 d4 d5 d6 d7 d8 s0 s1 s2 s3 k0 k1 k2 k3 k4
    generalize w3.drewN nq = w4 at HC4 ⊢
    obtain ⟨p0, p1, d0, d1, d2, d3, d4, d5, d6, d7, d8, s0, s1, s2, s3, k0, k1, k2, k3, k4⟩ := P.out w4 HC4.out
    have g1 : decide (d.dust ≤ other / 1000) = true := decide_eq_true hlr
    have g2 : decide (d.dust ≤ own / 1000 - fee) = true := decide_eq_true hlo
    generalize own / 1000 = m1 at *
    generalize other / 1000 = o2 at *
    go_wp2_with fail
    refine (HO.out _).mono ?_
    rintro e w5 ⟨v5, rfl, ⟨A5, c5, rfl, hl5⟩, hb5⟩
    unfold otherL sigL at hl5
    simp only [LockT.kind, LockT.term, LockT.n, LockT.kids, List.length_nil] at hl5
    have HC5 := Lib.hid (HC4.out.trans (hb5.mono HC4.out.size))
    have HL5 := Lib.hid hl5
    clear p0 p1 d0 d1 d2 d3 d4 d5 d6 d7 d8 s0 s1 s2 s3 k0 k1 k2 k3 k4 hb5 hl5
    obtain ⟨p0, p1, d0, d1, d2, d3, d4, d5, d6, d7, d8, s0, s1, s2, s3, k0, k1, k2, k3, k4⟩ := P.out w5 HC5.out
    unfold lockV otherL sigL
    simp only [LockT.kind, LockT.term, LockT.n, LockT.kids, List.length_nil]
    have hv5 : (w5.alloc (.cells #[.int .i64 o2, .int .u8 1, .string k.pay, .int .i64 0, .slice A5 0 c5, .int .i64 (-2), .string ⟨#[]⟩] 81)).heap[w5.heap.size]? = some (.cells (LineR.enc ⟨o2, 1, k.pay, 0, A5, 0, c5, -2, ⟨#[]⟩⟩).toArray 81 (0, 0)) := Go.heap_alloc_new w5 _
    have hb6 : Below w5.heap.size w5 (w5.alloc (.cells #[.int .i64 o2, .int .u8 1, .string k.pay, .int .i64 0, .slice A5 0 c5, .int .i64 (-2), .string ⟨#[]⟩] 81)) := (Below.refl _ _).alloc (Nat.le_refl _) _
    have HI5 := Lib.hid (insert_any 0 V.heap.size w5.heap.size (.slice none 0 0) [] ⟨o2, 1, k.pay, 0, A5, 0, c5, -2, ⟨#[]⟩⟩ (w5.alloc (.cells #[.int .i64 o2, .int .u8 1, .string k.pay, .int .i64 0, .slice A5 0 c5, .int .i64 (-2), .string ⟨#[]⟩] 81)) (by omega) ⟨rfl, .inl ⟨rfl, rfl⟩⟩ (fun _ => rfl) (by simp) (Nat.le_trans HC5.out.size hb6.size) hv5 (fun g hg => by cases hg))
    have HB56 := Lib.hid hb6
    clear hv5 hb6
    go_wp2_with fail
    refine HI5.out.mono ?_
    rintro e w7 ⟨s7, rfl, hown7, hbl7, hgr7⟩
    have hd7 : DepEq w5 w7 := (DepEq.below HB56.out).trans (fun i hi => hgr7.block i hi.lt (by simp [Value.ownBlock]))
    have HC7 := Lib.hid (HC5.out.trans ((HB56.out.mono HC5.out.size).trans hbl7))
    have HL7 := Lib.hid (HL5.out.mono hd7)
    rw [List.append_nil] at hown7
    have HO7 := Lib.hid hown7
    clear p0 p1 d0 d1 d2 d3 d4 d5 d6 d7 d8 s0 s1 s2 s3 k0 k1 k2 k3 k4 hown7 hbl7 hgr7 hd7
    obtain ⟨p0, p1, d0, d1, d2, d3, d4, d5, d6, d7, d8, s0, s1, s2, s3, k0, k1, k2, k3, k4⟩ := P.out w7 HC7.out
    go_wp2_with fail
    refine (HN.out _).mono ?_
    rintro e w8 ⟨v8, rfl, ⟨A8, c8, rfl, hl8⟩, hb8⟩
    unfold ownL anyL at hl8
    simp only [LockT.kind, LockT.term, LockT.n, LockT.kids, List.length_cons, List.length_nil, Nat.zero_add, Nat.reduceAdd] at hl8
    have HC8 := Lib.hid (HC7.out.trans (hb8.mono HC7.out.size))
    have HL8 := Lib.hid hl8
    have HL78 := Lib.hid (HL7.out.mono (DepEq.below hb8))
    have HO8 := Lib.hid (own_below HO7.out hb8)
    have hsz8 := hb8.size
    clear p0 p1 d0 d1 d2 d3 d4 d5 d6 d7 d8 s0 s1 s2 s3 k0 k1 k2 k3 k4 hb8 hl8
    obtain ⟨p0, p1, d0, d1, d2, d3, d4, d5, d6, d7, d8, s0, s1, s2, s3, k0, k1, k2, k3, k4⟩ := P.out w8 HC8.out
    unfold lockV ownL anyL
    simp only [LockT.kind, LockT.term, LockT.n, LockT.kids, List.length_cons, List.length_nil, Nat.zero_add, Nat.reduceAdd]
    have hv8 : (w8.alloc (.cells #[.int .i64 (m1 - fee), .int .u8 6, .string ⟨#[]⟩, .int .i64 0, .slice A8 2 c8, .int .i64 (-1), .string ⟨#[]⟩] 81)).heap[w8.heap.size]? = some (.cells (LineR.enc ⟨(m1 - fee), 6, ⟨#[]⟩, 0, A8, 2, c8, -1, ⟨#[]⟩⟩).toArray 81 (0, 0)) := Go.heap_alloc_new w8 _
    have hb9 : Below w8.heap.size w8 (w8.alloc (.cells #[.int .i64 (m1 - fee), .int .u8 6, .string ⟨#[]⟩, .int .i64 0, .slice A8 2 c8, .int .i64 (-1), .string ⟨#[]⟩] 81)) := (Below.refl _ _).alloc (Nat.le_refl _) _
    have HI8 := Lib.hid (insert_any 1 V.heap.size w8.heap.size s7 _ ⟨(m1 - fee), 6, ⟨#[]⟩, 0, A8, 2, c8, -1, ⟨#[]⟩⟩ (w8.alloc (.cells #[.int .i64 (m1 - fee), .int .u8 6, .string ⟨#[]⟩, .int .i64 0, .slice A8 2 c8, .int .i64 (-1), .string ⟨#[]⟩] 81)) (by omega) (own_below HO8.out hb9) (fun h => by cases h) (LineR.enc_one _) (Nat.le_trans HC8.out.size hb9.size) hv8 (fun g hg e => by have := (World.ownsRow.lt HO8.out g hg).2; omega))
    have HB89 := Lib.hid hb9
    clear hv8 hb9
    go_wp2_with fail
    refine HI8.out.mono ?_
    rintro e w9 ⟨s9, rfl, hown9, hbl9, hgr9⟩
    have hd9 : DepEq w8 w9 := (DepEq.below HB89.out).trans (dep_grown hgr9 (own_below HO8.out HB89.out))
    have HC9 := Lib.hid (HC8.out.trans ((HB89.out.mono HC8.out.size).trans hbl9))
    have hl9a := HL78.out.mono hd9
    have hl9b := HL8.out.mono hd9
    rcases hown9.2 with ⟨-, hn0⟩ | ⟨g, cap, cur, rfl, hbg, hg, -, -, -, htk⟩
    · omega
    have hbw9 : Below w.heap.size w w9 := HW.out.trans (HC9.out.mono (by omega))
    have hrow : RowL w9 g [⟨(m1 - fee), 6, ⟨#[]⟩, 0, A8, 2, c8, -1, ⟨#[]⟩⟩, ⟨o2, 1, k.pay, 0, A5, 0, c5, -2, ⟨#[]⟩⟩] := ⟨cur, hg, fun j u hj => row_take htk (by simpa [flatE] using hj)⟩
    have hk1 := LockH.lineK (base := w.heap.size) (m1 - fee) (-1) ⟨#[]⟩ (small_own d.delay k hks.1 hks.2.1) hl9b
    have hk2 := LockH.lineK (base := w.heap.size) o2 (-2) ⟨#[]⟩ (small_other k hks.2.2) hl9a
    have hwh := whole_any tx pn n [(⟨(m1 - fee), ownL d.delay k, -1⟩, ⟨(m1 - fee), 6, ⟨#[]⟩, 0, A8, 2, c8, -1, ⟨#[]⟩⟩), (⟨o2, otherL k, -2⟩, ⟨o2, 1, k.pay, 0, A5, 0, c5, -2, ⟨#[]⟩⟩)] g cap w w9 (by simp) (by simp) hbw9 (by omega) hrow (fun q hq => by
      rcases List.mem_cons.1 hq with rfl | hq
      · exact hk1
      · rw [List.mem_singleton.1 hq]; exact hk2) HPT.out htx HV.out HT.out
    simp only [List.length_cons, List.length_nil, Nat.zero_add, Nat.reduceAdd, List.map_cons, List.map_nil] at hwh
    rw [HRR.out] at hwh
    have HWH := Lib.hid hwh
    have HBW9 := Lib.hid hbw9
    have HB9 := Lib.hid ((HC9.out.block _ (lt_of_block HB4.out)).trans HB4.out)
    clear p0 p1 d0 d1 d2 d3 d4 d5 d6 d7 d8 s0 s1 s2 s3 k0 k1 k2 k3 k4 hown9 hbl9 hgr9 hd9 hl9a hl9b hwh hrow hk1 hk2 htk hg hbw9
    obtain ⟨p0, p1, d0, d1, d2, d3, d4, d5, d6, d7, d8, s0, s1, s2, s3, k0, k1, k2, k3, k4⟩ := P.out w9 HC9.out
    go_wp2_with fail
    refine HWH.out.mono ?_
    rintro e wA ⟨t, ws, rfl, ⟨A, ca, B, cb, rfl, hT⟩, ⟨AW, cW, rfl, hI⟩, hfA⟩
    have HT2 := Lib.hid hT
    have HI2 := Lib.hid hI
    have hbA : TxBox wA (w.heap.size + 1 + 1 + 1 + 1) none 0 0 none 0 0 0 0 := (hfA.block _ (lt_of_block HB9.out) (by have := lt_of_block HB4.out; simp; omega)).trans HB9.out
    have HBA := Lib.hid hbA
    have HCA := Lib.hid (HBW9.out.trans (hfA.toBelowOf (B := w.heap.size) HBW9.out.size (fun i hi => by rw [List.mem_singleton.1 hi]; omega)))
    obtain ⟨z0, z1, z2, z3⟩ := hbA.cells
    have zf := hbA.frozen
    clear p0 p1 d0 d1 d2 d3 d4 d5 d6 d7 d8 s0 s1 s2 s3 k0 k1 k2 k3 k4 hT hI hbA hfA
    go_wp2_with fail
    change bodyPost _ _ _ _ _ (putL wA (w.heap.size + 1 + 1 + 1 + 1) (.slice A R.1.ins.length ca) (.slice B R.1.outs.length cb) (.int .i64 R.1.after) (.int .i64 R.1.tag))
    have hP := HBA.out.put A R.1.ins.length ca B R.1.outs.length cb R.1.after R.1.tag
    have hF := putL_fr wA (w.heap.size + 1 + 1 + 1 + 1) (.slice A R.1.ins.length ca) (.slice B R.1.outs.length cb) (.int .i64 R.1.after) (.int .i64 R.1.tag) (F := [w.heap.size + 1 + 1 + 1 + 1]) (List.mem_singleton.2 rfl)
    generalize (putL wA (w.heap.size + 1 + 1 + 1 + 1) (.slice A R.1.ins.length ca) (.slice B R.1.outs.length cb) (.int .i64 R.1.after) (.int .i64 R.1.tag)) = Wf at hP hF ⊢
    have hBt := hF.toBelowOf (B := w.heap.size) HCA.out.size (fun i hi => by rw [List.mem_singleton.1 hi]; omega)
    have hSt := stay_tx HBA.out hF
    obtain ⟨y0, y1, y2, y3⟩ := hP.cells
    exact bodyPost_ret (v := .tuple #[.agg #[.slice A R.1.ins.length ca, .slice B R.1.outs.length cb, .int .i64 R.1.after, .int .i64 R.1.tag], .slice AW R.2.1.length cW, .int .i64 R.2.2]) (by simp [results, Tryz.results16, go_sem, y0, y1, y2, y3]) rfl ⟨_, _, rfl, ⟨A, ca, B, cb, rfl, fun W a b => HT2.out W (hBt.trans a) (hSt.trans b)⟩, ⟨AW, cW, rfl, fun W a => HI2.out W (hSt.trans a)⟩, HCA.out.trans hBt⟩
end Go.Proofs.YtncniomiplnaaaaGreatDoor

namespace Go.Proofs.YtncniomiplnaaaaGreatDoor
open Go.RowKit

def ones (k : Nat) : ByteArray := ⟨(List.replicate k (49 : UInt8)).toArray⟩
theorem ones_size (k : Nat) : (ones k).size = k := by
  show (List.replicate k (49 : UInt8)).toArray.size = k
  simp
theorem ones_succ (k : Nat) : ones k ++ ⟨#[49]⟩ = ones (k + 1) := by
  have h1 : (ones k ++ (⟨#[49]⟩ : ByteArray)).data.toList = (ones (k + 1)).data.toList := by
    rw [ByteArray.data_append, Array.toList_append]
    simp [ones, List.replicate_succ']
  exact ByteArray.ext (Array.ext' h1)
def exD : DealR := ⟨100000, 0, 500, 1000, 1000, 6, 5, 50000000, 1⟩
def exK : KeysR := ⟨⟨#[87, 80, 110, 49, 59, 80, 110, 50, 59]⟩, ⟨#[80, 110, 51, 59]⟩, ⟨#[80, 110, 52, 59]⟩, ⟨#[80, 110, 53, 59]⟩, ⟨#[80, 110, 54, 59]⟩⟩
set_option maxRecDepth 100000 in
set_option maxHeartbeats 2000000 in
theorem deal_any (w : World) : Calls Tryz.prog 40 #[] w fun e w' => e = .returned (dealV exD) ∧ Below w.heap.size w w' := by
  go_enter Tryz.func40, Tryz.ntmps40
  go_wp2_with fail
  exact bodyPost_ret (v := dealV exD) (by simp [results, Tryz.results40, go_sem, dealV, exD]) rfl ⟨rfl, ((Below.refl _ _).alloc (Nat.le_refl _) _)⟩
set_option maxRecDepth 100000 in
set_option maxHeartbeats 2000000 in
theorem keys_any (w : World) : Calls Tryz.prog 29 #[] w fun e w' => e = .returned (keysV exK) ∧ Below w.heap.size w w' := by
  go_enter Tryz.func29, Tryz.ntmps29
  go_wp2_with fail
  exact bodyPost_ret (v := keysV exK) (by simp [results, Tryz.results29, go_sem, keysV, exK]) rfl ⟨rfl, ((Below.refl _ _).alloc (Nat.le_refl _) _)⟩
theorem same_eq (l : List Int) (A B : Option Addr) (ca cb : Nat) (w : World) (hl : l.length ≤ 100000) (hA : Cells w A (wordsV l)) (hB : Cells w B (wordsV l)) : Calls Tryz.prog 19 #[.slice A l.length ca, .slice B l.length cb] w fun e w' => e = .returned (.bool true) ∧ Below w.heap.size w w' := by
  have HA := Lib.hid hA
  have HB := Lib.hid hB
  have hat : ∀ (C : Option Addr) (W : World) (k : Nat) (hk : k < l.length), Cells W C (wordsV l) → ∃ ad : Addr, C = some ad ∧ W.cell? (ad.add k) = some (.int .i64 l[k]) := fun C W k hk hc => by
    obtain ⟨ad, he, h⟩ := hc (by unfold wordsV; rw [List.length_map]; omega)
    exact ⟨ad, he, h k _ (by unfold wordsV; rw [List.getElem?_map, List.getElem?_eq_getElem hk]; rfl)⟩
  have HAT := Lib.hid hat
  have hne : ((l.length : Int) != (l.length : Int)) = false := by simp
  clear hA hB hat
  go_enter Tryz.func19, Tryz.ntmps19
  go_wp2_with fail
  go_loopw [5] (fun i wr => ∃ k : Nat, k ≤ l.length ∧ i = .int .i64 (k : Int) ∧ ∃ q, wr = w.drewN q) (fun i _ => l.length - (intOf i).toNat)
  case atStart => exact ⟨0, Nat.zero_le _, rfl, 0, rfl⟩
  case round =>
    obtain ⟨k, hk, rfl, q, rfl⟩ := hrel
    by_cases hlt : k < l.length
    · obtain ⟨a, rfl, c1⟩ := HAT.out A (w.drewN q) k hlt HA.out
      obtain ⟨b, rfl, c2⟩ := HAT.out B (w.drewN q) k hlt HB.out
      obtain ⟨x, hx⟩ : ∃ x, l[k] = x := ⟨_, rfl⟩
      rw [hx] at c1 c2
      have hxx : (x != x) = false := by simp
      have h0 : (0 : Int) ≤ (k : Int) := by omega
      have h2 : (k : Int) < (l.length : Int) := by omega
      obtain ⟨wq, hwq⟩ : ∃ wq, w.drewN q = wq := ⟨_, rfl⟩
      rw [hwq] at c1 c2 ⊢
      have HWQ := Lib.hid hwq
      clear hx hwq
      go_wp2_with fail
      go_quiet (fail)
      go_wp2_with fail
      go_roundw
      case rel => exact ⟨k + 1, by omega, by go_num, q + nq, by rw [← HWQ.out]; show { w with drawn := w.drawn + q + nq } = { w with drawn := w.drawn + (q + nq) }; rw [Nat.add_assoc]⟩
      case measure => simp [intOf]; omega
    · have hB0 : Below w.heap.size w (w.drewN q) := ⟨rfl, rfl, rfl, Nat.le_refl _, fun _ _ => rfl⟩
      have HB0 := Lib.hid hB0
      clear hB0
      go_wp2_with fail
      go_ret
      exact ⟨rfl, HB0.out⟩
set_option maxRecDepth 100000 in
set_option maxHeartbeats 4000000 in
theorem point_any (w : World) : Calls Tryz.prog 30 #[] w fun e w' => e = .returned (.agg #[.string (ones 64), .int .i64 1]) ∧ Below w.heap.size w w' := by
  have HB := Lib.hid ((Below.refl w.heap.size w).alloc (Nat.le_refl _) (.cells #[.string ⟨#[]⟩, .int .i64 0] 35))
  have HX := Lib.hid (show (w.alloc (.cells #[.string ⟨#[]⟩, .int .i64 0] 35)).heap[w.heap.size]? = some (.cells #[.string ⟨#[]⟩, .int .i64 0] 35 (0, 0)) from Go.heap_alloc_new w _)
  go_enter Tryz.func30, Tryz.ntmps30
  go_wp2_with fail
  generalize w.alloc (.cells #[.string ⟨#[]⟩, .int .i64 0] 35) = V at HB HX ⊢
  go_loopw [1] (fun s wr => ∃ k : Nat, k ≤ 64 ∧ s = .string (ones k) ∧ wr = V) (fun s _ => 64 - (match s with | .string b => b.size | _ => 0))
  case atStart => exact ⟨0, by omega, rfl, rfl⟩
  case round =>
    obtain ⟨k, hk, rfl, rfl⟩ := hrel
    have hsz := ones_size k
    by_cases hlt : k < 64
    · obtain ⟨s, hs⟩ : ∃ s, ones k = s := ⟨_, rfl⟩
      have HS := Lib.hid (show s ++ ⟨#[49]⟩ = ones (k + 1) by rw [← hs]; exact ones_succ k)
      rw [hs] at hsz ⊢
      have hsi : (s.size : Int) < 64 := by omega
      clear hs
      go_wp2_with fail
      go_roundw
      case rel => exact ⟨k + 1, by omega, by rw [HS.out], by trivial⟩
      case measure =>
        show 64 - (s ++ ⟨#[49]⟩).size < 64 - s.size
        rw [HS.out, ones_size]; omega
    · have hk64 : k = 64 := by omega
      subst hk64
      obtain ⟨s, hs⟩ : ∃ s, ones 64 = s := ⟨_, rfl⟩
      rw [hs] at hsz ⊢
      have hsi : ¬ (s.size : Int) < 64 := by omega
      have c0 : wr.cell? ⟨w.heap.size, 0, none⟩ = some (.string ⟨#[]⟩) := cell_of (j := 0) HX.out rfl
      have c1 : wr.cell? ⟨w.heap.size, 1, none⟩ = some (.int .i64 0) := cell_of (j := 1) HX.out rfl
      have cf : ∀ j, wr.frozen? ⟨w.heap.size, j, none⟩ = false := fun j => by simp [World.frozen?, HX.out]
      have h0 := setCell_cells HX.out 0 (.string s)
      have h1 := setCell_cells h0 1 (.int .i64 1)
      have y0 : ((wr.setCell ⟨w.heap.size, 0, none⟩ (.string s)).setCell ⟨w.heap.size, 1, none⟩ (.int .i64 1)).cell? ⟨w.heap.size, 0, none⟩ = some (.string s) := cell_of (j := 0) h1 (by simp)
      have y1 : ((wr.setCell ⟨w.heap.size, 0, none⟩ (.string s)).setCell ⟨w.heap.size, 1, none⟩ (.int .i64 1)).cell? ⟨w.heap.size, 1, none⟩ = some (.int .i64 1) := cell_of (j := 1) h1 (by simp)
      have hbb : Below w.heap.size wr ((wr.setCell ⟨w.heap.size, 0, none⟩ (.string s)).setCell ⟨w.heap.size, 1, none⟩ (.int .i64 1)) := ((Below.refl w.heap.size wr).setCell (p := ⟨w.heap.size, 0, none⟩) (Nat.le_refl _) _).setCell (p := ⟨w.heap.size, 1, none⟩) (Nat.le_refl _) _
      have HF := Lib.hid (HB.out.trans hbb)
      have HSS := Lib.hid hs
      clear h0 h1 hbb hs
      go_wp2_with fail
      exact bodyPost_ret (v := .agg #[.string s, .int .i64 1]) (by simp [results, Tryz.results30, go_sem, y0, y1]) rfl ⟨by rw [HSS.out], HF.out⟩
theorem ex_deal : dealE exD = 0 := by kernel_rfl
theorem ex_fee0 : feeE exD.rate 0 = (724, 0) := by kernel_rfl
theorem ex_fee2 : feeE 1000 2 = (1068, 0) := by kernel_rfl
theorem ex_bounds : boundsE exD 3 60000000 40000000 = 0 := by kernel_rfl
def exL : List LineP := [⟨59276, ownL 6 exK, -1⟩, ⟨40000, otherL exK, -2⟩]
theorem ex_whole : wholeE (ones 64) 1 exL 3 = (txOf (ones 64) 1 [⟨40000, otherL exK, -2⟩, ⟨59276, ownL 6 exK, -1⟩] 3, [-2, -1], 0) := by kernel_rfl
end Go.Proofs.YtncniomiplnaaaaGreatDoor

namespace Go.Proofs.YtncniomiplnaaaaGreatDoor
open Go.RowKit

theorem build_ex (w : World) (hv : VarsOk w) (ht : TabOk w) :
    Calls Tryz.prog 16 #[.agg #[.string (ones 64), .int .i64 1], dealV exD, .bool true, .agg #[.int .i64 3, .int .i64 60000000, .int .i64 40000000, .slice none 0 0], keysV exK] w fun e w' =>
      ∃ A ca B cb AW cW, e = .returned (.tuple #[.agg #[.slice A 1 ca, .slice B 2 cb, .int .i64 0, .int .i64 3], .slice AW 2 cW, .int .i64 0]) ∧
        (∀ W, Below w'.heap.size w' W → (∃ ys, Cells W B ys ∧ OutsC W [⟨40000, otherL exK⟩, ⟨59276, ownL 6 exK⟩] ys) ∧ Cells W AW (wordsV [-2, -1])) ∧ Below w.heap.size w w' := by
  refine (build_two (ones 64) 1 exD exK 3 60000000 40000000 724 w ex_deal ex_bounds ex_fee0 (by decide) (by decide) (by decide) (by decide) (by decide) (by decide) (by decide) (by decide) (by decide) (by decide) ⟨by rw [ones_size]; decide, by decide⟩ (by rw [ones_size]; decide) hv ht (by decide)).mono ?_
  rintro e w' ⟨t, ws, rfl, hT, hI, hb⟩
  have hx : wholeE (ones 64) 1 [⟨60000000 / 1000 - 724, ownL exD.delay exK, -1⟩, ⟨40000000 / 1000, otherL exK, -2⟩] 3 = (txOf (ones 64) 1 [⟨40000, otherL exK, -2⟩, ⟨59276, ownL 6 exK, -1⟩] 3, [-2, -1], 0) := ex_whole
  rw [hx] at hT hI ⊢
  obtain ⟨A, ca, B, cb, rfl, h1⟩ := hT
  obtain ⟨AW, cW, rfl, h2⟩ := hI
  exact ⟨A, ca, B, cb, AW, cW, rfl, fun W hW => ⟨(h1 W (hW.mono hb.size) (Stay.below hW)).2, h2 W (Stay.below hW)⟩, hb⟩
set_option maxRecDepth 100000 in
set_option maxHeartbeats 8000000 in
theorem works_any (w : World) (hv : VarsOk w) (ht : TabOk w) : Calls Tryz.prog 14 #[] w fun e w' => e = .returned (.bool true) ∧ Below w.heap.size w w' := by
  have HV := Lib.hid hv
  have HT := Lib.hid ht
  have HF := Lib.hid (fun W => fee_any 1000 2 W)
  rw [ex_fee2] at HF
  have HRD := Lib.hid (fun W => right_deal exD W)
  rw [ex_deal] at HRD
  clear hv ht
  go_enter Tryz.func14, Tryz.ntmps14
  go_wp2_with fail
  refine (point_any _).mono ?_
  rintro e w1 ⟨rfl, hb1⟩
  have HB1 := Lib.hid hb1
  clear hb1
  go_wp2_with fail
  refine (deal_any _).mono ?_
  rintro e w2 ⟨rfl, hb2⟩
  have HB2 := Lib.hid (HB1.out.trans (hb2.mono HB1.out.size))
  clear hb2
  go_wp2_with fail
  refine (keys_any _).mono ?_
  rintro e w3 ⟨rfl, hb3⟩
  have HB3 := Lib.hid (HB2.out.trans (hb3.mono HB2.out.size))
  clear hb3
  go_wp2_with fail
  refine (build_ex _ (HV.out.below HB3.out) (HT.out.below HB3.out)).mono ?_
  rintro e w4 ⟨A, ca, B, cb, AW, cW, rfl, hm, hb4⟩
  have HB4 := Lib.hid (HB3.out.trans (hb4.mono HB3.out.size))
  have HM := Lib.hid hm
  clear hm hb4
  go_wp2_with fail
  have hvb : Below w4.heap.size w4 (w4.alloc (.cells #[.slice A 1 ca, .slice B 2 cb, .int .i64 0, .int .i64 3] 45)) := (Below.refl _ _).alloc (Nat.le_refl _) _
  have hbx : (w4.alloc (.cells #[.slice A 1 ca, .slice B 2 cb, .int .i64 0, .int .i64 3] 45)).heap[w4.heap.size]? = some (.cells #[.slice A 1 ca, .slice B 2 cb, .int .i64 0, .int .i64 3] 45) := Go.heap_alloc_new w4 _
  generalize w4.alloc (.cells #[.slice A 1 ca, .slice B 2 cb, .int .i64 0, .int .i64 3] 45) = V at hvb hbx ⊢
  refine (HF.out _).mono ?_
  rintro e w5 ⟨rfl, hb5⟩
  have hv5 : Below w4.heap.size w4 w5 := hvb.trans (hb5.mono hvb.size)
  have hx5 := (hb5.block _ (lt_of_block hbx)).trans hbx
  have HB5 := Lib.hid (HB4.out.trans (hv5.mono HB4.out.size))
  obtain ⟨⟨ys, hcB, hoB⟩, hcW⟩ := HM.out w5 hv5
  obtain ⟨ad, B0, cp0, rfl, a0, -⟩ := out_at hcB hoB (k := 0) (by decide)
  obtain ⟨ad', B1, cp1, he, a1, -⟩ := out_at hcB hoB (k := 1) (by decide)
  injection he with he
  subst he
  have c0 : w5.cell? ad = some (.int .i64 40000) := by simpa [Addr.add] using a0
  have c1 : w5.cell? ⟨ad.block, ad.off + 5, none⟩ = some (.int .i64 59276) := by simpa [Addr.add] using a1
  have t1 : w5.cell? ⟨w4.heap.size, 1, none⟩ = some (.slice (some ad) 2 cb) := cell_of (j := 1) hx5 rfl
  have t3 : w5.cell? ⟨w4.heap.size, 3, none⟩ = some (.int .i64 3) := cell_of (j := 3) hx5 rfl
  have hal : Below w5.heap.size w5 (w5.alloc (.cells #[.int .i64 (-2), .int .i64 (-1)] 3)) := (Below.refl _ _).alloc (Nat.le_refl _) _
  have hsm : Calls Tryz.prog 19 #[.slice AW 2 cW, .slice (some ⟨w5.heap.size, 0, none⟩) 2 2] (w5.alloc (.cells #[.int .i64 (-2), .int .i64 (-1)] 3)) fun e w' => e = .returned (.bool true) ∧ Below (w5.alloc (.cells #[.int .i64 (-2), .int .i64 (-1)] 3)).heap.size (w5.alloc (.cells #[.int .i64 (-2), .int .i64 (-1)] 3)) w' := same_eq [-2, -1] AW (some ⟨w5.heap.size, 0, none⟩) cW 2 _ (by decide) (hcW.below hal) (by
    have := fresh_cells w5 #[.int .i64 (-2), .int .i64 (-1)] 3
    simpa [wordsV] using this)
  have HSM := Lib.hid hsm
  have HAL := Lib.hid (HB5.out.trans (hal.mono HB5.out.size))
  clear hvb hbx hb5 hv5 hx5 hcB hoB hcW a0 a1 hal hsm HM
  go_wp2_with fail
  refine HSM.out.mono ?_
  rintro e w6 ⟨rfl, hb6⟩
  have HB6 := Lib.hid (HAL.out.trans (hb6.mono HAL.out.size))
  clear hb6
  go_wp2_with fail
  refine (deal_any _).mono ?_
  rintro e w7 ⟨rfl, hb7⟩
  have HB7 := Lib.hid (HB6.out.trans (hb7.mono HB6.out.size))
  clear hb7
  go_wp2_with fail
  refine (HRD.out _).mono ?_
  rintro e w8 ⟨rfl, hb8⟩
  have HB8 := Lib.hid (HB7.out.trans (hb8.mono HB7.out.size))
  clear hb8
  go_wp2_with fail
  go_ret
  exact ⟨rfl, HB8.out⟩
end Go.Proofs.YtncniomiplnaaaaGreatDoor
