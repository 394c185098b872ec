/- slices.Chunk's iterator: pieces of 256 bytes. -/
import Derived.Test.YtladknjmoahdoaaBase
import Derived.Test.YtladknjmoahdoaaRow
import Derived.Test.YtladknjmoahdoaaChecked
import Derived.RangeFuncBound
import Derived.RangeFuncCalls
import Derived.RangeFuncLeaves
import Derived.Shelf.Abstract
import Derived.Shelf.RegionOpen
import Derived.WalkKit
import Derived.OwnWalkIn
import Derived.TacticsInMore
import Derived.LoopNIn
import Derived.LoopIn
set_option linter.all false
namespace Go.Proofs.Ytladknjmoahdoaa
open Go.RowKit Go.Shelf
attribute [local go_sem] Oper.semAt_some

/-- The piece at a place. -/
def chunkV (ad : Addr) (n k : Nat) : Value := .slice (some (ad.add (k * 256))) (min 256 (n - k * 256)) (min 256 (n - k * 256))
set_option maxRecDepth 100000 in
set_option maxHeartbeats 4000000 in
theorem chunk_in {L b1 b2 m : Nat} {ad : Addr} {n c : Nat} {J : Nat → World → Prop} {Jx : World → Prop} {W : World}
    (hb1 : ∀ k V, J k V → V.cell? ⟨b1, 0, none⟩ = some (.slice (some ad) n c)) (hb2 : ∀ k V, J k V → V.cell? ⟨b2, 0, none⟩ = some (.int .i64 256))
    (hdraw : ∀ k V q, J k V → J k (V.drewN q))
    (hY : ∀ k V, J k V → k * 256 < n → YieldAt Fence.wide (m - 1) Try.prog L #[chunkV ad n k] V fun e V' => (e = .returned (.bool true) ∧ J (k + 1) V') ∨ (e = .returned (.bool false) ∧ Jx V'))
    (h0 : J 0 W) (hn : n ≤ 1000000000) (hc : n ≤ c) :
    CallsIn Fence.wide m Try.prog 53 #[.func (.yield L) #[] #[], .pointer (some ⟨b1, 0, none⟩), .pointer (some ⟨b2, 0, none⟩)] W fun e W' => (∃ v, e = .returned v) ∧ ((∃ k, n ≤ k * 256 ∧ (k = 0 ∨ (k - 1) * 256 < n) ∧ J k W') ∨ Jx W') := by
  have HB1 := Lib.hid hb1
  have HB2 := Lib.hid hb2
  have HY := Lib.hid hY
  have HDR := Lib.hid hdraw
  clear hb1 hb2 hY hdraw
  refine callsIn_of_wp Try.func53 rfl trivial ?_ rfl
  simp only [Try.ntmps53, List.size_toArray, List.length_cons, List.length_nil, Nat.reduceAdd, Nat.reduceSub, Array.replicate_succ, Array.replicate_zero, List.push_toArray, List.append_toArray, List.nil_append, List.cons_append]
  gi_wp2
  gi_loopw [4] (fun p wr => ∃ k : Nat, p = .int .i64 ((k * 256 : Nat) : Int) ∧ (k = 0 ∨ (k - 1) * 256 < n) ∧ J k wr) (fun p _ => n + 256 - (intOf p).toNat)
  case atStart => exact ⟨0, rfl, .inl rfl, h0⟩
  case round =>
    obtain ⟨k, rfl, hk, hj⟩ := hrel
    have e1 := HB1.out k wr hj
    have e2 := HB2.out k wr hj
    by_cases hlt : k * 256 < n
    · have hnk : ((n : Int) - ((k * 256 : Nat) : Int)) = ((n - k * 256 : Nat) : Int) := by omega
      have hkn : k * 256 ≤ n := by omega
      have hkc : ¬ c = k * 256 := by omega
      have hkl : ((k * 256 : Nat) : Int) < (n : Int) := by omega
      have hl1 : n - k * 256 ≤ 1000000000 := by omega
      obtain ⟨ln, hln⟩ : ∃ ln, n - k * 256 = ln := ⟨_, rfl⟩
      obtain ⟨mn, hmn⟩ : ∃ mn, min 256 ln = mn := ⟨_, rfl⟩
      have hmi : (if (ln : Int) < 256 then (ln : Int) else 256) = (mn : Int) := by split <;> omega
      have hmp : 0 < mn := by omega
      have hm1 : mn ≤ n - k * 256 := by omega
      have hke : (((k * 256 : Nat) : Int) + (mn : Int)) = ((k * 256 + mn : Nat) : Int) := by omega
      have HMN := Lib.hid hmn
      have HLN := Lib.hid hln
      gi_wp2
      refine wpIn_wide.2 ?_
      go_quiet (fail)
      have hjd := HDR.out k wr nq hj
      clear hj e1 e2
      generalize wr.drewN nq = V at hjd ⊢
      have e1 := HB1.out k V hjd
      have e2 := HB2.out k V hjd
      obtain ⟨fn, tmps, assign, body, hy, hR⟩ := HY.out k V hjd hlt
      unfold chunkV at hy
      rw [HLN.out, HMN.out] at hy
      gi_wp2
      refine ⟨fun h => (by cases h), hR.mono ?_⟩
      rintro e V2 (⟨rfl, hj2⟩ | ⟨rfl, hjx⟩)
      · clear hy hR e1 e2
        have e1 := HB1.out _ V2 hj2
        have e2 := HB2.out _ V2 hj2
        gi_wp2
        go_roundw
        case rel => exact ⟨k + 1, by go_num, .inr (by simpa using hlt), hj2⟩
        case measure => simp [intOf]; omega
      · gi_wp2
        refine bodyPost_ret (results_none rfl _ _ _) rfl ?_
        exact ⟨⟨_, rfl⟩, .inr hjx⟩
    · have hkl : ¬ ((k * 256 : Nat) : Int) < (n : Int) := by omega
      gi_wp2
      go_end0
      exact ⟨⟨_, rfl⟩, .inl ⟨k, by omega, hk, hj⟩⟩
end Go.Proofs.Ytladknjmoahdoaa
