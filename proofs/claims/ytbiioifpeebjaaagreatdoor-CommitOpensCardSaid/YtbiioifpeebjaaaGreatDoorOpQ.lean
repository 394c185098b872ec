/- The law's opens at each lock and each row of secrets. -/
import Derived.Test.YtbiioifpeebjaaaGreatDoorOpP
import Derived.Test.YtbiioifpeebjaaaGreatDoorOpF
set_option linter.all false
namespace Go.Proofs.YtbiioifpeebjaaaGreatDoor
open Go.RowKit

set_option maxHeartbeats 1000000 in
theorem lo_own_owner (dl ex after age : Int) (knows : Bool) (hd : 1 ≤ dl ∧ dl ≤ 10000) (hx : 0 ≤ ex ∧ ex < 1073741824) (x : LockT) (he : (ownL dl exK) = x) (KA : Option Addr) (cs : List Value) (W : World) (hlc : LockC W x cs) (hKA : Cells W KA (strs ownerS)) (hv : VarsOk W) :
    Calls Tryz.prog 11 #[.agg cs.toArray, .slice KA 2 2, .string (preT knows), .int .i64 after, .int .i64 age] W fun e w' => e = .returned (.bool (decide (dl ≤ age))) ∧ Below W.heap.size W w' := by
  have hr : lockB x = true := by rw [← he]; exact lk_own dl ex hd hx
  have hs : smallT x := by rw [← he]; exact small_own _ _ (by decide) (by decide)
  have h := law_opens after age ownerS (preT knows) KA 2 sfT pubS hsT owner_ok.1 owner_ok.2 (pre_ok knows) (by decide) x cs W hr hs hlc hKA hv
  rw [owner_pub, pre_hs, ← he, op_own_owner knows after age dl ex] at h
  exact h
set_option maxHeartbeats 1000000 in
theorem lo_own_other (dl ex after age : Int) (knows : Bool) (hd : 1 ≤ dl ∧ dl ≤ 10000) (hx : 0 ≤ ex ∧ ex < 1073741824) (x : LockT) (he : (ownL dl exK) = x) (KA : Option Addr) (cs : List Value) (W : World) (hlc : LockC W x cs) (hKA : Cells W KA (strs otherS)) (hv : VarsOk W) :
    Calls Tryz.prog 11 #[.agg cs.toArray, .slice KA 2 2, .string (preT knows), .int .i64 after, .int .i64 age] W fun e w' => e = .returned (.bool (false)) ∧ Below W.heap.size W w' := by
  have hr : lockB x = true := by rw [← he]; exact lk_own dl ex hd hx
  have hs : smallT x := by rw [← he]; exact small_own _ _ (by decide) (by decide)
  have h := law_opens after age otherS (preT knows) KA 2 sfT pubS hsT other_ok.1 other_ok.2 (pre_ok knows) (by decide) x cs W hr hs hlc hKA hv
  rw [other_pub, pre_hs, ← he, op_own_other knows after age dl ex] at h
  exact h
set_option maxHeartbeats 1000000 in
theorem lo_own_revk (dl ex after age : Int) (knows : Bool) (hd : 1 ≤ dl ∧ dl ≤ 10000) (hx : 0 ≤ ex ∧ ex < 1073741824) (x : LockT) (he : (ownL dl exK) = x) (KA : Option Addr) (cs : List Value) (W : World) (hlc : LockC W x cs) (hKA : Cells W KA (strs revkS)) (hv : VarsOk W) :
    Calls Tryz.prog 11 #[.agg cs.toArray, .slice KA 1 1, .string (preT knows), .int .i64 after, .int .i64 age] W fun e w' => e = .returned (.bool (true)) ∧ Below W.heap.size W w' := by
  have hr : lockB x = true := by rw [← he]; exact lk_own dl ex hd hx
  have hs : smallT x := by rw [← he]; exact small_own _ _ (by decide) (by decide)
  have h := law_opens after age revkS (preT knows) KA 1 sfT pubS hsT revk_ok.1 revk_ok.2 (pre_ok knows) (by decide) x cs W hr hs hlc hKA hv
  rw [revk_pub, pre_hs, ← he, op_own_revk knows after age dl ex] at h
  exact h
set_option maxHeartbeats 1000000 in
theorem lo_theirs_owner (dl ex after age : Int) (knows : Bool) (hd : 1 ≤ dl ∧ dl ≤ 10000) (hx : 0 ≤ ex ∧ ex < 1073741824) (x : LockT) (he : (otherL exK) = x) (KA : Option Addr) (cs : List Value) (W : World) (hlc : LockC W x cs) (hKA : Cells W KA (strs ownerS)) (hv : VarsOk W) :
    Calls Tryz.prog 11 #[.agg cs.toArray, .slice KA 2 2, .string (preT knows), .int .i64 after, .int .i64 age] W fun e w' => e = .returned (.bool (false)) ∧ Below W.heap.size W w' := by
  have hr : lockB x = true := by rw [← he]; exact lk_theirs dl ex hd hx
  have hs : smallT x := by rw [← he]; exact small_other _ (by decide)
  have h := law_opens after age ownerS (preT knows) KA 2 sfT pubS hsT owner_ok.1 owner_ok.2 (pre_ok knows) (by decide) x cs W hr hs hlc hKA hv
  rw [owner_pub, pre_hs, ← he, op_theirs_owner knows after age dl ex] at h
  exact h
set_option maxHeartbeats 1000000 in
theorem lo_theirs_other (dl ex after age : Int) (knows : Bool) (hd : 1 ≤ dl ∧ dl ≤ 10000) (hx : 0 ≤ ex ∧ ex < 1073741824) (x : LockT) (he : (otherL exK) = x) (KA : Option Addr) (cs : List Value) (W : World) (hlc : LockC W x cs) (hKA : Cells W KA (strs otherS)) (hv : VarsOk W) :
    Calls Tryz.prog 11 #[.agg cs.toArray, .slice KA 2 2, .string (preT knows), .int .i64 after, .int .i64 age] W fun e w' => e = .returned (.bool (true)) ∧ Below W.heap.size W w' := by
  have hr : lockB x = true := by rw [← he]; exact lk_theirs dl ex hd hx
  have hs : smallT x := by rw [← he]; exact small_other _ (by decide)
  have h := law_opens after age otherS (preT knows) KA 2 sfT pubS hsT other_ok.1 other_ok.2 (pre_ok knows) (by decide) x cs W hr hs hlc hKA hv
  rw [other_pub, pre_hs, ← he, op_theirs_other knows after age dl ex] at h
  exact h
set_option maxHeartbeats 1000000 in
theorem lo_theirs_revk (dl ex after age : Int) (knows : Bool) (hd : 1 ≤ dl ∧ dl ≤ 10000) (hx : 0 ≤ ex ∧ ex < 1073741824) (x : LockT) (he : (otherL exK) = x) (KA : Option Addr) (cs : List Value) (W : World) (hlc : LockC W x cs) (hKA : Cells W KA (strs revkS)) (hv : VarsOk W) :
    Calls Tryz.prog 11 #[.agg cs.toArray, .slice KA 1 1, .string (preT knows), .int .i64 after, .int .i64 age] W fun e w' => e = .returned (.bool (false)) ∧ Below W.heap.size W w' := by
  have hr : lockB x = true := by rw [← he]; exact lk_theirs dl ex hd hx
  have hs : smallT x := by rw [← he]; exact small_other _ (by decide)
  have h := law_opens after age revkS (preT knows) KA 1 sfT pubS hsT revk_ok.1 revk_ok.2 (pre_ok knows) (by decide) x cs W hr hs hlc hKA hv
  rw [revk_pub, pre_hs, ← he, op_theirs_revk knows after age dl ex] at h
  exact h
set_option maxHeartbeats 1000000 in
theorem lo_offer_owner (dl ex after age : Int) (knows : Bool) (hd : 1 ≤ dl ∧ dl ≤ 10000) (hx : 0 ≤ ex ∧ ex < 1073741824) (x : LockT) (he : (htlcL dl exK true ⟨#[72, 110, 57, 59]⟩ ex) = x) (KA : Option Addr) (cs : List Value) (W : World) (hlc : LockC W x cs) (hKA : Cells W KA (strs ownerS)) (hv : VarsOk W) :
    Calls Tryz.prog 11 #[.agg cs.toArray, .slice KA 2 2, .string (preT knows), .int .i64 after, .int .i64 age] W fun e w' => e = .returned (.bool ((decide (ex ≤ after) && decide (dl ≤ age)))) ∧ Below W.heap.size W w' := by
  have hr : lockB x = true := by rw [← he]; exact lk_offer dl ex hd hx
  have hs : smallT x := by rw [← he]; exact small_htlc _ _ _ _ _ (by decide) (by decide) (by decide) (by decide)
  have h := law_opens after age ownerS (preT knows) KA 2 sfT pubS hsT owner_ok.1 owner_ok.2 (pre_ok knows) (by decide) x cs W hr hs hlc hKA hv
  rw [owner_pub, pre_hs, ← he, op_offer_owner knows after age dl ex] at h
  exact h
set_option maxHeartbeats 1000000 in
theorem lo_offer_other (dl ex after age : Int) (knows : Bool) (hd : 1 ≤ dl ∧ dl ≤ 10000) (hx : 0 ≤ ex ∧ ex < 1073741824) (x : LockT) (he : (htlcL dl exK true ⟨#[72, 110, 57, 59]⟩ ex) = x) (KA : Option Addr) (cs : List Value) (W : World) (hlc : LockC W x cs) (hKA : Cells W KA (strs otherS)) (hv : VarsOk W) :
    Calls Tryz.prog 11 #[.agg cs.toArray, .slice KA 2 2, .string (preT knows), .int .i64 after, .int .i64 age] W fun e w' => e = .returned (.bool (knows)) ∧ Below W.heap.size W w' := by
  have hr : lockB x = true := by rw [← he]; exact lk_offer dl ex hd hx
  have hs : smallT x := by rw [← he]; exact small_htlc _ _ _ _ _ (by decide) (by decide) (by decide) (by decide)
  have h := law_opens after age otherS (preT knows) KA 2 sfT pubS hsT other_ok.1 other_ok.2 (pre_ok knows) (by decide) x cs W hr hs hlc hKA hv
  rw [other_pub, pre_hs, ← he, op_offer_other knows after age dl ex] at h
  exact h
set_option maxHeartbeats 1000000 in
theorem lo_offer_revk (dl ex after age : Int) (knows : Bool) (hd : 1 ≤ dl ∧ dl ≤ 10000) (hx : 0 ≤ ex ∧ ex < 1073741824) (x : LockT) (he : (htlcL dl exK true ⟨#[72, 110, 57, 59]⟩ ex) = x) (KA : Option Addr) (cs : List Value) (W : World) (hlc : LockC W x cs) (hKA : Cells W KA (strs revkS)) (hv : VarsOk W) :
    Calls Tryz.prog 11 #[.agg cs.toArray, .slice KA 1 1, .string (preT knows), .int .i64 after, .int .i64 age] W fun e w' => e = .returned (.bool (true)) ∧ Below W.heap.size W w' := by
  have hr : lockB x = true := by rw [← he]; exact lk_offer dl ex hd hx
  have hs : smallT x := by rw [← he]; exact small_htlc _ _ _ _ _ (by decide) (by decide) (by decide) (by decide)
  have h := law_opens after age revkS (preT knows) KA 1 sfT pubS hsT revk_ok.1 revk_ok.2 (pre_ok knows) (by decide) x cs W hr hs hlc hKA hv
  rw [revk_pub, pre_hs, ← he, op_offer_revk knows after age dl ex] at h
  exact h
set_option maxHeartbeats 1000000 in
theorem lo_take_owner (dl ex after age : Int) (knows : Bool) (hd : 1 ≤ dl ∧ dl ≤ 10000) (hx : 0 ≤ ex ∧ ex < 1073741824) (x : LockT) (he : (htlcL dl exK false ⟨#[72, 110, 57, 59]⟩ ex) = x) (KA : Option Addr) (cs : List Value) (W : World) (hlc : LockC W x cs) (hKA : Cells W KA (strs ownerS)) (hv : VarsOk W) :
    Calls Tryz.prog 11 #[.agg cs.toArray, .slice KA 2 2, .string (preT knows), .int .i64 after, .int .i64 age] W fun e w' => e = .returned (.bool ((decide (dl ≤ age) && knows))) ∧ Below W.heap.size W w' := by
  have hr : lockB x = true := by rw [← he]; exact lk_take dl ex hd hx
  have hs : smallT x := by rw [← he]; exact small_htlc _ _ _ _ _ (by decide) (by decide) (by decide) (by decide)
  have h := law_opens after age ownerS (preT knows) KA 2 sfT pubS hsT owner_ok.1 owner_ok.2 (pre_ok knows) (by decide) x cs W hr hs hlc hKA hv
  rw [owner_pub, pre_hs, ← he, op_take_owner knows after age dl ex] at h
  exact h
set_option maxHeartbeats 1000000 in
theorem lo_take_other (dl ex after age : Int) (knows : Bool) (hd : 1 ≤ dl ∧ dl ≤ 10000) (hx : 0 ≤ ex ∧ ex < 1073741824) (x : LockT) (he : (htlcL dl exK false ⟨#[72, 110, 57, 59]⟩ ex) = x) (KA : Option Addr) (cs : List Value) (W : World) (hlc : LockC W x cs) (hKA : Cells W KA (strs otherS)) (hv : VarsOk W) :
    Calls Tryz.prog 11 #[.agg cs.toArray, .slice KA 2 2, .string (preT knows), .int .i64 after, .int .i64 age] W fun e w' => e = .returned (.bool (decide (ex ≤ after))) ∧ Below W.heap.size W w' := by
  have hr : lockB x = true := by rw [← he]; exact lk_take dl ex hd hx
  have hs : smallT x := by rw [← he]; exact small_htlc _ _ _ _ _ (by decide) (by decide) (by decide) (by decide)
  have h := law_opens after age otherS (preT knows) KA 2 sfT pubS hsT other_ok.1 other_ok.2 (pre_ok knows) (by decide) x cs W hr hs hlc hKA hv
  rw [other_pub, pre_hs, ← he, op_take_other knows after age dl ex] at h
  exact h
set_option maxHeartbeats 1000000 in
theorem lo_take_revk (dl ex after age : Int) (knows : Bool) (hd : 1 ≤ dl ∧ dl ≤ 10000) (hx : 0 ≤ ex ∧ ex < 1073741824) (x : LockT) (he : (htlcL dl exK false ⟨#[72, 110, 57, 59]⟩ ex) = x) (KA : Option Addr) (cs : List Value) (W : World) (hlc : LockC W x cs) (hKA : Cells W KA (strs revkS)) (hv : VarsOk W) :
    Calls Tryz.prog 11 #[.agg cs.toArray, .slice KA 1 1, .string (preT knows), .int .i64 after, .int .i64 age] W fun e w' => e = .returned (.bool (true)) ∧ Below W.heap.size W w' := by
  have hr : lockB x = true := by rw [← he]; exact lk_take dl ex hd hx
  have hs : smallT x := by rw [← he]; exact small_htlc _ _ _ _ _ (by decide) (by decide) (by decide) (by decide)
  have h := law_opens after age revkS (preT knows) KA 1 sfT pubS hsT revk_ok.1 revk_ok.2 (pre_ok knows) (by decide) x cs W hr hs hlc hKA hv
  rw [revk_pub, pre_hs, ← he, op_take_revk knows after age dl ex] at h
  exact h
set_option maxHeartbeats 1000000 in
theorem lo_fund_two (dl ex after age : Int) (knows : Bool) (hd : 1 ≤ dl ∧ dl ≤ 10000) (hx : 0 ≤ ex ∧ ex < 1073741824) (x : LockT) (he : (fundL ⟨#[80, 110, 49, 59]⟩ ⟨#[80, 110, 50, 59]⟩) = x) (KA : Option Addr) (cs : List Value) (W : World) (hlc : LockC W x cs) (hKA : Cells W KA (strs twoS)) (hv : VarsOk W) :
    Calls Tryz.prog 11 #[.agg cs.toArray, .slice KA 2 2, .string (preT knows), .int .i64 after, .int .i64 age] W fun e w' => e = .returned (.bool (true)) ∧ Below W.heap.size W w' := by
  have hr : lockB x = true := by rw [← he]; exact lk_fund dl ex hd hx
  have hs : smallT x := by rw [← he]; exact small_fund (by decide) (by decide)
  have h := law_opens after age twoS (preT knows) KA 2 sfT pubS hsT two_ok.1 two_ok.2 (pre_ok knows) (by decide) x cs W hr hs hlc hKA hv
  rw [two_pub, pre_hs, ← he, op_fund_two knows after age dl ex] at h
  exact h
set_option maxHeartbeats 1000000 in
theorem lo_fund_owner (dl ex after age : Int) (knows : Bool) (hd : 1 ≤ dl ∧ dl ≤ 10000) (hx : 0 ≤ ex ∧ ex < 1073741824) (x : LockT) (he : (fundL ⟨#[80, 110, 49, 59]⟩ ⟨#[80, 110, 50, 59]⟩) = x) (KA : Option Addr) (cs : List Value) (W : World) (hlc : LockC W x cs) (hKA : Cells W KA (strs ownerS)) (hv : VarsOk W) :
    Calls Tryz.prog 11 #[.agg cs.toArray, .slice KA 2 2, .string (preT knows), .int .i64 after, .int .i64 age] W fun e w' => e = .returned (.bool (false)) ∧ Below W.heap.size W w' := by
  have hr : lockB x = true := by rw [← he]; exact lk_fund dl ex hd hx
  have hs : smallT x := by rw [← he]; exact small_fund (by decide) (by decide)
  have h := law_opens after age ownerS (preT knows) KA 2 sfT pubS hsT owner_ok.1 owner_ok.2 (pre_ok knows) (by decide) x cs W hr hs hlc hKA hv
  rw [owner_pub, pre_hs, ← he, op_fund_owner knows after age dl ex] at h
  exact h
set_option maxHeartbeats 1000000 in
theorem lo_fund_one (dl ex after age : Int) (knows : Bool) (hd : 1 ≤ dl ∧ dl ≤ 10000) (hx : 0 ≤ ex ∧ ex < 1073741824) (x : LockT) (he : (fundL ⟨#[80, 110, 49, 59]⟩ ⟨#[80, 110, 50, 59]⟩) = x) (KA : Option Addr) (cs : List Value) (W : World) (hlc : LockC W x cs) (hKA : Cells W KA (strs oneS)) (hv : VarsOk W) :
    Calls Tryz.prog 11 #[.agg cs.toArray, .slice KA 1 1, .string (preT knows), .int .i64 after, .int .i64 age] W fun e w' => e = .returned (.bool (false)) ∧ Below W.heap.size W w' := by
  have hr : lockB x = true := by rw [← he]; exact lk_fund dl ex hd hx
  have hs : smallT x := by rw [← he]; exact small_fund (by decide) (by decide)
  have h := law_opens after age oneS (preT knows) KA 1 sfT pubS hsT one_ok.1 one_ok.2 (pre_ok knows) (by decide) x cs W hr hs hlc hKA hv
  rw [one_pub, pre_hs, ← he, op_fund_one knows after age dl ex] at h
  exact h
end Go.Proofs.YtbiioifpeebjaaaGreatDoor
