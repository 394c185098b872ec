/- What opens the locks of the law CommitOpens. -/
import Derived.Test.YtbiioifpeebjaaaGreatDoorOpE
import Derived.Test.YtbiioifpeebjaaaGreatDoorQ22
import Derived.Test.YtbiioifpeebjaaaGreatDoorQ19
set_option linter.all false
namespace Go.Proofs.YtbiioifpeebjaaaGreatDoor
open Go.RowKit

theorem fund_eq : fundL ⟨#[80, 110, 49, 59]⟩ ⟨#[80, 110, 50, 59]⟩ = allL [sigL ⟨#[80, 110, 49, 59]⟩, sigL ⟨#[80, 110, 50, 59]⟩]  := by kernel_rfl
theorem fund_eq2 : fundL ⟨#[80, 110, 50, 59]⟩ ⟨#[80, 110, 49, 59]⟩ = allL [sigL ⟨#[80, 110, 49, 59]⟩, sigL ⟨#[80, 110, 50, 59]⟩]  := by kernel_rfl
theorem op_own_owner (k : Bool) (after age dl ex : Int) : opB [⟨#[80, 110, 51, 59]⟩, ⟨#[80, 110, 52, 59]⟩] (if k then [⟨#[72, 110, 57, 59]⟩] else []) after age (ownL dl exK) = decide (dl ≤ age) := by
  cases k <;> simp [htlcL, ownL, otherL, anyL, allL, olderL, afterL, preL, sigL, opB, opAll, opAny, exK, Go.ByteArray.toList_eq]
theorem op_own_other (k : Bool) (after age dl ex : Int) : opB [⟨#[80, 110, 53, 59]⟩, ⟨#[80, 110, 54, 59]⟩] (if k then [⟨#[72, 110, 57, 59]⟩] else []) after age (ownL dl exK) = false := by
  cases k <;> simp [htlcL, ownL, otherL, anyL, allL, olderL, afterL, preL, sigL, opB, opAll, opAny, exK, Go.ByteArray.toList_eq]
theorem op_own_revk (k : Bool) (after age dl ex : Int) : opB [⟨#[87, 80, 110, 49, 59, 80, 110, 50, 59]⟩] (if k then [⟨#[72, 110, 57, 59]⟩] else []) after age (ownL dl exK) = true := by
  cases k <;> simp [htlcL, ownL, otherL, anyL, allL, olderL, afterL, preL, sigL, opB, opAll, opAny, exK, Go.ByteArray.toList_eq]
theorem op_theirs_owner (k : Bool) (after age dl ex : Int) : opB [⟨#[80, 110, 51, 59]⟩, ⟨#[80, 110, 52, 59]⟩] (if k then [⟨#[72, 110, 57, 59]⟩] else []) after age (otherL exK) = false := by
  cases k <;> simp [htlcL, ownL, otherL, anyL, allL, olderL, afterL, preL, sigL, opB, opAll, opAny, exK, Go.ByteArray.toList_eq]
theorem op_theirs_other (k : Bool) (after age dl ex : Int) : opB [⟨#[80, 110, 53, 59]⟩, ⟨#[80, 110, 54, 59]⟩] (if k then [⟨#[72, 110, 57, 59]⟩] else []) after age (otherL exK) = true := by
  cases k <;> simp [htlcL, ownL, otherL, anyL, allL, olderL, afterL, preL, sigL, opB, opAll, opAny, exK, Go.ByteArray.toList_eq]
theorem op_theirs_revk (k : Bool) (after age dl ex : Int) : opB [⟨#[87, 80, 110, 49, 59, 80, 110, 50, 59]⟩] (if k then [⟨#[72, 110, 57, 59]⟩] else []) after age (otherL exK) = false := by
  cases k <;> simp [htlcL, ownL, otherL, anyL, allL, olderL, afterL, preL, sigL, opB, opAll, opAny, exK, Go.ByteArray.toList_eq]
theorem op_offer_owner (k : Bool) (after age dl ex : Int) : opB [⟨#[80, 110, 51, 59]⟩, ⟨#[80, 110, 52, 59]⟩] (if k then [⟨#[72, 110, 57, 59]⟩] else []) after age (htlcL dl exK true ⟨#[72, 110, 57, 59]⟩ ex) = (decide (ex ≤ after) && decide (dl ≤ age)) := by
  cases k <;> simp [htlcL, ownL, otherL, anyL, allL, olderL, afterL, preL, sigL, opB, opAll, opAny, exK, Go.ByteArray.toList_eq]
theorem op_offer_other (k : Bool) (after age dl ex : Int) : opB [⟨#[80, 110, 53, 59]⟩, ⟨#[80, 110, 54, 59]⟩] (if k then [⟨#[72, 110, 57, 59]⟩] else []) after age (htlcL dl exK true ⟨#[72, 110, 57, 59]⟩ ex) = k := by
  cases k <;> simp [htlcL, ownL, otherL, anyL, allL, olderL, afterL, preL, sigL, opB, opAll, opAny, exK, Go.ByteArray.toList_eq]
theorem op_offer_revk (k : Bool) (after age dl ex : Int) : opB [⟨#[87, 80, 110, 49, 59, 80, 110, 50, 59]⟩] (if k then [⟨#[72, 110, 57, 59]⟩] else []) after age (htlcL dl exK true ⟨#[72, 110, 57, 59]⟩ ex) = true := by
  cases k <;> simp [htlcL, ownL, otherL, anyL, allL, olderL, afterL, preL, sigL, opB, opAll, opAny, exK, Go.ByteArray.toList_eq]
theorem op_take_owner (k : Bool) (after age dl ex : Int) : opB [⟨#[80, 110, 51, 59]⟩, ⟨#[80, 110, 52, 59]⟩] (if k then [⟨#[72, 110, 57, 59]⟩] else []) after age (htlcL dl exK false ⟨#[72, 110, 57, 59]⟩ ex) = (decide (dl ≤ age) && k) := by
  cases k <;> simp [htlcL, ownL, otherL, anyL, allL, olderL, afterL, preL, sigL, opB, opAll, opAny, exK, Go.ByteArray.toList_eq]
theorem op_take_other (k : Bool) (after age dl ex : Int) : opB [⟨#[80, 110, 53, 59]⟩, ⟨#[80, 110, 54, 59]⟩] (if k then [⟨#[72, 110, 57, 59]⟩] else []) after age (htlcL dl exK false ⟨#[72, 110, 57, 59]⟩ ex) = decide (ex ≤ after) := by
  cases k <;> simp [htlcL, ownL, otherL, anyL, allL, olderL, afterL, preL, sigL, opB, opAll, opAny, exK, Go.ByteArray.toList_eq]
theorem op_take_revk (k : Bool) (after age dl ex : Int) : opB [⟨#[87, 80, 110, 49, 59, 80, 110, 50, 59]⟩] (if k then [⟨#[72, 110, 57, 59]⟩] else []) after age (htlcL dl exK false ⟨#[72, 110, 57, 59]⟩ ex) = true := by
  cases k <;> simp [htlcL, ownL, otherL, anyL, allL, olderL, afterL, preL, sigL, opB, opAll, opAny, exK, Go.ByteArray.toList_eq]
theorem op_fund_two (k : Bool) (after age dl ex : Int) : opB [⟨#[80, 110, 49, 59]⟩, ⟨#[80, 110, 50, 59]⟩] (if k then [⟨#[72, 110, 57, 59]⟩] else []) after age (fundL ⟨#[80, 110, 49, 59]⟩ ⟨#[80, 110, 50, 59]⟩) = true := by
  rw [fund_eq]; cases k <;> simp [htlcL, ownL, otherL, anyL, allL, olderL, afterL, preL, sigL, opB, opAll, opAny, exK, Go.ByteArray.toList_eq]
theorem op_fund_owner (k : Bool) (after age dl ex : Int) : opB [⟨#[80, 110, 51, 59]⟩, ⟨#[80, 110, 52, 59]⟩] (if k then [⟨#[72, 110, 57, 59]⟩] else []) after age (fundL ⟨#[80, 110, 49, 59]⟩ ⟨#[80, 110, 50, 59]⟩) = false := by
  rw [fund_eq]; cases k <;> simp [htlcL, ownL, otherL, anyL, allL, olderL, afterL, preL, sigL, opB, opAll, opAny, exK, Go.ByteArray.toList_eq]
theorem op_fund_one (k : Bool) (after age dl ex : Int) : opB [⟨#[80, 110, 49, 59]⟩] (if k then [⟨#[72, 110, 57, 59]⟩] else []) after age (fundL ⟨#[80, 110, 49, 59]⟩ ⟨#[80, 110, 50, 59]⟩) = false := by
  rw [fund_eq]; cases k <;> simp [htlcL, ownL, otherL, anyL, allL, olderL, afterL, preL, sigL, opB, opAll, opAny, exK, Go.ByteArray.toList_eq]
theorem hash_n9ok : hashB [72, 110, 57, 59] = true := by kernel_rfl
theorem lk_own (dl ex : Int) (h : 1 ≤ dl ∧ dl ≤ 10000) (h' : 0 ≤ ex ∧ ex < 1073741824) : lockB (ownL dl exK) = true := by
  have h1 : decide (0 ≤ dl) = true := decide_eq_true (by omega)
  have h2 : decide (dl < 1073741824) = true := decide_eq_true (by omega)
  have h3 : decide (0 ≤ ex) = true := decide_eq_true (by omega)
  have h4 : decide (ex < 1073741824) = true := decide_eq_true (by omega)
  have e0 : pubB [87, 80, 110, 49, 59, 80, 110, 50, 59] = true := by kernel_rfl
  have e1 : pubB [80, 110, 51, 59] = true := by kernel_rfl
  have e2 : pubB [80, 110, 52, 59] = true := by kernel_rfl
  have e3 : pubB [80, 110, 53, 59] = true := by kernel_rfl
  have e4 : pubB [80, 110, 54, 59] = true := by kernel_rfl
  have e5 : pubB [80, 110, 49, 59] = true := by kernel_rfl
  have e6 : pubB [80, 110, 50, 59] = true := by kernel_rfl
  have hh := hash_n9ok
  clear h h'
  simp [lockB, rightT, rightTs, sizeT, sizeTs, htlcL, ownL, otherL, anyL, allL, olderL, afterL, preL, sigL, okT, exK, e0, e1, e2, e3, e4, e5, e6, hh, of_decide_eq_true h1, of_decide_eq_true h2, of_decide_eq_true h3, of_decide_eq_true h4]
theorem lk_theirs (dl ex : Int) (h : 1 ≤ dl ∧ dl ≤ 10000) (h' : 0 ≤ ex ∧ ex < 1073741824) : lockB (otherL exK) = true := by
  have h1 : decide (0 ≤ dl) = true := decide_eq_true (by omega)
  have h2 : decide (dl < 1073741824) = true := decide_eq_true (by omega)
  have h3 : decide (0 ≤ ex) = true := decide_eq_true (by omega)
  have h4 : decide (ex < 1073741824) = true := decide_eq_true (by omega)
  have e0 : pubB [87, 80, 110, 49, 59, 80, 110, 50, 59] = true := by kernel_rfl
  have e1 : pubB [80, 110, 51, 59] = true := by kernel_rfl
  have e2 : pubB [80, 110, 52, 59] = true := by kernel_rfl
  have e3 : pubB [80, 110, 53, 59] = true := by kernel_rfl
  have e4 : pubB [80, 110, 54, 59] = true := by kernel_rfl
  have e5 : pubB [80, 110, 49, 59] = true := by kernel_rfl
  have e6 : pubB [80, 110, 50, 59] = true := by kernel_rfl
  have hh := hash_n9ok
  clear h h'
  simp [lockB, rightT, rightTs, sizeT, sizeTs, htlcL, ownL, otherL, anyL, allL, olderL, afterL, preL, sigL, okT, exK, e0, e1, e2, e3, e4, e5, e6, hh, of_decide_eq_true h1, of_decide_eq_true h2, of_decide_eq_true h3, of_decide_eq_true h4]
theorem lk_offer (dl ex : Int) (h : 1 ≤ dl ∧ dl ≤ 10000) (h' : 0 ≤ ex ∧ ex < 1073741824) : lockB (htlcL dl exK true ⟨#[72, 110, 57, 59]⟩ ex) = true := by
  have h1 : decide (0 ≤ dl) = true := decide_eq_true (by omega)
  have h2 : decide (dl < 1073741824) = true := decide_eq_true (by omega)
  have h3 : decide (0 ≤ ex) = true := decide_eq_true (by omega)
  have h4 : decide (ex < 1073741824) = true := decide_eq_true (by omega)
  have e0 : pubB [87, 80, 110, 49, 59, 80, 110, 50, 59] = true := by kernel_rfl
  have e1 : pubB [80, 110, 51, 59] = true := by kernel_rfl
  have e2 : pubB [80, 110, 52, 59] = true := by kernel_rfl
  have e3 : pubB [80, 110, 53, 59] = true := by kernel_rfl
  have e4 : pubB [80, 110, 54, 59] = true := by kernel_rfl
  have e5 : pubB [80, 110, 49, 59] = true := by kernel_rfl
  have e6 : pubB [80, 110, 50, 59] = true := by kernel_rfl
  have hh := hash_n9ok
  clear h h'
  simp [lockB, rightT, rightTs, sizeT, sizeTs, htlcL, ownL, otherL, anyL, allL, olderL, afterL, preL, sigL, okT, exK, e0, e1, e2, e3, e4, e5, e6, hh, of_decide_eq_true h1, of_decide_eq_true h2, of_decide_eq_true h3, of_decide_eq_true h4]
theorem lk_take (dl ex : Int) (h : 1 ≤ dl ∧ dl ≤ 10000) (h' : 0 ≤ ex ∧ ex < 1073741824) : lockB (htlcL dl exK false ⟨#[72, 110, 57, 59]⟩ ex) = true := by
  have h1 : decide (0 ≤ dl) = true := decide_eq_true (by omega)
  have h2 : decide (dl < 1073741824) = true := decide_eq_true (by omega)
  have h3 : decide (0 ≤ ex) = true := decide_eq_true (by omega)
  have h4 : decide (ex < 1073741824) = true := decide_eq_true (by omega)
  have e0 : pubB [87, 80, 110, 49, 59, 80, 110, 50, 59] = true := by kernel_rfl
  have e1 : pubB [80, 110, 51, 59] = true := by kernel_rfl
  have e2 : pubB [80, 110, 52, 59] = true := by kernel_rfl
  have e3 : pubB [80, 110, 53, 59] = true := by kernel_rfl
  have e4 : pubB [80, 110, 54, 59] = true := by kernel_rfl
  have e5 : pubB [80, 110, 49, 59] = true := by kernel_rfl
  have e6 : pubB [80, 110, 50, 59] = true := by kernel_rfl
  have hh := hash_n9ok
  clear h h'
  simp [lockB, rightT, rightTs, sizeT, sizeTs, htlcL, ownL, otherL, anyL, allL, olderL, afterL, preL, sigL, okT, exK, e0, e1, e2, e3, e4, e5, e6, hh, of_decide_eq_true h1, of_decide_eq_true h2, of_decide_eq_true h3, of_decide_eq_true h4]
theorem lk_fund (dl ex : Int) (h : 1 ≤ dl ∧ dl ≤ 10000) (h' : 0 ≤ ex ∧ ex < 1073741824) : lockB (fundL ⟨#[80, 110, 49, 59]⟩ ⟨#[80, 110, 50, 59]⟩) = true := by
  have h1 : decide (0 ≤ dl) = true := decide_eq_true (by omega)
  have h2 : decide (dl < 1073741824) = true := decide_eq_true (by omega)
  have h3 : decide (0 ≤ ex) = true := decide_eq_true (by omega)
  have h4 : decide (ex < 1073741824) = true := decide_eq_true (by omega)
  have e0 : pubB [87, 80, 110, 49, 59, 80, 110, 50, 59] = true := by kernel_rfl
  have e1 : pubB [80, 110, 51, 59] = true := by kernel_rfl
  have e2 : pubB [80, 110, 52, 59] = true := by kernel_rfl
  have e3 : pubB [80, 110, 53, 59] = true := by kernel_rfl
  have e4 : pubB [80, 110, 54, 59] = true := by kernel_rfl
  have e5 : pubB [80, 110, 49, 59] = true := by kernel_rfl
  have e6 : pubB [80, 110, 50, 59] = true := by kernel_rfl
  have hh := hash_n9ok
  rw [fund_eq]; clear h h'
  simp [lockB, rightT, rightTs, sizeT, sizeTs, htlcL, ownL, otherL, anyL, allL, olderL, afterL, preL, sigL, okT, exK, e0, e1, e2, e3, e4, e5, e6, hh, of_decide_eq_true h1, of_decide_eq_true h2, of_decide_eq_true h3, of_decide_eq_true h4]
end Go.Proofs.YtbiioifpeebjaaaGreatDoor
