/- The locks' contracts in one form (the book's). -/
import Derived.Test.YtbiioifpeebjaaaGreatDoorQ22
import Derived.Test.YtbiioifpeebjaaaGreatDoorQ23
import Derived.Test.YtbiioifpeebjaaaGreatDoorQ13
import Derived.Test.YtbiioifpeebjaaaGreatDoorQ19
set_option linter.all false
namespace Go.Proofs.YtbiioifpeebjaaaGreatDoor
open Go.RowKit

theorem lockV_out {f : FuncId} {args : Array Value} {w : World} {x : LockT} (h : Calls Tryz.prog f args w fun e w' => ∃ v, e = .returned v ∧ LockV w' x v ∧ Below w.heap.size w w') : Calls Tryz.prog f args w fun e w' => ∃ A c, e = .returned (.agg #[.int .u8 x.kind, .string x.term, .int .i64 x.n, .slice A x.kids.length c]) ∧ LockH w' x [.int .u8 x.kind, .string x.term, .int .i64 x.n, .slice A x.kids.length c] ∧ Below w.heap.size w w' := by
  refine h.mono ?_
  rintro e w' ⟨v, rfl, ⟨A, c, rfl, hl⟩, hb⟩
  exact ⟨A, c, rfl, hl, hb⟩
theorem htlc_any (d : DealR) (k : KeysR) (h : PayR) (w : World) : Calls Tryz.prog 8 #[dealV d, keysV k, htlcV h] w fun e w' => ∃ v, e = .returned v ∧ LockV w' (htlcL d.delay k h.mine h.hash h.exp) v ∧ Below w.heap.size w w' := by
  obtain ⟨mine, hid, amt, hash, exp⟩ := h
  cases mine with
  | true => exact htlc_mine d k hid amt hash exp w
  | false => exact htlc_their d k hid amt hash exp w
theorem small_sig {t : ByteArray} (h : t.size ≤ 900000) : smallT (sigL t) := by
  unfold sigL smallT smallTs
  exact ⟨h, by simp, trivial⟩
theorem small_fund {a b : ByteArray} (h1 : a.size ≤ 900000) (h2 : b.size ≤ 900000) : smallT (fundL a b) := by
  unfold fundL allL
  split
  · simp only [smallT, smallTs]
    exact ⟨by decide, by simp, small_sig h2, small_sig h1, trivial⟩
  · simp only [smallT, smallTs]
    exact ⟨by decide, by simp, small_sig h1, small_sig h2, trivial⟩
theorem small_time (k : Int) (n : Int) : smallT (.node k ⟨#[]⟩ n []) := by
  simp only [smallT, smallTs]
  exact ⟨by decide, by simp, trivial⟩
theorem small_pre {t : ByteArray} (h : t.size ≤ 900000) : smallT (preL t) := by
  unfold preL smallT smallTs
  exact ⟨h, by simp, trivial⟩
theorem small_htlc (delay : Int) (k : KeysR) (mine : Bool) (hash : ByteArray) (exp : Int) (h1 : k.rev.size ≤ 900000) (h2 : k.mine.size ≤ 900000) (h3 : k.theirs.size ≤ 900000) (h4 : hash.size ≤ 900000) : smallT (htlcL delay k mine hash exp) := by
  unfold htlcL anyL allL
  cases mine with
  | true =>
    simp only [if_true, smallT, smallTs]
    exact ⟨by decide, by simp, small_sig h1, ⟨by decide, by simp, small_sig h3, small_pre h4, trivial⟩, ⟨by decide, by simp, small_time 3 exp, small_time 4 delay, small_sig h2, trivial⟩, trivial⟩
  | false =>
    simp only [Bool.false_eq_true, if_false, smallT, smallTs]
    exact ⟨by decide, by simp, small_sig h1, ⟨by decide, by simp, small_time 4 delay, small_pre h4, small_sig h2, trivial⟩, ⟨by decide, by simp, small_time 3 exp, small_sig h3, trivial⟩, trivial⟩
end Go.Proofs.YtbiioifpeebjaaaGreatDoor
