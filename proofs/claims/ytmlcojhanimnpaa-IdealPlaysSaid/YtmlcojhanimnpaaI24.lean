/- worth (of the statements): what an account is worth, or -1. -/
import Derived.Test.YtmlcojhanimnpaaI23
namespace Go.Proofs.Ytmlcojhanimnpaa
open Go.RowKit

def worth1 (s : Led) (q : ByteArray) : Int := if (mget s.coins q).isSome = true then worth s q else -1
theorem worthL_any (p c d : Nat) (v : Value) (vs : List Value) (s : Led) (q : ByteArray) (w : World) (hs : Inv s) (h : LedAt w p c d v vs s) :
    Calls Try.prog 18 #[.pointer (some ⟨p, 0, none⟩), .string q] w fun e w' => e = .returned (.int .i64 (worth1 s q)) ∧ Below w.heap.size w w' := by
  have hc := worth_any p c d v vs s q w hs h
  have HC := Lib.hid hc
  clear hc hs h
  cases ht : (mget s.coins q).isSome with
  | true =>
    have hv : worthV s q = .tuple #[.int .i64 (worth s q), .bool true] := by unfold worthV; rw [if_pos ht]
    have hr : worth1 s q = worth s q := by unfold worth1; rw [if_pos ht]
    rw [hr]
    have HV := Lib.hid hv
    clear hv hr ht
    generalize worth s q = n at *
    go_enter Try.func18, Try.ntmps18
    go_wp2_with fail
    refine HC.out.mono ?_
    rintro e w1 ⟨rfl, hb⟩
    rw [HV.out]
    go_wp2_with fail
    go_ret
    exact ⟨rfl, hb⟩
  | false =>
    have hv : worthV s q = .tuple #[.int .i64 0, .bool false] := by unfold worthV; rw [if_neg (by rw [ht]; simp)]
    have hr : worth1 s q = -1 := by unfold worth1; rw [if_neg (by rw [ht]; simp)]
    rw [hr]
    have HV := Lib.hid hv
    clear hv hr ht
    go_enter Try.func18, Try.ntmps18
    go_wp2_with fail
    refine HC.out.mono ?_
    rintro e w1 ⟨rfl, hb⟩
    rw [HV.out]
    go_wp2_with fail
    go_ret
    exact ⟨rfl, hb⟩
end Go.Proofs.Ytmlcojhanimnpaa
