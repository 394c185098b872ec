/- Settle, Fail. -/
import Derived.Test.YtmlcojhanimnpaaI16
namespace Go.Proofs.Ytmlcojhanimnpaa
open Go.RowKit

theorem settle_any (p c d : Nat) (v : Value) (vs : List Value) (s : Led) (id : Int) (w : World) (hs : Inv s) (h : LedAt w p c d v vs s) :
    Calls Try.prog 15 #[.pointer (some ⟨p, 0, none⟩), .int .i64 id] w (OpP w p c d v (endH true s id).1 (endH true s id).2) := by
  have HC := Lib.hid (endS p c d v vs s id w hs h)
  clear hs h
  go_enter Try.func15, Try.ntmps15
  go_wp2_with fail
  refine HC.out.mono ?_
  rintro e w' ⟨rfl, hr⟩
  have HR := Lib.hid hr
  clear hr
  go_wp2_with fail
  go_ret
  exact ⟨rfl, HR.out⟩
theorem fail_any (p c d : Nat) (v : Value) (vs : List Value) (s : Led) (id : Int) (w : World) (hs : Inv s) (h : LedAt w p c d v vs s) :
    Calls Try.prog 25 #[.pointer (some ⟨p, 0, none⟩), .int .i64 id] w (OpP w p c d v (endH false s id).1 (endH false s id).2) := by
  have HC := Lib.hid (endF p c d v vs s id w hs h)
  clear hs h
  go_enter Try.func25, Try.ntmps25
  go_wp2_with fail
  refine HC.out.mono ?_
  rintro e w' ⟨rfl, hr⟩
  have HR := Lib.hid hr
  clear hr
  go_wp2_with fail
  go_ret
  exact ⟨rfl, HR.out⟩
end Go.Proofs.Ytmlcojhanimnpaa
