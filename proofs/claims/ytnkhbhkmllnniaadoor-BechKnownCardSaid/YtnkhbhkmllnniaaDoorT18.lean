/- Decode's three tests of a text's shape. -/
import Derived.Test.YtnkhbhkmllnniaaDoorT17
namespace Go.Proofs.YtnkhbhkmllnniaaDoor
open Go.RowKit Bech

abbrev someFn (b : Nat) : Value := .func (.func 29) #[] #[.pointer (some ⟨b, 0, none⟩)]

set_option maxHeartbeats 1000000 in
theorem bad1_any (s : ByteArray) (b f : Nat) (w : World) (hs : s.size ≤ 1000000) (hc : w.cell? ⟨b, 0, none⟩ = some (.string s)) (hf : w.cell? ⟨f, 0, none⟩ = some (someFn b)) :
    Calls Tryd.prog 30 #[.pointer (some ⟨f, 0, none⟩)] w fun e w' => e = .returned (.bool (someIn s.data.toList 0 32 || someIn s.data.toList 127 255)) ∧ w = w' := by
  cases h1 : someIn s.data.toList 0 32 with
  | true =>
    have H1 := Lib.hid h1; clear h1
    go_enter Tryd.func30, Tryd.ntmps30
    go_wp2_with fail
    refine (some_any s 0 32 b _ hs hc).mono ?_
    rintro e w1 ⟨rfl, rfl⟩
    rw [H1.out]
    go_wp2_with fail
    go_ret
    exact ⟨rfl, rfl⟩
  | false =>
    have H1 := Lib.hid h1; clear h1
    go_enter Tryd.func30, Tryd.ntmps30
    go_wp2_with fail
    refine (some_any s 0 32 b _ hs hc).mono ?_
    rintro e w1 ⟨rfl, rfl⟩
    rw [H1.out]
    go_wp2_with fail
    refine (some_any s 127 255 b _ hs hc).mono ?_
    rintro e w1 ⟨rfl, rfl⟩
    go_wp2_with fail
    go_ret
    exact ⟨rfl, rfl⟩
set_option maxHeartbeats 1000000 in
theorem bad2_any (s : ByteArray) (b f : Nat) (w : World) (hs : s.size ≤ 1000000) (hc : w.cell? ⟨b, 0, none⟩ = some (.string s)) (hf : w.cell? ⟨f, 0, none⟩ = some (someFn b)) :
    Calls Tryd.prog 31 #[.pointer (some ⟨f, 0, none⟩)] w fun e w' => e = .returned (.bool (someIn s.data.toList 97 122 && someIn s.data.toList 65 90)) ∧ w = w' := by
  cases h1 : someIn s.data.toList 97 122 with
  | false =>
    have H1 := Lib.hid h1; clear h1
    go_enter Tryd.func31, Tryd.ntmps31
    go_wp2_with fail
    refine (some_any s 97 122 b _ hs hc).mono ?_
    rintro e w1 ⟨rfl, rfl⟩
    rw [H1.out]
    go_wp2_with fail
    go_ret
    exact ⟨rfl, rfl⟩
  | true =>
    have H1 := Lib.hid h1; clear h1
    go_enter Tryd.func31, Tryd.ntmps31
    go_wp2_with fail
    refine (some_any s 97 122 b _ hs hc).mono ?_
    rintro e w1 ⟨rfl, rfl⟩
    rw [H1.out]
    go_wp2_with fail
    refine (some_any s 65 90 b _ hs hc).mono ?_
    rintro e w1 ⟨rfl, rfl⟩
    go_wp2_with fail
    go_ret
    exact ⟨rfl, rfl⟩
def bad3 (at_ : Int) (n : Nat) : Bool := decide (at_ < 1) || decide (83 < at_) || decide ((n : Int) - at_ ≤ 6)
set_option maxHeartbeats 1000000 in
theorem bad3_any (s : ByteArray) (at_ : Int) (a b : Nat) (w : World) (hs : s.size ≤ 1000000) (h1 : -1 ≤ at_) (h2 : at_ ≤ 1000000) (hc : w.cell? ⟨b, 0, none⟩ = some (.string s)) (ha : w.cell? ⟨a, 0, none⟩ = some (.int .i64 at_)) :
    Calls Tryd.prog 32 #[.pointer (some ⟨a, 0, none⟩), .pointer (some ⟨b, 0, none⟩)] w fun e w' => e = .returned (.bool (bad3 at_ s.size)) ∧ w = w' := by
  go_enter Tryd.func32, Tryd.ntmps32
  go_wp2_with fail
  all_goals
    go_ret
    refine ⟨ret_bool ?_, rfl⟩
    unfold bad3
    simp
    try omega
end Go.Proofs.YtnkhbhkmllnniaaDoor
