/- works: the laws' own two examples hold. -/
import Derived.Test.YtnkhbhkmllnniaaDoorT20
namespace Go.Proofs.YtnkhbhkmllnniaaDoor
open Go.RowKit Bech

theorem works_enc : encText [97] [] = [97, 49, 50, 117, 101, 108, 53, 108] ∧ encErr [97] [] = 0 := ⟨by decide +kernel, by decide +kernel⟩
theorem works_dec : decHead [65, 49, 50, 85, 69, 76, 53, 76] = [97] ∧ decWords [65, 49, 50, 85, 69, 76, 53, 76] = [] ∧ decErr [65, 49, 50, 85, 69, 76, 53, 76] = 0 := ⟨by decide +kernel, by decide +kernel, by decide +kernel⟩
theorem works_enc2 (w : World) : Calls Tryd.prog 10 #[.string ⟨#[97]⟩, .slice none 0 0] w fun e w' => e = .returned (.tuple #[.string ⟨#[97, 49, 50, 117, 101, 108, 53, 108]⟩, .int .i64 0]) ∧ Below w.heap.size w w' := by
  refine (encode_any ⟨#[97]⟩ [] none 0 w (by decide) (by decide) (Cells.nil _ _)).mono ?_
  rintro e w' ⟨rfl, hb⟩
  have h := works_enc
  refine ⟨?_, hb⟩
  show Ending.returned (.tuple #[.string ⟨(encText [97] []).toArray⟩, .int .i64 (encErr [97] [])]) = _
  rw [h.1, h.2]
theorem works_dec2 (w : World) : Calls Tryd.prog 12 #[.string ⟨#[65, 49, 50, 85, 69, 76, 53, 76]⟩] w fun e w' => ∃ A c, e = .returned (.tuple #[.string ⟨#[97]⟩, .slice A 0 c, .int .i64 0]) ∧ Below w.heap.size w w' := by
  refine (decode_any ⟨#[65, 49, 50, 85, 69, 76, 53, 76]⟩ w (by decide)).mono ?_
  rintro e w' ⟨A, c, rfl, hc, hcell, hb⟩
  have h := works_dec
  refine ⟨A, c, ?_, hb⟩
  show Ending.returned (.tuple #[.string ⟨(decHead [65, 49, 50, 85, 69, 76, 53, 76]).toArray⟩, .slice A (decWords [65, 49, 50, 85, 69, 76, 53, 76]).length c, .int .i64 (decErr [65, 49, 50, 85, 69, 76, 53, 76])]) = _
  rw [h.1, h.2.1, h.2.2]
  rfl
set_option maxHeartbeats 1000000 in
theorem works_any (w : World) : Calls Tryd.prog 9 #[] w fun e w' => e = .returned (.bool true) ∧ Below w.heap.size w w' := by
  go_enter Tryd.func9, Tryd.ntmps9
  go_wp2_with fail
  refine (works_enc2 w).mono ?_
  rintro e w1 ⟨rfl, hb1⟩
  go_wp2_with fail
  refine (works_dec2 w1).mono ?_
  rintro e w2 ⟨A, c, rfl, hb2⟩
  go_wp2_with fail
  go_ret
  exact ⟨rfl, hb1.trans (hb2.mono hb1.size)⟩
end Go.Proofs.YtnkhbhkmllnniaaDoor
