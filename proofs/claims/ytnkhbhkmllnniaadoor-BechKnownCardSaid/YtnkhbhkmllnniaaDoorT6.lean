/- The reference's word of a letter is refWord, for every byte. -/
import Derived.Test.YtnkhbhkmllnniaaDoorProg
import Derived.Test.YtnkhbhkmllnniaaDoorBase
import Derived.Test.YtnkhbhkmllnniaaDoorBits0
namespace Go.Proofs.YtnkhbhkmllnniaaDoor
open Go.RowKit Bech

set_option maxHeartbeats 400000 in
theorem refWord_any (c : UInt8) (w : World) :
    Calls Tryd.prog 36 #[.int .u8 (c.toNat : Int)] w fun e w' => e = .returned (.int .u8 (refWord c : Nat)) ∧ w = w' := by
  have hcl := c.toNat_lt
  go_enter Tryd.func36, Tryd.ntmps36
  go_wp2
  go_loop [3] (fun i => ∃ k : Nat, k ≤ 32 ∧ i = .int .i64 k ∧ NotTo c k) (fun i => 32 - (intOf i).toNat)
  case atStart => exact ⟨0, Nat.zero_le _, rfl, fun j hj => absurd hj (by omega)⟩
  case round =>
    obtain ⟨k, hk, rfl, hn⟩ := hrel
    have HN := Lib.hid hn; clear hn
    by_cases hlt : k < 32
    · go_wp2
      · have he : (((ByteArray.mk #[113, 112, 122, 114, 121, 57, 120, 56, 103, 102, 50, 116, 118, 100, 119, 48, 115, 51, 106, 110, 53, 52, 107, 104, 99, 101, 54, 109, 117, 97, 55, 108])[k]'hlt).toNat : Int) = (c.toNat : Int) := beq_iff_eq.1 ‹(_ == _) = true›
        rw [lit_get] at he
        go_ret
        exact ⟨ret_int (by rw [refWord_some hlt HN.out (UInt8.toNat_inj.1 (by omega))]), rfl⟩
      · have he : ¬ (((ByteArray.mk #[113, 112, 122, 114, 121, 57, 120, 56, 103, 102, 50, 116, 118, 100, 119, 48, 115, 51, 106, 110, 53, 52, 107, 104, 99, 101, 54, 109, 117, 97, 55, 108])[k]'hlt).toNat : Int) = (c.toNat : Int) := beq_eq_false_iff_ne.1 ‹(_ == _) = false›
        rw [lit_get] at he
        exact ⟨⟨k + 1, by omega, by go_num, HN.out.step (fun e => he (by rw [e]))⟩, by simp [intOf]; omega⟩
    · obtain rfl : k = 32 := by omega
      have hr := refWord_none HN.out
      have HR := Lib.hid hr; clear hr
      go_wp2
      go_ret
      exact ⟨ret_int (by rw [HR.out]; rfl), rfl⟩
end Go.Proofs.YtnkhbhkmllnniaaDoor
