/- The reference's number of a row of bits. -/
import Derived.Test.YtnkhbhkmllnniaaDoorT5
import Derived.Test.YtnkhbhkmllnniaaDoorBitsM
namespace Go.Proofs.YtnkhbhkmllnniaaDoor
open Go.RowKit Bech

theorem numOf_snoc (l : List UInt8) (k : Nat) (h : k < l.length) : numOf (l.take (k + 1)) = numOf (l.take k) * 2 + l[k].toNat := by
  rw [List.take_succ_eq_append_getElem h, numOf_append]
  simp [numOf]
theorem or_u8 {n b : Nat} (hn : n < 128) (hb : b < 2) : bits .or .u8 ((n : Int) * 2) (b : Int) = ((n * 2 + b : Nat) : Int) := by
  have h := u8_or_nat (n * 2) b (by omega) (by omega)
  rw [nat_join 1 _ _ (by omega) hb] at h
  have e : ((n * 2 : Nat) : Int) = (n : Int) * 2 := by simp
  rw [e] at h
  exact h

set_option maxHeartbeats 400000 in
theorem refNumber_any (l : List UInt8) (A : Option Addr) (c : Nat) (w : World) (hl : l.length ≤ 8) (hbits : IsBits l) (hA : Cells w A (bv l)) :
    Calls Tryd.prog 37 #[.slice A l.length c] w fun e w' => e = .returned (.int .u8 (numOf l : Nat)) ∧ w = w' := by
  have HI := Lib.hid hbits; clear hbits
  go_enter Tryd.func37, Tryd.ntmps37
  go_wp2
  go_loop [3, 4] (fun n i => ∃ k : Nat, k ≤ l.length ∧ i = .int .i64 k ∧ n = .int .u8 (numOf (l.take k) : Nat)) (fun _ i => l.length - (intOf i).toNat)
  case atStart => exact ⟨0, Nat.zero_le _, rfl, rfl⟩
  case round =>
    obtain ⟨k, hk, rfl, rfl⟩ := hrel
    by_cases hlt : k < l.length
    · obtain ⟨ad, rfl, hc⟩ := hA.byte hlt
      have hsn := numOf_snoc l k hlt
      have hn : numOf (l.take k) < 128 := numOf_bd (n := 7) (fun b hb => HI.out b (List.mem_of_mem_take hb)) (by rw [List.length_take]; omega)
      have hb2 := HI.out l[k] (List.getElem_mem _)
      generalize l[k].toNat = b at hc hsn hb2
      generalize numOf (l.take k) = n at hn hsn
      have hor := or_u8 hn hb2
      have HS := Lib.hid hsn; clear hsn
      clear hA
      go_wp2
      go_round
      case rel => exact ⟨k + 1, by omega, by go_num, by rw [HS.out]; simp⟩
      case measure => simp [intOf]; omega
    · rw [List.take_of_length_le (by omega)]
      clear hA
      go_wp2
      go_ret
      exact ⟨rfl, rfl⟩
end Go.Proofs.YtnkhbhkmllnniaaDoor
