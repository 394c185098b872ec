/- The reference's check of words is chk, for every slice of bytes. -/
import Derived.Test.YtnkhbhkmllnniaaDoorProg
import Derived.Test.YtnkhbhkmllnniaaDoorBase
import Derived.Test.YtnkhbhkmllnniaaDoorBits0
namespace Go.Proofs.YtnkhbhkmllnniaaDoor
open Go.RowKit Bech

set_option maxHeartbeats 400000 in
theorem refCheck_any (l : List UInt8) (A : Option Addr) (c : Nat) (w : World) (hl : l.length ≤ 1000000) (hA : Cells w A (bv l)) :
    Calls Tryd.prog 27 #[.slice A l.length c] w fun e w' => e = .returned (.int .u32 (chk l : Nat)) ∧ Below w.heap.size w w' := by
  go_enter Tryd.func27, Tryd.ntmps27
  go_wp2
  go_loopw [3, 4] (fun c i wr => ∃ k : Nat, k ≤ l.length ∧ i = .int .i64 k ∧ c = .int .u32 (chkFrom 1 (l.take k) : Nat) ∧ Below w.heap.size w wr) (fun _ i _ => l.length - (intOf i).toNat)
  case atStart => exact ⟨0, Nat.zero_le _, rfl, rfl, Below.refl _ _⟩
  case round =>
    obtain ⟨k, hk, rfl, rfl, hb⟩ := hrel
    by_cases hlt : k < l.length
    · have hA' := hA.below hb
      obtain ⟨ad, rfl, hc⟩ := hA'.byte hlt
      clear hA hA'
      have hcl : chkFrom 1 (l.take k) < 4294967296 := chkFrom_lt _ 1 (by decide)
      have hsn := chkFrom_snoc 1 l k hlt
      generalize chkFrom 1 (l.take k) = cc at hcl hsn
      have hbl := l[k].toNat_lt
      generalize l[k].toNat = by_ at hc hbl hsn
      have HS := Lib.hid hsn; clear hsn
      go_wp2
      obtain ⟨wo, hwo⟩ : ∃ wo : World, wo = wr := ⟨_, rfl⟩
      subst hwo
      go_loop [3, 7] (fun c i => ∃ j : Nat, j ≤ 5 ∧ i = .int .i64 j ∧ c = .int .u32 (inn (cc / 33554432) (cc % 33554432 * 32 ^^^ by_) j : Nat)) (fun _ i => 5 - (intOf i).toNat)
      case atStart => exact ⟨0, by omega, rfl, start_u32 cc by_ hcl hbl⟩
      case round =>
        obtain ⟨j, hj, rfl, rfl⟩ := hrel
        have hx0 := x0_lt cc by_ hbl
        rcases (by omega : j = 0 ∨ j = 1 ∨ j = 2 ∨ j = 3 ∨ j = 4 ∨ j = 5) with rfl | rfl | rfl | rfl | rfl | rfl
        · go_wp2
          · exact ⟨⟨1, by omega, rfl, inn_hit hx0 _ rfl _ ‹(bits .and .u32 _ 1 == 1) = true› (by omega) (by omega)⟩, by simp [intOf]⟩
          · exact ⟨⟨1, by omega, rfl, inn_miss _ ‹(bits .and .u32 _ 1 == 1) = false› (by omega) (by omega)⟩, by simp [intOf]⟩
        · go_wp2
          · exact ⟨⟨2, by omega, rfl, inn_hit hx0 _ rfl _ ‹(bits .and .u32 _ 1 == 1) = true› (by omega) (by omega)⟩, by simp [intOf]⟩
          · exact ⟨⟨2, by omega, rfl, inn_miss _ ‹(bits .and .u32 _ 1 == 1) = false› (by omega) (by omega)⟩, by simp [intOf]⟩
        · go_wp2
          · exact ⟨⟨3, by omega, rfl, inn_hit hx0 _ rfl _ ‹(bits .and .u32 _ 1 == 1) = true› (by omega) (by omega)⟩, by simp [intOf]⟩
          · exact ⟨⟨3, by omega, rfl, inn_miss _ ‹(bits .and .u32 _ 1 == 1) = false› (by omega) (by omega)⟩, by simp [intOf]⟩
        · go_wp2
          · exact ⟨⟨4, by omega, rfl, inn_hit hx0 _ rfl _ ‹(bits .and .u32 _ 1 == 1) = true› (by omega) (by omega)⟩, by simp [intOf]⟩
          · exact ⟨⟨4, by omega, rfl, inn_miss _ ‹(bits .and .u32 _ 1 == 1) = false› (by omega) (by omega)⟩, by simp [intOf]⟩
        · go_wp2
          · exact ⟨⟨5, by omega, rfl, inn_hit hx0 _ rfl _ ‹(bits .and .u32 _ 1 == 1) = true› (by omega) (by omega)⟩, by simp [intOf]⟩
          · exact ⟨⟨5, by omega, rfl, inn_miss _ ‹(bits .and .u32 _ 1 == 1) = false› (by omega) (by omega)⟩, by simp [intOf]⟩
        · go_wp2
          go_roundw
          case rel => exact ⟨k + 1, by omega, by go_num, u32_eq (by rw [HS.out]; rfl), hb.alloc hb.size _⟩
          case measure => simp [intOf]; omega
    · go_wp2
      go_ret
      exact ⟨by rw [List.take_of_length_le (by omega)]; rfl, hb⟩
end Go.Proofs.YtnkhbhkmllnniaaDoor
