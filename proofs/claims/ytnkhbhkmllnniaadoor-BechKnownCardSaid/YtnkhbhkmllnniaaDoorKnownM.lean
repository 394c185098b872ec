/- Plain mathematics of BechKnown: what the examples of the chapter read and write. -/
import Derived.Test.YtnkhbhkmllnniaaDoorBack
namespace Bech
def goodT : Nat → List UInt8
  | 0 => [65, 49, 50, 85, 69, 76, 53, 76]
  | 1 => [97, 49, 50, 117, 101, 108, 53, 108]
  | 2 => [97, 110, 56, 51, 99, 104, 97, 114, 97, 99, 116, 101, 114, 108, 111, 110, 103, 104, 117, 109, 97, 110, 114, 101, 97, 100, 97, 98, 108, 101, 112, 97, 114, 116, 116, 104, 97, 116, 99, 111, 110, 116, 97, 105, 110, 115, 116, 104, 101, 110, 117, 109, 98, 101, 114, 49, 97, 110, 100, 116, 104, 101, 101, 120, 99, 108, 117, 100, 101, 100, 99, 104, 97, 114, 97, 99, 116, 101, 114, 115, 98, 105, 111, 49, 116, 116, 53, 116, 103, 115]
  | 3 => [97, 98, 99, 100, 101, 102, 49, 113, 112, 122, 114, 121, 57, 120, 56, 103, 102, 50, 116, 118, 100, 119, 48, 115, 51, 106, 110, 53, 52, 107, 104, 99, 101, 54, 109, 117, 97, 55, 108, 109, 113, 113, 113, 120, 119]
  | 4 => 49 :: 49 :: (List.replicate 82 113 ++ [99, 56, 50, 52, 55, 106])
  | 5 => [115, 112, 108, 105, 116, 49, 99, 104, 101, 99, 107, 117, 112, 115, 116, 97, 103, 101, 104, 97, 110, 100, 115, 104, 97, 107, 101, 117, 112, 115, 116, 114, 101, 97, 109, 101, 114, 114, 97, 110, 116, 101, 114, 114, 101, 100, 99, 97, 112, 101, 114, 114, 101, 100, 50, 121, 57, 101, 51, 119]
  | 6 => [63, 49, 101, 122, 121, 102, 99, 108]
  | _ => []
def badT : Nat → List UInt8
  | 0 => [32, 49, 110, 119, 108, 100, 106, 53]
  | 1 => [127, 49, 97, 120, 107, 119, 114, 120]
  | 2 => [128, 49, 101, 121, 109, 53, 53, 104]
  | 3 => [112, 122, 114, 121, 57, 120, 48, 115, 48, 109, 117, 107]
  | 4 => [49, 112, 122, 114, 121, 57, 120, 48, 115, 48, 109, 117, 107]
  | 5 => [120, 49, 98, 52, 110, 48, 113, 53, 118]
  | 6 => [108, 105, 49, 100, 103, 109, 116, 51]
  | 7 => [100, 101, 49, 108, 103, 55, 119, 116, 255]
  | 8 => [49, 48, 97, 48, 54, 116, 56]
  | 9 => [49, 113, 122, 122, 102, 104, 101, 101]
  | 10 => [65, 49, 50, 117, 101, 108, 53, 108]
  | 11 => []
  | 12 => [49]
  | 13 => [97, 49]
  | 14 => [97, 110, 56, 52, 99, 104, 97, 114, 97, 99, 116, 101, 114, 115, 108, 111, 110, 103, 104, 117, 109, 97, 110, 114, 101, 97, 100, 97, 98, 108, 101, 112, 97, 114, 116, 116, 104, 97, 116, 99, 111, 110, 116, 97, 105, 110, 115, 116, 104, 101, 110, 117, 109, 98, 101, 114, 49, 97, 110, 100, 116, 104, 101, 101, 120, 99, 108, 117, 100, 101, 100, 99, 104, 97, 114, 97, 99, 116, 101, 114, 115, 98, 105, 111, 49, 53, 54, 57, 112, 118, 120]
  | _ => []
theorem good_err : ∀ k, k < 7 → decErr (goodT k) = 0 := by decide +kernel
theorem good_len : ∀ k, k < 7 → (goodT k).length ≤ 1000 := by decide +kernel
theorem bad_err : ∀ k, k < 15 → decErr (badT k) = 60 := by decide +kernel
theorem bad_len : ∀ k, k < 15 → (badT k).length ≤ 1000 := by decide +kernel
theorem dec_m : decErr [97, 49, 50, 117, 101, 108, 53, 109] = 61 := by decide +kernel
theorem dec_g : decErr [65, 49, 71, 55, 83, 71, 68, 56] = 61 := by decide +kernel
theorem enc_e : encErr [] [] = 60 := by decide +kernel
theorem enc_a : encErr [65] [] = 60 := by decide +kernel
theorem enc_84 : encErr (List.replicate 84 97) [] = 60 := by decide +kernel
theorem enc_32 : encErr [97] [32] = 60 := by decide +kernel
theorem head83 : isHead (List.replicate 83 97) = true := by decide +kernel
theorem enc_0 (n : Nat) : encErr (List.replicate 83 97) (List.replicate n 0) = if 32678 < n then 3 else 0 := by
  unfold encErr
  have hw : wordsOk (List.replicate n 0) = true := by
    unfold wordsOk
    refine List.all_eq_true.2 fun b hb => ?_
    rw [(List.mem_replicate.1 hb).2]
    rfl
  rw [if_neg (by rw [head83]; decide), if_neg (by rw [hw]; decide), List.length_replicate, List.length_replicate]
  by_cases h : 32678 < n
  · rw [if_pos h, if_pos (by omega)]
  · rw [if_neg h, if_neg (by omega)]
theorem dec_long {l : List UInt8} (h : 32768 < l.length) : decErr l = 3 := by unfold decErr; rw [if_pos h]
def rl (n : Nat) : List UInt8 := List.replicate n 0
theorem long_ok : encErr (List.replicate 83 97) (rl 32678) = 0 := by rw [rl, enc_0, if_neg (by decide)]
theorem long_no : encErr (List.replicate 83 97) (rl 32679) = 3 := by rw [rl, enc_0, if_pos (by decide)]
theorem long_len : (encText (List.replicate 83 97) (rl 32678)).length = 32768 := by
  obtain ⟨T, -⟩ := enc_text long_ok
  have hp : ∀ s, (pieces s).length = 6 := fun _ => rfl
  rw [T.len, List.length_append, List.length_replicate, rl, List.length_replicate, hp]
theorem bits_1 : BitsRes [255, 0] 8 5 true [31, 28, 0, 0] 0 :=
  .inr (.inr ⟨by decide, by decide, [31, 28, 0], [0], ⟨by decide, by decide⟩, by decide, .inl ⟨rfl, rfl, by decide⟩⟩)
theorem bits_2 : BitsRes [31, 28, 0, 0] 5 8 false [255, 0] 0 :=
  .inr (.inr ⟨by decide, by decide, [255, 0], [0, 0, 0, 0], ⟨by decide, by decide⟩, by decide, .inr (.inr ⟨rfl, by decide, by decide, rfl, rfl⟩)⟩)
theorem bits_3 : BitsRes [31, 29, 0, 0] 5 8 false [255, 64] 0 :=
  .inr (.inr ⟨by decide, by decide, [255, 64], [0, 0, 0, 0], ⟨by decide, by decide⟩, by decide, .inr (.inr ⟨rfl, by decide, by decide, rfl, rfl⟩)⟩)
theorem bits_4 : BitsRes [31] 5 8 false [] 50 :=
  .inr (.inr ⟨by decide, by decide, [], [1, 1, 1, 1, 1], ⟨by decide, by decide⟩, by decide, .inr (.inl ⟨rfl, .inl (by decide), rfl, rfl⟩)⟩)
theorem bits_5 : BitsRes [32] 5 8 true [] 50 := .inr (.inl ⟨by decide, ⟨32, by decide, by decide⟩, rfl, rfl⟩)
theorem bits_6 : BitsRes [1] 0 8 true [] 2 := .inl ⟨by decide, rfl, rfl⟩
theorem bits_7 : BitsRes [1] 8 9 true [] 2 := .inl ⟨by decide, rfl, rfl⟩
end Bech
