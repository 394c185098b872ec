/- Heads: the reference's test of a head is isHead. -/
import Derived.Test.YtnkhbhkmllnniaaDoorProg
import Derived.WalkKit
import Derived.WalkSpells
import Derived.WalkLawsBesides
import Derived.Lib.Hide
import Derived.Test.YtnkhbhkmllnniaaDoorBase
import Derived.Test.YtnkhbhkmllnniaaDoorSpec
namespace Go.Proofs.YtnkhbhkmllnniaaDoor
open Go.RowKit Bech

def HeadTo (l : List UInt8) (k : Nat) : Prop := (l.take k).all okc = true
theorem HeadTo.step {s : ByteArray} {k : Nat} (h : HeadTo s.data.toList k) (hk : k < s.size) (ho : okc s[k] = true) : HeadTo s.data.toList (k+1) := by
  unfold HeadTo at *
  rw [List.take_succ_eq_append_getElem (by simpa using hk), List.all_append, h]
  simp; exact ho
theorem not_head {s : ByteArray} {k : Nat} (hk : k < s.size) (ho : okc s[k] = false) : isHead s.data.toList = false := by
  unfold isHead
  have : s.data.toList.all okc = false := by
    rw [List.all_eq_false]
    refine ⟨s[k], ?_, by simp [ho]⟩
    exact List.getElem_mem (l := s.data.toList) (n := k) (by simpa using hk)
  simp [this]
theorem is_head {s : ByteArray} {k : Nat} (h : HeadTo s.data.toList k) (hk : ¬ k < s.size) : isHead s.data.toList = (decide (1 ≤ s.size) && decide (s.size ≤ 83)) := by
  unfold HeadTo at h
  rw [List.take_of_length_le (by simp; omega)] at h
  unfold isHead
  rw [h]; simp

set_option maxHeartbeats 400000 in
theorem refHead_any (s : ByteArray) (w : World) (hs : s.size ≤ maxLen) :
    Calls Tryd.prog 25 #[.string s] w fun e w' => e = .returned (.bool (isHead s.data.toList)) ∧ w = w' := by
  unfold maxLen at hs
  go_enter Tryd.func25, Tryd.ntmps25
  go_wp2
  go_loop [3] (fun i => ∃ k : Nat, k ≤ s.size ∧ i = .int .i64 k ∧ HeadTo s.data.toList k) (fun i => s.size - (intOf i).toNat)
  case atStart => exact ⟨0, Nat.zero_le _, rfl, by simp [HeadTo]⟩
  case round =>
    obtain ⟨k, hk, rfl, hh⟩ := hrel
    by_cases hlt : k < s.size
    · have H := Lib.hid hh; clear hh
      go_wp2
      all_goals first
        | (go_ret; refine ⟨ret_bool (not_head hlt ?_).symm, rfl⟩; simp [okc]; omega)
        | (refine ⟨⟨k + 1, by omega, by go_num, H.out.step hlt ?_⟩, ?_⟩ <;> simp [okc, intOf] <;> omega)
    · have hi := is_head hh hlt
      have H := Lib.hid hi; clear hi hh
      go_wp2
      all_goals (go_ret; refine ⟨ret_bool ?_, rfl⟩; rw [H.out]; by_cases h1 : 1 ≤ s.size <;> by_cases h2 : s.size ≤ 83 <;> simp [h1, h2] <;> omega)
end Go.Proofs.YtnkhbhkmllnniaaDoor
