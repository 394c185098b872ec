/- The reference's words of a head are heads. -/
import Derived.Test.YtnkhbhkmllnniaaDoorProg
import Derived.Test.YtnkhbhkmllnniaaDoorBase
import Derived.Test.YtnkhbhkmllnniaaDoorBits0
namespace Go.Proofs.YtnkhbhkmllnniaaDoor
open Go.RowKit Bech

theorem sl22 : SlTy Tryd.prog 22 5 (.int .u8 0) 1 := ⟨Tryd.underlying22, by kernel_rfl, rfl⟩

set_option maxHeartbeats 400000 in
theorem refHeads_any (s : ByteArray) (w : World) (hs : s.size ≤ 1000000) :
    Calls Tryd.prog 26 #[.string s] w fun e w' => ∃ v, e = .returned v ∧ Own1 w' w.heap.size 5 v (bv (heads s.data.toList)) ∧ Below w.heap.size w w' := by
  go_enter Tryd.func26, Tryd.ntmps26
  go_wp2
  go_loopw [3, 4] (fun v i wr => ∃ k : Nat, k ≤ s.size ∧ i = .int .i64 k ∧ Own1 wr w.heap.size 5 v (bv ((s.data.toList.take k).map hi)) ∧ Below w.heap.size w wr) (fun _ i _ => s.size - (intOf i).toNat)
  case atStart => exact ⟨0, Nat.zero_le _, rfl, Own1.nil _ _ _, Below.refl _ _⟩
  case round =>
    obtain ⟨k, hk, rfl, hown, hb⟩ := hrel
    by_cases hlt : k < s.size
    · have hsn := map_take_snoc hi s.data.toList k (by simpa using hlt)
      have hlen : (bv ((s.data.toList.take k).map hi)).length ≤ k := by simp [bv]; omega
      have hbl := s[k].toNat_lt
      have hhi : (.int .u8 (↑s[k].toNat / 32) : Value) = .int .u8 ((hi s[k]).toNat : Nat) := by rw [hi_nat]; rfl
      have HH := Lib.hid hhi; clear hhi
      have hsn' : bv ((s.data.toList.take (k + 1)).map hi) = bv ((s.data.toList.take k).map hi) ++ [.int .u8 ((hi s[k]).toNat : Nat)] := by rw [hsn]; exact bv_snoc _ _
      have HS := Lib.hid hsn'; clear hsn hsn'
      generalize bv ((s.data.toList.take k).map hi) = xs at hown hlen HS
      go_wp2_with (at_builtin; refine wpList_app1 sl22 rfl _ _ rfl w.heap.size _ xs (by rfl) hown _ (by rfl) (by rfl) (by omega) (by omega) hb.size hown.own_ge ?_; intro v' w1 hown1 hg1 hb1 hat)
      go_roundw
      case rel => exact ⟨k + 1, by omega, by go_num, by rw [HS.out, ← HH.out]; exact hown1, hb.trans hb1⟩
      case measure => simp [intOf]; omega
    · rw [List.take_of_length_le (by simpa using hlt)] at hown
      go_wp2_with (at_builtin; refine wpList_app1 sl22 rfl _ _ rfl w.heap.size _ _ (by rfl) hown _ (by rfl) (by rfl) (by simp [bv]; omega) (by simp [bv]; omega) hb.size hown.own_ge ?_; intro v1 w1 hown1 hg1 hb1 hat)
      have hb2 := hb.trans hb1
      have HO := Lib.hid hown1
      clear hown hg1 hb hb1 hat hown1
      obtain ⟨wo, hwo⟩ : ∃ wo : World, wo = wr := ⟨_, rfl⟩
      subst hwo
      go_loopw [3, 5] (fun v i wr => ∃ k : Nat, k ≤ s.size ∧ i = .int .i64 k ∧ Own1 wr w.heap.size 5 v (bv (s.data.toList.map hi ++ 0 :: (s.data.toList.take k).map lo)) ∧ Below w.heap.size w wr) (fun _ i _ => s.size - (intOf i).toNat)
      case atStart => exact ⟨0, Nat.zero_le _, rfl, by have := HO.out; simpa [bv] using this, hb2⟩
      case round =>
        obtain ⟨k, hk, rfl, hown, hb⟩ := hrel
        by_cases hlt : k < s.size
        · have hsn := map_take_snoc lo s.data.toList k (by simpa using hlt)
          have hlen : (bv (s.data.toList.map hi ++ 0 :: (s.data.toList.take k).map lo)).length ≤ s.size + 1 + k := by simp [bv]; omega
          have hbl := s[k].toNat_lt
          have hlo : (.int .u8 (↑s[k].toNat % 32) : Value) = .int .u8 ((lo s[k]).toNat : Nat) := by rw [lo_nat]; rfl
          have HH := Lib.hid hlo; clear hlo
          have hsn' : bv (s.data.toList.map hi ++ 0 :: (s.data.toList.take (k + 1)).map lo) = bv (s.data.toList.map hi ++ 0 :: (s.data.toList.take k).map lo) ++ [.int .u8 ((lo s[k]).toNat : Nat)] := by
            rw [hsn, ← bv_snoc, List.append_assoc]; rfl
          have HS := Lib.hid hsn'; clear hsn hsn'
          generalize bv (s.data.toList.map hi ++ 0 :: (s.data.toList.take k).map lo) = xs at hown hlen HS
          go_wp2_with (at_builtin; refine wpList_app1 sl22 rfl _ _ rfl w.heap.size _ xs (by rfl) hown _ (by rfl) (by rfl) (by omega) (by omega) hb.size hown.own_ge ?_; intro v' w1 hown1 hg1 hb1 hat)
          go_roundw
          case rel => exact ⟨k + 1, by omega, by go_num, by rw [HS.out, ← HH.out]; exact hown1, hb.trans hb1⟩
          case measure => simp [intOf]; omega
        · rw [List.take_of_length_le (by simpa using hlt)] at hown
          go_wp2
          go_ret
          exact ⟨_, rfl, hown, hb⟩
end Go.Proofs.YtnkhbhkmllnniaaDoor
