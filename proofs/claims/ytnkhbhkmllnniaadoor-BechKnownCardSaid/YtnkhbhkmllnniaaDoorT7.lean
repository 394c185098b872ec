/- The reference's small text is smallText and smallOk, for every text. -/
import Derived.Test.YtnkhbhkmllnniaaDoorT5
namespace Go.Proofs.YtnkhbhkmllnniaaDoor
open Go.RowKit Bech

theorem okByte_false {s : ByteArray} {k : Nat} (hk : k < s.size) (h : okByte s[k] = false) : smallText s.data.toList = [] ∧ smallOk s.data.toList = false := by
  have : s.data.toList.all okByte = false := by
    rw [List.all_eq_false]
    exact ⟨s[k], List.getElem_mem (l := s.data.toList) (n := k) (by simpa using hk), by simp [h]⟩
  simp [smallText, smallOk, this]
theorem ret_tup2 {s s' : ByteArray} {a b : Bool} (h : s = s') (h' : a = b) : Ending.returned (.tuple #[.string s, .bool a]) = Ending.returned (.tuple #[.string s', .bool b]) := by rw [h, h']
def SmallTo (l : List UInt8) (k : Nat) (lo hi : Bool) (xs : List Value) : Prop :=
  (l.take k).all okByte = true ∧ lo = (l.take k).any isLow ∧ hi = (l.take k).any isUp ∧ xs = bv ((l.take k).map lower)
theorem SmallTo.step {s : ByteArray} {k : Nat} {lo hi : Bool} {xs : List Value} (h : SmallTo s.data.toList k lo hi xs) (hk : k < s.size) (hok : okByte s[k] = true) (lo' hi' : Bool) (n : Int)
    (hlo : lo' = (lo || isLow s[k])) (hhi : hi' = (hi || isUp s[k])) (hn : n = (lower s[k]).toNat) : SmallTo s.data.toList (k + 1) lo' hi' (xs ++ [.int .u8 n]) := by
  obtain ⟨h1, h2, h3, h4⟩ := h
  have hk' : k < s.data.toList.length := by simpa using hk
  have e : s.data.toList[k] = s[k] := rfl
  refine ⟨by rw [all_snoc _ _ _ hk', h1, e, hok]; rfl, by rw [any_snoc _ _ _ hk', ← h2, e]; exact hlo, by rw [any_snoc _ _ _ hk', ← h3, e]; exact hhi, ?_⟩
  rw [map_take_snoc _ _ _ hk', bv_snoc, ← h4, e, hn]
theorem SmallTo.done {s : ByteArray} {k : Nat} {lo hi : Bool} {xs : List Value} (h : SmallTo s.data.toList k lo hi xs) (hk : ¬ k < s.size) :
    xs = bv (smallText s.data.toList) ∧ smallOk s.data.toList = !(lo && hi) := by
  obtain ⟨h1, h2, h3, h4⟩ := h
  rw [List.take_of_length_le (by simpa using hk)] at h1 h2 h3 h4
  unfold smallText smallOk
  rw [if_pos h1, h1, h2, h3]
  exact ⟨h4, by simp⟩

theorem okByte_t {c : UInt8} (h1 : 33 ≤ (c.toNat : Int)) (h2 : (c.toNat : Int) ≤ 126) : okByte c = true := by simp [okByte]; omega
theorem okByte_f {c : UInt8} (h : (c.toNat : Int) < 33 ∨ 126 < (c.toNat : Int)) : okByte c = false := by simp [okByte]; omega
theorem isLow_t {c : UInt8} (h1 : 97 ≤ (c.toNat : Int)) (h2 : (c.toNat : Int) ≤ 122) : isLow c = true := by simp [isLow]; omega
theorem isLow_f {c : UInt8} (h : (c.toNat : Int) < 97 ∨ 122 < (c.toNat : Int)) : isLow c = false := by simp [isLow]; omega
theorem isUp_t {c : UInt8} (h1 : 65 ≤ (c.toNat : Int)) (h2 : (c.toNat : Int) ≤ 90) : isUp c = true := by simp [isUp]; omega
theorem isUp_f {c : UInt8} (h : (c.toNat : Int) < 65 ∨ 90 < (c.toNat : Int)) : isUp c = false := by simp [isUp]; omega
theorem or_t (a : Bool) {b : Bool} (h : b = true) : true = (a || b) := by rw [h]; simp
theorem or_f (a : Bool) {b : Bool} (h : b = false) : a = (a || b) := by rw [h]; simp

set_option maxHeartbeats 1000000 in
theorem refSmall_any (s : ByteArray) (w : World) (hs : s.size ≤ 1000000) :
    Calls Tryd.prog 35 #[.string s] w fun e w' => e = .returned (.tuple #[.string ⟨(smallText s.data.toList).toArray⟩, .bool (smallOk s.data.toList)]) ∧ Below w.heap.size w w' := by
  go_enter Tryd.func35, Tryd.ntmps35
  go_wp2
  go_loopw [4, 5, 6, 7] (fun lo hi v i wr => ∃ (k : Nat) (b1 b2 : Bool) (xs : List Value), k ≤ s.size ∧ i = .int .i64 k ∧ lo = .bool b1 ∧ hi = .bool b2 ∧ xs.length ≤ k ∧ Own1 wr w.heap.size 5 v xs ∧ SmallTo s.data.toList k b1 b2 xs ∧ Below w.heap.size w wr) (fun _ _ _ i _ => s.size - (intOf i).toNat)
  case atStart => exact ⟨0, false, false, [], Nat.zero_le _, rfl, rfl, rfl, Nat.le_refl _, Own1.nil _ _ _, ⟨rfl, rfl, rfl, rfl⟩, Below.refl _ _⟩
  case round =>
    obtain ⟨k, b1, b2, xs, hk, rfl, rfl, rfl, hlen, hown, hto, hb⟩ := hrel
    have HT := Lib.hid hto; clear hto
    by_cases hlt : k < s.size
    · have hbl := s[k].toNat_lt
      go_wp2_with (at_builtin; refine wpList_app1 sl22 rfl _ _ rfl w.heap.size _ xs (by rfl) hown _ (by rfl) (by rfl) (by omega) (by omega) hb.size hown.own_ge ?_; intro v' w1 hown1 hg1 hb1 hat)
      all_goals first
        | (go_ret2
           have hf := okByte_false hlt (okByte_f (by omega))
           exact ⟨ret_tup2 (by rw [hf.1]) (by rw [hf.2]), hb⟩)
        | (refine ⟨⟨k + 1, _, _, _, by omega, by go_num, rfl, rfl, by simp; omega, hown1, HT.out.step hlt (okByte_t (by omega) (by omega)) _ _ _ ?_ ?_ ?_, hb.trans hb1⟩, by simp [intOf]; omega⟩
           · first
              | exact or_t _ (isLow_t (by omega) (by omega))
              | exact or_f _ (isLow_f (by omega))
           · first
              | exact or_t _ (isUp_t (by omega) (by omega))
              | exact or_f _ (isUp_f (by omega))
           · first
              | (have h := lower_up (isUp_t (c := s[k]) (by omega) (by omega)); omega)
              | (rw [lower_not (isUp_f (c := s[k]) (by omega))]))
    · have hd := HT.out.done hlt
      obtain ⟨hx, hso⟩ := hd
      have HX := Lib.hid hso; clear hso
      obtain ⟨A, c, rfl, hc, hcells⟩ := hown.shape
      subst hx
      have hcv := conv_str hcells c 22 9 5 Tryd.underlying22 Tryd.underlying5 Tryd.underlying9
      rw [← bv_length] at hcv
      cases b1 <;> cases b2
      all_goals
        go_wp2
        go_ret2
        exact ⟨ret_tup2 rfl (by rw [HX.out]; rfl), hb⟩
end Go.Proofs.YtnkhbhkmllnniaaDoor
