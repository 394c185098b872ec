/- Small facts on indices and letters. -/
import Derived.Test.YtnkhbhkmllnniaaDoorT13
import Derived.Test.YtnkhbhkmllnniaaDoorT4
namespace Go.Proofs.YtnkhbhkmllnniaaDoor
open Go.RowKit Bech Go.Shelf

/-- What Encode looks for in a head, rune by rune. -/
def oddRune (r : Nat) : Bool := decide (r < 33) || decide (126 < r) || (decide (65 ≤ r) && decide (r ≤ 90))
theorem odd_of_byte (c : UInt8) : oddRune c.toNat = !okc c := by
  unfold oddRune okc
  by_cases h1 : 33 ≤ c.toNat <;> by_cases h2 : c.toNat ≤ 126 <;> by_cases h3 : 65 ≤ c.toNat <;> by_cases h4 : c.toNat ≤ 90 <;> simp [h1, h2, h3, h4] <;> omega
theorem idx_ok (s : ByteArray) (h : ∀ j (hj : j < s.size), okc s[j] = true) : ∀ f pos, Lib.idxFuncFrom oddRune true s f pos = -1 := by
  intro f
  induction f with
  | zero => intro pos; rfl
  | succ f ih =>
    intro pos
    unfold Lib.idxFuncFrom
    split
    · rename_i hp
      have hk := h pos hp
      have h128 : (s[pos]).toNat < 128 := by
        unfold okc at hk; simp only [Bool.and_eq_true, decide_eq_true_eq] at hk; omega
      rw [decode_ascii s pos hp h128]
      simp only [odd_of_byte, hk]
      rw [if_neg (by simp)]
      exact ih _
    · rfl
theorem idx_bad (s : ByteArray) (j : Nat) (hj : j < s.size) (hb : okc s[j] = false) : ∀ f pos, pos ≤ j → j - pos < f → 0 ≤ Lib.idxFuncFrom oddRune true s f pos := by
  intro f
  induction f with
  | zero => intro pos _ h; omega
  | succ f ih =>
    intro pos hp hf
    have hps : pos < s.size := by omega
    unfold Lib.idxFuncFrom
    rw [if_pos hps]
    split
    · omega
    · rename_i hn
      by_cases h128 : (s[pos]).toNat < 128
      · rw [decode_ascii s pos hps h128] at hn ⊢
        simp only [odd_of_byte] at hn
        have hne : pos ≠ j := by
          intro e
          subst e
          rw [hb] at hn
          exact hn rfl
        exact ih _ (by omega) (by omega)
      · have h := (decode_high s pos hps (by omega)).1
        exfalso
        refine hn ?_
        unfold oddRune
        simp; omega
theorem idx_neg (s : ByteArray) (h : s.data.toList.all okc = true) : Lib.idxFunc oddRune true s = -1 := by
  refine idx_ok s (fun j hj => ?_) _ _
  rw [List.all_eq_true] at h
  exact h _ (List.getElem_mem (l := s.data.toList) (n := j) (by simpa using hj))
theorem idx_nonneg (s : ByteArray) (h : s.data.toList.all okc = false) : 0 ≤ Lib.idxFunc oddRune true s := by
  rw [List.all_eq_false] at h
  obtain ⟨x, hx, hb⟩ := h
  obtain ⟨j, hj, rfl⟩ := List.mem_iff_getElem.1 hx
  have hj' : j < s.size := by simpa using hj
  exact idx_bad s j hj' (Bool.not_eq_true _ ▸ hb) _ _ (Nat.zero_le _) (by omega)

set_option maxHeartbeats 1000000 in
theorem odd_gives (w : World) : PredAtRunes Tryd.prog 19 #[] oddRune w := by
  intro W r _ _
  unfold FnGives
  have e : oddRune r = (decide (r < 33) || decide (126 < r) || (decide (65 ≤ r) && decide (r ≤ 90))) := rfl
  by_cases h1 : r < 33
  · have hr : oddRune r = true := by rw [e]; simp [h1]
    rw [hr]
    clear e hr
    go_enter Tryd.func19, Tryd.ntmps19
    go_wp2
    go_ret
    exact ⟨rfl, 0, rfl⟩
  by_cases h2 : 126 < r
  · have hr : oddRune r = true := by rw [e]; simp [h2]
    rw [hr]
    clear e hr
    go_enter Tryd.func19, Tryd.ntmps19
    go_wp2
    go_ret
    exact ⟨rfl, 0, rfl⟩
  by_cases h3 : 65 ≤ r
  · by_cases h4 : r ≤ 90
    · have hr : oddRune r = true := by rw [e]; simp [h3, h4]
      rw [hr]
      clear e hr
      go_enter Tryd.func19, Tryd.ntmps19
      go_wp2
      go_ret
      refine ⟨ret_bool ?_, 0, rfl⟩; simp; omega
    · have hr : oddRune r = false := by rw [e]; simp [h1, h2, h4]
      rw [hr]
      clear e hr
      go_enter Tryd.func19, Tryd.ntmps19
      go_wp2
      go_ret
      refine ⟨ret_bool ?_, 0, rfl⟩; simp; omega
  · have hr : oddRune r = false := by rw [e]; simp [h1, h2, h3]
    rw [hr]
    clear e hr
    go_enter Tryd.func19, Tryd.ntmps19
    go_wp2
    go_ret
    refine ⟨ret_bool ?_, 0, rfl⟩; simp; omega

theorem index_letter (x : Nat) (hx : x < 32) (k : IntKind) (W : World) :
    (Instr.index 9 (.string ⟨#[113, 112, 122, 114, 121, 57, 120, 56, 103, 102, 50, 116, 118, 100, 119, 48, 115, 51, 106, 110, 53, 52, 107, 104, 99, 101, 54, 109, 117, 97, 55, 108]⟩) (.int k x)).run Tryd.prog W = .ok (.int .u8 ((letter x).toNat : Int)) W := by
  rw [run_index_string (P := Tryd.prog) W 9 _ k (x : Int) Tryd.underlying9]
  have h : (0 : Int) ≤ (x : Int) ∧ (x : Int) < (ByteArray.mk #[113, 112, 122, 114, 121, 57, 120, 56, 103, 102, 50, 116, 118, 100, 119, 48, 115, 51, 106, 110, 53, 52, 107, 104, 99, 101, 54, 109, 117, 97, 55, 108]).size := ⟨by omega, by show (x : Int) < 32; omega⟩
  rw [dif_pos h]
  congr 2
  have := lit_get x (show x < 32 from hx)
  simp only [Int.toNat_natCast]
  rw [this]
end Go.Proofs.YtnkhbhkmllnniaaDoor
