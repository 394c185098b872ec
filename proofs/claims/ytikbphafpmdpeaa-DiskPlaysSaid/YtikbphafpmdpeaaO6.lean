/- names: two rows of strings compared. -/
import Derived.Test.YtikbphafpmdpeaaO5
set_option linter.all false
namespace Go.Proofs.Ytikbphafpmdpeaa
open Go.RowKit

theorem take_step {α : Type} {a b : List α} {j : Nat} (h : a.take j = b.take j) (ha : j < a.length) (hb : j < b.length) (e : a[j] = b[j]) : a.take (j + 1) = b.take (j + 1) := by
  rw [← List.take_append_getElem ha, ← List.take_append_getElem hb, h, e]
set_option maxRecDepth 100000 in
set_option maxHeartbeats 2000000 in
theorem names_eq (A B : Option Addr) (n k ca cb : Nat) (a b : List ByteArray) (w : World) (hA : Cells w A (a.map Value.string)) (hB : Cells w B (b.map Value.string)) (ha : a.length = n) (hb : b.length = k) (hn : n ≤ 100000) :
    Calls Try.prog 23 #[.slice A n ca, .slice B k cb] w fun e w' => e = .returned (.bool (decide (a = b))) ∧ Below w.heap.size w w' := by
  have HLA := Lib.hid ha
  have HLB := Lib.hid hb
  have HA := Lib.hid hA
  have HB := Lib.hid hB
  clear ha hb hA hB
  by_cases hnk : n = k
  case neg =>
    have hd : decide (a = b) = false := decide_eq_false fun e => hnk (by rw [← HLA.out, ← HLB.out, e])
    have h1 : ¬ ((n : Int) = (k : Int)) := by omega
    rw [hd]
    go_enter Try.func23, Try.ntmps23
    go_wp2_with fail
    go_ret
    exact ⟨rfl, Below.refl _ _⟩
  subst hnk
  go_enter Try.func23, Try.ntmps23
  go_wp2_with fail
  go_loopw [5] (fun i wr => ∃ j : Nat, j ≤ n ∧ i = .int .i64 j ∧ Below w.heap.size w wr ∧ a.take j = b.take j) (fun i _ => n - (intOf i).toNat)
  case atStart => exact ⟨0, Nat.zero_le _, rfl, Below.refl _ _, rfl⟩
  case round =>
    obtain ⟨j, hj, rfl, hbr, htk⟩ := hrel
    have HBR := Lib.hid hbr
    have HTK := Lib.hid htk
    clear hbr htk
    by_cases hlt : j < n
    · have hja : j < a.length := by rw [HLA.out]; exact hlt
      have hjb : j < b.length := by rw [HLB.out]; exact hlt
      obtain ⟨ad, hA1, hA2⟩ := HA.out (by simp; omega)
      obtain ⟨bd, hB1, hB2⟩ := HB.out (by simp; omega)
      have a1 := hA2 j (.string a[j]) (by simp [hja])
      have b1 := hB2 j (.string b[j]) (by simp [hjb])
      have a2 := fun q => ((Fr.below (F := []) HBR.out).drewN q).cellKept (by simp) a1
      have b2 := fun q => ((Fr.below (F := []) HBR.out).drewN q).cellKept (by simp) b1
      subst hA1 hB1
      obtain ⟨x, hx⟩ : ∃ x, a[j] = x := ⟨_, rfl⟩
      obtain ⟨y, hy⟩ : ∃ y, b[j] = y := ⟨_, rfl⟩
      rw [hx] at a1 a2
      rw [hy] at b1 b2
      have HX := Lib.hid hx
      have HY := Lib.hid hy
      have gI : ((j : Int) < (n : Int)) := by omega
      clear hA2 hB2 hx hy a1 b1
      by_cases hxy : x = y
      · subst hxy
        go_wp2_with fail
        go_quiet (fail)
        go_wp2_with fail
        go_roundw
        case rel => exact ⟨j + 1, hlt, by go_num, (HBR.out.trans (((Fr.refl [] wr).drewN _).toBelow.mono HBR.out.size)), take_step HTK.out hja hjb (by rw [HX.out, HY.out])⟩
        case measure => simp [intOf]; omega
      · have hl := tl_f hxy
        have hd : decide (a = b) = false := decide_eq_false fun e => hxy (by subst e; rw [← HX.out, ← HY.out])
        go_wp2_with fail
        go_quiet (fail)
        go_wp2_with fail
        go_ret
        exact ⟨by rw [hd]; rfl, (HBR.out.trans (((Fr.refl [] wr).drewN _).toBelow.mono HBR.out.size))⟩
    · obtain rfl : j = n := by omega
      have hab : a = b := by
        have h1 := HTK.out
        rw [List.take_of_length_le (by rw [HLA.out]; exact Nat.le_refl _), List.take_of_length_le (by rw [HLB.out]; exact Nat.le_refl _)] at h1
        exact h1
      have hd : decide (a = b) = true := decide_eq_true hab
      have gI : ¬ ((j : Int) < (j : Int)) := by omega
      go_wp2_with fail
      go_ret
      exact ⟨rfl, HBR.out⟩
end Go.Proofs.Ytikbphafpmdpeaa
