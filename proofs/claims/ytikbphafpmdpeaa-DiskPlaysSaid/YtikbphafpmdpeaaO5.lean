/- bytes: so many of one kind. -/
import Derived.Test.YtikbphafpmdpeaaO4
import Derived.Test.YtikbphafpmdpeaaRow
import Derived.Laws.OwnMore
set_option linter.all false
namespace Go.Proofs.Ytikbphafpmdpeaa
open Go.RowKit

theorem rep_set (n k : Nat) (x y : Value) (h : k < n) : ((List.replicate k x) ++ List.replicate (n - k) y).set k x = List.replicate (k + 1) x ++ List.replicate (n - (k + 1)) y := by
  rw [List.set_append_right _ _ (by simp), List.length_replicate, Nat.sub_self]
  obtain ⟨m, rfl⟩ : ∃ m, n = k + (m + 1) := ⟨n - k - 1, by omega⟩
  rw [show k + (m + 1) - k = m + 1 by omega, show k + (m + 1) - (k + 1) = m by omega, List.replicate_succ, List.set_cons_zero, List.replicate_succ', List.append_assoc]
  rfl
theorem infoU8 : (Try.prog.info? 5).map (fun i => (i.zero, i.size, i.bytes)) = some (some (.int .u8 0), 1, 1) := by kernel_rfl
theorem bv_rep (n : Nat) (b : UInt8) : bv (List.replicate n b) = List.replicate n (.int .u8 (b.toNat : Int)) := by simp [bv]
/-- So many bytes of one kind, in a new row. -/
def BytesP (w : World) (n : Nat) (b : UInt8) (e : Ending) (w' : World) : Prop := ∃ g, e = .returned (.slice (some ⟨g, 0, none⟩) n n) ∧ Row w' w.heap.size 5 (.slice (some ⟨g, 0, none⟩) n n) (bv (List.replicate n b)) ∧ Below w.heap.size w w'
set_option maxHeartbeats 1000000 in
theorem bytes_any (n : Nat) (b : UInt8) (w : World) (hn : n ≤ 100000) :
    Calls Try.prog 26 #[.int .i64 n, .int .u8 (b.toNat : Int)] w (BytesP w n b) := by
  obtain ⟨i0, hi, hz0, hz1, hz2⟩ := info_parts infoU8
  obtain ⟨w1, hmk, hown, hg⟩ := run_makeSlice_full (P := Try.prog) w w.heap.size 23 5 i0 (.int .u8 0) 1 Try.underlying23 hi hz0 hz1 .i64 .i64 n (by omega) (by rw [hz2]; omega) (by unfold maxLen; omega) (Nat.le_refl _)
  have hrow : Row w1 w.heap.size 5 (.slice (some ⟨w.heap.size, 0, none⟩) n n) (List.replicate 0 (.int .u8 (b.toNat : Int)) ++ List.replicate (n - 0) (.int .u8 0)) := by
    have hl : (madeCells (Value.int .u8 0).cells (n * 1)).toList = List.replicate n (.int .u8 0) := by
      rw [Nat.mul_one]; exact toList_madeCells_one _ _
    rw [hl] at hown
    have h2 : Own1 w1 w.heap.size 5 (.slice (some ⟨w.heap.size, 0, none⟩) n n) (List.replicate n (.int .u8 0)) := by
      unfold Own1; rw [List.length_replicate]; exact hown
    simpa using Row.of_own h2
  have hb1 : Below w.heap.size w w1 := (Below.refl _ _).grown hg (Nat.le_refl _) (by intro k hk; cases hk)
  have HROW := Lib.hid hrow
  clear hi hz0 hz1 hz2 hown hg hrow
  have hu8 := b.toNat_lt
  go_enter Try.func26, Try.ntmps26
  go_wp2_with fail
  go_loopw [6] (fun i wr => ∃ k : Nat, k ≤ n ∧ i = .int .i64 k ∧ Below w.heap.size w wr ∧ Row wr w.heap.size 5 (.slice (some ⟨w.heap.size, 0, none⟩) n n) (List.replicate k (.int .u8 (b.toNat : Int)) ++ List.replicate (n - k) (.int .u8 0))) (fun i _ => n - (intOf i).toNat)
  case atStart => exact ⟨0, Nat.zero_le _, rfl, hb1, HROW.out⟩
  case round =>
    obtain ⟨k, hk, rfl, hbr, hown⟩ := hrel
    by_cases hlt : k < n
    · obtain ⟨ad, he, hxb, hge, hc, hf, hown2⟩ := row_put hown (by simp; omega) hlt (.int .u8 (b.toNat : Int))
      obtain rfl : ⟨w.heap.size, 0, none⟩ = ad := Option.some.inj he
      have ea : (⟨w.heap.size, 0, none⟩ : Addr).add k = ⟨w.heap.size, k, none⟩ := by rw [Go.WideShapes.add_plain, Nat.zero_add]
      rw [ea] at hge hc hf hown2
      rw [rep_set n k _ _ hlt] at hown2
      have HO2 := Lib.hid hown2
      have HB2 := Lib.hid (hbr.setCell hge (.int .u8 (b.toNat : Int)))
      generalize ((List.replicate k (Value.int .u8 (b.toNat : Int)) ++ List.replicate (n - k) (.int .u8 0))[k]'(by simp; omega)) = v0 at hc
      clear hown hown2 he HROW hmk
      go_wp2_with fail
      go_roundw
      case rel => exact ⟨k + 1, by omega, by go_num, HB2.out, HO2.out⟩
      case measure => simp [intOf]; omega
    · obtain rfl : k = n := by omega
      rw [Nat.sub_self, List.replicate_zero, List.append_nil, ← bv_rep] at hown
      have HB := Lib.hid hbr
      have HO := Lib.hid hown
      clear hown hbr HROW hmk
      go_wp2_with fail
      go_ret
      exact ⟨_, rfl, HO.out, HB.out⟩
end Go.Proofs.Ytikbphafpmdpeaa
