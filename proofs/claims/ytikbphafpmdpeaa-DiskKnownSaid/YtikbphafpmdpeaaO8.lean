/- Known: 256 files, one by one (plain). -/
import Derived.Test.YtikbphafpmdpeaaO6
set_option linter.all false
namespace Go.Proofs.Ytikbphafpmdpeaa
open Go.RowKit

def nmB (i : Nat) : ByteArray := ⟨#[UInt8.ofNat (97 + i / 16), UInt8.ofNat (97 + i % 16)]⟩
def manyD : Nat → DiskT
  | 0 => newD 1099511627776
  | n + 1 => (createD (manyD n) (nmB n)).2
theorem nmB_inj {i j : Nat} (hi : i < 256) (hj : j < 256) (h : nmB i = nmB j) : i = j := by
  unfold nmB at h
  injection h with h
  have h2 := congrArg (fun a : Array UInt8 => a.toList.map UInt8.toNat) h
  simp only [List.map_cons, List.map_nil, List.cons.injEq, and_true] at h2
  rw [UInt8.toNat_ofNat', UInt8.toNat_ofNat', UInt8.toNat_ofNat', UInt8.toNat_ofNat'] at h2
  omega
theorem nmB_named (i : Nat) : namedB (nmB i) = true := rfl
theorem many_inv (n : Nat) (hn : n ≤ 256) : (manyD n).files.map Prod.fst = (List.range n).map nmB ∧ (manyD n).off = false ∧ (manyD n).set = none ∧ (manyD n).steps = n ∧ (∀ k, n = k + 1 → createD (manyD k) (nmB k) = (0, manyD n)) := by
  induction n with
  | zero => exact ⟨rfl, rfl, rfl, rfl, fun k h => by omega⟩
  | succ n ih =>
    obtain ⟨h1, h2, h3, h4, -⟩ := ih (by omega)
    have hl : (manyD n).files.length = n := by
      have := congrArg List.length h1
      simpa using this
    have hg : (mget (manyD n).files (nmB n)).isSome = false := by
      cases hb : (mget (manyD n).files (nmB n)).isSome with
      | false => rfl
      | true =>
        have := mget_isSome.1 hb
        rw [h1] at this
        obtain ⟨j, hj, e⟩ := List.mem_map.1 this
        have hj2 := List.mem_range.1 hj
        have := nmB_inj (by omega) (by omega) e
        omega
    have hs : stepD (manyD n) = (true, { manyD n with steps := (manyD n).steps + 1 }) := by unfold stepD; split <;> first | rfl | (rename_i hx; rw [h3] at hx; cases hx)
    have hc : createD (manyD n) (nmB n) = (0, { manyD n with steps := (manyD n).steps + 1, files := mset (manyD n).files (nmB n) file0 }) := by
      unfold createD
      rw [if_neg (by rw [h2]; simp), if_neg (by rw [nmB_named]; simp), if_neg (by rw [hg]; simp), if_neg (by omega)]
      unfold stepsD
      rw [hs]
      rfl
    have he : manyD (n + 1) = { manyD n with steps := (manyD n).steps + 1, files := mset (manyD n).files (nmB n) file0 } := by
      show (createD (manyD n) (nmB n)).2 = _
      rw [hc]
    refine ⟨?_, by rw [he]; exact h2, by rw [he]; exact h3, by rw [he]; show (manyD n).steps + 1 = _; rw [h4], fun k hk => ?_⟩
    · rw [he]
      show (mset (manyD n).files (nmB n) file0).map Prod.fst = _
      have := mset_keys (manyD n).files (nmB n) file0
      rw [if_neg (by rw [hg]; simp)] at this
      rw [List.range_succ, List.map_append, ← h1]
      exact this
    · obtain rfl : k = n := by omega
      rw [hc, he]
theorem many_create (n : Nat) (hn : n < 256) : createD (manyD n) (nmB n) = (0, manyD (n + 1)) := (many_inv (n + 1) (by omega)).2.2.2.2 n rfl
theorem many_full (name : ByteArray) (h : namedB name = true) (h2 : name.size ≠ 2) : createD (manyD 256) name = (3, manyD 256) := by
  obtain ⟨h1, h3, -⟩ := many_inv 256 (Nat.le_refl _)
  have hl : (manyD 256).files.length = 256 := by
    have := congrArg List.length h1
    simpa using this
  have hg : (mget (manyD 256).files name).isSome = false := by
    cases hb : (mget (manyD 256).files name).isSome with
    | false => rfl
    | true =>
      have := mget_isSome.1 hb
      rw [h1] at this
      obtain ⟨j, hj, e⟩ := List.mem_map.1 this
      exact absurd (by rw [← e]; rfl) h2
  unfold createD
  rw [if_neg (by rw [h3]; simp), if_neg (by rw [h]; simp), if_neg (by rw [hg]; simp), if_pos (by omega)]
end Go.Proofs.Ytikbphafpmdpeaa
