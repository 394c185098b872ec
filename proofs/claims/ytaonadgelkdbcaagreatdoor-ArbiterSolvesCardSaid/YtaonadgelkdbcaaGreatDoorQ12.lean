/- Blocks laid one behind the other; a digest held against a term. · Looks through rows, at each closure; blocks. -/
import Derived.Test.YtaonadgelkdbcaaGreatDoorQ11
namespace Go.Proofs.YtaonadgelkdbcaaGreatDoor
open Go.RowKit

/-- Blocks laid one behind the other. -/
def allocs (w : World) : List Obj → World
  | [] => w
  | o :: r => allocs (w.alloc o) r
theorem allocs_low {B : Nat} : ∀ (os : List Obj) (w : World), B ≤ w.heap.size → Below B w (allocs w os)
  | [], w, _ => Below.refl _ _
  | o :: r, w, h => ((Below.refl B w).alloc h o).trans (allocs_low r (w.alloc o) (by simp; omega))
theorem allocs_below (os : List Obj) (w : World) : Below w.heap.size w (allocs w os) := allocs_low os w (Nat.le_refl _)
theorem allocs_at : ∀ (os : List Obj) (w : World) (k : Nat) (o : Obj), os[k]? = some o → (allocs w os).heap[w.heap.size + k]? = some o
  | [], _, _, _, h => by simp at h
  | x :: r, w, 0, o, h => by
    have hx : x = o := by simpa using h
    subst hx
    have h0 := Go.heap_alloc_new w x
    exact ((allocs_below r (w.alloc x)).block _ (lt_of_block h0)).trans h0
  | x :: r, w, k + 1, o, h => by
    have := allocs_at r (w.alloc x) k o (by simpa using h)
    rw [show (w.alloc x).heap.size = w.heap.size + 1 by simp] at this
    rw [show w.heap.size + (k + 1) = w.heap.size + 1 + k by omega]
    exact this
theorem cell_of {w : World} {b j : Nat} {cs : Array Value} {T : TypeId} {z : Nat × Nat} {u : Value} (h : w.heap[b]? = some (.cells cs T z)) (hj : cs[j]? = some u) : w.cell? ⟨b, j, none⟩ = some u := by
  unfold World.cell?
  rw [h]
  simpa using hj
theorem str_test (d t : ByteArray) : (d.toList == t.toList) = (d.data.toList == t.data.toList) := by
  rw [Go.ByteArray.toList_eq, Go.ByteArray.toList_eq]
theorem preB_one (x t : ByteArray) {r1 : Int} {d : ByteArray} (h : oneE 72 x.data.toList = (r1, d.data.toList)) : preB t x = (decide (r1 = 0) && (d.toList == t.toList)) := by
  unfold preB
  rw [hashOf_one, h, str_test]
  simp only
  by_cases h0 : r1 = 0
  · rw [if_pos h0, decide_eq_true h0, Bool.true_and]; rfl
  · rw [if_neg h0, decide_eq_false h0]; rfl
end Go.Proofs.YtaonadgelkdbcaaGreatDoor

namespace Go.Proofs.YtaonadgelkdbcaaGreatDoor
open Go.RowKit

def idx {α : Type} (p : α → Bool) (l : List α) : Int := match l.findIdx? p with | some i => i | none => -1
theorem idx_hit {α : Type} {p : α → Bool} {l : List α} {k : Nat} (hk : k < l.length) (hp : p l[k] = true) (h : ∀ j (hj : j < l.length), j < k → p l[j] = false) : idx p l = k := by
  have : l.findIdx? p = some k := by
    rw [List.findIdx?_eq_some_iff_getElem]
    exact ⟨hk, hp, fun j hj => by rw [h j (by omega) hj]; simp⟩
  unfold idx
  rw [this]
theorem idx_miss {α : Type} {p : α → Bool} {l : List α} (h : ∀ j (hj : j < l.length), p l[j] = false) : idx p l = -1 := by
  have : l.findIdx? p = none := by
    rw [List.findIdx?_eq_none_iff]
    intro x hx
    obtain ⟨j, hj, rfl⟩ := List.getElem_of_mem hx
    exact h j hj
  unfold idx
  rw [this]
theorem idx_any {α : Type} (p : α → Bool) (l : List α) : (decide (idx p l ≥ 0)) = l.any p := by
  unfold idx
  cases h : l.findIdx? p with
  | none =>
    rw [List.findIdx?_eq_none_iff] at h
    have : l.any p = false := by rw [List.any_eq_false]; intro x hx; rw [h x hx]; simp
    rw [this]; rfl
  | some i =>
    rw [List.findIdx?_eq_some_iff_getElem] at h
    obtain ⟨hi, hb, -⟩ := h
    have : l.any p = true := List.any_eq_true.2 ⟨l[i], List.getElem_mem _, hb⟩
    rw [this]; simp
/-- Numbers in a row of memory. -/
def ivs (l : List Int) : List Value := l.map fun n => .int .i64 n
theorem ivs_at {w : World} {A : Option Addr} {l : List Int} (h : Cells w A (ivs l)) {k : Nat} (hk : k < l.length) : ∃ ad, A = some ad ∧ w.cell? (ad.add k) = some (.int .i64 l[k]) := by
  obtain ⟨ad, he, hc⟩ := h (by unfold ivs; rw [List.length_map]; omega)
  exact ⟨ad, he, by rw [hc k (.int .i64 l[k]) (by unfold ivs; rw [List.getElem?_map, List.getElem?_eq_getElem hk]; rfl)]⟩
theorem blk_any (n : Int) (w : World) : Calls Tryz.prog 73 #[.int .i64 n] w fun e w' => e = .returned (.bool (!blk n)) ∧ Below w.heap.size w w' := by
  by_cases h1 : n < 0
  · have g1 : decide (n < 0) = true := decide_eq_true h1
    have HB := Lib.hid (show blk n = false by unfold blk; rw [decide_eq_false (by omega : ¬ 0 ≤ n)]; rfl)
    clear h1
    go_enter Tryz.func73, Tryz.ntmps73
    go_wp2_with fail
    go_ret
    rw [HB.out]
    exact ⟨rfl, Below.refl _ _⟩
  · have g1 : decide (n < 0) = false := decide_eq_false h1
    have HB := Lib.hid (show (!blk n) = decide (1073741824 ≤ n) by
      unfold blk
      rw [decide_eq_true (by omega : 0 ≤ n), Bool.true_and]
      by_cases h : n < 1073741824
      · rw [decide_eq_true h, decide_eq_false (by omega : ¬ 1073741824 ≤ n)]; rfl
      · rw [decide_eq_false h, decide_eq_true (by omega : 1073741824 ≤ n)]; rfl)
    clear h1
    go_enter Tryz.func73, Tryz.ntmps73
    go_wp2_with fail
    go_ret
    exact ⟨ret_bool HB.out.symm, Below.refl _ _⟩
set_option maxRecDepth 100000 in
set_option maxHeartbeats 4000000 in
theorem idx_blk (p : Int → Bool) (l : List Int) (A : Option Addr) (c : Nat) (w : World) (hl : l.length ≤ 1000) (hA : Cells w A (ivs l))
    (hc : ∀ (k : Nat) (hk : k < l.length) (W : World), Below w.heap.size w W → Calls Tryz.prog 73 (#[.int .i64 l[k]] ++ #[]) W fun e w' => e = .returned (.bool (p l[k])) ∧ Below W.heap.size W w') :
    Calls Tryz.prog 84 #[.slice A l.length c, .func (.func 73) #[] #[]] w fun e w' => e = .returned (.int .i64 (idx p l)) ∧ Below w.heap.size w w' := by
  have HA := Lib.hid hA
  have HC := Lib.hid hc
  clear hA hc
  go_enter Tryz.func84, Tryz.ntmps84
  go_wp2_with fail
  go_loopw [8] (fun i wr => ∃ k : Nat, k ≤ l.length ∧ i = .int .i64 k ∧ (∀ j (hj : j < l.length), j < k → p l[j] = false) ∧ Below w.heap.size w wr) (fun i _ => l.length - (intOf i).toNat)
  case atStart => exact ⟨0, Nat.zero_le _, rfl, fun j _ h => by omega, Below.refl _ _⟩
  case round =>
    obtain ⟨k, hk, rfl, hall, hbr⟩ := hrel
    have HALL := Lib.hid hall; clear hall
    have HBR := Lib.hid hbr; clear hbr
    by_cases hlt : k < l.length
    · obtain ⟨ad, rfl, hc0⟩ := ivs_at (Cells.below HA.out HBR.out) hlt
      have hcall := HC.out k hlt wr HBR.out
      obtain ⟨b, hb⟩ : ∃ b, p l[k] = b := ⟨_, rfl⟩
      rw [hb] at hcall
      have HBV := Lib.hid hb
      have HCALL := Lib.hid hcall
      clear hcall hb
      go_wp2_with fail
      refine HCALL.out.mono ?_
      rintro e w1 ⟨rfl, hb1⟩
      have HB1 := Lib.hid (HBR.out.trans (hb1.mono HBR.out.size))
      clear hb1 hc0
      cases b with
      | false =>
        go_wp2_with fail
        go_roundw
        case rel =>
          refine ⟨k + 1, by omega, by go_num, fun j hj hjk => ?_, HB1.out⟩
          rcases Nat.lt_or_ge j k with h | h
          · exact HALL.out j hj h
          · obtain rfl : j = k := by omega
            exact HBV.out
        case measure => simp [intOf]; omega
      | true =>
        have hf := idx_hit hlt HBV.out HALL.out
        have HF := Lib.hid hf; clear hf
        go_wp2_with fail
        go_ret
        exact ⟨ret_int HF.out.symm, HB1.out⟩
    · have hf := idx_miss (p := p) (l := l) fun j hj => HALL.out j hj (by omega)
      have HF := Lib.hid hf; clear hf
      go_wp2_with fail
      go_ret
      exact ⟨ret_int HF.out.symm, HBR.out⟩
set_option maxRecDepth 100000 in
theorem has_blk (p : Int → Bool) (l : List Int) (A : Option Addr) (c : Nat) (w : World) (hl : l.length ≤ 1000) (hA : Cells w A (ivs l))
    (hc : ∀ (k : Nat) (hk : k < l.length) (W : World), Below w.heap.size w W → Calls Tryz.prog 73 (#[.int .i64 l[k]] ++ #[]) W fun e w' => e = .returned (.bool (p l[k])) ∧ Below W.heap.size W w') :
    Calls Tryz.prog 72 #[.slice A l.length c, .func (.func 73) #[] #[]] w fun e w' => e = .returned (.bool (l.any p)) ∧ Below w.heap.size w w' := by
  have HF := Lib.hid (idx_any p l)
  have HI := Lib.hid (idx_blk p l A c w hl hA hc)
  clear hA hc
  go_enter Tryz.func72, Tryz.ntmps72
  go_wp2_with fail
  refine HI.out.mono ?_
  rintro e w1 ⟨rfl, hb1⟩
  have HB1 := Lib.hid hb1; clear hb1
  go_wp2_with fail
  go_ret
  exact ⟨ret_bool HF.out, HB1.out⟩
set_option maxRecDepth 100000 in
theorem blocks_any (l : List Int) (A : Option Addr) (c : Nat) (w : World) (hl : l.length ≤ 1000) (hA : Cells w A (ivs l)) : Calls Tryz.prog 54 #[.slice A l.length c] w fun e w' => e = .returned (.bool (l.all blk)) ∧ Below w.heap.size w w' := by
  have HF := Lib.hid (show (!(l.any fun n => !blk n)) = l.all blk by rw [List.all_eq_not_any_not])
  have HI := Lib.hid (has_blk (fun n => !blk n) l A c w hl hA (fun k hk W _ => blk_any l[k] W))
  clear hA
  go_enter Tryz.func54, Tryz.ntmps54
  go_wp2_with fail
  refine HI.out.mono ?_
  rintro e w1 ⟨rfl, hb1⟩
  have HB1 := Lib.hid hb1; clear hb1
  go_wp2_with fail
  go_ret
  exact ⟨ret_bool HF.out, HB1.out⟩
end Go.Proofs.YtaonadgelkdbcaaGreatDoor
