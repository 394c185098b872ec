/- Blocks laid one behind the other; a digest held against a term. · Looks through rows, at each closure; blocks. · The closures of the program's Late. · The program's Late. · The document's Late. -/
import Derived.Test.YtaonadgelkdbcaaDoorQ11
import Derived.Laws.EntriesVeiled
namespace Go.Proofs.YtaonadgelkdbcaaDoor
open Go.RowKit

/-- Blocks laid one behind the other. -/
def allocs (w : World) : List Obj → World
  | [] => w
  | o :: r => allocs (w.alloc o) r
theorem allocs_low {B : Nat} : ∀ (os : List Obj) (w : World), B ≤ w.heap.size → Below B w (allocs w os)
  | [], w, _ => Below.refl _ _
  | o :: r, w, h => ((Below.refl B w).alloc h o).trans (allocs_low r (w.alloc o) (by simp; omega))
theorem allocs_below (os : List Obj) (w : World) : Below w.heap.size w (allocs w os) := allocs_low os w (Nat.le_refl _)
theorem allocs_at : ∀ (os : List Obj) (w : World) (k : Nat) (o : Obj), os[k]? = some o → (allocs w os).heap[w.heap.size + k]? = some o
  | [], _, _, _, h => by simp at h
  | x :: r, w, 0, o, h => by
    have hx : x = o := by simpa using h
    subst hx
    have h0 := Go.heap_alloc_new w x
    exact ((allocs_below r (w.alloc x)).block _ (lt_of_block h0)).trans h0
  | x :: r, w, k + 1, o, h => by
    have := allocs_at r (w.alloc x) k o (by simpa using h)
    rw [show (w.alloc x).heap.size = w.heap.size + 1 by simp] at this
    rw [show w.heap.size + (k + 1) = w.heap.size + 1 + k by omega]
    exact this
theorem cell_of {w : World} {b j : Nat} {cs : Array Value} {T : TypeId} {z : Nat × Nat} {u : Value} (h : w.heap[b]? = some (.cells cs T z)) (hj : cs[j]? = some u) : w.cell? ⟨b, j, none⟩ = some u := by
  unfold World.cell?
  rw [h]
  simpa using hj
theorem str_test (d t : ByteArray) : (d.toList == t.toList) = (d.data.toList == t.data.toList) := by
  rw [Go.ByteArray.toList_eq, Go.ByteArray.toList_eq]
theorem preB_one (x t : ByteArray) {r1 : Int} {d : ByteArray} (h : oneE 72 x.data.toList = (r1, d.data.toList)) : preB t x = (decide (r1 = 0) && (d.toList == t.toList)) := by
  unfold preB
  rw [hashOf_one, h, str_test]
  simp only
  by_cases h0 : r1 = 0
  · rw [if_pos h0, decide_eq_true h0, Bool.true_and]; rfl
  · rw [if_neg h0, decide_eq_false h0]; rfl
end Go.Proofs.YtaonadgelkdbcaaDoor

namespace Go.Proofs.YtaonadgelkdbcaaDoor
open Go.RowKit

def idx {α : Type} (p : α → Bool) (l : List α) : Int := match l.findIdx? p with | some i => i | none => -1
theorem idx_hit {α : Type} {p : α → Bool} {l : List α} {k : Nat} (hk : k < l.length) (hp : p l[k] = true) (h : ∀ j (hj : j < l.length), j < k → p l[j] = false) : idx p l = k := by
  have : l.findIdx? p = some k := by
    rw [List.findIdx?_eq_some_iff_getElem]
    exact ⟨hk, hp, fun j hj => by rw [h j (by omega) hj]; simp⟩
  unfold idx
  rw [this]
theorem idx_miss {α : Type} {p : α → Bool} {l : List α} (h : ∀ j (hj : j < l.length), p l[j] = false) : idx p l = -1 := by
  have : l.findIdx? p = none := by
    rw [List.findIdx?_eq_none_iff]
    intro x hx
    obtain ⟨j, hj, rfl⟩ := List.getElem_of_mem hx
    exact h j hj
  unfold idx
  rw [this]
theorem idx_any {α : Type} (p : α → Bool) (l : List α) : (decide (idx p l ≥ 0)) = l.any p := by
  unfold idx
  cases h : l.findIdx? p with
  | none =>
    rw [List.findIdx?_eq_none_iff] at h
    have : l.any p = false := by rw [List.any_eq_false]; intro x hx; rw [h x hx]; simp
    rw [this]; rfl
  | some i =>
    rw [List.findIdx?_eq_some_iff_getElem] at h
    obtain ⟨hi, hb, -⟩ := h
    have : l.any p = true := List.any_eq_true.2 ⟨l[i], List.getElem_mem _, hb⟩
    rw [this]; simp
/-- Numbers in a row of memory. -/
def ivs (l : List Int) : List Value := l.map fun n => .int .i64 n
theorem ivs_at {w : World} {A : Option Addr} {l : List Int} (h : Cells w A (ivs l)) {k : Nat} (hk : k < l.length) : ∃ ad, A = some ad ∧ w.cell? (ad.add k) = some (.int .i64 l[k]) := by
  obtain ⟨ad, he, hc⟩ := h (by unfold ivs; rw [List.length_map]; omega)
  exact ⟨ad, he, by rw [hc k (.int .i64 l[k]) (by unfold ivs; rw [List.getElem?_map, List.getElem?_eq_getElem hk]; rfl)]⟩
theorem blk_any (n : Int) (w : World) : Calls Tryd.prog 22 #[.int .i64 n] w fun e w' => e = .returned (.bool (!blk n)) ∧ Below w.heap.size w w' := by
  by_cases h1 : n < 0
  · have g1 : decide (n < 0) = true := decide_eq_true h1
    have HB := Lib.hid (show blk n = false by unfold blk; rw [decide_eq_false (by omega : ¬ 0 ≤ n)]; rfl)
    clear h1
    go_enter Tryd.func22, Tryd.ntmps22
    go_wp2_with fail
    go_ret
    rw [HB.out]
    exact ⟨rfl, Below.refl _ _⟩
  · have g1 : decide (n < 0) = false := decide_eq_false h1
    have HB := Lib.hid (show (!blk n) = decide (1073741824 ≤ n) by
      unfold blk
      rw [decide_eq_true (by omega : 0 ≤ n), Bool.true_and]
      by_cases h : n < 1073741824
      · rw [decide_eq_true h, decide_eq_false (by omega : ¬ 1073741824 ≤ n)]; rfl
      · rw [decide_eq_false h, decide_eq_true (by omega : 1073741824 ≤ n)]; rfl)
    clear h1
    go_enter Tryd.func22, Tryd.ntmps22
    go_wp2_with fail
    go_ret
    exact ⟨ret_bool HB.out.symm, Below.refl _ _⟩
set_option maxRecDepth 100000 in
set_option maxHeartbeats 4000000 in
theorem idx_blk (p : Int → Bool) (l : List Int) (A : Option Addr) (c : Nat) (w : World) (hl : l.length ≤ 1000) (hA : Cells w A (ivs l))
    (hc : ∀ (k : Nat) (hk : k < l.length) (W : World), Below w.heap.size w W → Calls Tryd.prog 22 (#[.int .i64 l[k]] ++ #[]) W fun e w' => e = .returned (.bool (p l[k])) ∧ Below W.heap.size W w') :
    Calls Tryd.prog 37 #[.slice A l.length c, .func (.func 22) #[] #[]] w fun e w' => e = .returned (.int .i64 (idx p l)) ∧ Below w.heap.size w w' := by
  have HA := Lib.hid hA
  have HC := Lib.hid hc
  clear hA hc
  go_enter Tryd.func37, Tryd.ntmps37
  go_wp2_with fail
  go_loopw [8] (fun i wr => ∃ k : Nat, k ≤ l.length ∧ i = .int .i64 k ∧ (∀ j (hj : j < l.length), j < k → p l[j] = false) ∧ Below w.heap.size w wr) (fun i _ => l.length - (intOf i).toNat)
  case atStart => exact ⟨0, Nat.zero_le _, rfl, fun j _ h => by omega, Below.refl _ _⟩
  case round =>
    obtain ⟨k, hk, rfl, hall, hbr⟩ := hrel
    have HALL := Lib.hid hall; clear hall
    have HBR := Lib.hid hbr; clear hbr
    by_cases hlt : k < l.length
    · obtain ⟨ad, rfl, hc0⟩ := ivs_at (Cells.below HA.out HBR.out) hlt
      have hcall := HC.out k hlt wr HBR.out
      obtain ⟨b, hb⟩ : ∃ b, p l[k] = b := ⟨_, rfl⟩
      rw [hb] at hcall
      have HBV := Lib.hid hb
      have HCALL := Lib.hid hcall
      clear hcall hb
      go_wp2_with fail
      refine HCALL.out.mono ?_
      rintro e w1 ⟨rfl, hb1⟩
      have HB1 := Lib.hid (HBR.out.trans (hb1.mono HBR.out.size))
      clear hb1 hc0
      cases b with
      | false =>
        go_wp2_with fail
        go_roundw
        case rel =>
          refine ⟨k + 1, by omega, by go_num, fun j hj hjk => ?_, HB1.out⟩
          rcases Nat.lt_or_ge j k with h | h
          · exact HALL.out j hj h
          · obtain rfl : j = k := by omega
            exact HBV.out
        case measure => simp [intOf]; omega
      | true =>
        have hf := idx_hit hlt HBV.out HALL.out
        have HF := Lib.hid hf; clear hf
        go_wp2_with fail
        go_ret
        exact ⟨ret_int HF.out.symm, HB1.out⟩
    · have hf := idx_miss (p := p) (l := l) fun j hj => HALL.out j hj (by omega)
      have HF := Lib.hid hf; clear hf
      go_wp2_with fail
      go_ret
      exact ⟨ret_int HF.out.symm, HBR.out⟩
set_option maxRecDepth 100000 in
theorem has_blk (p : Int → Bool) (l : List Int) (A : Option Addr) (c : Nat) (w : World) (hl : l.length ≤ 1000) (hA : Cells w A (ivs l))
    (hc : ∀ (k : Nat) (hk : k < l.length) (W : World), Below w.heap.size w W → Calls Tryd.prog 22 (#[.int .i64 l[k]] ++ #[]) W fun e w' => e = .returned (.bool (p l[k])) ∧ Below W.heap.size W w') :
    Calls Tryd.prog 21 #[.slice A l.length c, .func (.func 22) #[] #[]] w fun e w' => e = .returned (.bool (l.any p)) ∧ Below w.heap.size w w' := by
  have HF := Lib.hid (idx_any p l)
  have HI := Lib.hid (idx_blk p l A c w hl hA hc)
  clear hA hc
  go_enter Tryd.func21, Tryd.ntmps21
  go_wp2_with fail
  refine HI.out.mono ?_
  rintro e w1 ⟨rfl, hb1⟩
  have HB1 := Lib.hid hb1; clear hb1
  go_wp2_with fail
  go_ret
  exact ⟨ret_bool HF.out, HB1.out⟩
set_option maxRecDepth 100000 in
theorem blocks_any (l : List Int) (A : Option Addr) (c : Nat) (w : World) (hl : l.length ≤ 1000) (hA : Cells w A (ivs l)) : Calls Tryd.prog 12 #[.slice A l.length c] w fun e w' => e = .returned (.bool (l.all blk)) ∧ Below w.heap.size w w' := by
  have HF := Lib.hid (show (!(l.any fun n => !blk n)) = l.all blk by rw [List.all_eq_not_any_not])
  have HI := Lib.hid (has_blk (fun n => !blk n) l A c w hl hA (fun k hk W _ => blk_any l[k] W))
  clear hA
  go_enter Tryd.func12, Tryd.ntmps12
  go_wp2_with fail
  refine HI.out.mono ?_
  rintro e w1 ⟨rfl, hb1⟩
  have HB1 := Lib.hid hb1; clear hb1
  go_wp2_with fail
  go_ret
  exact ⟨ret_bool HF.out, HB1.out⟩
theorem rblk_any (n : Int) (w : World) : Calls Tryd.prog 15 #[.int .i64 n] w fun e w' => e = .returned (.bool (blk n)) ∧ w' = w := by
  by_cases h1 : 0 ≤ n
  · have g1 : decide (0 ≤ n) = true := decide_eq_true h1
    have HB := Lib.hid (show blk n = decide (n < 1073741824) by unfold blk; rw [decide_eq_true h1]; rfl)
    clear h1
    go_enter Tryd.func15, Tryd.ntmps15
    go_wp2_with fail
    go_ret
    exact ⟨ret_bool HB.out.symm, rfl⟩
  · have g1 : decide (0 ≤ n) = false := decide_eq_false h1
    have HB := Lib.hid (show blk n = false by unfold blk; rw [decide_eq_false h1]; rfl)
    clear h1
    go_enter Tryd.func15, Tryd.ntmps15
    go_wp2_with fail
    go_ret
    rw [HB.out]
    exact ⟨rfl, rfl⟩
end Go.Proofs.YtaonadgelkdbcaaDoor

namespace Go.Proofs.YtaonadgelkdbcaaDoor
open Go.RowKit

set_option maxRecDepth 100000 in
set_option maxHeartbeats 4000000 in
theorem pre_any (x t : ByteArray) (hb : Nat) (w : World) (hx : x.size ≤ 900000) (hc : w.cell? ⟨hb, 0, none⟩ = some (.string t)) (hv : VarsOk w) :
    Calls Tryd.prog 10 #[.string x, .pointer (some ⟨hb, 0, none⟩)] w fun e w' => e = .returned (.bool (preB t x)) ∧ Below w.heap.size w w' := by
  have hh := hash_any x w hx hv
  obtain ⟨r1, d, hR⟩ : ∃ (r1 : Int) (d : ByteArray), oneE 72 x.data.toList = (r1, d.data.toList) := ⟨(oneE 72 x.data.toList).1, ⟨(oneE 72 x.data.toList).2.toArray⟩, by simp⟩
  have HP := Lib.hid (preB_one x t hR)
  rw [hR] at hh
  unfold tupE at hh
  simp only at hh
  rw [show (⟨d.data.toList.toArray⟩ : ByteArray) = d from (str_eq d).symm] at hh
  have HH := Lib.hid hh
  have HC := Lib.hid hc
  clear hh hR hc hv
  by_cases h0 : r1 = 0
  · subst h0
    cases hq : (d.toList == t.toList) with
    | true =>
      have HQ := Lib.hid (show preB t x = true by rw [HP.out, hq]; rfl)
      go_enter Tryd.func10, Tryd.ntmps10
      go_wp2_with fail
      refine HH.out.mono ?_
      rintro e w1 ⟨rfl, hb1⟩
      have hc1 := cell_below hb1 HC.out
      have HB1 := Lib.hid hb1; clear hb1
      go_wp2_with fail
      go_ret
      rw [HQ.out]
      exact ⟨rfl, HB1.out⟩
    | false =>
      have HQ := Lib.hid (show preB t x = false by rw [HP.out, hq]; rfl)
      go_enter Tryd.func10, Tryd.ntmps10
      go_wp2_with fail
      refine HH.out.mono ?_
      rintro e w1 ⟨rfl, hb1⟩
      have hc1 := cell_below hb1 HC.out
      have HB1 := Lib.hid hb1; clear hb1
      go_wp2_with fail
      go_ret
      rw [HQ.out]
      exact ⟨rfl, HB1.out⟩
  · have HQ := Lib.hid (show preB t x = false by rw [HP.out, decide_eq_false h0]; rfl)
    have g0 : (r1 == 0) = false := beq_false_of_ne h0
    clear h0
    go_enter Tryd.func10, Tryd.ntmps10
    go_wp2_with fail
    refine HH.out.mono ?_
    rintro e w1 ⟨rfl, hb1⟩
    have HB1 := Lib.hid hb1; clear hb1
    go_wp2_with fail
    go_ret
    rw [HQ.out]
    exact ⟨rfl, HB1.out⟩
set_option maxRecDepth 100000 in
set_option maxHeartbeats 4000000 in
theorem idx_knows (p : ByteArray → Bool) (l : List ByteArray) (A : Option Addr) (c : Nat) (hb : Nat) (w : World) (hl : l.length ≤ 1000) (hA : Cells w A (strs l))
    (hc : ∀ (k : Nat) (hk : k < l.length) (W : World), Below w.heap.size w W → Calls Tryd.prog 10 (#[.string l[k]] ++ #[.pointer (some ⟨hb, 0, none⟩)]) W fun e w' => e = .returned (.bool (p l[k])) ∧ Below W.heap.size W w') :
    Calls Tryd.prog 19 #[.slice A l.length c, .func (.func 10) #[] #[.pointer (some ⟨hb, 0, none⟩)]] w fun e w' => e = .returned (.int .i64 (idx p l)) ∧ Below w.heap.size w w' := by
  have HA := Lib.hid hA
  have HC := Lib.hid hc
  clear hA hc
  go_enter Tryd.func19, Tryd.ntmps19
  go_wp2_with fail
  go_loopw [8] (fun i wr => ∃ k : Nat, k ≤ l.length ∧ i = .int .i64 k ∧ (∀ j (hj : j < l.length), j < k → p l[j] = false) ∧ Below w.heap.size w wr) (fun i _ => l.length - (intOf i).toNat)
  case atStart => exact ⟨0, Nat.zero_le _, rfl, fun j _ h => by omega, Below.refl _ _⟩
  case round =>
    obtain ⟨k, hk, rfl, hall, hbr⟩ := hrel
    have HALL := Lib.hid hall; clear hall
    have HBR := Lib.hid hbr; clear hbr
    by_cases hlt : k < l.length
    · obtain ⟨ad, rfl, hc0⟩ := strs_at (Cells.below HA.out HBR.out) hlt
      have hcall := HC.out k hlt wr HBR.out
      obtain ⟨b, hb⟩ : ∃ b, p l[k] = b := ⟨_, rfl⟩
      rw [hb] at hcall
      have HBV := Lib.hid hb
      have HCALL := Lib.hid hcall
      clear hcall hb
      go_wp2_with fail
      refine HCALL.out.mono ?_
      rintro e w1 ⟨rfl, hb1⟩
      have HB1 := Lib.hid (HBR.out.trans (hb1.mono HBR.out.size))
      clear hb1 hc0
      cases b with
      | false =>
        go_wp2_with fail
        go_roundw
        case rel =>
          refine ⟨k + 1, by omega, by go_num, fun j hj hjk => ?_, HB1.out⟩
          rcases Nat.lt_or_ge j k with h | h
          · exact HALL.out j hj h
          · obtain rfl : j = k := by omega
            exact HBV.out
        case measure => simp [intOf]; omega
      | true =>
        have hf := idx_hit hlt HBV.out HALL.out
        have HF := Lib.hid hf; clear hf
        go_wp2_with fail
        go_ret
        exact ⟨ret_int HF.out.symm, HB1.out⟩
    · have hf := idx_miss (p := p) (l := l) fun j hj => HALL.out j hj (by omega)
      have HF := Lib.hid hf; clear hf
      go_wp2_with fail
      go_ret
      exact ⟨ret_int HF.out.symm, HBR.out⟩
set_option maxRecDepth 100000 in
theorem has_knows (p : ByteArray → Bool) (l : List ByteArray) (A : Option Addr) (c : Nat) (hb : Nat) (w : World) (hl : l.length ≤ 1000) (hA : Cells w A (strs l))
    (hc : ∀ (k : Nat) (hk : k < l.length) (W : World), Below w.heap.size w W → Calls Tryd.prog 10 (#[.string l[k]] ++ #[.pointer (some ⟨hb, 0, none⟩)]) W fun e w' => e = .returned (.bool (p l[k])) ∧ Below W.heap.size W w') :
    Calls Tryd.prog 9 #[.slice A l.length c, .func (.func 10) #[] #[.pointer (some ⟨hb, 0, none⟩)]] w fun e w' => e = .returned (.bool (l.any p)) ∧ Below w.heap.size w w' := by
  have HF := Lib.hid (idx_any p l)
  have HI := Lib.hid (idx_knows p l A c hb w hl hA hc)
  clear hA hc
  go_enter Tryd.func9, Tryd.ntmps9
  go_wp2_with fail
  refine HI.out.mono ?_
  rintro e w1 ⟨rfl, hb1⟩
  have HB1 := Lib.hid hb1; clear hb1
  go_wp2_with fail
  go_ret
  exact ⟨ret_bool HF.out, HB1.out⟩
set_option maxRecDepth 100000 in
set_option maxHeartbeats 4000000 in
theorem knows_any (ps : List ByteArray) (A : Option Addr) (cp : Nat) (t : ByteArray) (pb : Nat) (w : World) (hl : ps.length ≤ 1000) (hx : ∀ x ∈ ps, x.size ≤ 900000) (hA : Cells w A (strs ps)) (hc : w.cell? ⟨pb, 0, none⟩ = some (.slice A ps.length cp)) (hv : VarsOk w) :
    Calls Tryd.prog 8 #[.string t, .pointer (some ⟨pb, 0, none⟩)] w fun e w' => e = .returned (.bool (ps.any (preB t))) ∧ Below w.heap.size w w' := by
  have hbA : Below w.heap.size w (w.alloc (.cells #[.string t] 27)) := (Below.refl _ _).alloc (Nat.le_refl _) _
  have hcA := cell_below hbA hc
  have hcT : (w.alloc (.cells #[.string t] 27)).cell? ⟨w.heap.size, 0, none⟩ = some (.string t) := alloc_cells 0 _ rfl
  have HK := Lib.hid (has_knows (preB t) ps A cp w.heap.size (w.alloc (.cells #[.string t] 27)) hl (Cells.below hA hbA) (fun k hk W hW => pre_any ps[k] t w.heap.size W (hx _ (List.getElem_mem _)) (cell_below hW hcT) ((hv.below hbA).below hW)))
  have HB := Lib.hid hbA
  clear hbA hcT hA hc hv hx
  go_enter Tryd.func8, Tryd.ntmps8
  go_wp2_with fail
  refine HK.out.mono ?_
  rintro e w1 ⟨rfl, hb1⟩
  have HB1 := Lib.hid (HB.out.trans (hb1.mono HB.out.size)); clear hb1
  go_wp2_with fail
  go_ret
  exact ⟨rfl, HB1.out⟩
end Go.Proofs.YtaonadgelkdbcaaDoor

namespace Go.Proofs.YtaonadgelkdbcaaDoor
open Go.RowKit

def htlcV (h : HtlcR) : Value := .agg #[.bool h.mine, .int .i64 h.id, .int .i64 h.amt, .string h.hash, .int .i64 h.exp]
def htlcC (h : HtlcR) : List Value := [.bool h.mine, .int .i64 h.id, .int .i64 h.amt, .string h.hash, .int .i64 h.exp]
/-- Payments in a row of memory. -/
def hts : List HtlcR → List Value
  | [] => []
  | h :: r => htlcC h ++ hts r
theorem hts_get : ∀ (l : List HtlcR) (k : Nat) (hk : k < l.length) (j : Nat), j < 5 → (hts l)[k * 5 + j]? = (htlcC l[k])[j]?
  | [], k, hk, _, _ => absurd hk (by simp)
  | x :: r, 0, _, j, hj => by
    unfold hts
    rw [Nat.zero_mul, Nat.zero_add, List.getElem?_append_left (by unfold htlcC; simpa using hj)]
    rfl
  | x :: r, k + 1, hk, j, hj => by
    unfold hts
    have hl : (htlcC x).length = 5 := rfl
    rw [List.getElem?_append_right (by rw [hl]; omega), hl, show (k + 1) * 5 + j - 5 = k * 5 + j by omega]
    exact hts_get r k (by simpa using hk) j hj
theorem hts_len : ∀ l : List HtlcR, (hts l).length = l.length * 5
  | [] => rfl
  | x :: r => by
    unfold hts
    rw [List.length_append, hts_len r]
    have hl : (htlcC x).length = 5 := rfl
    rw [hl, List.length_cons]; omega
theorem next_add (ad : Addr) (i j : Nat) (hj : 0 < j) : (⟨(ad.add i).block, (ad.add i).off + j, none⟩ : Addr) = ad.add (i + j) := by
  unfold Addr.add
  by_cases hi : i = 0
  · subst hi; simp; omega
  · rw [if_neg hi, if_neg (by omega)]; simp; omega
theorem hts_at {w : World} {A : Option Addr} {l : List HtlcR} (h : Cells w A (hts l)) {k : Nat} (hk : k < l.length) : ∃ ad, A = some ad ∧ w.cell? (ad.add (k * 5)) = some (.bool l[k].mine) ∧
    w.cell? ⟨(ad.add (k * 5)).block, (ad.add (k * 5)).off + 1, none⟩ = some (.int .i64 l[k].id) ∧ w.cell? ⟨(ad.add (k * 5)).block, (ad.add (k * 5)).off + 2, none⟩ = some (.int .i64 l[k].amt) ∧
    w.cell? ⟨(ad.add (k * 5)).block, (ad.add (k * 5)).off + 3, none⟩ = some (.string l[k].hash) ∧ w.cell? ⟨(ad.add (k * 5)).block, (ad.add (k * 5)).off + 4, none⟩ = some (.int .i64 l[k].exp) := by
  obtain ⟨ad, he, hc⟩ := h (by rw [hts_len]; omega)
  refine ⟨ad, he, hc _ _ (hts_get l k hk 0 (by decide)), ?_, ?_, ?_, ?_⟩
  · rw [next_add _ _ _ (by decide)]; exact hc _ _ (hts_get l k hk 1 (by decide))
  · rw [next_add _ _ _ (by decide)]; exact hc _ _ (hts_get l k hk 2 (by decide))
  · rw [next_add _ _ _ (by decide)]; exact hc _ _ (hts_get l k hk 3 (by decide))
  · rw [next_add _ _ _ (by decide)]; exact hc _ _ (hts_get l k hk 4 (by decide))
set_option maxRecDepth 100000 in
set_option maxHeartbeats 8000000 in
theorem late2_any (h : HtlcR) (ps : List ByteArray) (A : Option Addr) (cp : Nat) (margin height : Int) (mb tb kb pb : Nat) (w : World) (hl : ps.length ≤ 1000) (hx : ∀ x ∈ ps, x.size ≤ 900000) (hA : Cells w A (strs ps)) (hv : VarsOk w) (bm : blk margin = true) (_bt : blk height = true)
    (hm : w.cell? ⟨mb, 0, none⟩ = some (.int .i64 margin)) (ht : w.cell? ⟨tb, 0, none⟩ = some (.int .i64 height)) (hk : w.cell? ⟨kb, 0, none⟩ = some (.func (.func 8) #[] #[.pointer (some ⟨pb, 0, none⟩)])) (hp : w.cell? ⟨pb, 0, none⟩ = some (.slice A ps.length cp)) :
    Calls Tryd.prog 14 (#[htlcV h] ++ #[.pointer (some ⟨mb, 0, none⟩), .pointer (some ⟨tb, 0, none⟩), .pointer (some ⟨kb, 0, none⟩)]) w fun e w' => e = .returned (.bool (lateOne ps height margin h)) ∧ Below w.heap.size w w' := by
  unfold htlcV
  rw [blk_iff] at bm
  have hb1 : Below w.heap.size w (w.alloc (.cells #[.bool h.mine, .int .i64 h.id, .int .i64 h.amt, .string h.hash, .int .i64 h.exp] 29)) := (Below.refl _ _).alloc (Nat.le_refl _) _
  have hb2 : Below w.heap.size w ((w.alloc (.cells #[.bool h.mine, .int .i64 h.id, .int .i64 h.amt, .string h.hash, .int .i64 h.exp] 29)).alloc (.cells #[.int .i64 h.exp] 3)) := hb1.alloc (by simp) _
  have hb3 : Below (w.alloc (.cells #[.bool h.mine, .int .i64 h.id, .int .i64 h.amt, .string h.hash, .int .i64 h.exp] 29)).heap.size (w.alloc (.cells #[.bool h.mine, .int .i64 h.id, .int .i64 h.amt, .string h.hash, .int .i64 h.exp] 29)) ((w.alloc (.cells #[.bool h.mine, .int .i64 h.id, .int .i64 h.amt, .string h.hash, .int .i64 h.exp] 29)).alloc (.cells #[.int .i64 h.exp] 3)) := (Below.refl _ _).alloc (Nat.le_refl _) _
  have HB := Lib.hid hb2
  have C0 := Lib.hid (cell_below hb3 (show (w.alloc (.cells #[.bool h.mine, .int .i64 h.id, .int .i64 h.amt, .string h.hash, .int .i64 h.exp] 29)).cell? ⟨w.heap.size, 0, none⟩ = some (.bool h.mine) from alloc_cells 0 _ rfl))
  have C3 := Lib.hid (cell_below hb3 (show (w.alloc (.cells #[.bool h.mine, .int .i64 h.id, .int .i64 h.amt, .string h.hash, .int .i64 h.exp] 29)).cell? ⟨w.heap.size, 3, none⟩ = some (.string h.hash) from alloc_cells 3 _ rfl))
  have C4 := Lib.hid (cell_below hb3 (show (w.alloc (.cells #[.bool h.mine, .int .i64 h.id, .int .i64 h.amt, .string h.hash, .int .i64 h.exp] 29)).cell? ⟨w.heap.size, 4, none⟩ = some (.int .i64 h.exp) from alloc_cells 4 _ rfl))
  have q4 : (w.alloc (.cells #[.bool h.mine, .int .i64 h.id, .int .i64 h.amt, .string h.hash, .int .i64 h.exp] 29)).cell? ⟨w.heap.size, 4, none⟩ = some (.int .i64 h.exp) := alloc_cells 4 _ rfl
  have HBL := Lib.hid (blocks_any [h.exp] (some ⟨(w.alloc (.cells #[.bool h.mine, .int .i64 h.id, .int .i64 h.amt, .string h.hash, .int .i64 h.exp] 29)).heap.size, 0, none⟩) 1 ((w.alloc (.cells #[.bool h.mine, .int .i64 h.id, .int .i64 h.amt, .string h.hash, .int .i64 h.exp] 29)).alloc (.cells #[.int .i64 h.exp] 3)) (by simp) (fun _ => ⟨_, rfl, cell_one_new _ _ _⟩))
  rw [show ([h.exp].all blk) = blk h.exp by simp, show (w.alloc (.cells #[.bool h.mine, .int .i64 h.id, .int .i64 h.amt, .string h.hash, .int .i64 h.exp] 29)).heap.size = w.heap.size + 1 by simp] at HBL
  have M0 := Lib.hid hm
  have T0 := Lib.hid ht
  have K0 := Lib.hid hk
  have HPB := Lib.hid hp
  have HA := Lib.hid hA
  have HV := Lib.hid hv
  have HX := Lib.hid hx
  have HLO := Lib.hid (show lateOne ps height margin h = (blk h.exp && (if h.mine then decide (h.exp + margin ≤ height) else decide (h.exp - margin ≤ height) && ps.any (preB h.hash))) from rfl)
  clear hb1 hb2 hb3 hm ht hk hp hA hv hx
  obtain ⟨mine, id, amt, hash, exp⟩ := h
  simp only at *
  cases hq : blk exp with
  | false =>
    rw [hq] at HBL HLO
    clear hq
    go_enter Tryd.func14, Tryd.ntmps14
    go_wp2_with fail
    refine HBL.out.mono ?_
    rintro e w1 ⟨rfl, hb1⟩
    have hb01 := HB.out.trans (hb1.mono HB.out.size)
    have c0 := cell_below hb1 C0.out
    have c3 := cell_below hb1 C3.out
    have c4 := cell_below hb1 C4.out
    have m0 := cell_below hb01 M0.out
    have t0 := cell_below hb01 T0.out
    have k0 := cell_below hb01 K0.out
    have HB1 := Lib.hid hb01
    clear hb1 hb01
    go_wp2_with fail
    go_ret
    rw [HLO.out]
    exact ⟨rfl, HB1.out⟩
  | true =>
    have he := blk_iff.1 hq
    rw [hq] at HBL HLO
    clear hq
    cases mine with
    | true =>
      go_enter Tryd.func14, Tryd.ntmps14
      go_wp2_with fail
      refine HBL.out.mono ?_
      rintro e w1 ⟨rfl, hb1⟩
      have hb01 := HB.out.trans (hb1.mono HB.out.size)
      have c0 := cell_below hb1 C0.out
      have c3 := cell_below hb1 C3.out
      have c4 := cell_below hb1 C4.out
      have m0 := cell_below hb01 M0.out
      have t0 := cell_below hb01 T0.out
      have k0 := cell_below hb01 K0.out
      have HB1 := Lib.hid hb01
      clear hb1 hb01
      go_wp2_with fail
      go_ret
      rw [HLO.out]
      exact ⟨rfl, HB1.out⟩
    | false =>
      by_cases hle : exp - margin ≤ height
      · have hd : decide (exp - margin ≤ height) = true := decide_eq_true hle
        rw [hd] at HLO
        clear hle
        go_enter Tryd.func14, Tryd.ntmps14
        go_wp2_with fail
        refine HBL.out.mono ?_
        rintro e w1 ⟨rfl, hb1⟩
        have hb01 := HB.out.trans (hb1.mono HB.out.size)
        have c0 := cell_below hb1 C0.out
        have c3 := cell_below hb1 C3.out
        have c4 := cell_below hb1 C4.out
        have m0 := cell_below hb01 M0.out
        have t0 := cell_below hb01 T0.out
        have k0 := cell_below hb01 K0.out
        have HB1 := Lib.hid hb01
        clear hb1 hb01
        have HKN := Lib.hid (knows_any ps A cp hash pb w1 hl HX.out (Cells.below HA.out HB1.out) (cell_below HB1.out HPB.out) (HV.out.below HB1.out))
        go_wp2_with fail
        refine HKN.out.mono ?_
        rintro e w2 ⟨rfl, hb2⟩
        have HB2 := Lib.hid (HB1.out.trans (hb2.mono HB1.out.size)); clear hb2
        go_wp2_with fail
        go_ret
        rw [HLO.out]
        exact ⟨ret_bool (by simp), HB2.out⟩
      · have hd : decide (exp - margin ≤ height) = false := decide_eq_false hle
        rw [hd] at HLO
        clear hle
        go_enter Tryd.func14, Tryd.ntmps14
        go_wp2_with fail
        refine HBL.out.mono ?_
        rintro e w1 ⟨rfl, hb1⟩
        have hb01 := HB.out.trans (hb1.mono HB.out.size)
        have c0 := cell_below hb1 C0.out
        have c3 := cell_below hb1 C3.out
        have c4 := cell_below hb1 C4.out
        have m0 := cell_below hb01 M0.out
        have t0 := cell_below hb01 T0.out
        have k0 := cell_below hb01 K0.out
        have HB1 := Lib.hid hb01
        clear hb1 hb01
        go_wp2_with fail
        go_ret
        rw [HLO.out]
        exact ⟨rfl, HB1.out⟩
set_option maxRecDepth 100000 in
set_option maxHeartbeats 4000000 in
theorem idx_late (p : HtlcR → Bool) (l : List HtlcR) (A : Option Addr) (c : Nat) (mb tb kb : Nat) (w : World) (hl : l.length ≤ 1000) (hA : Cells w A (hts l))
    (hc : ∀ (k : Nat) (hk : k < l.length) (W : World), Below w.heap.size w W → Calls Tryd.prog 14 (#[htlcV l[k]] ++ #[.pointer (some ⟨mb, 0, none⟩), .pointer (some ⟨tb, 0, none⟩), .pointer (some ⟨kb, 0, none⟩)]) W fun e w' => e = .returned (.bool (p l[k])) ∧ Below W.heap.size W w') :
    Calls Tryd.prog 23 #[.slice A l.length c, .func (.func 14) #[] #[.pointer (some ⟨mb, 0, none⟩), .pointer (some ⟨tb, 0, none⟩), .pointer (some ⟨kb, 0, none⟩)]] w fun e w' => e = .returned (.int .i64 (idx p l)) ∧ Below w.heap.size w w' := by
  have HA := Lib.hid hA
  have HC := Lib.hid hc
  clear hA hc
  go_enter Tryd.func23, Tryd.ntmps23
  go_wp2_with fail
  go_loopw [8] (fun i wr => ∃ k : Nat, k ≤ l.length ∧ i = .int .i64 k ∧ (∀ j (hj : j < l.length), j < k → p l[j] = false) ∧ Below w.heap.size w wr) (fun i _ => l.length - (intOf i).toNat)
  case atStart => exact ⟨0, Nat.zero_le _, rfl, fun j _ h => by omega, Below.refl _ _⟩
  case round =>
    obtain ⟨k, hk, rfl, hall, hbr⟩ := hrel
    have HALL := Lib.hid hall; clear hall
    have HBR := Lib.hid hbr; clear hbr
    by_cases hlt : k < l.length
    · obtain ⟨ad, rfl, hc0, hc1, hc2, hc3, hc4⟩ := hts_at (Cells.below HA.out HBR.out) hlt
      unfold htlcV at HC
      have hcall := HC.out k hlt wr HBR.out
      obtain ⟨b, hb⟩ : ∃ b, p l[k] = b := ⟨_, rfl⟩
      rw [hb] at hcall
      have HBV := Lib.hid hb
      have HCALL := Lib.hid hcall
      clear hcall hb
      go_wp2_with fail
      refine HCALL.out.mono ?_
      rintro e w1 ⟨rfl, hb1⟩
      have HB1 := Lib.hid (HBR.out.trans (hb1.mono HBR.out.size))
      clear hb1 hc0 hc1 hc2 hc3 hc4
      cases b with
      | false =>
        go_wp2_with fail
        go_roundw
        case rel =>
          refine ⟨k + 1, by omega, by go_num, fun j hj hjk => ?_, HB1.out⟩
          rcases Nat.lt_or_ge j k with h | h
          · exact HALL.out j hj h
          · obtain rfl : j = k := by omega
            exact HBV.out
        case measure => simp [intOf]; omega
      | true =>
        have hf := idx_hit hlt HBV.out HALL.out
        have HF := Lib.hid hf; clear hf
        go_wp2_with fail
        go_ret
        exact ⟨ret_int HF.out.symm, HB1.out⟩
    · have hf := idx_miss (p := p) (l := l) fun j hj => HALL.out j hj (by omega)
      have HF := Lib.hid hf; clear hf
      go_wp2_with fail
      go_ret
      exact ⟨ret_int HF.out.symm, HBR.out⟩
set_option maxRecDepth 100000 in
theorem has_late (p : HtlcR → Bool) (l : List HtlcR) (A : Option Addr) (c : Nat) (mb tb kb : Nat) (w : World) (hl : l.length ≤ 1000) (hA : Cells w A (hts l))
    (hc : ∀ (k : Nat) (hk : k < l.length) (W : World), Below w.heap.size w W → Calls Tryd.prog 14 (#[htlcV l[k]] ++ #[.pointer (some ⟨mb, 0, none⟩), .pointer (some ⟨tb, 0, none⟩), .pointer (some ⟨kb, 0, none⟩)]) W fun e w' => e = .returned (.bool (p l[k])) ∧ Below W.heap.size W w') :
    Calls Tryd.prog 13 #[.slice A l.length c, .func (.func 14) #[] #[.pointer (some ⟨mb, 0, none⟩), .pointer (some ⟨tb, 0, none⟩), .pointer (some ⟨kb, 0, none⟩)]] w fun e w' => e = .returned (.bool (l.any p)) ∧ Below w.heap.size w w' := by
  have HF := Lib.hid (idx_any p l)
  have HI := Lib.hid (idx_late p l A c mb tb kb w hl hA hc)
  clear hA hc
  go_enter Tryd.func13, Tryd.ntmps13
  go_wp2_with fail
  refine HI.out.mono ?_
  rintro e w1 ⟨rfl, hb1⟩
  have HB1 := Lib.hid hb1; clear hb1
  go_wp2_with fail
  go_ret
  exact ⟨ret_bool HF.out, HB1.out⟩
def stateV (n own other : Int) (ks : Value) : Value := .agg #[.int .i64 n, .int .i64 own, .int .i64 other, ks]
set_option maxRecDepth 100000 in
set_option maxHeartbeats 8000000 in
theorem late_any (n own other : Int) (hs : List HtlcR) (hA : Option Addr) (hcp : Nat) (ps : List ByteArray) (A : Option Addr) (cp : Nat) (height margin : Int) (w : World) (hl : hs.length ≤ 1000) (hlp : ps.length ≤ 1000) (hx : ∀ x ∈ ps, x.size ≤ 900000) (hH : Cells w hA (hts hs)) (hP : Cells w A (strs ps)) (hv : VarsOk w) :
    Calls Tryd.prog 5 #[stateV n own other (.slice hA hs.length hcp), .slice A ps.length cp, .int .i64 height, .int .i64 margin] w fun e w' => e = .returned (.bool (lateB hs ps height margin)) ∧ Below w.heap.size w w' := by
  unfold stateV
  have hb := allocs_below [.cells #[.int .i64 n, .int .i64 own, .int .i64 other, .slice hA hs.length hcp] 24, .cells #[.slice A ps.length cp] 25, .cells #[.int .i64 height] 3, .cells #[.int .i64 margin] 3, .cells #[.func (.func 8) #[] #[.pointer (some ⟨w.heap.size + 1, 0, none⟩)]] 37, .cells #[.int .i64 height, .int .i64 margin] 3] w
  have s3 : (allocs w [.cells #[.int .i64 n, .int .i64 own, .int .i64 other, .slice hA hs.length hcp] 24, .cells #[.slice A ps.length cp] 25, .cells #[.int .i64 height] 3, .cells #[.int .i64 margin] 3, .cells #[.func (.func 8) #[] #[.pointer (some ⟨w.heap.size + 1, 0, none⟩)]] 37, .cells #[.int .i64 height, .int .i64 margin] 3]).cell? ⟨w.heap.size, 3, none⟩ = some (.slice hA hs.length hcp) := cell_of (allocs_at [.cells #[.int .i64 n, .int .i64 own, .int .i64 other, .slice hA hs.length hcp] 24, .cells #[.slice A ps.length cp] 25, .cells #[.int .i64 height] 3, .cells #[.int .i64 margin] 3, .cells #[.func (.func 8) #[] #[.pointer (some ⟨w.heap.size + 1, 0, none⟩)]] 37, .cells #[.int .i64 height, .int .i64 margin] 3] w 0 _ rfl) rfl
  have p0 : (allocs w [.cells #[.int .i64 n, .int .i64 own, .int .i64 other, .slice hA hs.length hcp] 24, .cells #[.slice A ps.length cp] 25, .cells #[.int .i64 height] 3, .cells #[.int .i64 margin] 3, .cells #[.func (.func 8) #[] #[.pointer (some ⟨w.heap.size + 1, 0, none⟩)]] 37, .cells #[.int .i64 height, .int .i64 margin] 3]).cell? ⟨w.heap.size + 1, 0, none⟩ = some (.slice A ps.length cp) := cell_of (allocs_at [.cells #[.int .i64 n, .int .i64 own, .int .i64 other, .slice hA hs.length hcp] 24, .cells #[.slice A ps.length cp] 25, .cells #[.int .i64 height] 3, .cells #[.int .i64 margin] 3, .cells #[.func (.func 8) #[] #[.pointer (some ⟨w.heap.size + 1, 0, none⟩)]] 37, .cells #[.int .i64 height, .int .i64 margin] 3] w 1 _ rfl) rfl
  have t0 : (allocs w [.cells #[.int .i64 n, .int .i64 own, .int .i64 other, .slice hA hs.length hcp] 24, .cells #[.slice A ps.length cp] 25, .cells #[.int .i64 height] 3, .cells #[.int .i64 margin] 3, .cells #[.func (.func 8) #[] #[.pointer (some ⟨w.heap.size + 1, 0, none⟩)]] 37, .cells #[.int .i64 height, .int .i64 margin] 3]).cell? ⟨w.heap.size + 1 + 1, 0, none⟩ = some (.int .i64 height) := cell_of (allocs_at [.cells #[.int .i64 n, .int .i64 own, .int .i64 other, .slice hA hs.length hcp] 24, .cells #[.slice A ps.length cp] 25, .cells #[.int .i64 height] 3, .cells #[.int .i64 margin] 3, .cells #[.func (.func 8) #[] #[.pointer (some ⟨w.heap.size + 1, 0, none⟩)]] 37, .cells #[.int .i64 height, .int .i64 margin] 3] w 2 _ rfl) rfl
  have m0 : (allocs w [.cells #[.int .i64 n, .int .i64 own, .int .i64 other, .slice hA hs.length hcp] 24, .cells #[.slice A ps.length cp] 25, .cells #[.int .i64 height] 3, .cells #[.int .i64 margin] 3, .cells #[.func (.func 8) #[] #[.pointer (some ⟨w.heap.size + 1, 0, none⟩)]] 37, .cells #[.int .i64 height, .int .i64 margin] 3]).cell? ⟨w.heap.size + 1 + 1 + 1, 0, none⟩ = some (.int .i64 margin) := cell_of (allocs_at [.cells #[.int .i64 n, .int .i64 own, .int .i64 other, .slice hA hs.length hcp] 24, .cells #[.slice A ps.length cp] 25, .cells #[.int .i64 height] 3, .cells #[.int .i64 margin] 3, .cells #[.func (.func 8) #[] #[.pointer (some ⟨w.heap.size + 1, 0, none⟩)]] 37, .cells #[.int .i64 height, .int .i64 margin] 3] w 3 _ rfl) rfl
  have k0 : (allocs w [.cells #[.int .i64 n, .int .i64 own, .int .i64 other, .slice hA hs.length hcp] 24, .cells #[.slice A ps.length cp] 25, .cells #[.int .i64 height] 3, .cells #[.int .i64 margin] 3, .cells #[.func (.func 8) #[] #[.pointer (some ⟨w.heap.size + 1, 0, none⟩)]] 37, .cells #[.int .i64 height, .int .i64 margin] 3]).cell? ⟨w.heap.size + 1 + 1 + 1 + 1, 0, none⟩ = some (.func (.func 8) #[] #[.pointer (some ⟨w.heap.size + 1, 0, none⟩)]) := cell_of (allocs_at [.cells #[.int .i64 n, .int .i64 own, .int .i64 other, .slice hA hs.length hcp] 24, .cells #[.slice A ps.length cp] 25, .cells #[.int .i64 height] 3, .cells #[.int .i64 margin] 3, .cells #[.func (.func 8) #[] #[.pointer (some ⟨w.heap.size + 1, 0, none⟩)]] 37, .cells #[.int .i64 height, .int .i64 margin] 3] w 4 _ rfl) rfl
  have hr : Cells (allocs w [.cells #[.int .i64 n, .int .i64 own, .int .i64 other, .slice hA hs.length hcp] 24, .cells #[.slice A ps.length cp] 25, .cells #[.int .i64 height] 3, .cells #[.int .i64 margin] 3, .cells #[.func (.func 8) #[] #[.pointer (some ⟨w.heap.size + 1, 0, none⟩)]] 37, .cells #[.int .i64 height, .int .i64 margin] 3]) (some ⟨w.heap.size + 1 + 1 + 1 + 1 + 1, 0, none⟩) (ivs [height, margin]) := by
    have h := allocs_at [.cells #[.int .i64 n, .int .i64 own, .int .i64 other, .slice hA hs.length hcp] 24, .cells #[.slice A ps.length cp] 25, .cells #[.int .i64 height] 3, .cells #[.int .i64 margin] 3, .cells #[.func (.func 8) #[] #[.pointer (some ⟨w.heap.size + 1, 0, none⟩)]] 37, .cells #[.int .i64 height, .int .i64 margin] 3] w 5 _ rfl
    refine fun _ => ⟨_, rfl, fun j u hj => ?_⟩
    rcases j with _ | _ | j
    · injection hj with hj; subst hj
      exact cell_of h rfl
    · injection hj with hj; subst hj
      exact cell_of h rfl
    · simp [ivs] at hj
  have HBL := Lib.hid (blocks_any [height, margin] _ 2 (allocs w [.cells #[.int .i64 n, .int .i64 own, .int .i64 other, .slice hA hs.length hcp] 24, .cells #[.slice A ps.length cp] 25, .cells #[.int .i64 height] 3, .cells #[.int .i64 margin] 3, .cells #[.func (.func 8) #[] #[.pointer (some ⟨w.heap.size + 1, 0, none⟩)]] 37, .cells #[.int .i64 height, .int .i64 margin] 3]) (by simp) hr)
  have hall : [height, margin].all blk = (blk height && blk margin) := by simp
  rw [hall] at HBL
  have HLB := Lib.hid (show lateB hs ps height margin = (blk height && blk margin && hs.any (lateOne ps height margin)) from rfl)
  have HB := Lib.hid hb
  have S3 := Lib.hid s3
  have P0 := Lib.hid p0
  have T0 := Lib.hid t0
  have M0 := Lib.hid m0
  have K0 := Lib.hid k0
  have HH := Lib.hid hH
  have HP := Lib.hid hP
  have HV := Lib.hid hv
  have HX := Lib.hid hx
  clear hb s3 p0 t0 m0 k0 hr hall hH hP hv hx
  cases hq : (blk height && blk margin) with
  | false =>
    rw [hq] at HBL HLB
    clear hq
    go_enter Tryd.func5, Tryd.ntmps5
    go_wp2_with fail
    refine HBL.out.mono ?_
    rintro e w1 ⟨rfl, hb1⟩
    have HB1 := Lib.hid (HB.out.trans (hb1.mono HB.out.size)); clear hb1
    go_wp2_with fail
    go_ret
    rw [HLB.out]
    exact ⟨rfl, HB1.out⟩
  | true =>
    have hbb := hq
    rw [Bool.and_eq_true] at hbb
    rw [hq] at HBL HLB
    clear hq
    go_enter Tryd.func5, Tryd.ntmps5
    go_wp2_with fail
    refine HBL.out.mono ?_
    rintro e w1 ⟨rfl, hb1⟩
    have s3 := cell_below hb1 S3.out
    have p0 := cell_below hb1 P0.out
    have t0 := cell_below hb1 T0.out
    have m0 := cell_below hb1 M0.out
    have k0 := cell_below hb1 K0.out
    have HB1 := Lib.hid (HB.out.trans (hb1.mono HB.out.size)); clear hb1
    have HLT := Lib.hid (has_late (lateOne ps height margin) hs hA hcp (w.heap.size + 1 + 1 + 1) (w.heap.size + 1 + 1) (w.heap.size + 1 + 1 + 1 + 1) w1 hl (Cells.below HH.out HB1.out) (fun k hk W hW =>
      late2_any hs[k] ps A cp margin height _ _ _ (w.heap.size + 1) W hlp HX.out (Cells.below (Cells.below HP.out HB1.out) hW) ((HV.out.below HB1.out).below hW) hbb.2 hbb.1 (cell_below hW m0) (cell_below hW t0) (cell_below hW k0) (cell_below hW p0)))
    clear p0 t0 m0 k0
    go_wp2_with fail
    refine HLT.out.mono ?_
    rintro e w2 ⟨rfl, hb2⟩
    have HB2 := Lib.hid (HB1.out.trans (hb2.mono HB1.out.size)); clear hb2
    go_wp2_with fail
    go_ret
    rw [HLB.out]
    exact ⟨rfl, HB2.out⟩
end Go.Proofs.YtaonadgelkdbcaaDoor

namespace Go.Proofs.YtaonadgelkdbcaaDoor
open Go.RowKit

theorem any_hit {α : Type} {p : α → Bool} {l : List α} {k : Nat} (hk : k < l.length) (h : p l[k] = true) : l.any p = true := List.any_eq_true.2 ⟨l[k], List.getElem_mem _, h⟩
theorem any_miss {α : Type} {p : α → Bool} {l : List α} (h : ∀ j (hj : j < l.length), p l[j] = false) : l.any p = false := by
  rw [List.any_eq_false]
  intro x hx
  obtain ⟨j, hj, rfl⟩ := List.getElem_of_mem hx
  rw [h j hj]; simp
theorem below_next {α : Type} {p : α → Bool} {l : List α} {k : Nat} (hall : ∀ j (hj : j < l.length), j < k → p l[j] = false) (hlt : k < l.length) (h : p l[k] = false) : ∀ j (hj : j < l.length), j < k + 1 → p l[j] = false := fun j hj hjk => by
  rcases Nat.lt_or_ge j k with h' | h'
  · exact hall j hj h'
  · obtain rfl : j = k := by omega
    exact h
set_option maxRecDepth 100000 in
set_option maxHeartbeats 8000000 in
theorem rlate_any (n own other : Int) (hs : List HtlcR) (hA : Option Addr) (hcp : Nat) (ps : List ByteArray) (A : Option Addr) (cp : Nat) (height margin : Int) (w : World) (hl : hs.length ≤ 1000) (hlp : ps.length ≤ 1000) (hx : ∀ x ∈ ps, x.size ≤ 900000) (hH : Cells w hA (hts hs)) (hP : Cells w A (strs ps)) :
    Calls Tryd.prog 6 #[stateV n own other (.slice hA hs.length hcp), .slice A ps.length cp, .int .i64 height, .int .i64 margin] w fun e w' => e = .returned (.bool (lateB hs ps height margin)) ∧ Below w.heap.size w w' := by
  unfold stateV
  have hbA : Below w.heap.size w (w.alloc (.cells #[.int .i64 n, .int .i64 own, .int .i64 other, .slice hA hs.length hcp] 24)) := (Below.refl _ _).alloc (Nat.le_refl _) _
  have s3 : (w.alloc (.cells #[.int .i64 n, .int .i64 own, .int .i64 other, .slice hA hs.length hcp] 24)).cell? ⟨w.heap.size, 3, none⟩ = some (.slice hA hs.length hcp) := alloc_cells 3 _ rfl
  have HLB := Lib.hid (show lateB hs ps height margin = (blk height && blk margin && hs.any (lateOne ps height margin)) from rfl)
  have HT := fun W => Lib.hid (rblk_any height W)
  have HM := fun W => Lib.hid (rblk_any margin W)
  have HB := Lib.hid hbA
  have S3 := Lib.hid s3
  have HH := Lib.hid hH
  have HP := Lib.hid hP
  have HX := Lib.hid hx
  clear hbA s3 hH hP hx
  cases ht : blk height with
  | false =>
    rw [ht] at HLB
    simp only [ht] at HT
    go_enter Tryd.func6, Tryd.ntmps6
    go_wp2_with fail
    refine (HT _).out.mono ?_
    rintro e w1 ⟨rfl, rfl⟩
    go_wp2_with fail
    go_ret
    rw [HLB.out]
    exact ⟨rfl, HB.out⟩
  | true =>
  cases hm : blk margin with
  | false =>
    rw [ht, hm] at HLB
    simp only [ht] at HT
    simp only [hm] at HM
    go_enter Tryd.func6, Tryd.ntmps6
    go_wp2_with fail
    refine (HT _).out.mono ?_
    rintro e w1 ⟨rfl, rfl⟩
    go_wp2_with fail
    refine (HM _).out.mono ?_
    rintro e w1 ⟨rfl, rfl⟩
    go_wp2_with fail
    go_ret
    rw [HLB.out]
    exact ⟨rfl, HB.out⟩
  | true =>
    rw [ht, hm] at HLB
    simp only [ht] at HT
    simp only [hm] at HM
    have hbm := blk_iff.1 hm
    have hbt := blk_iff.1 ht
    clear ht hm
    go_enter Tryd.func6, Tryd.ntmps6
    go_wp2_with fail
    refine (HT _).out.mono ?_
    rintro e w1 ⟨rfl, rfl⟩
    go_wp2_with fail
    refine (HM _).out.mono ?_
    rintro e w1 ⟨rfl, rfl⟩
    go_wp2_with fail
    go_loopw [9] (fun i wr => ∃ k : Nat, k ≤ hs.length ∧ i = .int .i64 (k : Int) ∧ (∀ j (hj : j < hs.length), j < k → lateOne ps height margin hs[j] = false) ∧ Below w.heap.size w wr ∧ wr.cell? ⟨w.heap.size, 3, none⟩ = some (.slice hA hs.length hcp)) (fun i _ => hs.length - (intOf i).toNat)
    case atStart => exact ⟨0, Nat.zero_le _, rfl, fun j _ h => by omega, HB.out, S3.out⟩
    case round =>
      obtain ⟨k, hk, rfl, hall, hbr, hs3⟩ := hrel
      have HALL := Lib.hid hall
      have HBR := Lib.hid hbr
      have HS3 := Lib.hid hs3
      by_cases hlt : k < hs.length
      · obtain ⟨ad, rfl, c0, c1, c2, c3, c4⟩ := hts_at (Cells.below HH.out hbr) hlt
        have HN := fun h => Lib.hid (below_next hall hlt h)
        have HIT := fun h => Lib.hid (any_hit (p := lateOne ps height margin) hlt h)
        obtain ⟨h, hh⟩ : ∃ h, hs[k] = h := ⟨_, rfl⟩
        rw [hh] at c0 c1 c2 c3 c4 HN HIT
        obtain ⟨mine, id, amt, hash, exp⟩ := h
        simp only at c0 c1 c2 c3 c4
        have hbw : Below w.heap.size w (wr.alloc (.cells #[.bool mine, .int .i64 id, .int .i64 amt, .string hash, .int .i64 exp] 29)) := hbr.alloc hbr.size _
        have hs3w := cell_below ((Below.refl _ _).alloc (Nat.le_refl _) _ : Below wr.heap.size wr (wr.alloc (.cells #[.bool mine, .int .i64 id, .int .i64 amt, .string hash, .int .i64 exp] 29))) hs3
        have HBW := Lib.hid hbw
        have HS3W := Lib.hid hs3w
        have q0 : (wr.alloc (.cells #[.bool mine, .int .i64 id, .int .i64 amt, .string hash, .int .i64 exp] 29)).cell? ⟨wr.heap.size, 0, none⟩ = some (.bool mine) := alloc_cells 0 _ rfl
        have q3 : (wr.alloc (.cells #[.bool mine, .int .i64 id, .int .i64 amt, .string hash, .int .i64 exp] 29)).cell? ⟨wr.heap.size, 3, none⟩ = some (.string hash) := alloc_cells 3 _ rfl
        have q4 : (wr.alloc (.cells #[.bool mine, .int .i64 id, .int .i64 amt, .string hash, .int .i64 exp] 29)).cell? ⟨wr.heap.size, 4, none⟩ = some (.int .i64 exp) := alloc_cells 4 _ rfl
        have Q3 := Lib.hid q3
        have Q4 := Lib.hid q4
        have HE := fun W => Lib.hid (rblk_any exp W)
        have HLO := Lib.hid (show lateOne ps height margin ⟨mine, id, amt, hash, exp⟩ = (blk exp && (if mine then decide (exp + margin ≤ height) else decide (exp - margin ≤ height) && ps.any (preB hash))) from rfl)
        clear hall hbr hh hbw hs3w
        cases he : blk exp with
        | false =>
          rw [he] at HLO
          simp only [he] at HE
          have HN1 := HN (by rw [HLO.out]; rfl)
          clear HN HIT he
          go_wp2_with fail
          refine (HE _).out.mono ?_
          rintro e w1 ⟨rfl, rfl⟩
          go_wp2_with fail
          go_roundw
          case rel => exact ⟨k + 1, by omega, by go_num, HN1.out, HBW.out, HS3W.out⟩
          case measure => simp [intOf]; omega
        | true =>
          have hbe := blk_iff.1 he
          rw [he] at HLO
          simp only [he] at HE
          clear he
          cases mine with
          | true =>
            by_cases hle : exp + margin ≤ height
            · have g : decide (exp + margin ≤ height) = true := decide_eq_true hle
              have HI := HIT (by rw [HLO.out, g]; rfl)
              clear HN HIT hle
              go_wp2_with fail
              refine (HE _).out.mono ?_
              rintro e w1 ⟨rfl, rfl⟩
              go_wp2_with fail
              go_ret
              rw [HLB.out, HI.out]
              exact ⟨rfl, HBW.out⟩
            · have g : decide (exp + margin ≤ height) = false := decide_eq_false hle
              have HN1 := HN (by rw [HLO.out, g]; rfl)
              clear HN HIT hle
              go_wp2_with fail
              refine (HE _).out.mono ?_
              rintro e w1 ⟨rfl, rfl⟩
              go_wp2_with fail
              go_roundw
              case rel => exact ⟨k + 1, by omega, by go_num, HN1.out, HBW.out, HS3W.out⟩
              case measure => simp [intOf]; omega
          | false =>
            go_wp2_with fail
            refine (HE _).out.mono ?_
            rintro e w1 ⟨rfl, rfl⟩
            go_wp2_with fail
            go_loopw [11] (fun i w2 => ∃ m : Nat, m ≤ ps.length ∧ i = .int .i64 (m : Int) ∧ (∀ j (hj : j < ps.length), j < m → (preB hash ps[j] && decide (exp - margin ≤ height)) = false) ∧ Below w.heap.size w w2 ∧ w2.cell? ⟨w.heap.size, 3, none⟩ = some (.slice (some ad) hs.length hcp) ∧ w2.cell? ⟨wr.heap.size, 3, none⟩ = some (.string hash) ∧ w2.cell? ⟨wr.heap.size, 4, none⟩ = some (.int .i64 exp)) (fun i _ => ps.length - (intOf i).toNat)
            case atStart => exact ⟨0, Nat.zero_le _, rfl, fun j _ h => by omega, HBW.out, HS3W.out, Q3.out, Q4.out⟩
            case round =>
              obtain ⟨m, hm, rfl, hal2, hb2, z3, y3, y4⟩ := hrel
              by_cases hl2 : m < ps.length
              · obtain ⟨ad2, rfl, hc⟩ := strs_at (Cells.below HP.out hb2) hl2
                obtain ⟨x, hxx⟩ : ∃ x, ps[m] = x := ⟨_, rfl⟩
                have hpx := HX.out _ (List.getElem_mem hl2)
                have HN2 := fun h => Lib.hid (below_next (p := fun y => preB hash y && decide (exp - margin ≤ height)) hal2 hl2 h)
                have HI2 := fun h => Lib.hid (any_hit (p := preB hash) hl2 h)
                rw [hxx] at hc hpx
                simp only [hxx] at HN2 HI2
                have hh := rone_any 72 72 rfl x wr hpx
                obtain ⟨r1, d, hR⟩ : ∃ (r1 : Int) (d : ByteArray), oneE 72 x.data.toList = (r1, d.data.toList) := ⟨(oneE 72 x.data.toList).1, ⟨(oneE 72 x.data.toList).2.toArray⟩, by simp⟩
                have HPB := Lib.hid (preB_one x hash hR)
                rw [hR] at hh
                unfold tupE at hh
                simp only at hh
                rw [show (⟨d.data.toList.toArray⟩ : ByteArray) = d from (str_eq d).symm] at hh
                have HO := Lib.hid hh
                have HB2 := Lib.hid hb2
                have Z3 := Lib.hid z3
                have Y3 := Lib.hid y3
                have Y4 := Lib.hid y4
                clear hh hR hal2 hb2 hxx z3 y3 y4
                by_cases h0 : r1 = 0
                · subst h0
                  cases hq : (d.toList == hash.toList) with
                  | true =>
                    have HPT := Lib.hid (show preB hash x = true by rw [HPB.out, hq]; rfl)
                    by_cases hle : exp - margin ≤ height
                    · have g : decide (exp - margin ≤ height) = true := decide_eq_true hle
                      have HI := HIT (by rw [HLO.out, g, (HI2 HPT.out).out]; rfl)
                      clear HN HIT HN2 HI2 hle
                      go_wp2_with fail
                      refine HO.out.mono ?_
                      rintro e w3 ⟨rfl, hb3⟩
                      have z3 := cell_below hb3 Z3.out
                      have y3 := cell_below hb3 Y3.out
                      have y4 := cell_below hb3 Y4.out
                      have HB3 := Lib.hid (HB2.out.trans (hb3.mono HB2.out.size))
                      clear hb3
                      go_wp2_with fail
                      go_ret
                      rw [HLB.out, HI.out]
                      exact ⟨rfl, HB3.out⟩
                    · have g : decide (exp - margin ≤ height) = false := decide_eq_false hle
                      have HN3 := HN2 (by rw [g, Bool.and_false])
                      clear HIT HN2 HI2 hle
                      go_wp2_with fail
                      refine HO.out.mono ?_
                      rintro e w3 ⟨rfl, hb3⟩
                      have z3 := cell_below hb3 Z3.out
                      have y3 := cell_below hb3 Y3.out
                      have y4 := cell_below hb3 Y4.out
                      have HB3 := Lib.hid (HB2.out.trans (hb3.mono HB2.out.size))
                      clear hb3
                      go_wp2_with fail
                      go_roundw
                      case rel => exact ⟨m + 1, by omega, by go_num, HN3.out, HB3.out, z3, y3, y4⟩
                      case measure => simp [intOf]; omega
                  | false =>
                    have HPT := Lib.hid (show preB hash x = false by rw [HPB.out, hq]; rfl)
                    have HN3 := HN2 (by rw [HPT.out, Bool.false_and])
                    clear HIT HN2 HI2
                    go_wp2_with fail
                    refine HO.out.mono ?_
                    rintro e w3 ⟨rfl, hb3⟩
                    have z3 := cell_below hb3 Z3.out
                    have y3 := cell_below hb3 Y3.out
                    have y4 := cell_below hb3 Y4.out
                    have HB3 := Lib.hid (HB2.out.trans (hb3.mono HB2.out.size))
                    clear hb3
                    go_wp2_with fail
                    go_roundw
                    case rel => exact ⟨m + 1, by omega, by go_num, HN3.out, HB3.out, z3, y3, y4⟩
                    case measure => simp [intOf]; omega
                · have HPT := Lib.hid (show preB hash x = false by rw [HPB.out, decide_eq_false h0]; rfl)
                  have HN3 := HN2 (by rw [HPT.out, Bool.false_and])
                  have g0 : (r1 == 0) = false := beq_false_of_ne h0
                  clear HIT HN2 HI2 h0
                  go_wp2_with fail
                  refine HO.out.mono ?_
                  rintro e w3 ⟨rfl, hb3⟩
                  have z3 := cell_below hb3 Z3.out
                  have y3 := cell_below hb3 Y3.out
                  have y4 := cell_below hb3 Y4.out
                  have HB3 := Lib.hid (HB2.out.trans (hb3.mono HB2.out.size))
                  clear hb3
                  go_wp2_with fail
                  go_roundw
                  case rel => exact ⟨m + 1, by omega, by go_num, HN3.out, HB3.out, z3, y3, y4⟩
                  case measure => simp [intOf]; omega
              · have HAL := Lib.hid hal2
                have HB2 := Lib.hid hb2
                have Z3 := Lib.hid z3
                have HN1 := HN (by
                  rw [HLO.out]
                  simp only [Bool.true_and, Bool.false_eq_true, if_false]
                  cases hd : decide (exp - margin ≤ height) with
                  | false => rfl
                  | true =>
                    rw [Bool.true_and]
                    exact any_miss fun j hj => by have := HAL.out j hj (by omega); rw [hd, Bool.and_true] at this; exact this)
                clear HN HIT hal2 hb2 z3
                go_wp2_with fail
                go_roundw
                case rel => exact ⟨k + 1, by omega, by go_num, HN1.out, HB2.out, Z3.out⟩
                case measure => simp [intOf]; omega
      · have HM := Lib.hid (any_miss (p := lateOne ps height margin) (l := hs) fun j hj => hall j hj (by omega))
        clear hall hbr HALL
        go_wp2_with fail
        go_ret
        rw [HLB.out, HM.out]
        exact ⟨rfl, HBR.out⟩
end Go.Proofs.YtaonadgelkdbcaaDoor
