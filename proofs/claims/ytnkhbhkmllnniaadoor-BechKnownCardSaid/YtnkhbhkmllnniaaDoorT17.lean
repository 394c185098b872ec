/- Decode's table of letters and its search for bytes. -/
import Derived.Test.YtnkhbhkmllnniaaDoorT14
namespace Go.Proofs.YtnkhbhkmllnniaaDoor
open Go.RowKit Bech

def fl : Nat → Array Value
  | 0 => Array.replicate 128 (.int .u8 0)
  | k + 1 => (fl k).setIfInBounds k (.int .u8 32)
def st : Nat → Array Value
  | 0 => fl 128
  | k + 1 => (st k).setIfInBounds (letter k).toNat (.int .u8 (k : Nat))
theorem fl_size (k : Nat) : (fl k).size = 128 := by
  induction k with
  | zero => simp [fl]
  | succ k ih => simp [fl, ih]
theorem st_size (k : Nat) : (st k).size = 128 := by
  induction k with
  | zero => exact fl_size 128
  | succ k ih => simp [st, ih]
theorem setCell_block {w : World} {g : Nat} {cs : Array Value} {t : TypeId} {fr : Nat × Nat} (h : w.heap[g]? = some (.cells cs t fr)) (i : Nat) (u : Value) : (w.setCell ⟨g, i, none⟩ u).heap[g]? = some (.cells (cs.setIfInBounds i u) t fr) := by
  simp [World.setCell, Array.getElem?_modify, h]
theorem cell_of_block {w : World} {g : Nat} {cs : Array Value} {t : TypeId} {fr : Nat × Nat} (h : w.heap[g]? = some (.cells cs t fr)) (i : Nat) (hi : i < cs.size) : w.cell? ⟨g, i, none⟩ = some cs[i] := by
  simp [World.cell?, h, hi]
theorem free_of_block {w : World} {g : Nat} {cs : Array Value} {t : TypeId} (h : w.heap[g]? = some (.cells cs t (0, 0))) (i : Nat) : w.frozen? ⟨g, i, none⟩ = false := by
  simp [World.frozen?, h]
theorem letter_lt (k : Nat) : (letter k).toNat < 128 := by
  unfold letter
  rcases Nat.lt_or_ge k 32 with h | h
  · have : ∀ k : Fin 32, (letters.getD k.val 0).toNat < 128 := by decide
    exact this ⟨k, h⟩
  · rw [List.getD_eq_getElem?_getD, List.getElem?_eq_none (show letters.length ≤ k from h)]; decide

theorem st_all : (st 32).all (·.oneCell') = true := by kernel_rfl

/-- A whole array stored into the block that was laid just before. -/
theorem wpList_store_new {P : Program} {w0 : World} {ops : Array Oper} {rest : List Oper} {o : Oper} {a : Act} {Q : Exit → Act → World → Prop} (hgd : o.guard = none) (ty : TypeId) (x y : Operand) (ho : o.op = .store ty x y)
    (cells : Array Value) (hx : a.eval x = .pointer (some ⟨w0.heap.size, 0, none⟩)) (hy : a.eval y = .agg cells)
    (t : TypeId) (old : Array Value) (hi : (P.info? ty).map (·.size) = some cells.size) (hold : old.size = cells.size) (h1 : cells.all (·.oneCell') = true)
    (h : ∀ W3, W3.heap[w0.heap.size]? = some (.cells cells t (0, 0)) → Below w0.heap.size w0 W3 → w0.heap.size < W3.heap.size → wpList P ops Q rest (a.put o.dst undef) W3) :
    wpList P ops Q (o :: rest) a (w0.alloc (.cells old t)) := by
  refine wpList_store_row hgd ty x y ho w0.heap.size cells hx hy t old (heap_alloc_new w0 _) hi hold h1 ?_
  refine h _ (setRow_heap _ _ _ _ _ _ (heap_alloc_new w0 _)) ⟨rfl, rfl, rfl, by simp [World.setRow], fun k hk => (setRow_other _ _ _ _ (by omega)).trans (Below.heap_alloc w0 _ k hk)⟩ (by simp [World.setRow])

set_option maxRecDepth 100000 in
set_option maxHeartbeats 1000000 in
theorem found_any (w : World) : Calls Tryd.prog 34 #[] w fun e w' => e = .returned (.agg (st 32)) ∧ Below w.heap.size w w' := by
  go_enter Tryd.func34, Tryd.ntmps34
  go_wp2_with fail
  go_loopw [3] (fun i wr => ∃ k : Nat, k ≤ 128 ∧ i = .int .i64 k ∧ wr.heap[w.heap.size]? = some (.cells (fl k) 61 (0, 0)) ∧ Below w.heap.size w wr) (fun i _ => 128 - (intOf i).toNat)
  case atStart => exact ⟨0, Nat.zero_le _, rfl, heap_alloc_new _ _, (Below.refl _ _).alloc (Nat.le_refl _) _⟩
  case round =>
    obtain ⟨k, hk, rfl, hB, hb⟩ := hrel
    have HB := Lib.hid hB
    by_cases hlt : k < 128
    · have hc := cell_of_block hB k (by rw [fl_size]; exact hlt)
      have hf := free_of_block hB k
      clear hB
      go_wp2_with fail
      go_roundw
      case rel => exact ⟨k + 1, by omega, by go_num, setCell_block HB.out k _, hb.setCell (p := ⟨w.heap.size, k, none⟩) (Nat.le_refl _) _⟩
      case measure => simp [intOf]; omega
    · obtain rfl : k = 128 := by omega
      clear hB
      obtain ⟨wo, hwo⟩ : ∃ wo : World, wo = wr := ⟨_, rfl⟩
      subst hwo
      go_wp2_with fail
      go_loopw [9] (fun i wr => ∃ k : Nat, k ≤ 32 ∧ i = .int .i64 k ∧ wr.heap[w.heap.size]? = some (.cells (st k) 61 (0, 0)) ∧ Below w.heap.size w wr) (fun i _ => 32 - (intOf i).toNat)
      case atStart => exact ⟨0, Nat.zero_le _, rfl, HB.out, hb⟩
      case round =>
        obtain ⟨k, hk, rfl, hB, hb⟩ := hrel
        have HB := Lib.hid hB
        by_cases hlt : k < 32
        · have hll := letter_lt k
          have hc := cell_of_block hB (letter k).toNat (by rw [st_size]; exact hll)
          have hf := free_of_block hB (letter k).toNat
          have hix := index_letter k hlt .i64
          clear hB
          go_wp2_with fail
          go_roundw
          case rel => exact ⟨k + 1, by omega, by go_num, setCell_block HB.out _ _, hb.setCell (p := ⟨w.heap.size, (letter k).toNat, none⟩) (Nat.le_refl _) _⟩
          case measure => simp [intOf]; omega
        · obtain rfl : k = 32 := by omega
          clear hB
          have hlt := lt_of_block HB.out
          go_wp2_with (first
            | (refine wpList_load_row rfl 61 (.tmp 0) rfl w.heap.size rfl 61 (st 32) (0, 0) _ HB.out Tryd.underlying61 rfl (by rw [st_size]; kernel_rfl) ?_)
            | (refine wpList_store_row rfl 61 (.tmp 0) (.tmp 18) rfl w.heap.size (st 32) (by rfl) (by rfl) 61 (st 32) HB.out (by rw [st_size]; kernel_rfl) rfl st_all ?_))
          refine bodyPost_ret (results_cell_row rfl _ _ w.heap.size 61 (st 32) (0, 0) _ rfl (setRow_heap _ _ _ _ _ _ HB.out) Tryd.underlying61 rfl (by rw [st_size]; kernel_rfl)) rfl ⟨rfl, ?_⟩
          exact ⟨hb.os, hb.tape, hb.output, by have := hb.size; simpa [World.setRow] using this, fun k hk => (setRow_other _ _ _ _ (by omega)).trans (hb.block k hk)⟩

theorem st_table : st 32 = ((List.range 128).map fun c => Value.int .u8 ((wordOf (UInt8.ofNat c) : Nat) : Int)).toArray := by kernel_rfl
theorem st_get (c : UInt8) (h : c.toNat < 128) : (st 32)[c.toNat]'(by rw [st_size]; exact h) = .int .u8 (wordOf c : Nat) := by
  have e : (st 32)[c.toNat]? = some (.int .u8 (wordOf c : Nat)) := by
    rw [st_table]
    simp [h]
  rw [Array.getElem?_eq_getElem (by rw [st_size]; exact h)] at e
  injection e

def someIn (l : List UInt8) (lo hi : Nat) : Bool := l.any fun c => decide (lo ≤ c.toNat) && decide (c.toNat ≤ hi)
def NoneTo (l : List UInt8) (lo hi k : Nat) : Prop := (l.take k).any (fun c => decide (lo ≤ c.toNat) && decide (c.toNat ≤ hi)) = false

set_option maxHeartbeats 1000000 in
theorem some_any (s : ByteArray) (lo hi : Nat) (b : Nat) (w : World) (hs : s.size ≤ 1000000) (hc : w.cell? ⟨b, 0, none⟩ = some (.string s)) :
    Calls Tryd.prog 29 #[.int .u8 (lo : Int), .int .u8 (hi : Int), .pointer (some ⟨b, 0, none⟩)] w fun e w' => e = .returned (.bool (someIn s.data.toList lo hi)) ∧ w = w' := by
  go_enter Tryd.func29, Tryd.ntmps29
  go_wp2_with fail
  go_loop [9] (fun i => ∃ k : Nat, k ≤ s.size ∧ i = .int .i64 k ∧ NoneTo s.data.toList lo hi k) (fun i => s.size - (intOf i).toNat)
  case atStart => exact ⟨0, Nat.zero_le _, rfl, rfl⟩
  case round =>
    obtain ⟨k, hk, rfl, hn⟩ := hrel
    have HN := Lib.hid hn; clear hn
    by_cases hlt : k < s.size
    · have hsn := any_snoc (fun c => decide (lo ≤ c.toNat) && decide (c.toNat ≤ hi)) s.data.toList k (by simpa using hlt)
      have hmem : s[k] ∈ s.data.toList := List.getElem_mem (l := s.data.toList) (n := k) (by simpa using hlt)
      have hsn2 : (s.data.toList.take (k + 1)).any (fun c => decide (lo ≤ c.toNat) && decide (c.toNat ≤ hi)) = (decide (lo ≤ s[k].toNat) && decide (s[k].toNat ≤ hi)) := by
        rw [hsn, HN.out, Bool.false_or]; rfl
      have hyes : (decide (lo ≤ s[k].toNat) && decide (s[k].toNat ≤ hi)) = true → someIn s.data.toList lo hi = true := by
        intro h
        unfold someIn
        rw [List.any_eq_true]
        exact ⟨s[k], hmem, h⟩
      have HS := Lib.hid hsn2
      have HY := Lib.hid hyes
      clear hsn hsn2 hyes hmem
      go_wp2_with fail
      all_goals first
        | (go_ret; exact ⟨ret_bool (HY.out (by simp; omega)).symm, rfl⟩)
        | (refine ⟨⟨k + 1, by omega, by go_num, ?_⟩, by simp [intOf]; omega⟩
           unfold NoneTo
           rw [HS.out]
           simp
           omega)
    · have hd : someIn s.data.toList lo hi = false := by
        have := HN.out
        unfold NoneTo at this
        rw [List.take_of_length_le (by simpa using hlt)] at this
        exact this
      have HD := Lib.hid hd; clear hd
      go_wp2_with fail
      go_ret
      exact ⟨ret_bool HD.out.symm, rfl⟩
end Go.Proofs.YtnkhbhkmllnniaaDoor
