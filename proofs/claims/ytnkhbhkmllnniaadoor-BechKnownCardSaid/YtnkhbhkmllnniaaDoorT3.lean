/- add: the check goes on over a slice of words. -/
import Derived.Test.YtnkhbhkmllnniaaDoorProg
import Derived.Test.YtnkhbhkmllnniaaDoorBase
import Derived.Test.YtnkhbhkmllnniaaDoorBits0
import Derived.RegionTactic
import Derived.ChangeAlike
namespace Go.Proofs.YtnkhbhkmllnniaaDoor
open Go.RowKit Bech

def turns : Array Value := #[.int .u32 996825010, .int .u32 642813549, .int .u32 513874426, .int .u32 1027748829, .int .u32 705979059]

theorem turn0 (w : World) : (Instr.index 68 (.agg turns) (.int .i64 0)).run Tryd.prog w = .ok (.int .u32 996825010) w := by kernel_rfl
theorem turn1 (w : World) : (Instr.index 68 (.agg turns) (.int .i64 1)).run Tryd.prog w = .ok (.int .u32 642813549) w := by kernel_rfl
theorem turn2 (w : World) : (Instr.index 68 (.agg turns) (.int .i64 2)).run Tryd.prog w = .ok (.int .u32 513874426) w := by kernel_rfl
theorem turn3 (w : World) : (Instr.index 68 (.agg turns) (.int .i64 3)).run Tryd.prog w = .ok (.int .u32 1027748829) w := by kernel_rfl
theorem turn4 (w : World) : (Instr.index 68 (.agg turns) (.int .i64 4)).run Tryd.prog w = .ok (.int .u32 705979059) w := by kernel_rfl

set_option maxHeartbeats 400000 in
theorem add_any (B : Nat) (l : List UInt8) (A : Option Addr) (c : Nat) (c0 : Nat) (w : World) (hl : l.length ≤ 1000000) (hc0 : c0 < 4294967296) (hA : Cells w A (bv l))
    (hB : w.heap[B]? = some (.cells #[.int .u32 (c0 : Nat)] 54 (0, 0))) :
    Calls Tryd.prog 21 #[.pointer (some ⟨B, 0, none⟩), .slice A l.length c] w fun e w' => e = .returned (.tuple #[]) ∧ w'.heap[B]? = some (.cells #[.int .u32 (chkFrom c0 l : Nat)] 54 (0, 0)) ∧ w.grownBy w' (some B) := by
  go_enter Tryd.func21, Tryd.ntmps21
  go_wp2
  have hBlt := lt_of_block hB
  obtain ⟨T, hT⟩ : ∃ T, T = w.heap.size := ⟨_, rfl⟩
  have hne : ∀ x : Nat, Value.int .u32 (x : Int) ∉ bv l := by intro x hx; simp [bv] at hx
  go_loopw [13] (fun i wr => ∃ k : Nat, k ≤ l.length ∧ i = .int .i64 k ∧ wr.heap[B]? = some (.cells #[.int .u32 (chkFrom c0 (l.take k) : Nat)] 54 (0, 0)) ∧ wr.heap[w.heap.size]? = some (.cells turns 68 (0, 0)) ∧ w.grownBy wr (some B)) (fun i _ => l.length - (intOf i).toNat)
  case atStart => exact ⟨0, Nat.zero_le _, rfl, (Below.heap_alloc _ _ _ hBlt).trans hB, heap_alloc_new _ _, World.grownBy_alloc _ _ _⟩
  case round =>
    obtain ⟨k, hk, rfl, hBr, hTr, hg⟩ := hrel
    by_cases hlt : k < l.length
    · obtain ⟨ad, rfl, hc⟩ := (hA.other hB (hne c0) hg).byte hlt
      have hcl : chkFrom c0 (l.take k) < 4294967296 := chkFrom_lt _ c0 hc0
      have hsn := chkFrom_snoc c0 l k hlt
      generalize chkFrom c0 (l.take k) = cc at hcl hsn hBr
      have hbl := l[k].toNat_lt
      generalize l[k].toNat = by_ at hc hbl hsn
      have hB1 := cell_of_one hBr
      have hB2 := free_of_one hBr
      have HS := Lib.hid hsn; clear hsn
      clear hA hT
      have hTB : w.heap.size ≠ B := by omega
      go_wp2_with (refine wpList_load_row rfl 68 (.tmp 4) rfl w.heap.size rfl 68 turns (0, 0) _ ((Below.heap_setCell _ _ _ _ (by simpa using hTB)).trans hTr) Tryd.underlying68 rfl (by kernel_rfl) ?_)
      obtain ⟨wo, hwo⟩ : ∃ wo : World, wo = wr := ⟨_, rfl⟩
      subst hwo
      go_loopw [32] (fun i w2 => ∃ q : Int, 0 ≤ q ∧ q ≤ 5 ∧ i = .int .i64 q ∧ w2.heap[B]? = some (.cells #[.int .u32 (inn (cc / 33554432) (cc % 33554432 * 32 ^^^ by_) q.toNat : Nat)] 54 (0, 0)) ∧ wo.grownBy w2 (some B)) (fun i _ => 5 - (intOf i).toNat)
      case atStart =>
        have hc1 := free_of_one hBr
        exact ⟨0, by omega, by omega, rfl, by rw [start_u32 cc by_ hcl hbl]; exact one_setCell hBr, only_setCell (World.grownBy.refl _ _) (.inl rfl) _⟩
      case round =>
        obtain ⟨q, hq0, hq, rfl, hB2, hg2⟩ := hrel
        have hx0 := x0_lt cc by_ hbl
        rcases (by omega : q = 0 ∨ q = 1 ∨ q = 2 ∨ q = 3 ∨ q = 4 ∨ q = 5) with rfl | rfl | rfl | rfl | rfl | rfl
        · have hc1 := cell_of_one hB2
          have hc2 := free_of_one hB2
          have HB2 := Lib.hid hB2
          have hil := inn_lt hx0 0 (t := cc / 33554432)
          generalize hci : inn (cc / 33554432) (cc % 33554432 * 32 ^^^ by_) (0 : Int).toNat = ci at HB2 hil hc1
          have HC := Lib.hid hci
          have ti := turn0
          clear hB2 hBr hB1 hTr hB hne hci
          go_wp2
          go_region
          go_wp2
          exact ⟨⟨1, by omega, by omega, rfl, by rw [inn_mul (j := 0) hx0 996825010 _ HC.out rfl (by omega) (by omega)]; exact one_setCell HB2.out, only_drew (only_setCell hg2 (.inl rfl) _)⟩, by simp [intOf]⟩
        · have hc1 := cell_of_one hB2
          have hc2 := free_of_one hB2
          have HB2 := Lib.hid hB2
          have hil := inn_lt hx0 1 (t := cc / 33554432)
          generalize hci : inn (cc / 33554432) (cc % 33554432 * 32 ^^^ by_) (1 : Int).toNat = ci at HB2 hil hc1
          have HC := Lib.hid hci
          have ti := turn1
          clear hB2 hBr hB1 hTr hB hne hci
          go_wp2
          go_region
          go_wp2
          exact ⟨⟨2, by omega, by omega, rfl, by rw [inn_mul (j := 1) hx0 642813549 _ HC.out rfl (by omega) (by omega)]; exact one_setCell HB2.out, only_drew (only_setCell hg2 (.inl rfl) _)⟩, by simp [intOf]⟩
        · have hc1 := cell_of_one hB2
          have hc2 := free_of_one hB2
          have HB2 := Lib.hid hB2
          have hil := inn_lt hx0 2 (t := cc / 33554432)
          generalize hci : inn (cc / 33554432) (cc % 33554432 * 32 ^^^ by_) (2 : Int).toNat = ci at HB2 hil hc1
          have HC := Lib.hid hci
          have ti := turn2
          clear hB2 hBr hB1 hTr hB hne hci
          go_wp2
          go_region
          go_wp2
          exact ⟨⟨3, by omega, by omega, rfl, by rw [inn_mul (j := 2) hx0 513874426 _ HC.out rfl (by omega) (by omega)]; exact one_setCell HB2.out, only_drew (only_setCell hg2 (.inl rfl) _)⟩, by simp [intOf]⟩
        · have hc1 := cell_of_one hB2
          have hc2 := free_of_one hB2
          have HB2 := Lib.hid hB2
          have hil := inn_lt hx0 3 (t := cc / 33554432)
          generalize hci : inn (cc / 33554432) (cc % 33554432 * 32 ^^^ by_) (3 : Int).toNat = ci at HB2 hil hc1
          have HC := Lib.hid hci
          have ti := turn3
          clear hB2 hBr hB1 hTr hB hne hci
          go_wp2
          go_region
          go_wp2
          exact ⟨⟨4, by omega, by omega, rfl, by rw [inn_mul (j := 3) hx0 1027748829 _ HC.out rfl (by omega) (by omega)]; exact one_setCell HB2.out, only_drew (only_setCell hg2 (.inl rfl) _)⟩, by simp [intOf]⟩
        · have hc1 := cell_of_one hB2
          have hc2 := free_of_one hB2
          have HB2 := Lib.hid hB2
          have hil := inn_lt hx0 4 (t := cc / 33554432)
          generalize hci : inn (cc / 33554432) (cc % 33554432 * 32 ^^^ by_) (4 : Int).toNat = ci at HB2 hil hc1
          have HC := Lib.hid hci
          have ti := turn4
          clear hB2 hBr hB1 hTr hB hne hci
          go_wp2
          go_region
          go_wp2
          exact ⟨⟨5, by omega, by omega, rfl, by rw [inn_mul (j := 4) hx0 705979059 _ HC.out rfl (by omega) (by omega)]; exact one_setCell HB2.out, only_drew (only_setCell hg2 (.inl rfl) _)⟩, by simp [intOf]⟩
        · go_wp2
          go_roundw
          case rel =>
            refine ⟨k + 1, by omega, by go_num, by rw [HS.out]; exact hB2, ?_, ?_⟩
            · exact (hg2.block _ (lt_of_block hTr) (by simpa using hTB)).trans hTr
            · exact hg.trans hg2
          case measure => simp [intOf]; omega
    · go_wp2
      go_end0
      exact ⟨rfl, by rw [List.take_of_length_le (by omega)] at hBr; exact hBr, hg⟩
end Go.Proofs.YtnkhbhkmllnniaaDoor
