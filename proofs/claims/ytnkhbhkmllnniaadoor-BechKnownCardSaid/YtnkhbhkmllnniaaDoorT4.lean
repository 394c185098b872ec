/- add over one word; the check of a head. -/
import Derived.Test.YtnkhbhkmllnniaaDoorT3
namespace Go.Proofs.YtnkhbhkmllnniaaDoor
open Go.RowKit Bech

theorem add_one (B : Nat) (b c0 : Nat) (x : Int) (hx : x = (b : Int)) (hb : b < 256) (ad : Addr) (w : World) (hc0 : c0 < 4294967296) (hA : w.cell? ad = some (.int .u8 x))
    (hB : w.heap[B]? = some (.cells #[.int .u32 (c0 : Nat)] 54 (0, 0))) :
    Calls Tryd.prog 21 #[.pointer (some ⟨B, 0, none⟩), .slice (some ad) 1 1] w fun e w' => e = .returned (.tuple #[]) ∧ w'.heap[B]? = some (.cells #[.int .u32 (Bech.step c0 b : Nat)] 54 (0, 0)) ∧ w.grownBy w' (some B) := by
  have hn : (UInt8.ofNat b).toNat = b := by rw [UInt8.toNat_ofNat']; omega
  have h := add_any B [UInt8.ofNat b] (some ad) 1 c0 w (by simp) hc0 (fun _ => ⟨ad, rfl, fun j u hj => by
    match j, hj with
    | 0, hj =>
      have hj' : some (Value.int .u8 ((UInt8.ofNat b).toNat : Int)) = some u := hj
      rw [← hj', hn, ← hx]; exact hA⟩) hB
  simp only [chkFrom, List.foldl, hn] at h
  exact h

set_option maxHeartbeats 400000 in
theorem head_any (s : ByteArray) (w : World) (hs : s.size ≤ 1000000) :
    Calls Tryd.prog 20 #[.string s] w fun e w' => e = .returned (.pointer (some ⟨w.heap.size, 0, none⟩)) ∧ w'.heap[w.heap.size]? = some (.cells #[.int .u32 (chk (heads s.data.toList) : Nat)] 54 (0, 0)) ∧ Below w.heap.size w w' := by
  go_enter Tryd.func20, Tryd.ntmps20
  go_wp2
  go_loopw [8] (fun i wr => ∃ k : Nat, k ≤ s.size ∧ i = .int .i64 k ∧ wr.heap[w.heap.size]? = some (.cells #[.int .u32 (chkFrom 1 ((s.data.toList.take k).map hi) : Nat)] 54 (0, 0)) ∧ Below w.heap.size w wr) (fun i _ => s.size - (intOf i).toNat)
  case atStart => exact ⟨0, Nat.zero_le _, rfl, heap_alloc_new _ _, (Below.refl _ _).alloc (Nat.le_refl _) _⟩
  case round =>
    obtain ⟨k, hk, rfl, hBr, hb⟩ := hrel
    by_cases hlt : k < s.size
    · have hsn := map_take_snoc hi s.data.toList k (by simpa using hlt)
      have hcl : chkFrom 1 ((s.data.toList.take k).map hi) < 4294967296 := chkFrom_lt _ 1 (by decide)
      have hbl := s[k].toNat_lt
      have hch := chkFrom_one 1 ((s.data.toList.take k).map hi) (hi s[k])
      rw [hi_nat] at hch
      have hsn' : chkFrom 1 ((s.data.toList.take (k + 1)).map hi) = Bech.step (chkFrom 1 ((s.data.toList.take k).map hi)) (s[k].toNat / 32) := by rw [hsn]; exact hch
      have HS := Lib.hid hsn'; clear hsn hsn' hch
      generalize chkFrom 1 ((s.data.toList.take k).map hi) = cc at hcl hBr HS
      have HB := Lib.hid hBr; clear hBr
      go_wp2_with fail
      refine (add_one w.heap.size (s[k].toNat / 32) cc _ (by omega) (by omega) _ _ hcl (cell_one_new _ _ _ 0 _ rfl) ((Below.heap_alloc _ _ _ (lt_of_block HB.out)).trans HB.out)).mono ?_
      rintro e w2 ⟨rfl, h1, h2⟩
      go_wp2
      go_roundw
      case rel => exact ⟨k + 1, by omega, by go_num, by rw [HS.out]; exact h1, (hb.alloc hb.size _).grown h2 (by have := hb.size; simp; omega) (by intro k hk; injection hk with hk; omega)⟩
      case measure => simp [intOf]; omega
    · rw [List.take_of_length_le (by simpa using hlt)] at hBr
      have hcl : chkFrom 1 (s.data.toList.map hi) < 4294967296 := chkFrom_lt _ 1 (by decide)
      have hch := chkFrom_one 1 (s.data.toList.map hi) 0
      have HH := Lib.hid hch; clear hch
      generalize hcc : chkFrom 1 (s.data.toList.map hi) = cc at hcl hBr HH
      have HB := Lib.hid hBr; clear hBr
      clear hcc
      go_wp2_with fail
      refine (add_one w.heap.size 0 cc _ (by rfl) (by omega) _ _ hcl (cell_one_new _ _ _ 0 _ rfl) ((Below.heap_alloc _ _ _ (lt_of_block HB.out)).trans HB.out)).mono ?_
      rintro e w2 ⟨rfl, h1, h2⟩
      have hb2 : Below w.heap.size w w2 := (hb.alloc hb.size _).grown h2 (by have := hb.size; simp; omega) (by intro k hk; injection hk with hk; omega)
      have HB1 := Lib.hid h1
      clear h1 h2 hb
      go_wp2_with fail
      obtain ⟨wo, hwo⟩ : ∃ wo : World, wo = wr := ⟨_, rfl⟩
      subst hwo
      have hstep : Bech.step cc 0 = chkFrom 1 (s.data.toList.map hi ++ [0]) := HH.out.symm
      rw [hstep] at HB1
      clear hstep HH HB
      go_loopw [22] (fun i wr => ∃ k : Nat, k ≤ s.size ∧ i = .int .i64 k ∧ wr.heap[w.heap.size]? = some (.cells #[.int .u32 (chkFrom 1 (s.data.toList.map hi ++ 0 :: (s.data.toList.take k).map lo) : Nat)] 54 (0, 0)) ∧ Below w.heap.size w wr) (fun i _ => s.size - (intOf i).toNat)
      case atStart => exact ⟨0, Nat.zero_le _, rfl, HB1.out, hb2⟩
      case round =>
        obtain ⟨k, hk, rfl, hBr, hb⟩ := hrel
        clear HB1 hb2
        by_cases hlt : k < s.size
        · have hsn := map_take_snoc lo s.data.toList k (by simpa using hlt)
          have hcl : chkFrom 1 (s.data.toList.map hi ++ 0 :: (s.data.toList.take k).map lo) < 4294967296 := chkFrom_lt _ 1 (by decide)
          have hbl := s[k].toNat_lt
          have hch := chkFrom_one 1 (s.data.toList.map hi ++ 0 :: (s.data.toList.take k).map lo) (lo s[k])
          rw [lo_nat] at hch
          have hsn' : chkFrom 1 (s.data.toList.map hi ++ 0 :: (s.data.toList.take (k + 1)).map lo) = Bech.step (chkFrom 1 (s.data.toList.map hi ++ 0 :: (s.data.toList.take k).map lo)) (s[k].toNat % 32) := by
            rw [hsn, ← hch, List.append_assoc]; rfl
          have HS := Lib.hid hsn'; clear hsn hsn' hch
          generalize chkFrom 1 (s.data.toList.map hi ++ 0 :: (s.data.toList.take k).map lo) = cc at hcl hBr HS
          have HB := Lib.hid hBr; clear hBr
          go_wp2_with fail
          refine (add_one w.heap.size (s[k].toNat % 32) cc _ (by omega) (by omega) _ _ hcl (cell_one_new _ _ _ 0 _ rfl) ((Below.heap_alloc _ _ _ (lt_of_block HB.out)).trans HB.out)).mono ?_
          rintro e w2 ⟨rfl, h1, h2⟩
          go_wp2
          go_roundw
          case rel => exact ⟨k + 1, by omega, by go_num, by rw [HS.out]; exact h1, (hb.alloc hb.size _).grown h2 (by have := hb.size; simp; omega) (by intro k hk; injection hk with hk; omega)⟩
          case measure => simp [intOf]; omega
        · rw [List.take_of_length_le (by simpa using hlt)] at hBr
          have HB := Lib.hid hBr; clear hBr
          go_wp2
          go_ret
          exact ⟨rfl, HB.out, hb⟩
end Go.Proofs.YtnkhbhkmllnniaaDoor
