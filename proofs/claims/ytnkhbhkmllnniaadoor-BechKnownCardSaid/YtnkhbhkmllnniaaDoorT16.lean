/- The reference's Encode at every argument: EncPost. -/
import Derived.Test.YtnkhbhkmllnniaaDoorT15
import Derived.Test.YtnkhbhkmllnniaaDoorT1
import Derived.Test.YtnkhbhkmllnniaaDoorT2
import Derived.Test.YtnkhbhkmllnniaaDoorT5
import Derived.Test.YtnkhbhkmllnniaaDoorConv
namespace Go.Proofs.YtnkhbhkmllnniaaDoor
open Go.RowKit Bech Go.Shelf

theorem refCheck_n (l : List UInt8) (n : Nat) (hn : l.length = n) (A : Option Addr) (c : Nat) (w : World) (hl : n ≤ 1000000) (hA : Cells w A (bv l)) :
    Calls Tryd.prog 27 #[.slice A n c] w fun e w' => e = .returned (.int .u32 (chk l : Nat)) ∧ Below w.heap.size w w' := by
  subst hn; exact refCheck_any l A c w hl hA

set_option maxRecDepth 100000 in
set_option maxHeartbeats 2000000 in
theorem refEncode_any (s : ByteArray) (ws : List UInt8) (A : Option Addr) (c : Nat) (w : World) (hs : s.size ≤ 100000) (hl : ws.length ≤ 100000) (hA : Cells w A (bv ws)) :
    Calls Tryd.prog 11 #[.string s, .slice A ws.length c] w (EncPost s.data.toList ws w) := by
  cases hb0 : isHead s.data.toList with
  | false =>
    have he : encErr s.data.toList ws = 60 := by unfold encErr; rw [if_pos hb0]
    have HE := Lib.hid he; clear he
    have HB := Lib.hid hb0; clear hb0
    go_enter Tryd.func11, Tryd.ntmps11
    go_wp2_with fail
    refine (refHead_any s _ (by unfold maxLen; omega)).mono ?_
    rintro e w1 ⟨rfl, rfl⟩
    rw [HB.out]
    go_wp2_with fail
    go_ret2
    exact encPost_err HE.out (by decide) (Below.refl _ _)
  | true =>
    have hh := hb0
    unfold isHead at hh
    simp only [Bool.and_eq_true, decide_eq_true_eq, Array.length_toList] at hh
    obtain ⟨⟨hall, h1⟩, h83⟩ := hh
    have h83' : s.size ≤ 83 := h83
    clear h1 h83 hall
    have HHEAD := Lib.hid hb0; clear hb0
    go_enter Tryd.func11, Tryd.ntmps11
    go_wp2_with fail
    refine (refHead_any s _ (by unfold maxLen; omega)).mono ?_
    rintro e w1 ⟨rfl, rfl⟩
    rw [HHEAD.out]
    go_wp2_with fail
    go_loop [6] (fun i => ∃ k : Nat, k ≤ ws.length ∧ i = .int .i64 k ∧ (∀ b ∈ ws.take k, b.toNat ≤ 31)) (fun i => ws.length - (intOf i).toNat)
    case atStart => exact ⟨0, Nat.zero_le _, rfl, by intro b hb; cases hb⟩
    case round =>
      obtain ⟨k, hk, rfl, hsm⟩ := hrel
      have HSM := Lib.hid hsm; clear hsm
      by_cases hlt : k < ws.length
      · obtain ⟨ad, rfl, hc⟩ := hA.byte hlt
        clear hA
        by_cases hw : ws[k].toNat ≤ 31
        · have hsm1 := wordsOk_snoc HSM.out hlt hw
          have HS1 := Lib.hid hsm1; clear hsm1 HSM
          have hx8 := ws[k].toNat_lt
          go_wp2_with fail
          go_round
          case rel => exact ⟨k + 1, by omega, by go_num, HS1.out⟩
          case measure => simp [intOf]; omega
        · have he : encErr s.data.toList ws = 60 := by unfold encErr; rw [if_neg (by rw [HHEAD.out]; simp), if_pos (wordsOk_f hlt hw)]
          have HE := Lib.hid he; clear he
          have hx8 := ws[k].toNat_lt
          go_wp2_with fail
          go_ret2
          exact encPost_err HE.out (by decide) (Below.refl _ _)
      · have hok := HSM.out
        rw [List.take_of_length_le (by omega)] at hok
        have HOK := Lib.hid hok; clear hok HSM
        by_cases hlim : 32768 < s.size + ws.length + 7
        · have he : encErr s.data.toList ws = 3 := by
            unfold encErr
            rw [if_neg (by rw [HHEAD.out]; simp), if_neg (by rw [wordsOk_t HOK.out]; simp), if_pos (by simpa using hlim)]
          have HE := Lib.hid he; clear he
          have hlimI : (32768 : Int) < (s.size : Int) + 1 + (ws.length : Int) + 6 := by omega
          clear hlim
          go_wp2_with fail
          go_ret2
          exact encPost_err HE.out (by decide) (Below.refl _ _)
        · have he : encErr s.data.toList ws = 0 := by
            unfold encErr
            rw [if_neg (by rw [HHEAD.out]; simp), if_neg (by rw [wordsOk_t HOK.out]; simp), if_neg (by simpa using hlim)]
          have HE := Lib.hid he; clear he
          have hlimI : ¬ (32768 : Int) < (s.size : Int) + 1 + (ws.length : Int) + 6 := by omega
          have HLIM := Lib.hid hlim; clear hlim
          go_wp2_with fail
          refine (refHeads_any s _ (by omega)).mono ?_
          rintro e w2 ⟨v, rfl, hown, hb2⟩
          have hrow := Row.of_own hown
          have hA2 := hA.below hb2
          have HA := Lib.hid hA
          clear hown hA
          have hhl : (bv (heads s.data.toList)).length ≤ 200 := by simp [bv, heads]; omega
          have hb2s := hb2.size
          generalize hhd : heads s.data.toList = hd at hrow hhl
          have HHD := Lib.hid hhd; clear hhd
          go_wp2_with (first
            | (at_builtin; refine wpList_row_any sl22 rfl (.tmp 36) (.tmp 37) rfl w.heap.size _ (bv hd) (by rfl) hrow A ws.length c (bv ws) (by rfl) (bv_length _) hA2 (bv_one _) (by omega) (by omega) hb2s ?_; intro v3 w3 hrow3 hg3 hb3 hat3)
            | (at_builtin; refine wpList_row sl22 rfl (.tmp 39) (.tmp 40) rfl w.heap.size _ (bv hd ++ bv ws) (by rfl) (hrow3.alloc _) ⟨w3.heap.size, 0, none⟩ 6 6 (bv zeros6) (by rfl) rfl (World.news_of_block (heap_alloc_new w3 _)) (bv_one _) (by rw [List.length_append, bv_length ws]; omega) (by rw [List.length_append, bv_length ws]; omega) (by have := hb3.size; simp; omega) ?_; intro v4 w4 hrow4 hg4 hb4 hat4))
          have hrow4' : Row w4 w.heap.size 5 v4 (bv (hd ++ ws ++ zeros6)) := by rw [bv_append, bv_append]; exact hrow4
          have hb24 : Below w.heap.size w2 w4 := hb3.trans (((Below.refl _ _).alloc (by have := hb3.size; omega) _).trans hb4)
          have hb04 : Below w.heap.size w w4 := hb2.trans hb24
          obtain ⟨A4, c4, hv4, hcap4, hcells4⟩ := hrow4'.shape
          rw [bv_length] at hv4 hcap4
          subst hv4
          have hln : (hd ++ ws ++ zeros6).length ≤ 200000 := by
            rw [bv_length] at hhl
            simp only [List.length_append, zeros6, List.length_cons, List.length_nil]; omega
          have HCE := Lib.hid hcells4; clear hcells4 hrow4' hrow4 hg4 hb4 hat4 hrow3 hg3 hb3 hat3 hrow hA2 hb24 hcap4 hb2 hb2s
          refine (refCheck_n (hd ++ ws ++ zeros6) _ rfl _ _ _ (by omega) HCE.out).mono ?_
          rintro e w5 ⟨rfl, hb5⟩
          have hb05 : Below w.heap.size w w5 := hb04.trans (hb5.mono hb04.size)
          have hc4 := chk_lt (hd ++ ws ++ zeros6)
          have hxr : bits .xor .u32 ((chk (hd ++ ws ++ zeros6) : Nat) : Int) 1 = ((sumOf s.data.toList ws : Nat) : Int) := by
            unfold sumOf
            rw [HHD.out]
            exact u32_xor_nat _ 1 hc4 (by decide)
          have hsml : sumOf s.data.toList ws < 4294967296 := by
            unfold sumOf
            rw [HHD.out]
            exact Nat.xor_lt_two_pow (n := 32) hc4 (by decide)
          obtain ⟨c6, w6, hconv, hrow6, hb6, hlt6⟩ := conv_bytes (P := Tryd.prog) w5 9 22 5 (s ++ ByteArray.mk #[49]) Tryd.underlying9 Tryd.underlying22 Tryd.underlying5 (by rw [str_app_size]; omega)
          rw [str_app_size] at hconv hrow6
          rw [str_app] at hrow6
          have hb06 : Below w.heap.size w w6 := hb05.trans (hb6.mono hb05.size)
          have HROW6 := Lib.hid (hrow6.base_le hb05.size); clear hrow6
          generalize chk (hd ++ ws ++ zeros6) = cc at hxr hc4
          generalize hsm : sumOf s.data.toList ws = sm at hxr hsml
          have HSM := Lib.hid hsm; clear hsm hc4 hb04 hb5 hb05 hb6 hln hhl HHD HCE
          go_wp2_with fail
          clear hconv hxr
          go_loopw [9, 10] (fun v i wr => ∃ k : Nat, k ≤ ws.length ∧ i = .int .i64 k ∧ Row wr w.heap.size 5 v (bv (s.data.toList ++ [49] ++ wordsText (ws.take k))) ∧ Below w.heap.size w wr) (fun _ i _ => ws.length - (intOf i).toNat)
          case atStart => exact ⟨0, Nat.zero_le _, rfl, by simpa [wordsText] using HROW6.out, hb06⟩
          case round =>
            obtain ⟨k2, hk2, rfl, hrow, hbr⟩ := hrel
            have hlen6 : (bv (s.data.toList ++ [49] ++ wordsText (ws.take k2))).length ≤ 200000 := by simp [bv, wordsText]; omega
            by_cases hlt2 : k2 < ws.length
            · obtain ⟨ad, rfl, hc⟩ := (HA.out.below hbr).byte hlt2
              clear HA
              have hw31 : ws[k2].toNat < 32 := by have := HOK.out ws[k2] (List.getElem_mem _); omega
              have hsn : wordsText (ws.take (k2 + 1)) = wordsText (ws.take k2) ++ [letter ws[k2].toNat] := by
                unfold wordsText
                rw [List.take_succ_eq_append_getElem hlt2, List.map_append]
                rfl
              generalize ws[k2].toNat = x at hc hw31 hsn
              have HSN := Lib.hid hsn; clear hsn
              have hix := index_letter x hw31 .u8
              clear hw31
              have HL6 := Lib.hid hlen6; clear hlen6
              generalize hxs : bv (s.data.toList ++ [49] ++ wordsText (ws.take k2)) = xs at hrow HL6
              have HXS := Lib.hid hxs; clear hxs
              go_wp2_with (at_builtin; refine wpList_row1 sl22 rfl _ _ rfl w.heap.size _ xs (by rfl) hrow _ (by rfl) (by rfl) (by have := HL6.out; omega) (by have := HL6.out; omega) hbr.size ?_; intro v' wn hrow1 hg1 hb1 hat)
              go_roundw
              case rel => exact ⟨k2 + 1, by omega, by go_num, by rw [HSN.out, ← List.append_assoc, bv_snoc, HXS.out]; exact hrow1, hbr.trans hb1⟩
              case measure => simp [intOf]; omega
            · have htk : ws.take k2 = ws := List.take_of_length_le (by omega)
              rw [htk] at hrow hlen6
              have HROW7 := Lib.hid hrow; clear hrow htk HROW6 HA hlen6
              obtain ⟨wo, hwo⟩ : ∃ wo : World, wo = wr := ⟨_, rfl⟩
              subst hwo
              go_wp2_with fail
              go_loopw [9, 11] (fun v i wr => ∃ (j : Nat) (q : Int), j ≤ 6 ∧ q = 25 - 5 * (j : Int) ∧ i = .int .i64 q ∧ Row wr w.heap.size 5 v (bv (s.data.toList ++ [49] ++ wordsText ws ++ (sumText sm).take j)) ∧ Below w.heap.size w wr) (fun _ i _ => (intOf i + 5).toNat)
              case atStart => exact ⟨0, 25, by omega, by omega, rfl, by simpa using HROW7.out, hbr⟩
              case round =>
                obtain ⟨j, q, hj, hq, rfl, hrow, hbr⟩ := hrel
                have hlen6 : (bv (s.data.toList ++ [49] ++ wordsText ws ++ (sumText sm).take j)).length ≤ 200000 := by
                  simp [bv, wordsText]; omega
                have HL6 := Lib.hid hlen6; clear hlen6
                rcases (by omega : j = 0 ∨ j = 1 ∨ j = 2 ∨ j = 3 ∨ j = 4 ∨ j = 5 ∨ j = 6) with rfl | rfl | rfl | rfl | rfl | rfl | rfl
                · obtain rfl : q = 25 := by omega
                  clear hq hj
                  have hy : (sm / 33554432 % 32 : Nat) < 32 := Nat.mod_lt _ (by decide)
                  have hye : bits .and .u32 ((sm : Int) / 33554432) 31 = ((sm / 33554432 % 32 : Nat) : Int) := mask5_u32 (a := sm / 33554432) (by omega) (by omega)
                  have hix : ∀ W, (Instr.index 9 (.string ⟨#[113, 112, 122, 114, 121, 57, 120, 56, 103, 102, 50, 116, 118, 100, 119, 48, 115, 51, 106, 110, 53, 52, 107, 104, 99, 101, 54, 109, 117, 97, 55, 108]⟩) (.int .u32 (bits .and .u32 ((sm : Int) / 33554432) 31))).run Tryd.prog W = .ok (.int .u8 ((letter (sm / 33554432 % 32)).toNat : Int)) W := by rw [hye]; exact index_letter _ hy .u32
                  clear hy hye
                  generalize hxs : bv (s.data.toList ++ [49] ++ wordsText ws ++ (sumText sm).take 0) = xs at hrow HL6
                  have HXS := Lib.hid hxs; clear hxs
                  go_wp2_with (at_builtin; refine wpList_row1 sl22 rfl _ _ rfl w.heap.size _ xs (by rfl) hrow _ (by rfl) (by rfl) (by have := HL6.out; omega) (by have := HL6.out; omega) hbr.size ?_; intro v' wn hrow1 hg1 hb1 hat)
                  go_roundw
                  case rel =>
                    refine ⟨1, 20, by omega, by omega, rfl, ?_, hbr.trans hb1⟩
                    have h := hrow1
                    rw [← HXS.out, ← bv_snoc, List.append_assoc] at h
                    exact h
                  case measure => simp [intOf]
                · obtain rfl : q = 20 := by omega
                  clear hq hj
                  have hy : (sm / 1048576 % 32 : Nat) < 32 := Nat.mod_lt _ (by decide)
                  have hye : bits .and .u32 ((sm : Int) / 1048576) 31 = ((sm / 1048576 % 32 : Nat) : Int) := mask5_u32 (a := sm / 1048576) (by omega) (by omega)
                  have hix : ∀ W, (Instr.index 9 (.string ⟨#[113, 112, 122, 114, 121, 57, 120, 56, 103, 102, 50, 116, 118, 100, 119, 48, 115, 51, 106, 110, 53, 52, 107, 104, 99, 101, 54, 109, 117, 97, 55, 108]⟩) (.int .u32 (bits .and .u32 ((sm : Int) / 1048576) 31))).run Tryd.prog W = .ok (.int .u8 ((letter (sm / 1048576 % 32)).toNat : Int)) W := by rw [hye]; exact index_letter _ hy .u32
                  clear hy hye
                  generalize hxs : bv (s.data.toList ++ [49] ++ wordsText ws ++ (sumText sm).take 1) = xs at hrow HL6
                  have HXS := Lib.hid hxs; clear hxs
                  go_wp2_with (at_builtin; refine wpList_row1 sl22 rfl _ _ rfl w.heap.size _ xs (by rfl) hrow _ (by rfl) (by rfl) (by have := HL6.out; omega) (by have := HL6.out; omega) hbr.size ?_; intro v' wn hrow1 hg1 hb1 hat)
                  go_roundw
                  case rel =>
                    refine ⟨2, 15, by omega, by omega, rfl, ?_, hbr.trans hb1⟩
                    have h := hrow1
                    rw [← HXS.out, ← bv_snoc, List.append_assoc] at h
                    exact h
                  case measure => simp [intOf]
                · obtain rfl : q = 15 := by omega
                  clear hq hj
                  have hy : (sm / 32768 % 32 : Nat) < 32 := Nat.mod_lt _ (by decide)
                  have hye : bits .and .u32 ((sm : Int) / 32768) 31 = ((sm / 32768 % 32 : Nat) : Int) := mask5_u32 (a := sm / 32768) (by omega) (by omega)
                  have hix : ∀ W, (Instr.index 9 (.string ⟨#[113, 112, 122, 114, 121, 57, 120, 56, 103, 102, 50, 116, 118, 100, 119, 48, 115, 51, 106, 110, 53, 52, 107, 104, 99, 101, 54, 109, 117, 97, 55, 108]⟩) (.int .u32 (bits .and .u32 ((sm : Int) / 32768) 31))).run Tryd.prog W = .ok (.int .u8 ((letter (sm / 32768 % 32)).toNat : Int)) W := by rw [hye]; exact index_letter _ hy .u32
                  clear hy hye
                  generalize hxs : bv (s.data.toList ++ [49] ++ wordsText ws ++ (sumText sm).take 2) = xs at hrow HL6
                  have HXS := Lib.hid hxs; clear hxs
                  go_wp2_with (at_builtin; refine wpList_row1 sl22 rfl _ _ rfl w.heap.size _ xs (by rfl) hrow _ (by rfl) (by rfl) (by have := HL6.out; omega) (by have := HL6.out; omega) hbr.size ?_; intro v' wn hrow1 hg1 hb1 hat)
                  go_roundw
                  case rel =>
                    refine ⟨3, 10, by omega, by omega, rfl, ?_, hbr.trans hb1⟩
                    have h := hrow1
                    rw [← HXS.out, ← bv_snoc, List.append_assoc] at h
                    exact h
                  case measure => simp [intOf]
                · obtain rfl : q = 10 := by omega
                  clear hq hj
                  have hy : (sm / 1024 % 32 : Nat) < 32 := Nat.mod_lt _ (by decide)
                  have hye : bits .and .u32 ((sm : Int) / 1024) 31 = ((sm / 1024 % 32 : Nat) : Int) := mask5_u32 (a := sm / 1024) (by omega) (by omega)
                  have hix : ∀ W, (Instr.index 9 (.string ⟨#[113, 112, 122, 114, 121, 57, 120, 56, 103, 102, 50, 116, 118, 100, 119, 48, 115, 51, 106, 110, 53, 52, 107, 104, 99, 101, 54, 109, 117, 97, 55, 108]⟩) (.int .u32 (bits .and .u32 ((sm : Int) / 1024) 31))).run Tryd.prog W = .ok (.int .u8 ((letter (sm / 1024 % 32)).toNat : Int)) W := by rw [hye]; exact index_letter _ hy .u32
                  clear hy hye
                  generalize hxs : bv (s.data.toList ++ [49] ++ wordsText ws ++ (sumText sm).take 3) = xs at hrow HL6
                  have HXS := Lib.hid hxs; clear hxs
                  go_wp2_with (at_builtin; refine wpList_row1 sl22 rfl _ _ rfl w.heap.size _ xs (by rfl) hrow _ (by rfl) (by rfl) (by have := HL6.out; omega) (by have := HL6.out; omega) hbr.size ?_; intro v' wn hrow1 hg1 hb1 hat)
                  go_roundw
                  case rel =>
                    refine ⟨4, 5, by omega, by omega, rfl, ?_, hbr.trans hb1⟩
                    have h := hrow1
                    rw [← HXS.out, ← bv_snoc, List.append_assoc] at h
                    exact h
                  case measure => simp [intOf]
                · obtain rfl : q = 5 := by omega
                  clear hq hj
                  have hy : (sm / 32 % 32 : Nat) < 32 := Nat.mod_lt _ (by decide)
                  have hye : bits .and .u32 ((sm : Int) / 32) 31 = ((sm / 32 % 32 : Nat) : Int) := mask5_u32 (a := sm / 32) (by omega) (by omega)
                  have hix : ∀ W, (Instr.index 9 (.string ⟨#[113, 112, 122, 114, 121, 57, 120, 56, 103, 102, 50, 116, 118, 100, 119, 48, 115, 51, 106, 110, 53, 52, 107, 104, 99, 101, 54, 109, 117, 97, 55, 108]⟩) (.int .u32 (bits .and .u32 ((sm : Int) / 32) 31))).run Tryd.prog W = .ok (.int .u8 ((letter (sm / 32 % 32)).toNat : Int)) W := by rw [hye]; exact index_letter _ hy .u32
                  clear hy hye
                  generalize hxs : bv (s.data.toList ++ [49] ++ wordsText ws ++ (sumText sm).take 4) = xs at hrow HL6
                  have HXS := Lib.hid hxs; clear hxs
                  go_wp2_with (at_builtin; refine wpList_row1 sl22 rfl _ _ rfl w.heap.size _ xs (by rfl) hrow _ (by rfl) (by rfl) (by have := HL6.out; omega) (by have := HL6.out; omega) hbr.size ?_; intro v' wn hrow1 hg1 hb1 hat)
                  go_roundw
                  case rel =>
                    refine ⟨5, 0, by omega, by omega, rfl, ?_, hbr.trans hb1⟩
                    have h := hrow1
                    rw [← HXS.out, ← bv_snoc, List.append_assoc] at h
                    exact h
                  case measure => simp [intOf]
                · obtain rfl : q = 0 := by omega
                  clear hq hj
                  have hy : (sm % 32 : Nat) < 32 := Nat.mod_lt _ (by decide)
                  have hye : bits .and .u32 ((sm : Int)) 31 = ((sm % 32 : Nat) : Int) := mask5_u32 (a := sm) (by omega) (by omega)
                  have hix : ∀ W, (Instr.index 9 (.string ⟨#[113, 112, 122, 114, 121, 57, 120, 56, 103, 102, 50, 116, 118, 100, 119, 48, 115, 51, 106, 110, 53, 52, 107, 104, 99, 101, 54, 109, 117, 97, 55, 108]⟩) (.int .u32 (bits .and .u32 ((sm : Int)) 31))).run Tryd.prog W = .ok (.int .u8 ((letter (sm % 32)).toNat : Int)) W := by rw [hye]; exact index_letter _ hy .u32
                  clear hy hye
                  generalize hxs : bv (s.data.toList ++ [49] ++ wordsText ws ++ (sumText sm).take 5) = xs at hrow HL6
                  have HXS := Lib.hid hxs; clear hxs
                  go_wp2_with (at_builtin; refine wpList_row1 sl22 rfl _ _ rfl w.heap.size _ xs (by rfl) hrow _ (by rfl) (by rfl) (by have := HL6.out; omega) (by have := HL6.out; omega) hbr.size ?_; intro v' wn hrow1 hg1 hb1 hat)
                  go_roundw
                  case rel =>
                    refine ⟨6, -5, by omega, by omega, rfl, ?_, hbr.trans hb1⟩
                    have h := hrow1
                    rw [← HXS.out, ← bv_snoc, List.append_assoc] at h
                    exact h
                  case measure => simp [intOf]
                · obtain rfl : q = -5 := by omega
                  clear hq hj
                  obtain ⟨A7, c7, hv7, hcap7, hcells7⟩ := hrow.shape
                  have hcv := conv_str hcells7 c7 22 9 5 Tryd.underlying22 Tryd.underlying5 Tryd.underlying9
                  rw [bv_length] at hv7
                  subst hv7
                  clear hrow hcells7 hcap7
                  generalize htx : s.data.toList ++ [49] ++ wordsText ws ++ (sumText sm).take 6 = tx at hcv
                  have HTX := Lib.hid htx; clear htx
                  go_wp2_with fail
                  go_ret2
                  unfold EncPost encText
                  rw [HE.out, if_pos rfl, HSM.out]
                  have e : s.data.toList ++ [49] ++ wordsText ws ++ sumText sm = tx := HTX.out
                  rw [e]
                  exact ⟨rfl, hbr⟩
end Go.Proofs.YtnkhbhkmllnniaaDoor
