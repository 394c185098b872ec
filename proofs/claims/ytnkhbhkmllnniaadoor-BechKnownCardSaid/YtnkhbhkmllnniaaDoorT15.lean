/- Encode at every argument: EncPost. -/
import Derived.Test.YtnkhbhkmllnniaaDoorT14
namespace Go.Proofs.YtnkhbhkmllnniaaDoor
open Go.RowKit Bech Go.Shelf

theorem str_toList (s : ByteArray) : s.toList = s.data.toList := Go.ByteArray.toList_eq s
def EncPost (h ws : List UInt8) (w : World) (e : Ending) (w' : World) : Prop :=
  e = .returned (.tuple #[.string ⟨(encText h ws).toArray⟩, .int .i64 (encErr h ws)]) ∧ Below w.heap.size w w'
theorem encPost_err {h ws : List UInt8} {w w' : World} {n : Int} (he : encErr h ws = n) (hn : n ≠ 0) (hb : Below w.heap.size w w') :
    EncPost h ws w (.returned (.tuple #[.string ⟨#[]⟩, .int .i64 n])) w' := by
  unfold EncPost encText
  rw [he, if_neg hn]
  exact ⟨rfl, hb⟩

set_option maxHeartbeats 1000000 in
theorem encode_head (s : ByteArray) (ws : List UInt8) (A : Option Addr) (c : Nat) (w : World) (hs : s.size ≤ 1000000) (hb0 : isHead s.data.toList = false) :
    Calls Tryd.prog 10 #[.string s, .slice A ws.length c] w (EncPost s.data.toList ws w) := by
  have he : encErr s.data.toList ws = 60 := by unfold encErr; rw [if_pos hb0]
  have HE := Lib.hid he; clear he
  by_cases h0 : s.size = 0
  · have hl : s.data.toList = [] := by
      have : s.data.toList.length = 0 := by simpa using h0
      exact List.eq_nil_of_length_eq_zero this
    have hs0 : s = ⟨#[]⟩ := by
      cases s; simp at hl ⊢; exact hl
    subst hs0
    clear hb0 hl h0 hs
    go_enter Tryd.func10, Tryd.ntmps10
    go_wp2_with (go_at_call 18; refine (Tryd.strings_IndexFunc_runes 19 #[] (enters_of Tryd.func19 (by kernel_rfl) rfl) oddRune _ _ (odd_gives _)).mono ?_; rintro e w1 ⟨rfl, hb1⟩)
    go_ret2
    exact encPost_err HE.out (by decide) hb1
  · have hne : s.toList.isEmpty = false := by
      rw [str_toList]
      cases hd : s.data.toList with
      | nil => exfalso; apply h0; have := congrArg List.length hd; simpa using this
      | cons a l => rfl
    have hne2 : (!s.toList.isEmpty) = true := by rw [hne]; rfl
    by_cases h83 : 83 < s.size
    · clear hb0
      go_enter Tryd.func10, Tryd.ntmps10
      go_wp2_with (go_at_call 18; refine (Tryd.strings_IndexFunc_runes 19 #[] (enters_of Tryd.func19 (by kernel_rfl) rfl) oddRune _ _ (odd_gives _)).mono ?_; rintro e w1 ⟨rfl, hb1⟩)
      all_goals (go_ret2; exact encPost_err HE.out (by decide) hb1)
    · have hall : s.data.toList.all okc = false := by
        unfold isHead at hb0
        rcases h : s.data.toList.all okc with _ | _
        · rfl
        · rw [h] at hb0; simp at hb0; omega
      have hi := idx_nonneg s hall
      clear hb0 hall
      go_enter Tryd.func10, Tryd.ntmps10
      go_wp2_with (go_at_call 18; refine (Tryd.strings_IndexFunc_runes 19 #[] (enters_of Tryd.func19 (by kernel_rfl) rfl) oddRune _ _ (odd_gives _)).mono ?_; rintro e w1 ⟨rfl, hb1⟩)
      all_goals (go_ret2; exact encPost_err HE.out (by decide) hb1)

theorem wordsOk_snoc {ws : List UInt8} {k : Nat} (h : ∀ b ∈ ws.take k, b.toNat ≤ 31) (hk : k < ws.length) (hw : ws[k].toNat ≤ 31) : ∀ b ∈ ws.take (k + 1), b.toNat ≤ 31 := by
  intro b hb
  rw [List.take_succ_eq_append_getElem hk] at hb
  rcases List.mem_append.1 hb with h' | h'
  · exact h b h'
  · rw [List.mem_singleton.1 h']; exact hw
theorem wordsOk_t {ws : List UInt8} (h : ∀ b ∈ ws, b.toNat ≤ 31) : wordsOk ws = true := by
  unfold wordsOk
  rw [List.all_eq_true]
  intro b hb
  simpa using h b hb
theorem wordsOk_f {ws : List UInt8} {k : Nat} (hk : k < ws.length) (h : ¬ ws[k].toNat ≤ 31) : wordsOk ws = false := by
  unfold wordsOk
  rw [List.all_eq_false]
  exact ⟨ws[k], List.getElem_mem _, by simpa using h⟩

theorem str_app (s : ByteArray) : (s ++ ByteArray.mk #[49]).data.toList = s.data.toList ++ [49] := by simp
theorem str_app_size (s : ByteArray) : (s ++ ByteArray.mk #[49]).size = s.size + 1 := by simp; rfl
theorem mask5_u32 {a : Nat} {x : Int} (hx : x = (a : Int)) (ha : a < 4294967296) : bits .and .u32 x 31 = ((a % 32 : Nat) : Int) := by
  subst hx
  have := u32_and_nat a 31 ha (by decide)
  rw [nat_mask5] at this
  exact this
theorem add_zeros (B c0 : Nat) (W : World) (hc0 : c0 < 4294967296)
    (hB : W.heap[B]? = some (.cells #[.int .u32 (c0 : Nat)] 54 (0, 0))) :
    Calls Tryd.prog 21 #[.pointer (some ⟨B, 0, none⟩), .slice (some ⟨W.heap.size, 0, none⟩) 6 6] (W.alloc (.cells #[.int .u8 0, .int .u8 0, .int .u8 0, .int .u8 0, .int .u8 0, .int .u8 0] 5))
      fun e w' => e = .returned (.tuple #[]) ∧ w'.heap[B]? = some (.cells #[.int .u32 (chkFrom c0 zeros6 : Nat)] 54 (0, 0)) ∧ W.grownBy w' (some B) := by
  refine (add_any B zeros6 (some ⟨W.heap.size, 0, none⟩) 6 c0 _ (by decide) hc0 (fun _ => ⟨_, rfl, fun j u hj => ?_⟩) ((Below.heap_alloc _ _ _ (lt_of_block hB)).trans hB)).mono ?_
  · exact World.news_of_block (heap_alloc_new W _) j u hj
  · rintro e w' ⟨rfl, h1, h2⟩
    exact ⟨rfl, h1, (World.grownBy_alloc W _ _).trans h2⟩

set_option maxRecDepth 100000 in
set_option maxHeartbeats 2000000 in
theorem encode_good (s : ByteArray) (ws : List UInt8) (A : Option Addr) (c : Nat) (w : World) (hs : s.size ≤ 1000000) (hl : ws.length ≤ 1000000) (hA : Cells w A (bv ws)) (hb0 : isHead s.data.toList = true) :
    Calls Tryd.prog 10 #[.string s, .slice A ws.length c] w (EncPost s.data.toList ws w) := by
  have hh := hb0
  unfold isHead at hh
  simp only [Bool.and_eq_true, decide_eq_true_eq, Array.length_toList] at hh
  obtain ⟨⟨hall, h1⟩, h83⟩ := hh
  have h1' : 1 ≤ s.size := h1
  have h83' : s.size ≤ 83 := h83
  clear h1 h83
  have hne : s.toList.isEmpty = false := by
    rw [str_toList]
    cases hd : s.data.toList with
    | nil =>
      exfalso
      have h : s.data.toList.length = 0 := by rw [hd]; rfl
      have h2 : s.size = 0 := by simpa using h
      omega
    | cons a l => rfl
  have hne2 : (!s.toList.isEmpty) = true := by rw [hne]; rfl
  have hi := idx_neg s hall
  have HI := Lib.hid hi; clear hi
  have HALL := Lib.hid hall; clear hall
  have HHEAD := Lib.hid hb0; clear hb0
  go_enter Tryd.func10, Tryd.ntmps10
  go_wp2_with fail
  refine (Tryd.strings_IndexFunc_runes 19 #[] (enters_of Tryd.func19 (by kernel_rfl) rfl) oddRune _ _ (odd_gives _)).mono ?_
  rintro e w1 ⟨rfl, hb1⟩
  rw [HI.out]
  clear HI
  have hA1 := hA.below hb1
  clear hA
  go_wp2_with fail
  go_loop [29] (fun i => ∃ k : Nat, k ≤ ws.length ∧ i = .int .i64 k ∧ (∀ b ∈ ws.take k, b.toNat ≤ 31)) (fun i => ws.length - (intOf i).toNat)
  case atStart => exact ⟨0, Nat.zero_le _, rfl, by intro b hb; cases hb⟩
  case round =>
    obtain ⟨k, hk, rfl, hsm⟩ := hrel
    have HSM := Lib.hid hsm; clear hsm
    by_cases hlt : k < ws.length
    · obtain ⟨ad, rfl, hc⟩ := hA1.byte hlt
      clear hA1
      by_cases hw : ws[k].toNat ≤ 31
      · have hsm1 := wordsOk_snoc HSM.out hlt hw
        have HS1 := Lib.hid hsm1; clear hsm1 HSM
        have hx8 := ws[k].toNat_lt
        go_wp2_with fail
        go_round
        case rel => exact ⟨k + 1, by omega, by go_num, HS1.out⟩
        case measure => simp [intOf]; omega
      · have he : encErr s.data.toList ws = 60 := by unfold encErr; rw [if_neg (by rw [HHEAD.out]; simp), if_pos (wordsOk_f hlt hw)]
        have HE := Lib.hid he; clear he
        have hx8 := ws[k].toNat_lt
        go_wp2_with fail
        go_ret2
        exact encPost_err HE.out (by decide) hb1
    · have hok := HSM.out
      rw [List.take_of_length_le (by omega)] at hok
      have HOK := Lib.hid hok; clear hok HSM
      by_cases hlim : 32768 < s.size + ws.length + 7
      · have he : encErr s.data.toList ws = 3 := by
          unfold encErr
          rw [if_neg (by rw [HHEAD.out]; simp), if_neg (by rw [wordsOk_t HOK.out]; simp), if_pos (by simpa using hlim)]
        have HE := Lib.hid he; clear he
        have hlimI : (32768 : Int) < (s.size : Int) + (ws.length : Int) + 7 := by omega
        clear hlim
        go_wp2_with fail
        go_ret2
        exact encPost_err HE.out (by decide) hb1
      · have he : encErr s.data.toList ws = 0 := by
          unfold encErr
          rw [if_neg (by rw [HHEAD.out]; simp), if_neg (by rw [wordsOk_t HOK.out]; simp), if_neg (by simpa using hlim)]
        have HE := Lib.hid he; clear he
        have hlimI : ¬ (32768 : Int) < (s.size : Int) + (ws.length : Int) + 7 := by omega
        have HLIM := Lib.hid hlim; clear hlim
        go_wp2_with fail
        refine (head_any s _ hs).mono ?_
        rintro e w2 ⟨rfl, hB2, hb2⟩
        have HB2 := Lib.hid hB2; clear hB2
        go_wp2_with fail
        have hB1lt : w1.heap.size < w2.heap.size := lt_of_block HB2.out
        refine (add_any w1.heap.size ws _ _ _ _ hl (chk_lt _) (hA1.below hb2) HB2.out).mono ?_
        rintro e w3 ⟨rfl, hB3, hg3⟩
        have hc3 : chkFrom (chk (heads s.data.toList)) ws < 4294967296 := chkFrom_lt _ _ (chk_lt _)
        have HB3 := Lib.hid hB3; clear hB3 HB2
        go_wp2_with fail
        refine (add_zeros w1.heap.size _ _ hc3 HB3.out).mono ?_
        rintro e w4 ⟨rfl, hB4, hg4⟩
        have hsum : chkFrom (chkFrom (chk (heads s.data.toList)) ws) zeros6 = chk (heads s.data.toList ++ ws ++ zeros6) := by
          unfold chk; rw [chkFrom_append, chkFrom_append]
        rw [hsum] at hB4
        clear hc3 hsum
        have hk : ∀ k, some w1.heap.size = some k → w1.heap.size ≤ k := by intro k hk; injection hk with hk; omega
        have hb13 := hb2.grown hg3 hb2.size hk
        have hb14 : Below w1.heap.size w1 w4 := hb13.grown hg4 hb13.size hk
        have hb4 : Below w.heap.size w w4 := hb1.trans (hb14.mono hb1.size)
        have hA4 := hA1.below hb14
        have hBlt : w1.heap.size < w4.heap.size := lt_of_block hB4
        have hc4 := chk_lt (heads s.data.toList ++ ws ++ zeros6)
        have HB4 := Lib.hid hB4; clear hB4 HB3 hk hb13 hb14 hb2 hg3 hg4 hA1 hB1lt
        generalize w1.heap.size = B at HB4 hBlt
        clear hb1
        go_wp2_with fail
        refine (writeString_any w4.heap.size w4.heap.size [] _ _ (Lib.fresh_isBuilder 47 5 w4) (by rw [str_app_size]; simp; omega) (by simp)).mono ?_
        rintro e w5 ⟨rfl, hbd5, hb5⟩
        have hbd : Lib.IsBuilder 47 5 w4.heap.size w4.heap.size (bv (s.data.toList ++ [49])) w5 := by
          have h := hbd5
          rw [List.nil_append, Lib.strCells_eq, str_app] at h
          exact .inr h
        have hb45 : Below w4.heap.size w4 w5 := ((Below.refl _ _).alloc (Nat.le_refl _) _).trans hb5
        have HBD := Lib.hid hbd; clear hbd hbd5 hb5
        go_wp2_with fail
        go_loopw [56] (fun i wr => ∃ k : Nat, k ≤ ws.length ∧ i = .int .i64 k ∧ Lib.IsBuilder 47 5 w4.heap.size w4.heap.size (bv (s.data.toList ++ [49] ++ wordsText (ws.take k))) wr ∧ Below w4.heap.size w4 wr) (fun i _ => ws.length - (intOf i).toNat)
        case atStart => exact ⟨0, Nat.zero_le _, rfl, by simpa [wordsText] using HBD.out, hb45⟩
        case round =>
          obtain ⟨k2, hk2, rfl, hbd, hbr⟩ := hrel
          have HBD2 := Lib.hid hbd; clear hbd
          by_cases hlt2 : k2 < ws.length
          · obtain ⟨ad, rfl, hc⟩ := (hA4.below hbr).byte hlt2
            clear hA4
            have hw31 : ws[k2].toNat < 32 := by have := HOK.out ws[k2] (List.getElem_mem _); omega
            have hsn : wordsText (ws.take (k2 + 1)) = wordsText (ws.take k2) ++ [letter ws[k2].toNat] := by
              unfold wordsText
              rw [List.take_succ_eq_append_getElem hlt2, List.map_append]
              rfl
            generalize ws[k2].toNat = x at hc hw31 hsn
            have HSN := Lib.hid hsn; clear hsn
            have hix := index_letter x hw31 .u8
            clear hw31
            go_wp2_with fail
            refine (writeByte_any w4.heap.size w4.heap.size _ _ _ HBD2.out (by simp [bv, wordsText]; omega) hbr.size).mono ?_
            rintro e w6 ⟨rfl, hbd6, hb6⟩
            have hb46 := hbr.trans hb6
            have HBD6 := Lib.hid hbd6; clear hbd6 hix
            go_wp2_with fail
            go_roundw
            case rel => exact ⟨k2 + 1, by omega, by go_num, .inr (by rw [HSN.out, ← List.append_assoc, bv_snoc]; exact HBD6.out), hb46⟩
            case measure => simp [intOf]; omega
          · have htk : ws.take k2 = ws := List.take_of_length_le (by omega)
            have hbd3 := HBD2.out
            rw [htk] at hbd3
            have HBD3 := Lib.hid hbd3; clear hbd3 htk HBD2 HBD hA4
            obtain ⟨wo, hwo⟩ : ∃ wo : World, wo = wr := ⟨_, rfl⟩
            subst hwo
            go_wp2_with fail
            go_loopw [13] (fun i wr => ∃ (j : Nat) (q : Int), j ≤ 6 ∧ q = 25 - 5 * (j : Int) ∧ i = .int .i64 q ∧ Lib.IsBuilder 47 5 w4.heap.size w4.heap.size (bv (s.data.toList ++ [49] ++ wordsText ws ++ (sumText (sumOf s.data.toList ws)).take j)) wr ∧ Below w4.heap.size w4 wr) (fun i _ => (intOf i + 5).toNat)
            case atStart => exact ⟨0, 25, by omega, by omega, rfl, by simpa using HBD3.out, hbr⟩
            case round =>
              obtain ⟨j, q, hj, hq, rfl, hbd, hbr⟩ := hrel
              have HBD4 := Lib.hid hbd; clear hbd
              have hBr : wr.heap[B]? = _ := (hbr.block B hBlt).trans HB4.out
              have hcell := cell_of_one hBr
              clear hBr
              have hxr : bits .xor .u32 ((chk (heads s.data.toList ++ ws ++ zeros6) : Nat) : Int) 1 = ((sumOf s.data.toList ws : Nat) : Int) := u32_xor_nat _ 1 hc4 (by decide)
              generalize chk (heads s.data.toList ++ ws ++ zeros6) = cc at hcell hxr
              have hlen6 : (bv (s.data.toList ++ [49] ++ wordsText ws ++ (sumText (sumOf s.data.toList ws)).take j)).length + 1 ≤ 140737488355328 := by
                simp [bv, wordsText]; omega
              have HL6 := Lib.hid hlen6; clear hlen6
              generalize hsm : sumOf s.data.toList ws = sm at hxr
              have hsml : sm < 4294967296 := by rw [← hsm]; exact Nat.xor_lt_two_pow (n := 32) hc4 (by decide)
              have HSM := Lib.hid hsm; clear hsm
              rcases (by omega : j = 0 ∨ j = 1 ∨ j = 2 ∨ j = 3 ∨ j = 4 ∨ j = 5 ∨ j = 6) with rfl | rfl | rfl | rfl | rfl | rfl | rfl
              · obtain rfl : q = 25 := by omega
                clear hq hj
                have hy : (sm / 33554432 % 32 : Nat) < 32 := Nat.mod_lt _ (by decide)
                have hye : bits .and .u32 ((sm : Int) / 33554432) 31 = ((sm / 33554432 % 32 : Nat) : Int) := mask5_u32 (a := sm / 33554432) (by omega) (by omega)
                have hix : ∀ W, (Instr.index 9 (.string ⟨#[113, 112, 122, 114, 121, 57, 120, 56, 103, 102, 50, 116, 118, 100, 119, 48, 115, 51, 106, 110, 53, 52, 107, 104, 99, 101, 54, 109, 117, 97, 55, 108]⟩) (.int .u32 (bits .and .u32 ((sm : Int) / 33554432) 31))).run Tryd.prog W = .ok (.int .u8 ((letter (sm / 33554432 % 32)).toNat : Int)) W := by rw [hye]; exact index_letter _ hy .u32
                clear hy hye
                go_wp2_with fail
                refine (writeByte_any w4.heap.size w4.heap.size _ _ _ HBD4.out HL6.out hbr.size).mono ?_
                rintro e w6 ⟨rfl, hbd6, hb6⟩
                have hb46 := hbr.trans hb6
                have HBD6 := Lib.hid hbd6; clear hbd6 hix
                go_wp2_with fail
                go_roundw
                case rel =>
                  refine ⟨1, 20, by omega, by omega, rfl, .inr ?_, hb46⟩
                  have h := HBD6.out
                  rw [← bv_snoc] at h
                  rw [HSM.out, List.append_assoc] at h
                  exact h
                case measure => simp [intOf]
              · obtain rfl : q = 20 := by omega
                clear hq hj
                have hy : (sm / 1048576 % 32 : Nat) < 32 := Nat.mod_lt _ (by decide)
                have hye : bits .and .u32 ((sm : Int) / 1048576) 31 = ((sm / 1048576 % 32 : Nat) : Int) := mask5_u32 (a := sm / 1048576) (by omega) (by omega)
                have hix : ∀ W, (Instr.index 9 (.string ⟨#[113, 112, 122, 114, 121, 57, 120, 56, 103, 102, 50, 116, 118, 100, 119, 48, 115, 51, 106, 110, 53, 52, 107, 104, 99, 101, 54, 109, 117, 97, 55, 108]⟩) (.int .u32 (bits .and .u32 ((sm : Int) / 1048576) 31))).run Tryd.prog W = .ok (.int .u8 ((letter (sm / 1048576 % 32)).toNat : Int)) W := by rw [hye]; exact index_letter _ hy .u32
                clear hy hye
                go_wp2_with fail
                refine (writeByte_any w4.heap.size w4.heap.size _ _ _ HBD4.out HL6.out hbr.size).mono ?_
                rintro e w6 ⟨rfl, hbd6, hb6⟩
                have hb46 := hbr.trans hb6
                have HBD6 := Lib.hid hbd6; clear hbd6 hix
                go_wp2_with fail
                go_roundw
                case rel =>
                  refine ⟨2, 15, by omega, by omega, rfl, .inr ?_, hb46⟩
                  have h := HBD6.out
                  rw [← bv_snoc] at h
                  rw [HSM.out, List.append_assoc] at h
                  exact h
                case measure => simp [intOf]
              · obtain rfl : q = 15 := by omega
                clear hq hj
                have hy : (sm / 32768 % 32 : Nat) < 32 := Nat.mod_lt _ (by decide)
                have hye : bits .and .u32 ((sm : Int) / 32768) 31 = ((sm / 32768 % 32 : Nat) : Int) := mask5_u32 (a := sm / 32768) (by omega) (by omega)
                have hix : ∀ W, (Instr.index 9 (.string ⟨#[113, 112, 122, 114, 121, 57, 120, 56, 103, 102, 50, 116, 118, 100, 119, 48, 115, 51, 106, 110, 53, 52, 107, 104, 99, 101, 54, 109, 117, 97, 55, 108]⟩) (.int .u32 (bits .and .u32 ((sm : Int) / 32768) 31))).run Tryd.prog W = .ok (.int .u8 ((letter (sm / 32768 % 32)).toNat : Int)) W := by rw [hye]; exact index_letter _ hy .u32
                clear hy hye
                go_wp2_with fail
                refine (writeByte_any w4.heap.size w4.heap.size _ _ _ HBD4.out HL6.out hbr.size).mono ?_
                rintro e w6 ⟨rfl, hbd6, hb6⟩
                have hb46 := hbr.trans hb6
                have HBD6 := Lib.hid hbd6; clear hbd6 hix
                go_wp2_with fail
                go_roundw
                case rel =>
                  refine ⟨3, 10, by omega, by omega, rfl, .inr ?_, hb46⟩
                  have h := HBD6.out
                  rw [← bv_snoc] at h
                  rw [HSM.out, List.append_assoc] at h
                  exact h
                case measure => simp [intOf]
              · obtain rfl : q = 10 := by omega
                clear hq hj
                have hy : (sm / 1024 % 32 : Nat) < 32 := Nat.mod_lt _ (by decide)
                have hye : bits .and .u32 ((sm : Int) / 1024) 31 = ((sm / 1024 % 32 : Nat) : Int) := mask5_u32 (a := sm / 1024) (by omega) (by omega)
                have hix : ∀ W, (Instr.index 9 (.string ⟨#[113, 112, 122, 114, 121, 57, 120, 56, 103, 102, 50, 116, 118, 100, 119, 48, 115, 51, 106, 110, 53, 52, 107, 104, 99, 101, 54, 109, 117, 97, 55, 108]⟩) (.int .u32 (bits .and .u32 ((sm : Int) / 1024) 31))).run Tryd.prog W = .ok (.int .u8 ((letter (sm / 1024 % 32)).toNat : Int)) W := by rw [hye]; exact index_letter _ hy .u32
                clear hy hye
                go_wp2_with fail
                refine (writeByte_any w4.heap.size w4.heap.size _ _ _ HBD4.out HL6.out hbr.size).mono ?_
                rintro e w6 ⟨rfl, hbd6, hb6⟩
                have hb46 := hbr.trans hb6
                have HBD6 := Lib.hid hbd6; clear hbd6 hix
                go_wp2_with fail
                go_roundw
                case rel =>
                  refine ⟨4, 5, by omega, by omega, rfl, .inr ?_, hb46⟩
                  have h := HBD6.out
                  rw [← bv_snoc] at h
                  rw [HSM.out, List.append_assoc] at h
                  exact h
                case measure => simp [intOf]
              · obtain rfl : q = 5 := by omega
                clear hq hj
                have hy : (sm / 32 % 32 : Nat) < 32 := Nat.mod_lt _ (by decide)
                have hye : bits .and .u32 ((sm : Int) / 32) 31 = ((sm / 32 % 32 : Nat) : Int) := mask5_u32 (a := sm / 32) (by omega) (by omega)
                have hix : ∀ W, (Instr.index 9 (.string ⟨#[113, 112, 122, 114, 121, 57, 120, 56, 103, 102, 50, 116, 118, 100, 119, 48, 115, 51, 106, 110, 53, 52, 107, 104, 99, 101, 54, 109, 117, 97, 55, 108]⟩) (.int .u32 (bits .and .u32 ((sm : Int) / 32) 31))).run Tryd.prog W = .ok (.int .u8 ((letter (sm / 32 % 32)).toNat : Int)) W := by rw [hye]; exact index_letter _ hy .u32
                clear hy hye
                go_wp2_with fail
                refine (writeByte_any w4.heap.size w4.heap.size _ _ _ HBD4.out HL6.out hbr.size).mono ?_
                rintro e w6 ⟨rfl, hbd6, hb6⟩
                have hb46 := hbr.trans hb6
                have HBD6 := Lib.hid hbd6; clear hbd6 hix
                go_wp2_with fail
                go_roundw
                case rel =>
                  refine ⟨5, 0, by omega, by omega, rfl, .inr ?_, hb46⟩
                  have h := HBD6.out
                  rw [← bv_snoc] at h
                  rw [HSM.out, List.append_assoc] at h
                  exact h
                case measure => simp [intOf]
              · obtain rfl : q = 0 := by omega
                clear hq hj
                have hy : (sm % 32 : Nat) < 32 := Nat.mod_lt _ (by decide)
                have hye : bits .and .u32 ((sm : Int)) 31 = ((sm % 32 : Nat) : Int) := mask5_u32 (a := sm) (by omega) (by omega)
                have hix : ∀ W, (Instr.index 9 (.string ⟨#[113, 112, 122, 114, 121, 57, 120, 56, 103, 102, 50, 116, 118, 100, 119, 48, 115, 51, 106, 110, 53, 52, 107, 104, 99, 101, 54, 109, 117, 97, 55, 108]⟩) (.int .u32 (bits .and .u32 ((sm : Int)) 31))).run Tryd.prog W = .ok (.int .u8 ((letter (sm % 32)).toNat : Int)) W := by rw [hye]; exact index_letter _ hy .u32
                clear hy hye
                go_wp2_with fail
                refine (writeByte_any w4.heap.size w4.heap.size _ _ _ HBD4.out HL6.out hbr.size).mono ?_
                rintro e w6 ⟨rfl, hbd6, hb6⟩
                have hb46 := hbr.trans hb6
                have HBD6 := Lib.hid hbd6; clear hbd6 hix
                go_wp2_with fail
                go_roundw
                case rel =>
                  refine ⟨6, -5, by omega, by omega, rfl, .inr ?_, hb46⟩
                  have h := HBD6.out
                  rw [← bv_snoc] at h
                  rw [HSM.out, List.append_assoc] at h
                  exact h
                case measure => simp [intOf]
              · obtain rfl : q = -5 := by omega
                clear hq hj
                have hfin := HBD4.out
                have HF := Lib.hid hfin; clear hfin
                go_wp2_with fail
                refine (Tryd.Builder_String_any w4.heap.size w4.heap.size _ _ HF.out hbr.size).mono ?_
                rintro e w7 ⟨rfl, hb7⟩
                go_wp2_with fail
                go_ret2
                unfold EncPost encText
                rw [HE.out, if_pos rfl, HSM.out]
                have e : s.data.toList ++ [49] ++ wordsText ws ++ sumText sm = s.data.toList ++ 49 :: (wordsText ws ++ (sumText sm).take 6) := by
                  rw [List.append_assoc, List.append_assoc]; rfl
                rw [e]
                exact ⟨rfl, hb4.trans ((hbr.trans hb7).mono hb4.size)⟩

theorem encode_any (s : ByteArray) (ws : List UInt8) (A : Option Addr) (c : Nat) (w : World) (hs : s.size ≤ 1000000) (hl : ws.length ≤ 1000000) (hA : Cells w A (bv ws)) :
    Calls Tryd.prog 10 #[.string s, .slice A ws.length c] w (EncPost s.data.toList ws w) := by
  cases h : isHead s.data.toList with
  | false => exact encode_head s ws A c w hs h
  | true => exact encode_good s ws A c w hs hl hA h
end Go.Proofs.YtnkhbhkmllnniaaDoor
