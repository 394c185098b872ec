/- BechOne: the call gives true. -/
import Derived.Test.YtnkhbhkmllnniaaDoorT23
import Derived.Test.YtnkhbhkmllnniaaDoorT24
import Derived.Test.YtnkhbhkmllnniaaDoorTexts
namespace Go.Proofs.YtnkhbhkmllnniaaDoor
open Go.RowKit Bech

theorem one_err (s : ByteArray) (ws : List UInt8) (n : Nat) (hn : ws.length = n) (A : Option Addr) (c : Nat) (w : World) (hs : s.size ≤ 2000) (hl : n ≤ 2000) (hA : Cells w A (bv ws)) (he : encErr s.data.toList ws ≠ 0) :
    Calls Tryd.prog 10 #[.string s, .slice A n c] w fun e w' => ∃ er : Int, (er != 0) = true ∧ e = .returned (.tuple #[.string ⟨#[]⟩, .int .i64 er]) ∧ Below w.heap.size w w' := by
  refine (encode_n s ws n hn A c w (by omega) (by omega) hA).mono ?_
  rintro e w' ⟨rfl, hb⟩
  refine ⟨encErr s.data.toList ws, by simpa using he, ?_, hb⟩
  unfold encText
  rw [if_neg he]
structure OneOk (h ws : List UInt8) (t : ByteArray) (n L : Nat) : Prop where
  text : t.data.toList = encText h ws
  size : t.size = L
  len : L = h.length + 1 + n + 6
theorem one_ok (s : ByteArray) (ws : List UInt8) (n : Nat) (hn : ws.length = n) (A : Option Addr) (c : Nat) (w : World) (hs : s.size ≤ 2000) (hl : n ≤ 2000) (hA : Cells w A (bv ws)) (he : encErr s.data.toList ws = 0) :
    Calls Tryd.prog 10 #[.string s, .slice A n c] w fun e w' => ∃ t L, OneOk s.data.toList ws t n L ∧ e = .returned (.tuple #[.string t, .int .i64 0]) ∧ Below w.heap.size w w' := by
  refine (encode_n s ws n hn A c w (by omega) (by omega) hA).mono ?_
  rintro e w' ⟨rfl, hb⟩
  obtain ⟨T, -⟩ := enc_text he
  refine ⟨⟨(encText s.data.toList ws).toArray⟩, _, ⟨rfl, rfl, ?_⟩, by rw [he], hb⟩
  have := T.len
  show (encText s.data.toList ws).toArray.size = _
  rw [List.size_toArray, this]
  simp [pieces, hn]
  omega

theorem dec61 (l : List UInt8) (w : World) (hl : l.length ≤ 1000000) (he : decErr l = 61) : Calls Tryd.prog 12 #[.string ⟨l.toArray⟩] w fun e w' => ∃ A c, e = .returned (.tuple #[.string ⟨#[]⟩, .slice A 0 c, .int .i64 61]) ∧ Below w.heap.size w w' := by
  refine (decode_any ⟨l.toArray⟩ w hl).mono ?_
  rintro e w' ⟨A, c, rfl, -, -, hb⟩
  have h1 : decHead l = [] := by unfold decHead; rw [he, if_neg (by decide)]
  have h2 : decWords l = [] := by unfold decWords; rw [he, if_neg (by decide)]
  refine ⟨A, c, ?_, hb⟩
  show Ending.returned (.tuple #[.string ⟨(decHead l).toArray⟩, .slice A (decWords l).length c, .int .i64 (decErr l)]) = _
  rw [h1, h2, he]
  rfl
theorem bv_set (l : List UInt8) (k : Nat) (b : UInt8) : (bv l).set k (.int .u8 (b.toNat : Int)) = bv (l.set k b) := by unfold bv; rw [List.map_set]

set_option maxRecDepth 100000 in
set_option maxHeartbeats 1000000 in
theorem bechOne_walk (s : ByteArray) (ws : List UInt8) (A : Option Addr) (c : Nat) (at_ : Int) (by_ : Int) (w : World) (hA : Cells w A (bv ws)) (hby : 0 ≤ by_ ∧ by_ ≤ 255) :
    Calls Tryd.prog 5 #[.string s, .slice A ws.length c, .int .i64 at_, .int .u8 by_] w (LawPost w) := by
  by_cases hlim : 2000 < s.size
  · have hlimI : (2000 : Int) < (s.size : Int) := by omega
    clear hlim
    go_enter Tryd.func5, Tryd.ntmps5
    go_wp2_with fail
    refine (works_any _).mono ?_
    rintro e w1 ⟨rfl, hb1⟩
    go_wp2_with fail
    go_ret
    exact ⟨rfl, hb1⟩
  · have hlimI : ¬ (2000 : Int) < (s.size : Int) := by omega
    by_cases hlim2 : 2000 < ws.length
    · have hlimJ : (2000 : Int) < (ws.length : Int) := by omega
      clear hlim2 hlim
      go_enter Tryd.func5, Tryd.ntmps5
      go_wp2_with fail
      refine (works_any _).mono ?_
      rintro e w1 ⟨rfl, hb1⟩
      go_wp2_with fail
      go_ret
      exact ⟨rfl, hb1⟩
    · have hlimJ : ¬ (2000 : Int) < (ws.length : Int) := by omega
      generalize hws : ws.length = n at *
      have HWS := Lib.hid hws; clear hws
      obtain ⟨u, hcu⟩ : ∃ u : Nat, ∀ W, (convert 3 31 (.int .i64 at_)).run Tryd.prog W = .ok (.int .u64 (u : Int)) W := by
        refine ⟨(IntKind.u64.wrap at_).toNat, fun W => ?_⟩
        have h := run_convert_int (P := Tryd.prog) W 3 31 .i64 at_ (by kernel_rfl) (by kernel_rfl)
        rw [show Tryd.prog.intKind 31 = .u64 from by kernel_rfl] at h
        rw [h, Int.toNat_of_nonneg (by rw [IntKind.wrap_u64]; omega)]
      by_cases he : encErr s.data.toList ws = 0
      · go_enter Tryd.func5, Tryd.ntmps5
        go_wp2_with fail
        refine (one_ok s ws n HWS.out A c _ (by omega) (by omega) hA he).mono ?_
        rintro e w1 ⟨t, L, hok, rfl, hb1⟩
        have hL := hok.len
        have hLs := hok.size
        have hl63 : s.data.toList.length = s.size := by simp
        rw [hl63] at hL
        obtain ⟨c1, w2, hconv, hrow, hb2, hlt2⟩ := conv_bytes (P := Tryd.prog) w1 9 22 5 t Tryd.underlying9 Tryd.underlying22 Tryd.underlying5 (by omega)
        rw [hLs] at hconv hrow
        have HLS := Lib.hid hLs
        have hL6 : n + 6 ≤ L := by omega
        have hLM : ¬ (5000 : Int) < (L : Int) := by omega
        have HLN := Lib.hid hL
        have HE := Lib.hid he
        clear hL hLs hl63 he
        have hlt6 : ¬ (t.size : Int) < (n : Int) + 6 := by rw [HLS.out]; omega
        have hm0 : 0 ≤ (u : Int) % ((n : Int) + 6) := Int.emod_nonneg _ (by omega)
        have hm1 : (u : Int) % ((n : Int) + 6) < (n : Int) + 6 := Int.emod_lt_of_pos _ (by omega)
        obtain ⟨k, hk⟩ : ∃ k : Nat, (L : Int) - 1 - (u : Int) % ((n : Int) + 6) = (k : Int) := ⟨((L : Int) - 1 - (u : Int) % ((n : Int) + 6)).toNat, by omega⟩
        have hkL : k < L := by omega
        have hks : s.size < k := by have := HLN.out; omega
        obtain ⟨b, hb⟩ : ∃ b : Nat, by_ % 32 = (b : Int) := ⟨(by_ % 32).toNat, by omega⟩
        have hb32 : b < 32 := by omega
        have hix : ∀ W, (Instr.index 9 (.string ⟨#[113, 112, 122, 114, 121, 57, 120, 56, 103, 102, 50, 116, 118, 100, 119, 48, 115, 51, 106, 110, 53, 52, 107, 104, 99, 101, 54, 109, 117, 97, 55, 108]⟩) (.int .u8 (b : Int))).run Tryd.prog W = .ok (.int .u8 ((letter b).toNat : Int)) W := fun W => index_letter b hb32 .u8 W
        have HKS := Lib.hid hks; clear hks
        have HB32 := Lib.hid hb32; clear hb32
        have hlen : t.data.toList.length = L := by rw [← HLS.out]; simp
        obtain ⟨ad, hae, -, hge, hc, hf, hrow2⟩ := row_put hrow (by rw [bv_length]; exact hlen) hkL (.int .u8 ((letter b).toNat : Int))
        obtain rfl : ⟨w1.heap.size, 0, none⟩ = ad := Option.some.inj hae
        have ea : (⟨w1.heap.size, 0, none⟩ : Addr).add k = ⟨w1.heap.size, k, none⟩ := by rw [Go.WideShapes.add_plain, Nat.zero_add]
        rw [ea] at hge hc hf hrow2
        rw [bv_set] at hrow2
        have hkl : k < t.data.toList.length := by omega
        have hat : (bv t.data.toList)[k]'(by rw [bv_length]; exact hkl) = .int .u8 (t.data.toList[k].toNat : Int) := by simp [bv]
        rw [hat] at hc
        clear hat hrow hae
        by_cases hq : t.data.toList[k] = letter b
        · rw [hq] at hc
          clear hrow2 hf hge hq
          generalize (letter b).toNat = x at *
          have hxx : ((x : Int) == (x : Int)) = true := by simp
          go_wp2_with fail
          refine (works_any _).mono ?_
          rintro e w3 ⟨rfl, hb3⟩
          go_wp2_with fail
          go_ret
          have hb12 := hb1.trans (hb2.mono hb1.size)
          exact ⟨rfl, hb12.trans (hb3.mono hb12.size)⟩
        · have hT := enc_text HE.out
          have h61 : decErr (t.data.toList.set k (letter b)) = 61 := by
            have hk1 := HKS.out
            have hk2 := hkl
            have hq2 : ∀ hkl : k < t.data.toList.length, t.data.toList[k] ≠ letter b := fun _ => hq
            have hkl2 := hkl
            rw [hok.text] at hq2 hkl2 ⊢
            exact one_turned hT.1 hT.2 k (by simpa using hk1) hkl2 b HB32.out (hq2 hkl2)
          have hne : ((t.data.toList[k].toNat : Int) == ((letter b).toNat : Int)) = false := by
            have : ¬ t.data.toList[k].toNat = (letter b).toNat := fun h => hq (UInt8.toNat_inj.1 h)
            simp only [beq_eq_false_iff_ne, ne_eq]
            exact fun h => this (by exact_mod_cast h)
          have hlset : (t.data.toList.set k (letter b)).length = L := by rw [List.length_set]; exact hlen
          have hbs : Below w1.heap.size w1 (w2.setCell ⟨w1.heap.size, k, none⟩ (.int .u8 ((letter b).toNat : Int))) := hb2.setCell hge _
          obtain ⟨A', c', hv, -, hcell⟩ := hrow2.shape
          injection hv with hv1 hv2 hv3
          subst hv1
          have hcv := conv_str (P := Tryd.prog) hcell c1 22 9 5 Tryd.underlying22 Tryd.underlying5 Tryd.underlying9
          rw [hlset] at hcv
          have hL5 : L ≤ 1000000 := by omega
          clear hrow2 hcell hv2 hv3 hT hq hlen hok hA
          generalize t.data.toList.set k (letter b) = l2 at *
          generalize t.data.toList[k].toNat = y at *
          generalize (letter b).toNat = x at *
          have H61 := Lib.hid h61; clear h61
          have HLS2 := Lib.hid hlset; clear hlset
          have HL5 := Lib.hid hL5; clear hL5
          go_wp2_with fail
          refine (dec61 l2 _ (by rw [HLS2.out]; exact HL5.out) H61.out).mono ?_
          rintro e w3 ⟨A3, c3, rfl, hb3⟩
          go_wp2_with fail
          refine (works_any _).mono ?_
          rintro e w4 ⟨rfl, hb4⟩
          go_wp2_with fail
          go_ret
          have hb13 := hbs.trans (hb3.mono hbs.size)
          have hb14 := hb13.trans (hb4.mono hb13.size)
          exact ⟨rfl, hb1.trans (hb14.mono hb1.size)⟩
      · have HE := Lib.hid he; clear he
        go_enter Tryd.func5, Tryd.ntmps5
        go_wp2_with fail
        refine (one_err s ws n HWS.out A c _ (by omega) (by omega) hA HE.out).mono ?_
        rintro e w1 ⟨er, her, rfl, hb1⟩
        go_wp2_with fail
        refine (works_any _).mono ?_
        rintro e w2 ⟨rfl, hb2⟩
        go_wp2_with fail
        go_ret
        exact ⟨rfl, hb1.trans (hb2.mono hb1.size)⟩
end Go.Proofs.YtnkhbhkmllnniaaDoor
