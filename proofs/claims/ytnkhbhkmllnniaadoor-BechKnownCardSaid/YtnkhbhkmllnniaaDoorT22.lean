/- BechReads, BechWrites: the calls give true. -/
import Derived.Test.YtnkhbhkmllnniaaDoorT21
namespace Go.Proofs.YtnkhbhkmllnniaaDoor
open Go.RowKit Bech

def LawPost (w : World) (e : Ending) (w' : World) : Prop := e = .returned (.bool true) ∧ Below w.heap.size w w'

set_option maxHeartbeats 1000000 in
theorem bechReads_walk (s : ByteArray) (w : World) : Calls Tryd.prog 4 #[.string s] w (LawPost w) := by
  by_cases hlim : 2000 < s.size
  · have hlimI : (2000 : Int) < (s.size : Int) := by omega
    clear hlim
    go_enter Tryd.func4, Tryd.ntmps4
    go_wp2_with fail
    refine (works_any _).mono ?_
    rintro e w1 ⟨rfl, hb1⟩
    go_wp2_with fail
    go_ret
    exact ⟨rfl, hb1⟩
  · have hlimI : ¬ (2000 : Int) < (s.size : Int) := by omega
    go_enter Tryd.func4, Tryd.ntmps4
    go_wp2_with fail
    refine (decode_any s _ (by omega)).mono ?_
    rintro e w1 ⟨A, c, rfl, hc, hcell, hb1⟩
    go_wp2_with fail
    refine (refDecode_any s _ (by omega)).mono ?_
    rintro e w2 ⟨A2, c2, rfl, hc2, hcell2, hb2⟩
    have hcv1 := conv_str (P := Tryd.prog) (hcell.below hb2) c 22 9 5 Tryd.underlying22 Tryd.underlying5 Tryd.underlying9
    have hcv2 := conv_str (P := Tryd.prog) hcell2 c2 22 9 5 Tryd.underlying22 Tryd.underlying5 Tryd.underlying9
    have hb02 : Below w.heap.size w w2 := hb1.trans (hb2.mono hb1.size)
    clear hcell hcell2 hlim hlimI hb1 hb2
    generalize decWords s.data.toList = ws at *
    generalize decHead s.data.toList = hd at *
    generalize decErr s.data.toList = er at *
    go_wp2_with fail
    refine (works_any _).mono ?_
    rintro e w3 ⟨rfl, hb3⟩
    go_wp2_with fail
    go_ret
    exact ⟨rfl, hb02.trans (hb3.mono hb02.size)⟩

theorem encode_n (s : ByteArray) (ws : List UInt8) (n : Nat) (hn : ws.length = n) (A : Option Addr) (c : Nat) (w : World) (hs : s.size ≤ 1000000) (hl : n ≤ 1000000) (hA : Cells w A (bv ws)) :
    Calls Tryd.prog 10 #[.string s, .slice A n c] w (EncPost s.data.toList ws w) := by
  subst hn; exact encode_any s ws A c w hs hl hA

set_option maxHeartbeats 1000000 in
theorem bechWrites_walk (s : ByteArray) (ws : List UInt8) (A : Option Addr) (c : Nat) (w : World) (hA : Cells w A (bv ws)) : Calls Tryd.prog 3 #[.string s, .slice A ws.length c] w (LawPost w) := by
  by_cases hlim : 2000 < s.size
  · have hlimI : (2000 : Int) < (s.size : Int) := by omega
    clear hlim
    go_enter Tryd.func3, Tryd.ntmps3
    go_wp2_with fail
    refine (works_any _).mono ?_
    rintro e w1 ⟨rfl, hb1⟩
    go_wp2_with fail
    go_ret
    exact ⟨rfl, hb1⟩
  · have hlimI : ¬ (2000 : Int) < (s.size : Int) := by omega
    by_cases hlim2 : 2000 < ws.length
    · have hlimJ : (2000 : Int) < (ws.length : Int) := by omega
      clear hlim2 hlim
      go_enter Tryd.func3, Tryd.ntmps3
      go_wp2_with fail
      refine (works_any _).mono ?_
      rintro e w1 ⟨rfl, hb1⟩
      go_wp2_with fail
      go_ret
      exact ⟨rfl, hb1⟩
    · have hlimJ : ¬ (2000 : Int) < (ws.length : Int) := by omega
      have hcv0 := conv_str (P := Tryd.prog) hA c 22 9 5 Tryd.underlying22 Tryd.underlying5 Tryd.underlying9
      have hsz : (ByteArray.mk ws.toArray).size = ws.length := rfl
      obtain ⟨c1, w1, hconv, hrow, hb1, hlt1⟩ := conv_bytes (P := Tryd.prog) w 9 22 5 ⟨ws.toArray⟩ Tryd.underlying9 Tryd.underlying22 Tryd.underlying5 (by rw [hsz]; omega)
      have hcell1 : Cells w1 (some ⟨w.heap.size, 0, none⟩) (bv ws) := by
        obtain ⟨A', c', hv, -, hc⟩ := hrow.shape
        injection hv with h1 h2 h3
        subst h1
        exact hc
      have hA1 := hA.below hb1
      rw [hsz] at hconv
      clear hrow
      generalize hws : ws.length = n at *
      have HWS := Lib.hid hws; clear hws
      clear hsz
      go_enter Tryd.func3, Tryd.ntmps3
      go_wp2_with fail
      refine (encode_n s ws n HWS.out _ _ _ (by omega) (by omega) hcell1).mono ?_
      rintro e w2 ⟨rfl, hb2⟩
      have hA2 := hA1.below hb2
      go_wp2_with fail
      have hre : Calls Tryd.prog 11 #[.string s, .slice A n c] w2 (EncPost s.data.toList ws w2) := by
        rw [← HWS.out]
        exact refEncode_any s ws A c w2 (by omega) (by rw [HWS.out]; omega) hA2
      refine hre.mono ?_
      rintro e w3 ⟨rfl, hb3⟩
      have hcv1 := conv_str (P := Tryd.prog) (hA2.below hb3) c 22 9 5 Tryd.underlying22 Tryd.underlying5 Tryd.underlying9
      have hcv2 := conv_str (P := Tryd.prog) ((hcell1.below hb2).below hb3) c1 22 9 5 Tryd.underlying22 Tryd.underlying5 Tryd.underlying9
      rw [HWS.out] at hcv1 hcv2
      have hb12 : Below w.heap.size w w2 := hb1.trans (hb2.mono hb1.size)
      have hb03 : Below w.heap.size w w3 := hb12.trans (hb3.mono hb12.size)
      clear hlim hlimI hlimJ hlim2 hb1 hb2 hb3 hA hA1 hA2 hcell1 hb12 hre hcv0 hconv
      generalize encText s.data.toList ws = tx at *
      generalize encErr s.data.toList ws = er at *
      go_wp2_with fail
      refine (works_any _).mono ?_
      rintro e w4 ⟨rfl, hb4⟩
      go_wp2_with fail
      go_ret
      exact ⟨rfl, hb03.trans (hb4.mono hb03.size)⟩
end Go.Proofs.YtnkhbhkmllnniaaDoor
