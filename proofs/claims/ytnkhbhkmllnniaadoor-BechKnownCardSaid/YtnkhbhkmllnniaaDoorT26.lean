/- BechBack: the call gives true. -/
import Derived.Test.YtnkhbhkmllnniaaDoorT23
import Derived.Test.YtnkhbhkmllnniaaDoorT24
import Derived.Test.YtnkhbhkmllnniaaDoorBack
namespace Go.Proofs.YtnkhbhkmllnniaaDoor
open Go.RowKit Bech

theorem decWords_le (l : List UInt8) : (decWords l).length ≤ l.length := by
  unfold decWords
  split
  · unfold wordsOf tailOf
    simp
    omega
  · simp
theorem decHead_le (l : List UInt8) : (decHead l).length ≤ l.length := by
  unfold decHead
  split
  · unfold headOf
    simp
    omega
  · simp
theorem back_err (s : ByteArray) (ws : List UInt8) (n : Nat) (hn : ws.length = n) (A : Option Addr) (c : Nat) (w : World) (hs : s.size ≤ 1000000) (hl : n ≤ 1000000) (hA : Cells w A (bv ws)) (he : encErr s.data.toList ws ≠ 0) :
    Calls Tryd.prog 10 #[.string s, .slice A n c] w fun e w' => ∃ (t : ByteArray) (er : Int), (er == 0) = false ∧ e = .returned (.tuple #[.string t, .int .i64 er]) ∧ Below w.heap.size w w' := by
  refine (encode_n s ws n hn A c w (by omega) (by omega) hA).mono ?_
  rintro e w' ⟨rfl, hb⟩
  exact ⟨_, encErr s.data.toList ws, by simpa using he, rfl, hb⟩
theorem back_ok (s : ByteArray) (ws : List UInt8) (n : Nat) (hn : ws.length = n) (A : Option Addr) (c : Nat) (w : World) (hs : s.size ≤ 1000000) (hl : n ≤ 1000000) (hA : Cells w A (bv ws)) (he : encErr s.data.toList ws = 0) :
    Calls Tryd.prog 10 #[.string s, .slice A n c] w fun e w' => ∃ t : ByteArray, t.data.toList = encText s.data.toList ws ∧ t.size ≤ 1000000 ∧ e = .returned (.tuple #[.string t, .int .i64 0]) ∧ Below w.heap.size w w' := by
  refine (encode_n s ws n hn A c w (by omega) (by omega) hA).mono ?_
  rintro e w' ⟨rfl, hb⟩
  obtain ⟨T, -⟩ := enc_text he
  refine ⟨⟨(encText s.data.toList ws).toArray⟩, rfl, ?_, by rw [he], hb⟩
  have := T.fit
  show (encText s.data.toList ws).toArray.size ≤ _
  rw [List.size_toArray]
  omega
theorem back_dec (s t : ByteArray) (ws : List UInt8) (n : Nat) (hn : ws.length = n) (w : World) (ht : t.data.toList = encText s.data.toList ws) (hs : t.size ≤ 1000000) (he : encErr s.data.toList ws = 0) :
    Calls Tryd.prog 12 #[.string t] w fun e w' => ∃ A c, e = .returned (.tuple #[.string s, .slice A n c, .int .i64 0]) ∧ Cells w' A (bv ws) ∧ Below w.heap.size w w' := by
  refine (decode_any t w hs).mono ?_
  rintro e w' ⟨A, c, rfl, -, hc, hb⟩
  obtain ⟨h1, h2, h3⟩ := dec_enc he
  rw [ht, h3] at hc
  refine ⟨A, c, ?_, hc, hb⟩
  rw [ht, h1, h2, h3, hn]
theorem back_bad (s : ByteArray) (w : World) (hs : s.size ≤ 1000000) (he : decErr s.data.toList ≠ 0) :
    Calls Tryd.prog 12 #[.string s] w fun e w' => ∃ (A : Option Addr) (c : Nat) (er : Int), (er == 0) = false ∧ e = .returned (.tuple #[.string ⟨#[]⟩, .slice A 0 c, .int .i64 er]) ∧ Below w.heap.size w w' := by
  refine (decode_any s w hs).mono ?_
  rintro e w' ⟨A, c, rfl, -, -, hb⟩
  have h1 : decHead s.data.toList = [] := by unfold decHead; rw [if_neg he]
  have h2 : decWords s.data.toList = [] := by unfold decWords; rw [if_neg he]
  refine ⟨A, c, _, by simpa using he, ?_, hb⟩
  rw [h1, h2]
  rfl
theorem back_good (s : ByteArray) (w : World) (hs : s.size ≤ 1000000) (he : decErr s.data.toList = 0) :
    Calls Tryd.prog 12 #[.string s] w fun e w' => ∃ (A : Option Addr) (c n : Nat) (h : ByteArray) (ws : List UInt8), ws.length = n ∧ n ≤ 1000000 ∧ h.size ≤ 1000000 ∧ encErr h.data.toList ws = 0 ∧ encText h.data.toList ws = s.data.toList.map lower ∧ e = .returned (.tuple #[.string h, .slice A n c, .int .i64 0]) ∧ Cells w' A (bv ws) ∧ Below w.heap.size w w' := by
  refine (decode_any s w hs).mono ?_
  rintro e w' ⟨A, c, rfl, -, hc, hb⟩
  have h1 := decWords_le s.data.toList
  have h2 := decHead_le s.data.toList
  have h3 : s.data.toList.length = s.size := by simp
  obtain ⟨h4, h5⟩ := enc_dec he
  refine ⟨A, c, _, ⟨(decHead s.data.toList).toArray⟩, decWords s.data.toList, rfl, by omega, ?_, h4, h5, by rw [he], hc, hb⟩
  show (decHead s.data.toList).toArray.size ≤ _
  rw [List.size_toArray]; omega
theorem bits85 (ws : List UInt8) (n : Nat) (hn : ws.length = n) (A : Option Addr) (c : Nat) (w : World) (hl : n ≤ 2000) (hA : Cells w A (bv ws)) :
    Calls Tryd.prog 14 #[.slice A n c, .int .i64 8, .int .i64 5, .bool true] w fun e w' => ∃ A' xn c' x, e = .returned (.tuple #[.slice A' xn c', .int .i64 0]) ∧ x.length = xn ∧ xn ≤ 1000000 ∧ BitsRes x 5 8 false ws 0 ∧ Cells w' A' (bv x) ∧ Below w.heap.size w w' := by
  subst hn
  refine (bits_any ws A c 8 5 true w (by omega) hA).mono ?_
  rintro e w' ⟨v, x, er, rfl, hres, hown, hb⟩
  obtain ⟨rfl, h2⟩ := bits_back hres
  obtain ⟨A', c', rfl, -, hcell⟩ := hown.shape
  rw [bv_length]
  refine ⟨A', _, c', x, rfl, rfl, ?_, h2, hcell, hb⟩
  rcases h2 with ⟨h, -⟩ | ⟨-, -, -, h⟩ | ⟨-, -, out, rest, hcut, hlen, hr⟩
  · omega
  · omega
  · have e := congrArg List.length hcut.eq
    rw [List.length_append, rowOf_length, rowOf_length] at e
    have h5 : ((5 : Int)).toNat = 5 := rfl
    have h8 : ((8 : Int)).toNat = 8 := rfl
    rw [h8] at hlen
    rw [h5, h8] at e
    have ho : ws = out := by
      rcases hr with ⟨h, -⟩ | ⟨-, -, -, h⟩ | ⟨-, -, -, h, -⟩
      · cases h
      · cases h
      · exact h
    rw [← ho] at e
    omega
theorem bits58 (x ws : List UInt8) (xn n : Nat) (hn : ws.length = n) (hx : x.length = xn) (A : Option Addr) (c : Nat) (w : World) (hl : xn ≤ 1000000) (hA : Cells w A (bv x)) (hr : BitsRes x 5 8 false ws 0) :
    Calls Tryd.prog 14 #[.slice A xn c, .int .i64 5, .int .i64 8, .bool false] w fun e w' => ∃ A' c', e = .returned (.tuple #[.slice A' n c', .int .i64 0]) ∧ Cells w' A' (bv ws) ∧ Below w.heap.size w w' := by
  subst hx
  refine (bits_any x A c 5 8 false w (by omega) hA).mono ?_
  rintro e w' ⟨v, y, er, rfl, hres, hown, hb⟩
  obtain ⟨rfl, rfl⟩ := BitsRes.unique hres hr
  obtain ⟨A', c', rfl, -, hcell⟩ := hown.shape
  rw [bv_length, hn]
  exact ⟨A', c', rfl, hcell, hb⟩

set_option maxRecDepth 100000 in
set_option maxHeartbeats 2000000 in
theorem bechBack_walk (s : ByteArray) (ws : List UInt8) (A : Option Addr) (c : Nat) (u : ByteArray) (w : World) (hA : Cells w A (bv ws)) :
    Calls Tryd.prog 7 #[.string s, .slice A ws.length c, .string u] w (LawPost w) := by
  generalize hws : ws.length = n at *
  have HWS := Lib.hid hws; clear hws
  by_cases hlim : 2000 < s.size
  · have hlimI : (2000 : Int) < (s.size : Int) := by omega
    clear hlim
    go_enter Tryd.func7, Tryd.ntmps7
    go_wp2_with fail
    refine (works_any _).mono ?_
    rintro e w1 ⟨rfl, hb1⟩
    go_wp2_with fail
    go_ret
    exact ⟨rfl, hb1⟩
  have hlimI : ¬ (2000 : Int) < (s.size : Int) := by omega
  by_cases hlim2 : 2000 < n
  · have hlimJ : (2000 : Int) < (n : Int) := by omega
    clear hlim2 hlim
    go_enter Tryd.func7, Tryd.ntmps7
    go_wp2_with fail
    refine (works_any _).mono ?_
    rintro e w1 ⟨rfl, hb1⟩
    go_wp2_with fail
    go_ret
    exact ⟨rfl, hb1⟩
  have hlimJ : ¬ (2000 : Int) < (n : Int) := by omega
  by_cases hlim3 : 2000 < u.size
  · have hlimK : (2000 : Int) < (u.size : Int) := by omega
    clear hlim3 hlim2 hlim
    go_enter Tryd.func7, Tryd.ntmps7
    go_wp2_with fail
    refine (works_any _).mono ?_
    rintro e w1 ⟨rfl, hb1⟩
    go_wp2_with fail
    go_ret
    exact ⟨rfl, hb1⟩
  have hlimK : ¬ (2000 : Int) < (u.size : Int) := by omega
  have hn2 : n ≤ 2000 := by omega
  have HN := Lib.hid hn2; clear hn2
  have hs2 : s.size ≤ 1000000 := by omega
  have HS := Lib.hid hs2; clear hs2
  have hu2 : u.size ≤ 1000000 := by omega
  have HU := Lib.hid hu2; clear hu2
  clear hlim hlim2 hlim3
  have hnM : n ≤ 1000000 := by have := HN.out; omega
  have HNM := Lib.hid hnM; clear hnM
  by_cases he : encErr s.data.toList ws = 0
  · have HE := Lib.hid he; clear he
    have HA := Lib.hid hA; clear hA
    go_enter Tryd.func7, Tryd.ntmps7
    go_wp2_with fail
    refine (back_ok s ws n HWS.out A c _ HS.out HNM.out HA.out HE.out).mono ?_
    rintro e w1 ⟨t, ht, htl, rfl, hb1⟩
    have HB1 := Lib.hid hb1
    have HT := Lib.hid ht
    have HTL := Lib.hid htl
    clear hb1 ht htl
    go_wp2_with fail
    refine (back_dec s t ws n HWS.out _ HT.out HTL.out HE.out).mono ?_
    rintro e w2 ⟨A2, c2, rfl, hc2, hb2⟩
    have HB0 := Lib.hid (HB1.out.trans (hb2.mono HB1.out.size))
    have hcv1 := conv_str (P := Tryd.prog) hc2 c2 22 9 5 Tryd.underlying22 Tryd.underlying5 Tryd.underlying9
    have hcv2 := conv_str (P := Tryd.prog) (HA.out.below HB0.out) c 22 9 5 Tryd.underlying22 Tryd.underlying5 Tryd.underlying9
    rw [HWS.out] at hcv1 hcv2
    clear hc2 hb2
    go_wp2_with fail
    clear hcv1 hcv2
    by_cases hd : decErr u.data.toList = 0
    · have HD := Lib.hid hd; clear hd
      refine (back_good u _ HU.out HD.out).mono ?_
      rintro e w3 ⟨A3, c3, n3, h3, ws3, hwl3, hn3, hh3, he3, ht3, rfl, hc3, hb3⟩
      have HB3 := Lib.hid (HB0.out.trans (hb3.mono HB0.out.size))
      have HWL3 := Lib.hid hwl3
      have HE3 := Lib.hid he3
      have HT3 := Lib.hid ht3
      have HC3 := Lib.hid hc3
      have HN3 := Lib.hid hn3
      have HH3 := Lib.hid hh3
      clear hwl3 he3 ht3 hc3 hb3 hn3 hh3
      go_wp2_with fail
      refine (back_ok h3 ws3 n3 HWL3.out A3 c3 _ HH3.out HN3.out HC3.out HE3.out).mono ?_
      rintro e w4 ⟨t4, ht4, -, rfl, hb4⟩
      have HB4 := Lib.hid (HB3.out.trans (hb4.mono HB3.out.size))
      have ht5 : t4 = ⟨(u.data.toList.map lower).toArray⟩ := by
        rw [← HT3.out, ← ht4]
      subst ht5
      clear ht4 hb4
      go_wp2_with fail
      refine (small_any u _ HU.out).mono ?_
      rintro e w5 ⟨rfl, hb5⟩
      have HB := Lib.hid (HB4.out.trans (hb5.mono HB4.out.size))
      clear hb5
      go_wp2_with fail
      refine (bits85 ws n HWS.out A c _ HN.out (HA.out.below HB.out)).mono ?_
      rintro e w5 ⟨A5, xn, c5, x, rfl, hx5, hxn5, hr5, hc5, hb5⟩
      have HB5 := Lib.hid (HB.out.trans (hb5.mono HB.out.size))
      have HX5 := Lib.hid hx5
      have HXN5 := Lib.hid hxn5
      have HR5 := Lib.hid hr5
      have HC5 := Lib.hid hc5
      clear hx5 hxn5 hr5 hc5 hb5
      go_wp2_with fail
      refine (bits58 x ws xn n HWS.out HX5.out A5 c5 _ HXN5.out HC5.out HR5.out).mono ?_
      rintro e w6 ⟨A6, c6, rfl, hc6, hb6⟩
      have HB6 := Lib.hid (HB5.out.trans (hb6.mono HB5.out.size))
      have hcv1 := conv_str (P := Tryd.prog) hc6 c6 22 9 5 Tryd.underlying22 Tryd.underlying5 Tryd.underlying9
      have hcv2 := conv_str (P := Tryd.prog) (HA.out.below HB6.out) c 22 9 5 Tryd.underlying22 Tryd.underlying5 Tryd.underlying9
      rw [HWS.out] at hcv1 hcv2
      clear hc6 hb6
      go_wp2_with fail
      refine (works_any _).mono ?_
      rintro e w7 ⟨rfl, hb7⟩
      go_wp2_with fail
      go_ret
      exact ⟨rfl, HB6.out.trans (hb7.mono HB6.out.size)⟩
    · have HD := Lib.hid hd; clear hd
      refine (back_bad u _ HU.out HD.out).mono ?_
      rintro e w3 ⟨A3, c3, er3, her3, rfl, hb3⟩
      have HB := Lib.hid (HB0.out.trans (hb3.mono HB0.out.size))
      clear hb3
      go_wp2_with fail
      refine (bits85 ws n HWS.out A c _ HN.out (HA.out.below HB.out)).mono ?_
      rintro e w5 ⟨A5, xn, c5, x, rfl, hx5, hxn5, hr5, hc5, hb5⟩
      have HB5 := Lib.hid (HB.out.trans (hb5.mono HB.out.size))
      have HX5 := Lib.hid hx5
      have HXN5 := Lib.hid hxn5
      have HR5 := Lib.hid hr5
      have HC5 := Lib.hid hc5
      clear hx5 hxn5 hr5 hc5 hb5
      go_wp2_with fail
      refine (bits58 x ws xn n HWS.out HX5.out A5 c5 _ HXN5.out HC5.out HR5.out).mono ?_
      rintro e w6 ⟨A6, c6, rfl, hc6, hb6⟩
      have HB6 := Lib.hid (HB5.out.trans (hb6.mono HB5.out.size))
      have hcv1 := conv_str (P := Tryd.prog) hc6 c6 22 9 5 Tryd.underlying22 Tryd.underlying5 Tryd.underlying9
      have hcv2 := conv_str (P := Tryd.prog) (HA.out.below HB6.out) c 22 9 5 Tryd.underlying22 Tryd.underlying5 Tryd.underlying9
      rw [HWS.out] at hcv1 hcv2
      clear hc6 hb6
      go_wp2_with fail
      refine (works_any _).mono ?_
      rintro e w7 ⟨rfl, hb7⟩
      go_wp2_with fail
      go_ret
      exact ⟨rfl, HB6.out.trans (hb7.mono HB6.out.size)⟩
  · have HE := Lib.hid he; clear he
    have HA := Lib.hid hA; clear hA
    go_enter Tryd.func7, Tryd.ntmps7
    go_wp2_with fail
    refine (back_err s ws n HWS.out A c _ HS.out HNM.out HA.out HE.out).mono ?_
    rintro e w1 ⟨t, er, her, rfl, hb1⟩
    have HB0 := Lib.hid hb1
    clear hb1
    go_wp2_with fail
    by_cases hd : decErr u.data.toList = 0
    · have HD := Lib.hid hd; clear hd
      refine (back_good u _ HU.out HD.out).mono ?_
      rintro e w3 ⟨A3, c3, n3, h3, ws3, hwl3, hn3, hh3, he3, ht3, rfl, hc3, hb3⟩
      have HB3 := Lib.hid (HB0.out.trans (hb3.mono HB0.out.size))
      have HWL3 := Lib.hid hwl3
      have HE3 := Lib.hid he3
      have HT3 := Lib.hid ht3
      have HC3 := Lib.hid hc3
      have HN3 := Lib.hid hn3
      have HH3 := Lib.hid hh3
      clear hwl3 he3 ht3 hc3 hb3 hn3 hh3
      go_wp2_with fail
      refine (back_ok h3 ws3 n3 HWL3.out A3 c3 _ HH3.out HN3.out HC3.out HE3.out).mono ?_
      rintro e w4 ⟨t4, ht4, -, rfl, hb4⟩
      have HB4 := Lib.hid (HB3.out.trans (hb4.mono HB3.out.size))
      have ht5 : t4 = ⟨(u.data.toList.map lower).toArray⟩ := by
        rw [← HT3.out, ← ht4]
      subst ht5
      clear ht4 hb4
      go_wp2_with fail
      refine (small_any u _ HU.out).mono ?_
      rintro e w5 ⟨rfl, hb5⟩
      have HB := Lib.hid (HB4.out.trans (hb5.mono HB4.out.size))
      clear hb5
      go_wp2_with fail
      refine (bits85 ws n HWS.out A c _ HN.out (HA.out.below HB.out)).mono ?_
      rintro e w5 ⟨A5, xn, c5, x, rfl, hx5, hxn5, hr5, hc5, hb5⟩
      have HB5 := Lib.hid (HB.out.trans (hb5.mono HB.out.size))
      have HX5 := Lib.hid hx5
      have HXN5 := Lib.hid hxn5
      have HR5 := Lib.hid hr5
      have HC5 := Lib.hid hc5
      clear hx5 hxn5 hr5 hc5 hb5
      go_wp2_with fail
      refine (bits58 x ws xn n HWS.out HX5.out A5 c5 _ HXN5.out HC5.out HR5.out).mono ?_
      rintro e w6 ⟨A6, c6, rfl, hc6, hb6⟩
      have HB6 := Lib.hid (HB5.out.trans (hb6.mono HB5.out.size))
      have hcv1 := conv_str (P := Tryd.prog) hc6 c6 22 9 5 Tryd.underlying22 Tryd.underlying5 Tryd.underlying9
      have hcv2 := conv_str (P := Tryd.prog) (HA.out.below HB6.out) c 22 9 5 Tryd.underlying22 Tryd.underlying5 Tryd.underlying9
      rw [HWS.out] at hcv1 hcv2
      clear hc6 hb6
      go_wp2_with fail
      refine (works_any _).mono ?_
      rintro e w7 ⟨rfl, hb7⟩
      go_wp2_with fail
      go_ret
      exact ⟨rfl, HB6.out.trans (hb7.mono HB6.out.size)⟩
    · have HD := Lib.hid hd; clear hd
      refine (back_bad u _ HU.out HD.out).mono ?_
      rintro e w3 ⟨A3, c3, er3, her3, rfl, hb3⟩
      have HB := Lib.hid (HB0.out.trans (hb3.mono HB0.out.size))
      clear hb3
      go_wp2_with fail
      refine (bits85 ws n HWS.out A c _ HN.out (HA.out.below HB.out)).mono ?_
      rintro e w5 ⟨A5, xn, c5, x, rfl, hx5, hxn5, hr5, hc5, hb5⟩
      have HB5 := Lib.hid (HB.out.trans (hb5.mono HB.out.size))
      have HX5 := Lib.hid hx5
      have HXN5 := Lib.hid hxn5
      have HR5 := Lib.hid hr5
      have HC5 := Lib.hid hc5
      clear hx5 hxn5 hr5 hc5 hb5
      go_wp2_with fail
      refine (bits58 x ws xn n HWS.out HX5.out A5 c5 _ HXN5.out HC5.out HR5.out).mono ?_
      rintro e w6 ⟨A6, c6, rfl, hc6, hb6⟩
      have HB6 := Lib.hid (HB5.out.trans (hb6.mono HB5.out.size))
      have hcv1 := conv_str (P := Tryd.prog) hc6 c6 22 9 5 Tryd.underlying22 Tryd.underlying5 Tryd.underlying9
      have hcv2 := conv_str (P := Tryd.prog) (HA.out.below HB6.out) c 22 9 5 Tryd.underlying22 Tryd.underlying5 Tryd.underlying9
      rw [HWS.out] at hcv1 hcv2
      clear hc6 hb6
      go_wp2_with fail
      refine (works_any _).mono ?_
      rintro e w7 ⟨rfl, hb7⟩
      go_wp2_with fail
      go_ret
      exact ⟨rfl, HB6.out.trans (hb7.mono HB6.out.size)⟩
end Go.Proofs.YtnkhbhkmllnniaaDoor
