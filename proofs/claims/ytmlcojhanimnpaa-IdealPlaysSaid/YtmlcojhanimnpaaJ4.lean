/- alike (of the statements): it is true of two ledgers that tell the same. -/
import Derived.Test.YtmlcojhanimnpaaJ3
namespace Go.Proofs.Ytmlcojhanimnpaa
open Go.RowKit

set_option maxRecDepth 100000 in
set_option maxHeartbeats 8000000 in
theorem alike_any (p c d : Nat) (v : Value) (vs : List Value) (s : Led) (p' c' d' : Nat) (v' : Value) (vs' : List Value) (s' : Led) (w : World) (hs : Inv s) (hn : Named s) (h : LedAt w p c d v vs s) (hs' : Inv s') (hn' : Named s') (h' : LedAt w p' c' d' v' vs' s')
    (ha : accs s' = accs s) (hc : chs s' = chs s) (hh : s'.holds = s.holds) :
    Calls Try.prog 26 #[.pointer (some ⟨p, 0, none⟩), .pointer (some ⟨p', 0, none⟩)] w fun e w' => e = .returned (.bool true) ∧ Below w.heap.size w w' := by
  have HA := Lib.hid (acc_any p c d v vs s w hs hn h)
  have H := Lib.hid h
  have HS := Lib.hid hs
  have HN := Lib.hid hn
  have H' := Lib.hid h'
  have HS' := Lib.hid hs'
  have HN' := Lib.hid hn'
  have EA := Lib.hid ha
  have EC := Lib.hid hc
  have EH := Lib.hid hh
  have hla := accs_len s
  have hlc := chs_len s
  have hk1 := hs.lk
  have hk2 := hs.lc
  have hk3 := hs.lh
  have hA1 : (accs s).length ≤ 64 := by omega
  have hC1 : (chs s).length ≤ 256 := by omega
  clear h hs hn h' hs' hn' ha hc hh hla hlc hk1 hk2
  go_enter Try.func26, Try.ntmps26
  go_wp2_with fail
  refine HA.out.mono ?_
  rintro e w1 ⟨va, rfl, howa, hb1⟩
  obtain ⟨Aa, ca, rfl, -, hca⟩ := own_shape howa
  have HC1 := Lib.hid hca
  have HB1 := Lib.hid hb1
  have H1 := Lib.hid (H.out.below hb1)
  have H1' := Lib.hid (H'.out.below hb1)
  clear howa hca hb1
  go_wp2_with fail
  refine (acc_any p' c' d' v' vs' s' _ HS'.out HN'.out H1'.out).mono ?_
  rintro e w2 ⟨va, rfl, howa, hb2⟩
  rw [EA.out] at howa
  obtain ⟨Aa', ca', rfl, -, hca⟩ := own_shape howa
  have HC1 := Lib.hid (HC1.out.below hb2)
  have HC2 := Lib.hid hca
  have H2 := Lib.hid (H1.out.below hb2)
  have H2' := Lib.hid (H1'.out.below hb2)
  have HB2 := Lib.hid (HB1.out.trans (hb2.mono HB1.out.size))
  clear howa hca hb2
  go_wp2_with fail
  refine (chs_any p c d v vs s _ HS.out HN.out H2.out).mono ?_
  rintro e w3 ⟨va, rfl, howa, hb3⟩
  obtain ⟨Ac, cc, rfl, -, hca⟩ := own_shape howa
  have HC1 := Lib.hid (HC1.out.below hb3)
  have HC2 := Lib.hid (HC2.out.below hb3)
  have HC3 := Lib.hid hca
  have H3 := Lib.hid (H2.out.below hb3)
  have H3' := Lib.hid (H2'.out.below hb3)
  have HB3 := Lib.hid (HB2.out.trans (hb3.mono HB2.out.size))
  clear howa hca hb3
  go_wp2_with fail
  refine (chs_any p' c' d' v' vs' s' _ HS'.out HN'.out H3'.out).mono ?_
  rintro e w4 ⟨va, rfl, howa, hb4⟩
  rw [EC.out] at howa
  obtain ⟨Ac', cc', rfl, -, hca⟩ := own_shape howa
  have HC1 := Lib.hid (HC1.out.below hb4)
  have HC2 := Lib.hid (HC2.out.below hb4)
  have HC3 := Lib.hid (HC3.out.below hb4)
  have HC4 := Lib.hid hca
  have H4 := Lib.hid (H3.out.below hb4)
  have H4' := Lib.hid (H3'.out.below hb4)
  have HB4 := Lib.hid (HB3.out.trans (hb4.mono HB3.out.size))
  clear howa hca hb4
  go_wp2_with fail
  refine (holds_any p c d v vs s _ HS.out H4.out).mono ?_
  rintro e w5 ⟨vh, us, rfl, howh, hvh, hb5⟩
  obtain ⟨Ah, ch, rfl, -, hch⟩ := own_shape howh
  have HC1 := Lib.hid (HC1.out.below hb5)
  have HC2 := Lib.hid (HC2.out.below hb5)
  have HC3 := Lib.hid (HC3.out.below hb5)
  have HC4 := Lib.hid (HC4.out.below hb5)
  have HC5 := Lib.hid (⟨hch, hvh⟩ : HoldsIn w5 Ah s.holds us)
  have H5' := Lib.hid (H4'.out.below hb5)
  have HB5 := Lib.hid (HB4.out.trans (hb5.mono HB4.out.size))
  clear howh hvh hch hb5
  go_wp2_with fail
  refine (holds_any p' c' d' v' vs' s' _ HS'.out H5'.out).mono ?_
  rintro e w6 ⟨vh, us', rfl, howh, hvh, hb6⟩
  rw [EH.out] at howh hvh
  obtain ⟨Ah', ch', rfl, -, hch⟩ := own_shape howh
  have HC1 := Lib.hid (HC1.out.below hb6)
  have HC2 := Lib.hid (HC2.out.below hb6)
  have HC3 := Lib.hid (HC3.out.below hb6)
  have HC4 := Lib.hid (HC4.out.below hb6)
  have HC5 := Lib.hid (HC5.out.below hb6)
  have HC6 := Lib.hid (⟨hch, hvh⟩ : HoldsIn w6 Ah' s.holds us')
  have HB6 := Lib.hid (HB5.out.trans (hb6.mono HB5.out.size))
  clear howh hvh hch hb6
  go_wp2_with fail
  go_loopw [11] (fun i wr => ∃ k : Nat, k ≤ (accs s).length ∧ i = .int .i64 k ∧ Below w6.heap.size w6 wr) (fun i _ => (accs s).length - (intOf i).toNat)
  case atStart => exact ⟨0, Nat.zero_le _, rfl, Below.refl _ _⟩
  case round =>
    obtain ⟨k, hk, rfl, hb⟩ := hrel
    have HBB := Lib.hid hb
    by_cases hlt : k < (accs s).length
    · obtain ⟨ad, rfl, c0, c1⟩ := acc_look (HC1.out.below hb) hlt
      obtain ⟨ad', rfl, d0, d1⟩ := acc_look (HC2.out.below hb) hlt
      obtain ⟨P, hP⟩ : ∃ P, (accs s)[k] = P := ⟨_, rfl⟩
      rw [hP] at c0 c1 d0 d1
      clear hb hP
      go_wp2_with fail
      go_quiet (fail)
      go_wp2_with fail
      go_roundw
      case rel => exact ⟨k + 1, by omega, by go_num, below_drewN HBB.out _⟩
      case measure => simp [intOf]; omega
    · clear hb
      go_wp2_with fail
      go_loopw [12] (fun i wr => ∃ k : Nat, k ≤ (chs s).length ∧ i = .int .i64 k ∧ Below w6.heap.size w6 wr) (fun i _ => (chs s).length - (intOf i).toNat)
      case atStart => exact ⟨0, Nat.zero_le _, rfl, HBB.out⟩
      case round =>
        obtain ⟨k, hk, rfl, hb⟩ := hrel
        have HBB := Lib.hid hb
        by_cases hlt : k < (chs s).length
        · obtain ⟨ad, rfl, c0, c1, c2, c3, c4, c5⟩ := ch_look (HC3.out.below hb) hlt
          obtain ⟨ad', rfl, d0, d1, d2, d3, d4, d5⟩ := ch_look (HC4.out.below hb) hlt
          obtain ⟨P, hP⟩ : ∃ P, (chs s)[k] = P := ⟨_, rfl⟩
          rw [hP] at c0 c1 c2 c3 c4 c5 d0 d1 d2 d3 d4 d5
          clear hb hP
          go_wp2_with fail
          go_quiet (fail)
          go_wp2_with fail
          go_roundw
          case rel => exact ⟨k + 1, by omega, by go_num, below_drewN HBB.out _⟩
          case measure => simp [intOf]; omega
        · clear hb
          go_wp2_with fail
          go_loopw [13] (fun i wr => ∃ k : Nat, k ≤ s.holds.length ∧ i = .int .i64 k ∧ Below w6.heap.size w6 wr) (fun i _ => s.holds.length - (intOf i).toNat)
          case atStart => exact ⟨0, Nat.zero_le _, rfl, HBB.out⟩
          case round =>
            obtain ⟨k, hk, rfl, hb⟩ := hrel
            have HBB := Lib.hid hb
            by_cases hlt : k < s.holds.length
            · obtain ⟨ad, B1, b1, rfl, c0, c1, -⟩ := (HC5.out.below hb).look hlt
              obtain ⟨ad', B2, b2, rfl, d0, d1, -⟩ := (HC6.out.below hb).look hlt
              obtain ⟨P, hP⟩ : ∃ P, s.holds[k] = P := ⟨_, rfl⟩
              rw [hP] at c0 c1 d0 d1
              clear hb hP
              go_wp2_with fail
              go_quiet (fail)
              go_wp2_with fail
              go_roundw
              case rel => exact ⟨k + 1, by omega, by go_num, below_drewN HBB.out _⟩
              case measure => simp [intOf]; omega
            · clear hb
              go_wp2_with fail
              go_ret
              exact ⟨rfl, HB6.out.trans (HBB.out.mono HB6.out.size)⟩
end Go.Proofs.Ytmlcojhanimnpaa
