/- Bits at fitting numbers of bits: BitsRes. -/
import Derived.Test.YtnkhbhkmllnniaaDoorT5
import Derived.Test.YtnkhbhkmllnniaaDoorBitsM
import Derived.Deep.RegionLaw
import Derived.Deep.RegionHeld3
namespace Go.Proofs.YtnkhbhkmllnniaaDoor
open Go.RowKit Bech

def BitsPost (l : List UInt8) (f t : Int) (pad : Bool) (w : World) (e : Ending) (w' : World) : Prop :=
  ∃ v x err, e = .returned (.tuple #[v, .int .i64 err]) ∧ BitsRes l f t pad x err ∧ Own1 w' w.heap.size 5 v (bv x) ∧ Below w.heap.size w w'

set_option maxHeartbeats 1000000 in
theorem bits_good (l : List UInt8) (A : Option Addr) (c : Nat) (F T : Nat) (pad : Bool) (w : World) (hl : l.length ≤ 1000000) (hA : Cells w A (bv l)) (hF1 : 1 ≤ F) (hF8 : F ≤ 8) (hT1 : 1 ≤ T) (hT8 : T ≤ 8) :
    Calls Tryd.prog 14 #[.slice A l.length c, .int .i64 F, .int .i64 T, .bool pad] w (BitsPost l F T pad w) := by
  go_enter Tryd.func14, Tryd.ntmps14
  go_wp2
  go_loopw [10, 11, 12, 31] (fun v held n i wr => ∃ (k : Nat) (out rest : List UInt8), k ≤ l.length ∧ i = .int .i64 k ∧ held = .int .i64 (numOf rest : Nat) ∧ n = .int .i64 (rest.length : Nat) ∧
      Cut T (rowOf F (l.take k)) out rest ∧ IsBits rest ∧ rest.length < T ∧ (∀ b ∈ l.take k, b.toNat < 2 ^ F) ∧ out.length ≤ 8 * k ∧ Own1 wr w.heap.size 5 v (bv out) ∧ Below w.heap.size w wr) (fun _ _ _ i _ => l.length - (intOf i).toNat)
  case atStart => exact ⟨0, [], [], Nat.zero_le _, rfl, rfl, rfl, Cut.nil _ _, (fun b hb => by cases hb), by simp; omega, (fun b hb => by cases hb), Nat.zero_le _, Own1.nil _ _ _, Below.refl _ _⟩
  case round =>
    obtain ⟨k, out, rest, hk, rfl, rfl, rfl, hcut, hbits, hrest, hsm, hol, hown, hb⟩ := hrel
    have hnum : numOf rest < 128 := numOf_bd (n := 7) hbits (by omega)
    have HC := Lib.hid hcut; clear hcut
    have HI := Lib.hid hbits; clear hbits
    have HSM := Lib.hid hsm; clear hsm
    by_cases hlt : k < l.length
    · obtain ⟨ad, rfl, hc⟩ := (hA.below hb).byte hlt
      clear hA
      have hx8 := l[k].toNat_lt
      generalize hdx : l[k].toNat = x at hc hx8
      have HX := Lib.hid hdx; clear hdx
      by_cases hx : x < 2 ^ F
      · have hxd : (x : Int) / 2 ^ F ≤ 0 := by
          have : x / 2 ^ F = 0 := Nat.div_eq_of_lt hx
          have h2 : ((x / 2 ^ F : Nat) : Int) = (x : Int) / 2 ^ F := by simp
          omega
        have hj := join_i64 (h := numOf rest) (by omega) hF8 hx
        obtain ⟨R, hR⟩ : ∃ R, R = rest ++ toBits F x := ⟨_, rfl⟩
        have hhe : numOf rest * 2 ^ F + x = numOf R := by rw [hR, numOf_append, numOf_toBits, toBits_length, Nat.mod_eq_of_lt hx]
        rw [hhe] at hj
        have hRl : R.length = rest.length + F := by rw [hR, List.length_append, toBits_length]
        have hRb : IsBits R := by rw [hR]; exact isBits_append HI.out (toBits_isBits _ _)
        have hnR : numOf R < 32768 := numOf_bd (n := 15) hRb (by omega)
        have hcutR : Cut T (rowOf F (l.take (k + 1))) out R := by
          rw [rowOf_snoc F l k hlt, HX.out, hR]
          exact HC.out.more _
        have hsm1 : ∀ b ∈ l.take (k + 1), b.toNat < 2 ^ F := by
          intro b hb'
          rw [List.take_succ_eq_append_getElem hlt] at hb'
          rcases List.mem_append.1 hb' with h | h
          · exact HSM.out b h
          · rw [List.mem_singleton.1 h, HX.out]; exact hx
        have HSM1 := Lib.hid hsm1; clear hsm1
        have HRB := Lib.hid hRb; clear hRb
        have HCR := Lib.hid hcutR; clear hcutR
        have HRl := Lib.hid hRl; clear hRl
        clear hR hhe HSM HC HI HX
        go_wp2_with fail
        clear hj hc
        obtain ⟨wo, hwo⟩ : ∃ wo : World, wo = wr := ⟨_, rfl⟩
        subst hwo
        go_loopw [10, 12] (fun v n wr => ∃ (out' pre rem : List UInt8), n = .int .i64 (rem.length : Nat) ∧ R = pre ++ rem ∧ Cut T (rowOf F (l.take (k + 1))) out' rem ∧ IsBits rem ∧ rem.length ≤ 15 ∧ Own1 wr w.heap.size 5 v (bv out') ∧ Below w.heap.size w wr) (fun _ n _ => (intOf n).toNat)
        case atStart => exact ⟨out, [], R, (by rw [HRl.out]; simp), rfl, HCR.out, HRB.out, (by rw [HRl.out]; omega), hown, hb⟩
        case round =>
          obtain ⟨out', pre, rem, hn, hpre, hcut, hbits, hrem, hown, hb⟩ := hrel
          have hol2 : out'.length ≤ 8 * (k + 1) := by
            have h1 := hcut.len hT1
            rw [rowOf_length, List.length_take] at h1
            have h2 : min (k + 1) l.length * F ≤ (k + 1) * 8 := Nat.mul_le_mul (Nat.min_le_left _ _) hF8
            omega
          have HP := Lib.hid hpre; clear hpre
          have HCU := Lib.hid hcut; clear hcut
          have HB := Lib.hid hbits; clear hbits
          obtain ⟨q, hq⟩ : ∃ q, rem.length = q := ⟨_, rfl⟩
          rw [hq] at hn hrem
          subst hn
          have HQ := Lib.hid hq; clear hq
          generalize hgen : numOf R = hh at hnR
          have HG := Lib.hid hgen; clear hgen
          by_cases hge : T ≤ q
          · obtain ⟨m, rfl⟩ : ∃ m, q = m + T := ⟨q - T, by omega⟩
            have hrl := round_lem HCU.out HB.out HP.out HQ.out hT8
            rw [HG.out] at hrl
            have w0 : IntKind.i64.wrap (m : Int) = (m : Int) := wrapn (by omega)
            have w1 := wrap_two hT8
            have w2 := wrap_two1 hT8
            obtain ⟨y, hy⟩ : ∃ y, y = hh / 2 ^ m % 2 ^ T := ⟨_, rfl⟩
            have hy8 : y < 256 := by have := Nat.mod_lt (hh / 2 ^ m) (Nat.two_pow_pos T); have := pow_le8 hT8; omega
            have w4 : bits .and .i64 ((hh : Int) / 2 ^ m) (2 ^ T - 1) = (y : Int) := by
              rw [shr_cast, hy]
              exact and_mask (by have := Nat.div_le_self hh (2 ^ m); omega) hT8
            rw [← hy] at hrl
            clear hy
            obtain ⟨pre', rem', hm, hp', hc', hb'⟩ := hrl
            have HM := Lib.hid hm; clear hm
            have HP' := Lib.hid hp'; clear hp'
            have HC' := Lib.hid hc'; clear hc'
            have HB' := Lib.hid hb'; clear hb'
            go_wp2_with fail
            go_region_law (refine step_app1 sl22 rfl (.tmp 55) (.tmp 66) rfl w.heap.size _ (bv out') (by rfl) (by exact hown.alloc _) _ _ 1 (by rfl) (by exact cell_one_new _ _ _ 0 _ rfl) (by rfl) (by rw [bv_length]; omega) (by rw [bv_length]; omega) (by have := hb.size; simp; omega) ?_; intro v' wn hown1 hg1 hb1 hat)
            have hbn : Below w.heap.size w wn := ((hb.alloc hb.size _).drew).trans hb1
            clear w0 w1 w2 w4 hb1 hg1 hat
            have HO := Lib.hid hown1
            clear hown1
            go_wp2
            go_roundw
            case rel =>
              refine ⟨out' ++ [UInt8.ofNat y], pre', rem', by rw [HM.out], HP'.out, HC'.out, HB'.out, by rw [HM.out]; omega, ?_, hbn⟩
              have h := HO.out
              rw [IntKind.wrap_u8', show (y : Int) % 256 = (y : Int) by omega] at h
              rw [bv_snoc]
              have e : ((UInt8.ofNat y).toNat : Int) = (y : Int) := by rw [UInt8.toNat_ofNat']; omega
              rw [e]
              exact h
            case measure => simp [intOf]; omega
          · have hmv := mask_val HP.out HB.out
            rw [HG.out, HQ.out] at hmv
            obtain ⟨z, hz⟩ : ∃ z, z = numOf rem := ⟨_, rfl⟩
            rw [← hz] at hmv
            have w1 := wrap_two (T := q) (by omega)
            have w2 := wrap_two1 (T := q) (by omega)
            have w4 : bits .and .i64 (hh : Int) (2 ^ q - 1) = (z : Int) := by rw [← hmv]; exact and_mask (by omega) (by omega)
            have HZ := Lib.hid hz; clear hz
            clear hmv
            have HO := Lib.hid hown
            clear hown
            go_wp2_with fail
            go_roundw
            case rel => exact ⟨k + 1, out', rem, by omega, by go_num, by rw [HZ.out], by rw [HQ.out], HCU.out, HB.out, by rw [HQ.out]; omega, HSM1.out, hol2, HO.out, hb⟩
            case measure => simp [intOf]; omega
      · have hxd : 0 < (x : Int) / 2 ^ F := by
          have : 1 ≤ x / 2 ^ F := (Nat.one_le_div_iff (Nat.two_pow_pos F)).2 (by omega)
          have h2 : ((x / 2 ^ F : Nat) : Int) = (x : Int) / 2 ^ F := by simp
          omega
        go_wp2_with fail
        go_ret2
        refine ⟨_, [], 50, rfl, .inr (.inl ⟨by omega, ⟨l[k], List.getElem_mem _, by rw [HX.out]; simpa using hx⟩, rfl, rfl⟩), Own1.nil _ _ _, hb⟩
    · have hke : l.take k = l := List.take_of_length_le (by omega)
      have hc2 := HC.out
      have hs2 := HSM.out
      rw [hke] at hc2 hs2
      have HC2 := Lib.hid hc2; clear hc2
      have HS2 := Lib.hid hs2; clear hs2
      clear hke HC HSM
      cases pad with
      | false =>
        by_cases hbad : F ≤ rest.length ∨ numOf rest ≠ 0
        · have hfin : BitsRes l F T false [] 50 := .inr (.inr ⟨by omega, by simpa using HS2.out, out, rest, by simpa using HC2.out, by simpa using hrest, .inr (.inl ⟨rfl, by simpa using hbad, rfl, rfl⟩)⟩)
          have HF := Lib.hid hfin; clear hfin
          clear HC2 HS2 HI
          generalize rest.length = q at hrest hbad
          generalize numOf rest = h at hnum hbad
          go_wp2_with fail
          all_goals first
            | (go_ret2; exact ⟨_, [], 50, rfl, HF.out, Own1.nil _ _ _, hb⟩)
            | (exfalso
               have hq : ¬ F ≤ q ∧ ((h : Int) != 0) = false := by assumption
               have h2 := hq.2
               rw [bne_eq_false_iff_eq] at h2
               omega)
        · have hfin : BitsRes l F T false out 0 := .inr (.inr ⟨by omega, by simpa using HS2.out, out, rest, by simpa using HC2.out, by simpa using hrest, .inr (.inr ⟨rfl, by simp; omega, by omega, rfl, rfl⟩)⟩)
          have HF := Lib.hid hfin; clear hfin
          clear HC2 HS2 HI
          generalize rest.length = q at hrest hbad
          generalize numOf rest = h at hnum hbad
          obtain rfl : h = 0 := by omega
          have hq : q < F := by omega
          clear hbad
          go_wp2_with fail
          all_goals first
            | (go_ret2; exact ⟨_, out, 0, rfl, HF.out, hown, hb⟩)
      | true =>
        by_cases h0 : rest = []
        · have hfin : BitsRes l F T true out 0 := .inr (.inr ⟨by omega, by simpa using HS2.out, out, rest, by simpa using HC2.out, by simpa using hrest, .inl ⟨rfl, rfl, by rw [if_pos h0]⟩⟩)
          have HF := Lib.hid hfin; clear hfin
          clear HC2 HS2 HI
          subst h0
          have hz : ((([] : List UInt8).length : Nat) : Int) = 0 := rfl
          go_wp2_with fail
          all_goals first
            | (go_ret2; exact ⟨_, out, 0, rfl, HF.out, hown, hb⟩)
        · obtain ⟨d, hd⟩ : ∃ d, T = rest.length + d := ⟨T - rest.length, by omega⟩
          have hlp : 0 < rest.length := List.length_pos_iff.2 h0
          have hval : numOf rest * 2 ^ d < 256 := by
            have h1 := numOf_lt HI.out
            have h2 : numOf rest * 2 ^ d < 2 ^ rest.length * 2 ^ d := Nat.mul_lt_mul_of_pos_right h1 (Nat.two_pow_pos d)
            rw [← Nat.pow_add, ← hd] at h2
            have := pow_le8 hT8
            omega
          have hfin : BitsRes l F T true (out ++ [UInt8.ofNat (numOf rest * 2 ^ d)]) 0 := .inr (.inr ⟨by omega, by simpa using HS2.out, out, rest, by simpa using HC2.out, by simpa using hrest, .inl ⟨rfl, rfl, by
            rw [if_neg h0, show (T : Int).toNat - rest.length = d by simp; omega]⟩⟩)
          have HF := Lib.hid hfin; clear hfin
          clear HC2 HS2 HI h0
          generalize rest.length = q at hrest hlp hd
          generalize hn : numOf rest = h at hnum hval HF
          clear hn
          have hwp := wrap_pow (a := h) (n := d) (by omega) (by omega)
          obtain ⟨y, hy⟩ : ∃ y, y = h * 2 ^ d := ⟨_, rfl⟩
          rw [← hy] at hval hwp HF
          have hsub : ((T : Int) - (q : Int)).toNat = d := by omega
          clear hy
          have HD := Lib.hid hd; clear hd
          go_wp2_with (at_builtin; refine wpList_app1 sl22 rfl _ _ rfl w.heap.size _ (bv out) (by rfl) hown _ (by rfl) (by rfl) (by rw [bv_length]; omega) (by rw [bv_length]; omega) hb.size hown.own_ge ?_; intro v' wn hown1 hg1 hb1 hat)
          all_goals first
            | (go_ret2; exact ⟨_, _, 0, rfl, HF.out, (by rw [bv_snoc, show ((UInt8.ofNat y).toNat : Int) = (y : Int) by (rw [UInt8.toNat_ofNat']; omega)]; exact hown1), hb.trans hb1⟩)
end Go.Proofs.YtnkhbhkmllnniaaDoor
