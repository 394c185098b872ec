/- BechBits: the call gives true. -/
import Derived.Test.YtnkhbhkmllnniaaDoorT22
import Derived.Test.YtnkhbhkmllnniaaDoorT9
import Derived.Test.YtnkhbhkmllnniaaDoorT12
namespace Go.Proofs.YtnkhbhkmllnniaaDoor
open Go.RowKit Bech

theorem bits_n (l : List UInt8) (n : Nat) (hn : l.length = n) (A : Option Addr) (c : Nat) (f t : Int) (pad : Bool) (w : World) (hl : n ≤ 1000000) (hA : Cells w A (bv l)) :
    Calls Tryd.prog 14 #[.slice A n c, .int .i64 f, .int .i64 t, .bool pad] w (BitsPost l f t pad w) := by
  subst hn; exact bits_any l A c f t pad w hl hA
theorem refBits_n (l : List UInt8) (n : Nat) (hn : l.length = n) (A : Option Addr) (c : Nat) (f t : Int) (pad : Bool) (w : World) (hl : n ≤ 1000000) (hA : Cells w A (bv l)) :
    Calls Tryd.prog 15 #[.slice A n c, .int .i64 f, .int .i64 t, .bool pad] w (RBitsPost l f t pad w) := by
  subst hn; exact refBits_any l A c f t pad w hl hA
theorem Cells.under {w0 w w' : World} {b : Nat} {A : Option Addr} {xs : List Value} (h0 : Cells w0 A xs) (hs : w0.heap.size ≤ b) (h : Cells w A xs) (hb : Below b w w') : Cells w' A xs := fun hn => by
  obtain ⟨ad, he, hc⟩ := h hn
  obtain ⟨ad', he', hc'⟩ := h0 hn
  obtain rfl : ad = ad' := by rw [he] at he'; exact Option.some.inj he'
  refine ⟨ad, he, fun j u hj => (hb.cell ?_).trans (hc j u hj)⟩
  have := cell_lt (hc' j u hj)
  omega
theorem own_set {w : World} {base : Nat} {E : TypeId} {A : Option Addr} {n c : Nat} {xs : List Value} (h : Own1 w base E (.slice A n c) xs) (hn : xs.length = n) {k : Nat} (hk : k < n) (u : Value) :
    ∃ ad v0, A = some ad ∧ n ≤ 9223372036854775807 ∧ base ≤ (ad.add k).block ∧ w.cell? (ad.add k) = some v0 ∧ w.frozen? (ad.add k) = false ∧ ∃ xs', xs'.length = n ∧ Own1 (w.setCell (ad.add k) u) base E (.slice A n c) xs' := by
  obtain ⟨h1, h2⟩ := h
  rcases h2 with ⟨hv, h0⟩ | ⟨g, cap, cur, hv, hge, hblk, hnc, hm, hsz, htk⟩
  · omega
  · injection hv with ha hb hc
    subst ha; subst hc
    have e : (⟨g, 0, none⟩ : Addr).add k = ⟨g, k, none⟩ := by rw [Go.WideShapes.add_plain, Nat.zero_add]
    rw [Nat.mul_one] at hsz
    refine ⟨⟨g, 0, none⟩, cur[k]'(by omega), rfl, by unfold maxLen at hm; omega, by rw [e]; exact hge, by rw [e]; exact cell_of_block hblk k (by omega), by rw [e]; exact free_of_block hblk k, (cur.setIfInBounds k u).toList.take n, by simp; omega, ?_⟩
    rw [e]
    have hl : ((cur.setIfInBounds k u).toList.take n).length = n := by simp; omega
    refine ⟨by rw [hl]; omega, .inr ⟨g, c, _, by rw [hl], hge, setCell_block hblk k u, by rw [hl]; omega, hm, by simp; omega, by rw [hl, Nat.mul_one]⟩⟩

set_option maxHeartbeats 1000000 in
theorem bechBits_walk (l : List UInt8) (A : Option Addr) (c : Nat) (f t : Int) (pad : Bool) (w : World) (hA : Cells w A (bv l)) :
    Calls Tryd.prog 6 #[.slice A l.length c, .int .i64 f, .int .i64 t, .bool pad] w (LawPost w) := by
  by_cases hlim2 : 2000 < l.length
  · have hlimJ : (2000 : Int) < (l.length : Int) := by omega
    clear hlim2
    go_enter Tryd.func6, Tryd.ntmps6
    go_wp2_with fail
    refine (works_any _).mono ?_
    rintro e w1 ⟨rfl, hb1⟩
    go_wp2_with fail
    go_ret
    exact ⟨rfl, hb1⟩
  · have hlimJ : ¬ (2000 : Int) < (l.length : Int) := by omega
    have hcv0 := conv_str (P := Tryd.prog) hA c 22 9 5 Tryd.underlying22 Tryd.underlying5 Tryd.underlying9
    have hsz : (ByteArray.mk l.toArray).size = l.length := rfl
    obtain ⟨c1, w1, hconv, hrow, hb1, hlt1⟩ := conv_bytes (P := Tryd.prog) w 9 22 5 ⟨l.toArray⟩ Tryd.underlying9 Tryd.underlying22 Tryd.underlying5 (by rw [hsz]; omega)
    have hcell1 : Cells w1 (some ⟨w.heap.size, 0, none⟩) (bv l) := by
      obtain ⟨A', c', hv, -, hc⟩ := hrow.shape
      injection hv with h1 h2 h3
      subst h1
      exact hc
    have hA1 := hA.below hb1
    rw [hsz] at hconv
    clear hrow
    generalize hws : l.length = n at *
    have HWS := Lib.hid hws; clear hws
    clear hsz
    go_enter Tryd.func6, Tryd.ntmps6
    go_wp2_with fail
    refine (bits_n l n HWS.out _ _ f t pad _ (by omega) hcell1).mono ?_
    rintro e w2 ⟨v, x, er, rfl, hres, hown, hb2⟩
    have hA2 := hA1.below hb2
    obtain ⟨A3, c3, hv, hc3, hcell3⟩ := hown.shape
    rw [bv_length] at hv
    subst hv
    generalize hxn : x.length = xn at *
    have HXN := Lib.hid hxn; clear hxn
    have HRES := Lib.hid hres; clear hres
    go_wp2_with fail
    refine (refBits_n l n HWS.out A c f t pad w2 (by omega) hA2).mono ?_
    rintro e w3 ⟨v', x', er', rfl, hres', hrow', hb3⟩
    obtain ⟨rfl, rfl⟩ := BitsRes.unique HRES.out hres'
    obtain ⟨A4, c4, hv4, hc4, hcell4⟩ := hrow'.shape
    rw [bv_length, HXN.out] at hv4
    subst hv4
    have hcv1 := conv_str (P := Tryd.prog) (hcell3.below hb3) c3 22 9 5 Tryd.underlying22 Tryd.underlying5 Tryd.underlying9
    have hcv2 := conv_str (P := Tryd.prog) hcell4 c4 22 9 5 Tryd.underlying22 Tryd.underlying5 Tryd.underlying9
    rw [HXN.out] at hcv1 hcv2
    have hown3 := hown.below hb3
    have hlen3 : (bv x).length = xn := by rw [bv_length]; exact HXN.out
    have hA3 := hA2.below hb3
    have hin3 := (hcell1.below hb2).below hb3
    have hb13 : Below w1.heap.size w1 w3 := hb2.trans (hb3.mono hb2.size)
    have HOWN := Lib.hid hown3
    have HA := Lib.hid hA
    have HA3 := Lib.hid hA3
    have HIN1 := Lib.hid hcell1
    have HIN3 := Lib.hid hin3
    have HL3 := Lib.hid hlen3
    have hb13s := hb13.size
    have hxn0 : (xn : Int) ≤ (c3 : Int) := by rw [bv_length, HXN.out] at hc3; omega
    have HXC := Lib.hid hxn0
    clear hcv0 hconv hown hown3 hlen3 hA hA1 hA2 hA3 hcell1 hcell3 hcell4 hin3 hb2 hb3 hrow' hres' hlim2 hlimJ hc3 hc4 hxn0
    go_wp2_with fail
    clear hcv1 hcv2
    go_loopw [14] (fun i wr => ∃ k : Nat, k ≤ xn ∧ i = .int .i64 k ∧ Below w1.heap.size w3 wr ∧ ∃ xs' : List Value, xs'.length = xn ∧ Own1 wr w1.heap.size 5 (.slice A3 xn c3) xs') (fun i _ => xn - (intOf i).toNat)
    case atStart => exact ⟨0, Nat.zero_le _, rfl, Below.refl _ _, bv x, HL3.out, HOWN.out⟩
    case round =>
      obtain ⟨k, hk, rfl, hbr, xs', hxs, hown⟩ := hrel
      by_cases hlt : k < xn
      · obtain ⟨ad, v0, hA3, hxb, hge, hc, hf, xs2, hxs2, hown2⟩ := own_set hown hxs hlt (.int .u8 238)
        subst hA3
        have HO2 := Lib.hid hown2
        have HB2 := Lib.hid (hbr.setCell hge (.int .u8 238))
        clear hown hown2 hxs
        go_wp2_with fail
        go_roundw
        case rel => exact ⟨k + 1, by omega, by go_num, HB2.out, xs2, hxs2, HO2.out⟩
        case measure => simp [intOf]; omega
      · have hcv1 := conv_str (P := Tryd.prog) (HIN1.out.under (Nat.le_refl _) HIN3.out hbr) c1 22 9 5 Tryd.underlying22 Tryd.underlying5 Tryd.underlying9
        have hcv2 := conv_str (P := Tryd.prog) (HA.out.under hb1.size HA3.out hbr) c 22 9 5 Tryd.underlying22 Tryd.underlying5 Tryd.underlying9
        rw [HWS.out] at hcv1 hcv2
        have hb0r : Below w.heap.size w wr := hb1.trans ((hb13.trans hbr).mono hb1.size)
        clear hown hxs
        go_wp2_with fail
        refine (works_any _).mono ?_
        rintro e w4 ⟨rfl, hb4⟩
        go_wp2_with fail
        go_ret
        exact ⟨rfl, hb0r.trans (hb4.mono hb0r.size)⟩
end Go.Proofs.YtnkhbhkmllnniaaDoor
