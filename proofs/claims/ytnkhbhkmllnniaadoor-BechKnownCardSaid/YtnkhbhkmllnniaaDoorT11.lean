/- The reference's Bits at fitting numbers. -/
import Derived.Test.YtnkhbhkmllnniaaDoorT9
import Derived.Test.YtnkhbhkmllnniaaDoorT10
import Derived.Test.YtnkhbhkmllnniaaDoorRow
import Derived.Deep.QuietTactic
import Derived.BigQuiet
namespace Go.Proofs.YtnkhbhkmllnniaaDoor
open Go.RowKit Bech

theorem refNumber_n (l : List UInt8) (n : Nat) (hn : l.length = n) (A : Option Addr) (c : Nat) (w : World) (hl : n ≤ 8) (hbits : IsBits l) (hA : Cells w A (bv l)) :
    Calls Tryd.prog 37 #[.slice A n c] w fun e w' => e = .returned (.int .u8 (numOf l : Nat)) ∧ w = w' := by
  subst hn; exact refNumber_any l A c w hl hbits hA

def slLen : Value → Nat
  | .slice _ n _ => n
  | _ => 0
def RBitsPost (l : List UInt8) (f t : Int) (pad : Bool) (w : World) (e : Ending) (w' : World) : Prop :=
  ∃ v x err, e = .returned (.tuple #[v, .int .i64 err]) ∧ BitsRes l f t pad x err ∧ Row w' w.heap.size 5 v (bv x) ∧ Below w.heap.size w w'

set_option maxRecDepth 100000 in
set_option maxHeartbeats 1000000 in
theorem refBits_good (l : List UInt8) (A : Option Addr) (c : Nat) (F T : Nat) (pad : Bool) (w : World) (hl : l.length ≤ 1000000) (hA : Cells w A (bv l)) (hF1 : 1 ≤ F) (hF8 : F ≤ 8) (hT1 : 1 ≤ T) (hT8 : T ≤ 8) :
    Calls Tryd.prog 15 #[.slice A l.length c, .int .i64 F, .int .i64 T, .bool pad] w (RBitsPost l F T pad w) := by
  go_enter Tryd.func15, Tryd.ntmps15
  go_wp2
  go_loopw [10, 11] (fun v i wr => ∃ (k : Nat), k ≤ l.length ∧ i = .int .i64 k ∧ (∀ b ∈ l.take k, b.toNat < 2 ^ F) ∧ Row wr w.heap.size 5 v (bv (rowOf F (l.take k))) ∧ Below w.heap.size w wr) (fun _ i _ => l.length - (intOf i).toNat)
  case atStart => exact ⟨0, Nat.zero_le _, rfl, (fun b hb => by cases hb), Row.nil _ _ _, Below.refl _ _⟩
  case round =>
    obtain ⟨k, hk, rfl, hsm, hrow, hb⟩ := hrel
    have HSM := Lib.hid hsm; clear hsm
    by_cases hlt : k < l.length
    · obtain ⟨ad, rfl, hcw⟩ := hA.byte hlt
      have HA := Lib.hid hA; clear hA
      have hx8 := l[k].toNat_lt
      generalize hdx : l[k].toNat = x at hcw hx8
      have hc := cell_below hb hcw
      have HX := Lib.hid hdx; clear hdx
      have HCW := Lib.hid hcw; clear hcw
      have w1 := wrap_two hF8
      by_cases hx : x < 2 ^ F
      · have hxi : (x : Int) < 2 ^ F := by have e : (2 ^ F : Int) = ((2 ^ F : Nat) : Int) := by simp
                                           rw [e]; omega
        have hsm1 : ∀ b ∈ l.take (k + 1), b.toNat < 2 ^ F := by
          intro b hb'
          rw [List.take_succ_eq_append_getElem hlt] at hb'
          rcases List.mem_append.1 hb' with h | h
          · exact HSM.out b h
          · rw [List.mem_singleton.1 h, HX.out]; exact hx
        have HSM1 := Lib.hid hsm1; clear hsm1
        have hsn := rowOf_snoc F l k hlt
        rw [HX.out] at hsn
        have HSN := Lib.hid hsn; clear hsn HSM
        have hrl : (rowOf F (l.take k)).length ≤ 8 * k := by
          rw [rowOf_length, List.length_take]
          have h2 : min k l.length * F ≤ k * 8 := Nat.mul_le_mul (Nat.min_le_left _ _) hF8
          omega
        generalize rowOf F (l.take k) = r0 at hrow HSN hrl
        have HXN := Lib.hid hx; clear hx
        go_wp2_with fail
        go_quiet (fail)
        go_wp2_with fail
        obtain ⟨wo, hwo⟩ : ∃ wo : World, wo = wr := ⟨_, rfl⟩
        subst hwo
        clear w1 hxi hc
        go_loopw [10, 12] (fun v i wr => ∃ (j : Nat), j ≤ F ∧ i = .int .i64 ((F : Int) - 1 - j) ∧ Row wr w.heap.size 5 v (bv (r0 ++ (toBits F x).take j)) ∧ Below w.heap.size w wr) (fun _ i _ => (intOf i + 1).toNat)
        case atStart => exact ⟨0, Nat.zero_le _, by simp, by simpa using hrow.drewN _, below_drewN hb _⟩
        case round =>
          obtain ⟨j, hj, rfl, hrow, hb⟩ := hrel
          have hc := cell_below hb HCW.out
          by_cases hjF : j < F
          · obtain ⟨m, hm⟩ : ∃ m, m = F - 1 - j := ⟨_, rfl⟩
            have hmi : (F : Int) - 1 - (j : Int) = (m : Int) := by omega
            have hget := toBits_get F x j (by rw [toBits_length]; exact hjF)
            rw [← hm] at hget
            have hsn2 : bv (r0 ++ (toBits F x).take (j + 1)) = bv (r0 ++ (toBits F x).take j) ++ [.int .u8 ((toBits F x)[j]'(by rw [toBits_length]; exact hjF)).toNat] := by
              rw [List.take_succ_eq_append_getElem (by rw [toBits_length]; exact hjF), ← List.append_assoc, bv_snoc]
            rw [hget] at hsn2
            have hm8 : m < 8 := by omega
            have hbit := bit_u8 (x := x) (m := m) hx8
            obtain ⟨y, hy⟩ : ∃ y, y = x / 2 ^ m % 2 := ⟨_, rfl⟩
            rw [← hy] at hbit hsn2
            have HYY := Lib.hid hy; clear hy
            have HSN2 := Lib.hid hsn2; clear hsn2 hget
            have hlen2 : (bv (r0 ++ (toBits F x).take j)).length ≤ 8 * k + 8 := by
              rw [bv_length, List.length_append, List.length_take, toBits_length]; omega
            generalize bv (r0 ++ (toBits F x).take j) = xs at hrow HSN2 hlen2
            rw [hmi]
            have HM := Lib.hid hm; clear hm
            have HMI := Lib.hid hmi; clear hmi
            go_wp2_with (at_builtin; refine wpList_row1 sl22 rfl _ _ rfl w.heap.size _ xs (by rfl) hrow _ (by rfl) (by rfl) (by omega) (by omega) hb.size ?_; intro v' wn hrow1 hg1 hb1 hat)
            go_roundw
            case rel => exact ⟨j + 1, by omega, by rw [← HMI.out]; go_num, by rw [HSN2.out]; simpa using hrow1, hb.trans hb1⟩
            case measure => simp [intOf]
          · obtain rfl : j = F := by omega
            have htk : (toBits j x).take j = toBits j x := List.take_of_length_le (by rw [toBits_length]; exact Nat.le_refl _)
            rw [htk, ← HSN.out] at hrow
            have e : (j : Int) - 1 - (j : Int) = -1 := by omega
            rw [e]
            clear htk e
            go_wp2_with fail
            go_roundw
            case rel => exact ⟨k + 1, by omega, by go_num, HSM1.out, hrow, hb⟩
            case measure => simp [intOf]; omega
      · have hxi : (2 ^ F : Int) ≤ x := by have e : (2 ^ F : Int) = ((2 ^ F : Nat) : Int) := by simp
                                           rw [e]; omega
        have HXN := Lib.hid hx; clear hx
        go_wp2_with fail
        go_quiet (fail)
        go_wp2_with fail
        go_ret2
        refine ⟨_, [], 50, rfl, .inr (.inl ⟨by omega, ⟨l[k], List.getElem_mem _, by rw [HX.out]; simpa using HXN.out⟩, rfl, rfl⟩), Row.nil _ _ _, below_drewN hb _⟩
    · have hke : l.take k = l := List.take_of_length_le (by omega)
      have hs2 := HSM.out
      rw [hke] at hrow hs2
      have HS2 := Lib.hid hs2; clear hs2 HSM
      clear hke hA
      have hrb := rowOf_isBits F l
      have hrl : (rowOf F l).length ≤ 8000000 := by
        rw [rowOf_length]
        have h2 : l.length * F ≤ l.length * 8 := Nat.mul_le_mul_left _ hF8
        omega
      obtain ⟨r0, hr0⟩ : ∃ r0, r0 = rowOf F l := ⟨_, rfl⟩
      rw [← hr0] at hrow hrb hrl
      have HR0 := Lib.hid hr0; clear hr0
      have HRB := Lib.hid hrb; clear hrb
      obtain ⟨wo, hwo⟩ : ∃ wo : World, wo = wr := ⟨_, rfl⟩
      subst hwo
      have hb0 : w.heap.size ≤ wo.heap.size := hb.size
      go_wp2_with fail
      go_loopw [10, 13] (fun v vo wr => ∃ (out rest : List UInt8), Cut T r0 out rest ∧ IsBits rest ∧ rest.length ≤ 8000000 ∧ Row wr w.heap.size 5 v (bv rest) ∧ Row wr wo.heap.size 5 vo (bv out) ∧ (∀ k, v.ownBlock = some k → k < wo.heap.size) ∧ Below w.heap.size w wr ∧ wo.heap.size ≤ wr.heap.size) (fun v _ _ => slLen v)
      case atStart => exact ⟨[], r0, Cut.nil _ _, HRB.out, hrl, hrow, Row.nil _ _ _, fun k hk => (hrow.own k hk).2, hb, Nat.le_refl _⟩
      case round =>
        obtain ⟨out, rest, hcut, hbits, hlen, hrow, hout, hlt2, hb, hsz⟩ := hrel
        obtain ⟨A', c', hv, hcap, hcells⟩ := hrow.shape
        rw [bv_length] at hv hcap
        subst hv
        have HCUT := Lib.hid hcut; clear hcut
        have HBI := Lib.hid hbits; clear hbits
        have HROW := Lib.hid hrow; clear hrow
        have HOUT := Lib.hid hout; clear hout
        have HLT := Lib.hid hlt2; clear hlt2
        by_cases hge : T ≤ rest.length
        · have hsplit : rest = rest.take T ++ rest.drop T := (List.take_append_drop T rest).symm
          have hct : (rest.take T).length = T := by rw [List.length_take]; omega
          have hbt : IsBits (rest.take T) := fun b hb => HBI.out b (List.mem_of_mem_take hb)
          have hbd : IsBits (rest.drop T) := fun b hb => HBI.out b (List.mem_of_mem_drop hb)
          have hcl : Cells wr A' (bv (rest.take T)) := by
            have h := hcells.take T
            have e : (bv rest).take T = bv (rest.take T) := by simp [bv, List.map_take]
            rwa [e] at h
          have hcut2 : Cut T r0 (out ++ [UInt8.ofNat (numOf (rest.take T))]) (rest.drop T) := by
            have h := HCUT.out
            rw [hsplit] at h
            exact h.piece hT8 hct hbt
          have hn8 : numOf (rest.take T) < 256 := numOf_bd (n := 8) hbt (by omega)
          have hol := HCUT.out.len hT1
          have HCT := Lib.hid hct; clear hct
          have HBT := Lib.hid hbt; clear hbt
          have HBD := Lib.hid hbd; clear hbd
          have HCL := Lib.hid hcl; clear hcl
          have HC2 := Lib.hid hcut2; clear hcut2
          clear hsplit hcells
          go_wp2_with fail
          refine (refNumber_n (rest.take T) T HCT.out _ _ _ hT8 HBT.out HCL.out).mono ?_
          rintro e w1 ⟨rfl, rfl⟩
          generalize numOf (rest.take T) = y at hn8 HC2
          go_wp2_with (at_builtin; refine wpList_row1 sl22 rfl _ _ rfl wo.heap.size _ (bv out) (by rfl) HOUT.out _ (by rfl) (by rfl) (by rw [bv_length]; omega) (by rw [bv_length]; omega) hsz ?_; intro v' wn hrow1 hg1 hb1 hat)
          go_roundw
          case rel =>
            have hdr := HROW.out.drop hge
            have e : (bv rest).drop T = bv (rest.drop T) := by simp [bv, List.map_drop]
            rw [e] at hdr
            have hap := own_apart HOUT.out (v := Value.slice (if c' = T then A' else A'.map (·.add T)) (rest.length - T) (c' - T)) (fun k hk => HLT.out k (own_drop hk))
            refine ⟨out ++ [UInt8.ofNat y], rest.drop T, HC2.out, HBD.out, by rw [List.length_drop]; omega, hdr.grown hg1 hap, ?_, fun k hk => HLT.out k (own_drop hk), hb.trans (hb1.mono hb0), by have := hb1.size; omega⟩
            rw [bv_snoc, show ((UInt8.ofNat y).toNat : Int) = (y : Int) by (rw [UInt8.toNat_ofNat']; omega)]
            exact hrow1
          case measure => show rest.length - T < rest.length; omega
        · have hrest : rest.length < T := by omega
          have hout2 := HOUT.out.base_le hb0
          have HO2 := Lib.hid hout2; clear hout2
          have hcl : Cells wr A' (bv rest) := hcells
          have HCL := Lib.hid hcl; clear hcl hcells
          have hcu := HCUT.out
          rw [HR0.out] at hcu
          have HCU := Lib.hid hcu; clear hcu
          cases pad with
          | false =>
            by_cases hF : F ≤ rest.length
            · have hfin : BitsRes l F T false [] 50 := .inr (.inr ⟨by omega, by simpa using HS2.out, out, rest, by simpa using HCU.out, by simpa using hrest, .inr (.inl ⟨rfl, .inl (by simpa using hF), rfl, rfl⟩)⟩)
              have HFI := Lib.hid hfin; clear hfin
              go_wp2_with fail
              go_ret2
              exact ⟨_, [], 50, rfl, HFI.out, Row.nil _ _ _, hb⟩
            · by_cases hz : numOf rest = 0
              · have hfin : BitsRes l F T false out 0 := .inr (.inr ⟨by omega, by simpa using HS2.out, out, rest, by simpa using HCU.out, by simpa using hrest, .inr (.inr ⟨rfl, by simp; omega, hz, rfl, rfl⟩)⟩)
                have HFI := Lib.hid hfin; clear hfin
                have HZ := Lib.hid hz; clear hz
                go_wp2_with fail
                refine (refNumber_n rest rest.length rfl _ _ _ (by omega) HBI.out HCL.out).mono ?_
                rintro e w1 ⟨rfl, rfl⟩
                rw [HZ.out]
                go_wp2_with fail
                go_ret2
                exact ⟨_, out, 0, rfl, HFI.out, HO2.out, hb⟩
              · have hfin : BitsRes l F T false [] 50 := .inr (.inr ⟨by omega, by simpa using HS2.out, out, rest, by simpa using HCU.out, by simpa using hrest, .inr (.inl ⟨rfl, .inr hz, rfl, rfl⟩)⟩)
                have HFI := Lib.hid hfin; clear hfin
                have hz2 : ((numOf rest : Int) != 0) = true := by rw [bne_iff_ne]; omega
                clear hz
                go_wp2_with fail
                refine (refNumber_n rest rest.length rfl _ _ _ (by omega) HBI.out HCL.out).mono ?_
                rintro e w1 ⟨rfl, rfl⟩
                go_wp2_with fail
                go_ret2
                exact ⟨_, [], 50, rfl, HFI.out, Row.nil _ _ _, hb⟩
          | true =>
            by_cases h0 : rest = []
            · have hfin : BitsRes l F T true out 0 := .inr (.inr ⟨by omega, by simpa using HS2.out, out, rest, by simpa using HCU.out, by simpa using hrest, .inl ⟨rfl, rfl, by rw [if_pos h0]⟩⟩)
              have HFI := Lib.hid hfin; clear hfin
              have hz : ((rest.length : Nat) : Int) = 0 := by rw [h0]; rfl
              clear h0
              go_wp2_with fail
              go_ret2
              exact ⟨_, out, 0, rfl, HFI.out, HO2.out, hb⟩
            · obtain ⟨d, hd⟩ : ∃ d, T = rest.length + d := ⟨T - rest.length, by omega⟩
              have hlp : 0 < rest.length := List.length_pos_iff.2 h0
              have hfin : BitsRes l F T true (out ++ [UInt8.ofNat (numOf (rest ++ List.replicate d 0))]) 0 := .inr (.inr ⟨by omega, by simpa using HS2.out, out, rest, by simpa using HCU.out, by simpa using hrest, .inl ⟨rfl, rfl, by
                rw [if_neg h0, numOf_zeros, show (T : Int).toNat - rest.length = d by simp; omega]⟩⟩)
              have HFI := Lib.hid hfin; clear hfin
              have hol := HCUT.out.len hT1
              have hap := own_apart HOUT.out HLT.out
              have HAP := Lib.hid hap; clear hap
              have hd1 : T ≤ rest.length + d := by omega
              have hd2 : rest.length + d ≤ T := by omega
              clear h0 HS2 HCU HCUT hd
              go_wp2_with fail
              obtain ⟨wo2, hwo2⟩ : ∃ wo2 : World, wo2 = wr := ⟨_, rfl⟩
              subst hwo2
              go_loopw [10] (fun v wr => ∃ (j : Nat), j ≤ d ∧ Row wr w.heap.size 5 v (bv (rest ++ List.replicate j 0)) ∧ Row wr wo.heap.size 5 u13 (bv out) ∧ (v.ownBlock = none ∨ v.ownBlock ≠ u13.ownBlock) ∧ Below w.heap.size w wr ∧ wo.heap.size ≤ wr.heap.size) (fun v _ => T - slLen v)
              case atStart => exact ⟨0, Nat.zero_le _, by simpa using HROW.out, HOUT.out, HAP.out, hb, hsz⟩
              case round =>
                obtain ⟨j, hj, hrow, hout, hap, hb, hsz⟩ := hrel
                obtain ⟨A2, c2, hv, hcap2, hcells2⟩ := hrow.shape
                rw [bv_length, List.length_append, List.length_replicate] at hv hcap2
                subst hv
                have HROW2 := Lib.hid hrow; clear hrow
                have HOUT2 := Lib.hid hout; clear hout
                have HAP2 := Lib.hid hap; clear hap
                have HCE2 := Lib.hid hcells2; clear hcells2
                by_cases hjd : j < d
                · go_wp2_with (at_builtin; refine wpList_row1 sl22 rfl _ _ rfl w.heap.size _ (bv (rest ++ List.replicate j 0)) (by rfl) HROW2.out _ (by rfl) (by rfl) (by simp [bv]; omega) (by simp [bv]; omega) hb.size ?_; intro v' wn hrow1 hg1 hb1 hat)
                  go_roundw
                  case rel =>
                    refine ⟨j + 1, by omega, ?_, HOUT2.out.grown hg1 (apart_symm HAP2.out), apart_new HOUT2.out HAP2.out (by omega) hat, hb.trans hb1, by have := hb1.size; omega⟩
                    rw [List.replicate_succ', ← List.append_assoc, bv_snoc]
                    exact hrow1
                  case measure =>
                    obtain ⟨A3, c3, hv3, _, _⟩ := hrow1.shape
                    rw [hv3]
                    simp only [slLen, bv, List.length_append, List.length_map, List.length_replicate, List.length_cons, List.length_nil]
                    omega
                · obtain rfl : j = d := by omega
                  have hln : (rest ++ List.replicate j 0).length = rest.length + j := by simp
                  have hbz : IsBits (rest ++ List.replicate j 0) := isBits_append HBI.out (zeros_isBits _)
                  have hn8 : numOf (rest ++ List.replicate j 0) < 256 := numOf_bd (n := 8) hbz (by rw [hln]; omega)
                  have HLN := Lib.hid hln; clear hln
                  have HBZ := Lib.hid hbz; clear hbz
                  go_wp2_with fail
                  refine (refNumber_n (rest ++ List.replicate j 0) _ HLN.out _ _ _ (by omega) HBZ.out HCE2.out).mono ?_
                  rintro e w1 ⟨rfl, rfl⟩
                  generalize numOf (rest ++ List.replicate j 0) = y at hn8 HFI
                  go_wp2_with (at_builtin; refine wpList_row1 sl22 rfl _ _ rfl wo.heap.size _ (bv out) (by rfl) HOUT2.out _ (by rfl) (by rfl) (by rw [bv_length]; omega) (by rw [bv_length]; omega) hsz ?_; intro v' wn hrow1 hg1 hb1 hat)
                  go_ret2
                  refine ⟨_, _, 0, rfl, HFI.out, ?_, hb.trans (hb1.mono hb0)⟩
                  rw [bv_snoc, show ((UInt8.ofNat y).toNat : Int) = (y : Int) by (rw [UInt8.toNat_ofNat']; omega)]
                  exact hrow1.base_le hb0
end Go.Proofs.YtnkhbhkmllnniaaDoor
