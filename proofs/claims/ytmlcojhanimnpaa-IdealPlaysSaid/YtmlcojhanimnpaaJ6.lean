/- IdealSums: its walk. -/
import Derived.Test.YtmlcojhanimnpaaJ5
namespace Go.Proofs.Ytmlcojhanimnpaa
open Go.RowKit

/-- What a call may do to Total is bounded. -/
theorem doL_bounds {s : Led} (h : Inv s) (x : OpR) : 0 ≤ (doL s x).1 ∧ (doL s x).1 ≤ 2100000000000000 ∧ 0 ≤ (doL s x).2.1 ∧ (doL s x).2.1 ≤ 2100000000000001 := by
  unfold doL
  split
  · simp only
    split
    · rename_i he
      have : okCoin x.n = true := by
        unfold Proofs.Ytmlcojhanimnpaa.mint at he
        split at he
        · cases he
        split at he
        · cases he
        rename_i h2
        cases hq : okCoin x.n with
        | true => rfl
        | false => rw [hq] at h2; exact absurd rfl h2
      have := okCoin_iff.1 this
      unfold maxCoin at this
      omega
    · omega
  split
  · simp only
    split
    · rename_i he
      have : okCoin x.c = true := by
        unfold Proofs.Ytmlcojhanimnpaa.pay at he
        split at he
        · cases he
        split at he
        · cases he
        split at he
        · cases he
        rename_i h2
        cases hq : okCoin x.c with
        | true => rfl
        | false => rw [hq, Bool.and_false] at h2; exact absurd rfl h2
      have := okCoin_iff.1 this
      unfold maxCoin at this
      omega
    · omega
  split
  · simp only
    split
    · rename_i he
      have : okCoin x.c = true := by
        unfold Proofs.Ytmlcojhanimnpaa.openCh at he
        split at he
        · cases he
        split at he
        · cases he
        split at he
        · cases he
        split at he
        · cases he
        rename_i h2
        exact (Decidable.not_not.1 h2).2.2.1
      have := okCoin_iff.1 this
      unfold maxCoin at this
      omega
    · omega
  split
  · simp
  split
  · simp
  split
  · simp
  split
  · simp only
    split
    · rename_i he
      have := (h.closeCh x.name x.c).2.2.2 he
      unfold maxCoin at this
      omega
    · omega
  simp
theorem total_bounds {s : Led} (h : Inv s) : 0 ≤ total s ∧ total s ≤ 2100000000000000 := by
  have h1 := sum_coins h
  have h2 := sum_caps h
  have h3 := h.tot
  unfold maxCoin at h3
  unfold total at *
  omega
set_option maxRecDepth 100000 in
set_option maxHeartbeats 8000000 in
theorem sums_walk (l : List OpR) (A : Option Addr) (c : Nat) (W : World) (hl : l.length ≤ reachBytes) (hA : OpsIn W A l) (hwf : ∀ x ∈ l, OpWf x) :
    Calls Try.prog 4 #[.slice A l.length c] W fun e w' => e = .returned (.bool true) ∧ Below W.heap.size W w' := by
  unfold reachBytes at hl
  have HLG := Lib.hid (large_any l A c W (by omega) hA hwf)
  have HA := Lib.hid hA
  have HWF := Lib.hid hwf
  clear hA hwf
  go_enter Try.func4, Try.ntmps4
  go_wp2_with fail
  refine HLG.out.mono ?_
  rintro e w1 ⟨⟨b, rfl, hb⟩, hbw⟩
  have HB1 := Lib.hid hbw
  have HLB := Lib.hid hb
  clear hb hbw
  cases b with
  | true =>
    go_wp2_with fail
    refine (works_any _).mono ?_
    rintro e w2 ⟨rfl, hb2⟩
    have HB2 := Lib.hid (HB1.out.trans (hb2.mono HB1.out.size))
    clear hb2
    go_wp2_with fail
    go_ret
    exact ⟨rfl, HB2.out⟩
  | false =>
    have hlen := (HLB.out rfl).1
    have HLEG := Lib.hid (HLB.out rfl).2
    clear hl
    go_wp2_with fail
    refine (new_any _).mono ?_
    rintro e w2 hN
    obtain ⟨p, rfl, hL, hb2⟩ := LedO.of_new hN
    have HL := Lib.hid (hL.mono HB1.out.size)
    have HB2 := Lib.hid (HB1.out.trans (hb2.mono HB1.out.size))
    clear hL hb2 hN
    go_wp2_with fail
    go_loopw [4] (fun i wr => ∃ (k : Nat) (s : Led), k ≤ l.length ∧ i = .int .i64 k ∧ Good s k ∧ LedO W.heap.size wr p s ∧ Below W.heap.size W wr) (fun i _ => l.length - (intOf i).toNat)
    case atStart => exact ⟨0, led0, Nat.zero_le _, rfl, Good.led0, HL.out, HB2.out⟩
    case round =>
      obtain ⟨k, s, hk, rfl, hg, hLr, hbr⟩ := hrel
      have HG := Lib.hid hg
      have HLR := Lib.hid hLr
      have HBR := Lib.hid hbr
      clear hg hLr hbr
      by_cases hlt : k < l.length
      · have htb := total_bounds HG.out.inv
        obtain ⟨T, hT⟩ : ∃ T, total s = T := ⟨_, rfl⟩
        rw [hT] at htb
        have HT := Lib.hid hT
        clear hT
        go_wp2_with fail
        refine (totO HG.out.inv HLR.out).mono ?_
        rw [HT.out]
        rintro e w3 ⟨rfl, hb3⟩
        have HL3 := Lib.hid (HLR.out.below hb3)
        have HB3 := Lib.hid (HBR.out.trans (hb3.mono HBR.out.size))
        clear hb3
        obtain ⟨ad, B, ca, rfl, q0, q1, q2, q3, q4, q5, q6, q7, q8⟩ := (HA.out.below HB3.out).look hlt
        have hx := HWF.out _ (List.getElem_mem hlt)
        have hle := HLEG.out _ (List.getElem_mem hlt)
        obtain ⟨X, hX⟩ : ∃ X, l[k] = X := ⟨_, rfl⟩
        rw [hX] at q0 q1 q2 q3 q4 q5 q6 q7 q8 hx hle
        have hd := doesO HG.out.inv HL3.out HB3.out.size X B ca hx (by have := HG.out.last; omega) (by omega) q8
        have hd1 := doL_bounds HG.out.inv X
        have hd2 := total_step HG.out.inv X
        have hgn := HG.out.step X
        obtain ⟨R, hR⟩ : ∃ R, doL s X = R := ⟨_, rfl⟩
        rw [hR] at hd hd1 hd2 hgn
        obtain ⟨m, m2, s2⟩ := R
        simp only at hd1 hd2 hgn
        have ht2 := total_bounds hgn.inv
        obtain ⟨T2, hT2⟩ : ∃ T2, total s2 = T2 := ⟨_, rfl⟩
        rw [HT.out, hT2] at hd2
        rw [hT2] at ht2
        obtain ⟨a1, a2, a3, a4⟩ := hd1
        obtain ⟨b1, b2⟩ := hd2
        obtain ⟨f1, f2⟩ := htb
        obtain ⟨f3, f4⟩ := ht2
        have HT2 := Lib.hid hT2
        have HD := Lib.hid hd
        have HGN := Lib.hid hgn
        have c1 : 0 ≤ T + m := by omega
        have c2 : T + m ≤ 4200000000000000 := by omega
        have c3 : -2100000000000001 ≤ T + m - m2 := by omega
        have c4 : T + m - m2 ≤ 4200000000000000 := by omega
        clear hx hle hX hR hT2 hd hgn q8
        go_wp2_with fail
        refine HD.out.mono ?_
        rintro e w4 ⟨rfl, hL4, hb4⟩
        have HL4 := Lib.hid hL4
        have HB4 := Lib.hid (HB3.out.trans hb4)
        clear hL4 hb4 q0 q1 q2 q3 q4 q5 q6 q7
        go_wp2_with fail
        refine (totO HGN.out.inv HL4.out).mono ?_
        rw [HT2.out]
        rintro e w5 ⟨rfl, hb5⟩
        have HL5 := Lib.hid (HL4.out.below hb5)
        have HB5 := Lib.hid (HB4.out.trans (hb5.mono HB4.out.size))
        clear hb5
        go_wp2_with fail
        refine (wholeO HGN.out.inv HGN.out.named HL5.out).mono ?_
        rintro e w6 ⟨rfl, hb6⟩
        have HL6 := Lib.hid (HL5.out.below hb6)
        have HB6 := Lib.hid (HB5.out.trans (hb6.mono HB5.out.size))
        clear hb6
        go_wp2_with fail
        go_roundw
        case rel => exact ⟨k + 1, s2, by omega, by go_num, HGN.out, HL6.out, HB6.out⟩
        case measure => simp [intOf]; omega
      · go_wp2_with fail
        refine (works_any _).mono ?_
        rintro e w3 ⟨rfl, hb3⟩
        have HB3 := Lib.hid (HBR.out.trans (hb3.mono HBR.out.size))
        clear hb3
        go_wp2_with fail
        go_ret
        exact ⟨rfl, HB3.out⟩
end Go.Proofs.Ytmlcojhanimnpaa
