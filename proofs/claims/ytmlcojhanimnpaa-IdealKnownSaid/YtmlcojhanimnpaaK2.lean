/- many (of the statements): its walk. -/
import Derived.Test.YtmlcojhanimnpaaK1
namespace Go.Proofs.Ytmlcojhanimnpaa
open Go.RowKit

set_option maxRecDepth 100000 in
set_option maxHeartbeats 8000000 in
theorem many_any (W : World) : Calls Try.prog 32 #[] W fun e w' => e = .returned (.bool true) ∧ Below W.heap.size W w' := by
  go_enter Try.func32, Try.ntmps32
  go_wp2_with fail
  refine (new_any _).mono ?_
  rintro e w1 hN
  obtain ⟨p, rfl, hL, hb⟩ := LedO.of_new hN
  have HL := Lib.hid hL
  have HB := Lib.hid hb
  clear hL hb hN
  go_wp2_with fail
  go_loopw [2] (fun i wr => ∃ (k : Nat) (s : Led), k ≤ 65 ∧ i = .int .i64 k ∧ M1 s (min k 64) ∧ LedO W.heap.size wr p s ∧ Below W.heap.size W wr) (fun i _ => 65 - (intOf i).toNat)
  case atStart => exact ⟨0, led0, by omega, rfl, M1.zero, HL.out, HB.out⟩
  case round =>
    obtain ⟨k, s, hk, rfl, hm, hLr, hbr⟩ := hrel
    have HLR := Lib.hid hLr
    have HBR := Lib.hid hbr
    clear hLr hbr
    by_cases hlt : k < 64
    · rw [Nat.min_eq_left (by omega)] at hm
      obtain ⟨e1, hn⟩ := hm.step hlt
      have hr := mintO hm.inv HLR.out HBR.out.size (nameB k) 1000
      rw [e1] at hr
      have HM := Lib.hid hm
      have HN := Lib.hid hn
      have HBN := Lib.hid fun w' (hb : Below wr.heap.size wr w') => mintO hm.inv (HLR.out.below hb) (Nat.le_trans HBR.out.size hb.size) (nameB k) 1000
      have HE := Lib.hid e1
      clear hm hn hr e1
      go_wp2_with fail
      refine (name_any k (by omega) _).mono ?_
      rintro e w2 ⟨rfl, hb2⟩
      have HB2 := Lib.hid (HBR.out.trans (hb2.mono HBR.out.size))
      have HR2 := Lib.hid (HBN.out _ hb2)
      clear hb2
      go_wp2_with fail
      refine HR2.out.mono ?_
      rw [HE.out]
      rintro e w3 ⟨rfl, hL, hb3⟩
      have HL3 := Lib.hid hL
      have HB3 := Lib.hid (HB2.out.trans hb3)
      clear hL hb3
      go_wp2_with fail
      go_roundw
      case rel => exact ⟨k + 1, _, by omega, by go_num, by rw [Nat.min_eq_left (by omega)]; exact HN.out, HL3.out, HB3.out⟩
      case measure => simp [intOf]; omega
    · by_cases hke : k = 64
      · subst hke
        have e1 := M1.full (s := s) hm
        have HM := Lib.hid hm
        have HBN := Lib.hid fun w' (hb : Below wr.heap.size wr w') => mintO hm.inv (HLR.out.below hb) (Nat.le_trans HBR.out.size hb.size) (nameB 64) 1000
        have HE := Lib.hid e1
        clear hm e1 hlt hk
        go_wp2_with fail
        refine (name_any 64 (by omega) _).mono ?_
        rintro e w2 ⟨rfl, hb2⟩
        have HB2 := Lib.hid (HBR.out.trans (hb2.mono HBR.out.size))
        have HR2 := Lib.hid (HBN.out _ hb2)
        clear hb2
        go_wp2_with fail
        refine HR2.out.mono ?_
        rw [HE.out]
        rintro e w3 ⟨rfl, hL, hb3⟩
        have HL3 := Lib.hid hL
        have HB3 := Lib.hid (HB2.out.trans hb3)
        clear hL hb3
        go_wp2_with fail
        go_roundw
        case rel => exact ⟨65, s, by omega, by go_num, HM.out, HL3.out, HB3.out⟩
        case measure => simp [intOf]
      · have hm2 : M2 s 0 := M2.zero (by rw [Nat.min_eq_right (by omega)] at hm; exact hm)
        have HM := Lib.hid hm2
        clear hm hm2
        go_wp2_with fail
        go_loopw [4] (fun i wr => ∃ (k : Nat) (s : Led), k ≤ 257 ∧ i = .int .i64 k ∧ M2 s (min k 256) ∧ LedO W.heap.size wr p s ∧ Below W.heap.size W wr) (fun i _ => 257 - (intOf i).toNat)
        case atStart => exact ⟨0, s, by omega, rfl, HM.out, HLR.out, HBR.out⟩
        case round =>
          obtain ⟨k, s, hk, rfl, hm, hLr, hbr⟩ := hrel
          have HLR := Lib.hid hLr
          have HBR := Lib.hid hbr
          clear hLr hbr
          by_cases hlt : k < 256
          · rw [Nat.min_eq_left (by omega)] at hm
            obtain ⟨e1, hn⟩ := hm.step hlt
            have HN := Lib.hid hn
            have HBN := Lib.hid fun w' (hb : Below wr.heap.size wr w') => openO hm.inv (HLR.out.below hb) (Nat.le_trans HBR.out.size hb.size) (nameB k) (nameB 0) (nameB 1) 1 0 0
            have HE := Lib.hid e1
            clear hm hn e1
            go_wp2_with fail
            refine (name_any k (by omega) _).mono ?_
            rintro e w2 ⟨rfl, hb2⟩
            have HB2 := Lib.hid hb2
            clear hb2
            go_wp2_with fail
            refine (name_any 0 (by omega) _).mono ?_
            rintro e w3 ⟨rfl, hb3⟩
            have HB3 := Lib.hid (HB2.out.trans (hb3.mono HB2.out.size))
            clear hb3
            go_wp2_with fail
            refine (name_any 1 (by omega) _).mono ?_
            rintro e w4 ⟨rfl, hb4⟩
            have hb5 := HB3.out.trans (hb4.mono HB3.out.size)
            have HB4 := Lib.hid (HBR.out.trans (hb5.mono HBR.out.size))
            have HR2 := Lib.hid (HBN.out _ hb5)
            clear hb4 hb5
            go_wp2_with fail
            refine HR2.out.mono ?_
            rw [HE.out]
            rintro e w5 ⟨rfl, hL, hb3⟩
            have HL3 := Lib.hid hL
            have HB5 := Lib.hid (HB4.out.trans hb3)
            clear hL hb3
            go_wp2_with fail
            go_roundw
            case rel => exact ⟨k + 1, _, by omega, by go_num, by rw [Nat.min_eq_left (by omega)]; exact HN.out, HL3.out, HB5.out⟩
            case measure => simp [intOf]; omega
          · by_cases hke : k = 256
            · subst hke
              have e1 := M2.full (s := s) hm
              have HM := Lib.hid hm
              have HBN := Lib.hid fun w' (hb : Below wr.heap.size wr w') => openO hm.inv (HLR.out.below hb) (Nat.le_trans HBR.out.size hb.size) (nameB 256) (nameB 0) (nameB 1) 1 0 0
              have HE := Lib.hid e1
              clear hm e1 hlt hk
              go_wp2_with fail
              refine (name_any 256 (by omega) _).mono ?_
              rintro e w2 ⟨rfl, hb2⟩
              have HB2 := Lib.hid hb2
              clear hb2
              go_wp2_with fail
              refine (name_any 0 (by omega) _).mono ?_
              rintro e w3 ⟨rfl, hb3⟩
              have HB3 := Lib.hid (HB2.out.trans (hb3.mono HB2.out.size))
              clear hb3
              go_wp2_with fail
              refine (name_any 1 (by omega) _).mono ?_
              rintro e w4 ⟨rfl, hb4⟩
              have hb5 := HB3.out.trans (hb4.mono HB3.out.size)
              have HB4 := Lib.hid (HBR.out.trans (hb5.mono HBR.out.size))
              have HR2 := Lib.hid (HBN.out _ hb5)
              clear hb4 hb5
              go_wp2_with fail
              refine HR2.out.mono ?_
              rw [HE.out]
              rintro e w5 ⟨rfl, hL, hb3⟩
              have HL3 := Lib.hid hL
              have HB5 := Lib.hid (HB4.out.trans hb3)
              clear hL hb3
              go_wp2_with fail
              go_roundw
              case rel => exact ⟨257, s, by omega, by go_num, HM.out, HL3.out, HB5.out⟩
              case measure => simp [intOf]
            · have hm2 : M3 s 0 := M3.zero (by rw [Nat.min_eq_right (by omega)] at hm; exact hm)
              have HM := Lib.hid hm2
              clear hm hm2
              go_wp2_with fail
              go_loopw [6] (fun i wr => ∃ (k : Nat) (s : Led), k ≤ 257 ∧ i = .int .i64 k ∧ M3 s (min k 256) ∧ LedO W.heap.size wr p s ∧ Below W.heap.size W wr) (fun i _ => 257 - (intOf i).toNat)
              case atStart => exact ⟨0, s, by omega, rfl, HM.out, HLR.out, HBR.out⟩
              case round =>
                obtain ⟨k, s, hk, rfl, hm, hLr, hbr⟩ := hrel
                have HLR := Lib.hid hLr
                have HBR := Lib.hid hbr
                clear hLr hbr
                by_cases hlt : k < 256
                · rw [Nat.min_eq_left (by omega)] at hm
                  obtain ⟨e0, e1, hn⟩ := hm.step hlt
                  have hla := hm.last
                  have HN := Lib.hid hn
                  have HBN := Lib.hid fun w' (hb : Below wr.heap.size wr w') => holdO (legs := [leg0]) hm.inv (HLR.out.below (hb.alloc hb.size _)) (Nat.le_trans HBR.out.size (hb.alloc hb.size _).size) (by omega) (some ⟨w'.heap.size, 0, none⟩) 1 (by decide) (leg_one w' leg0)
                  obtain ⟨R, hR⟩ : ∃ R, hold s [leg0] = R := ⟨_, rfl⟩
                  rw [hR] at e0 e1 hn HBN HN
                  obtain ⟨r1, r2, s2⟩ := R
                  simp only at e0 e1
                  subst e0
                  subst e1
                  clear hm hn hR hla
                  go_wp2_with fail
                  refine (name_any 0 (by omega) _).mono ?_
                  rintro e w2 ⟨rfl, hb2⟩
                  have HB2 := Lib.hid hb2
                  clear hb2
                  go_wp2_with fail
                  refine (name_any 0 (by omega) _).mono ?_
                  rintro e w3 ⟨rfl, hb3⟩
                  have hb5 := HB2.out.trans (hb3.mono HB2.out.size)
                  have hba : ∀ o, Below W.heap.size W (w3.alloc o) := fun o => HBR.out.trans ((hb5.alloc hb5.size o).mono HBR.out.size)
                  have HB4 := Lib.hid hba
                  have HR2 := Lib.hid (HBN.out _ hb5)
                  clear hb3 hb5 hba
                  go_wp2_with fail
                  refine HR2.out.mono ?_
                  rintro e w5 ⟨rfl, hL, hb3⟩
                  have HL3 := Lib.hid hL
                  have HB5 := Lib.hid ((HB4.out _).trans hb3)
                  clear hL hb3
                  go_wp2_with fail
                  go_roundw
                  case rel => exact ⟨k + 1, _, by omega, by go_num, by rw [Nat.min_eq_left (by omega)]; exact HN.out, HL3.out, HB5.out⟩
                  case measure => simp [intOf]; omega
                · by_cases hke : k = 256
                  · subst hke
                    have e1 := M3.full (s := s) hm
                    have hla : s.last = 256 := hm.last
                    have HM := Lib.hid hm
                    have HBN := Lib.hid fun w' (hb : Below wr.heap.size wr w') => holdO (legs := [leg0]) hm.inv (HLR.out.below (hb.alloc hb.size _)) (Nat.le_trans HBR.out.size (hb.alloc hb.size _).size) (by omega) (some ⟨w'.heap.size, 0, none⟩) 1 (by decide) (leg_one w' leg0)
                    rw [e1] at HBN
                    clear hm e1 hlt hk hla
                    go_wp2_with fail
                    refine (name_any 0 (by omega) _).mono ?_
                    rintro e w2 ⟨rfl, hb2⟩
                    have HB2 := Lib.hid hb2
                    clear hb2
                    go_wp2_with fail
                    refine (name_any 0 (by omega) _).mono ?_
                    rintro e w3 ⟨rfl, hb3⟩
                    have hb5 := HB2.out.trans (hb3.mono HB2.out.size)
                    have hba : ∀ o, Below W.heap.size W (w3.alloc o) := fun o => HBR.out.trans ((hb5.alloc hb5.size o).mono HBR.out.size)
                    have HB4 := Lib.hid hba
                    have HR2 := Lib.hid (HBN.out _ hb5)
                    clear hb3 hb5 hba
                    go_wp2_with fail
                    refine HR2.out.mono ?_
                    rintro e w5 ⟨rfl, hL, hb3⟩
                    have HL3 := Lib.hid hL
                    have HB5 := Lib.hid ((HB4.out _).trans hb3)
                    clear hL hb3
                    go_wp2_with fail
                    go_roundw
                    case rel => exact ⟨257, s, by omega, by go_num, HM.out, HL3.out, HB5.out⟩
                    case measure => simp [intOf]
                  · have hm2 : M3 s 256 := by rw [Nat.min_eq_right (by omega)] at hm; exact hm
                    obtain ⟨f1, f2, f3, f4, f5⟩ := hm2.fail
                    have hfo := failO hm2.inv HLR.out HBR.out.size 7
                    rw [f1] at hfo
                    have HFO := Lib.hid hfo
                    have f6 := mint_five f4 f5
                    obtain ⟨s2, hs2⟩ : ∃ s2, (endH false s 7).2 = s2 := ⟨_, rfl⟩
                    rw [hs2] at f2 f3 f6 HFO
                    have HI := Lib.hid f2
                    have HF3 := Lib.hid f3
                    have HF6 := Lib.hid f6
                    clear hm hm2 f1 f2 f3 f4 f5 f6 hfo hs2
                    go_wp2_with fail
                    refine HFO.out.mono ?_
                    rintro e w2 ⟨rfl, hL, hb2⟩
                    have HL2 := Lib.hid hL
                    have HB2 := Lib.hid (HBR.out.trans hb2)
                    clear hL hb2
                    go_wp2_with fail
                    obtain ⟨c, d, v, vs, h1, -⟩ := HL2.out
                    refine (holds_any p c d v vs s2 _ HI.out h1).mono ?_
                    rintro e w3 ⟨vh, us, rfl, howh, -, hb3⟩
                    obtain ⟨Ah, ch, rfl, -, -⟩ := own_shape howh
                    have HL3 := Lib.hid (HL2.out.below hb3)
                    have HB3 := Lib.hid (HB2.out.trans (hb3.mono HB2.out.size))
                    rw [HF3.out]
                    clear howh hb3 h1
                    go_wp2_with fail
                    refine (name_any 0 (by omega) _).mono ?_
                    rintro e w4 ⟨rfl, hb4⟩
                    have HL4 := Lib.hid (HL3.out.below hb4)
                    have HB4 := Lib.hid (HB3.out.trans (hb4.mono HB3.out.size))
                    clear hb4
                    go_wp2_with fail
                    refine (mintO HI.out HL4.out HB4.out.size (nameB 0) 5).mono ?_
                    rw [HF6.out]
                    rintro e w5 ⟨rfl, -, hb5⟩
                    have HB5 := Lib.hid (HB4.out.trans hb5)
                    clear hb5
                    go_wp2_with fail
                    go_ret
                    exact ⟨rfl, HB5.out⟩
end Go.Proofs.Ytmlcojhanimnpaa
