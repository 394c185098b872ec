/- A seed's secrets: the document's; a commitment's secret and point, of both. · Secrets at a place. · A commitment's secret and point, of both. -/
import Derived.Test.YtaonadgelkdbcaaGreatDoorQ20
import Derived.Test.YtaonadgelkdbcaaGreatDoorQ21
namespace Go.Proofs.YtaonadgelkdbcaaGreatDoor
open Go.RowKit

theorem conv_dig (m : Nat) (w : World) : (convert 103 9 (.slice (some ⟨w.heap.size, 0, none⟩) 1 1)).run Tryz.prog (w.alloc (.cells #[.int .u8 (48 + (m : Int) % 10)] 5)) = .ok (.string ⟨#[UInt8.ofNat (48 + m % 10)]⟩) (w.alloc (.cells #[.int .u8 (48 + (m : Int) % 10)] 5)) := by
  have h := conv_one (UInt8.ofNat (48 + m % 10)) w
  rw [dig_nat] at h
  exact h
theorem dec_ten {m : Nat} (h : m < 20) (h1 : ¬ m < 10) : (⟨#[49]⟩ : ByteArray) ++ ⟨#[UInt8.ofNat (48 + m % 10)]⟩ = decB m := by
  rw [decB_more h1, show m / 10 = 1 by omega, decB_small (by decide)]
  rfl
set_option maxRecDepth 100000 in
set_option maxHeartbeats 8000000 in
theorem ron_any (t : ByteArray) (i : Nat) (hi : i < 1048576) (ht : t.size ≤ 16384) (w : World) : Calls Tryz.prog 89 #[.string t, .int .i64 i, .int .i64 20] w fun e w' => e = .returned (tupE (onE i 20 t.data.toList)) ∧ Below w.heap.size w w' := by
  obtain ⟨R, hR⟩ : ∃ R, onE i 20 t.data.toList = R := ⟨_, rfl⟩
  rw [hR]
  have HR := Lib.hid hR
  unfold tupE
  clear hR
  go_enter Tryz.func89, Tryz.ntmps89
  go_wp2_with fail
  go_loopw [8, 0] (fun b t' wr => ∃ s : ByteArray, t' = .string s ∧ s.size ≤ 16384 ∧ Below w.heap.size w wr ∧ ((b = .int .i64 (-1) ∧ R = (0, s.data.toList)) ∨ ∃ m : Nat, m < 20 ∧ b = .int .i64 (m : Int) ∧ onE i (m + 1) s.data.toList = R)) (fun b _ _ => (intOf b + 1).toNat)
  case atStart => exact ⟨t, rfl, ht, Below.refl _ _, .inr ⟨19, by decide, rfl, HR.out⟩⟩
  case round =>
    obtain ⟨s, rfl, hs, hb, h⟩ := hrel
    have HB := Lib.hid hb
    rcases h with ⟨rfl, hr⟩ | ⟨m, hm, rfl, hr⟩
    · have HR2 := Lib.hid hr
      clear hb hr
      go_wp2_with fail
      go_ret2
      rw [HR2.out]
      refine ⟨?_, HB.out⟩
      show Ending.returned (.tuple #[.string s, .int .i64 0]) = Ending.returned (.tuple #[.string ⟨s.data.toList.toArray⟩, .int .i64 0])
      rw [← str_eq s]
    · have hbit := bit_cast i m hi
      have HM := Lib.hid hr
      have hlab := label_text m hm
      by_cases h0 : i / 2 ^ m % 2 = 0
      · rw [h0] at hbit
        have HE := Lib.hid (onE_zero (t := s.data.toList) h0)
        clear hb hr hlab
        go_wp2_with fail
        go_roundw
        case rel =>
          refine ⟨s, rfl, hs, HB.out, ?_⟩
          rcases Nat.eq_zero_or_pos m with rfl | hp
          · exact .inl ⟨by go_num, by rw [← HM.out, HE.out]; rfl⟩
          · obtain ⟨m, rfl⟩ : ∃ m', m = m' + 1 := ⟨m - 1, by omega⟩
            exact .inr ⟨m, by omega, by go_num, by rw [← HM.out, HE.out]⟩
        case measure => (simp [intOf] <;> omega)
      · have h1 : i / 2 ^ m % 2 = 1 := by omega
        rw [h1] at hbit
        have hbw : Below w.heap.size w (wr.alloc (.cells #[.int .u8 (48 + (m : Int) % 10)] 5)) := hb.alloc hb.size _
        have HBW := Lib.hid hbw
        have hcv := conv_dig m wr
        have hdt := fun h => dec_ten hm h
        have hds := @decB_small m
        obtain ⟨dg, hdg⟩ : ∃ dg, UInt8.ofNat (48 + m % 10) = dg := ⟨_, rfl⟩
        rw [hdg] at hcv hds
        simp only [hdg] at hdt
        have HD := Lib.hid hdt
        have HDS := Lib.hid hds
        clear hdt hds hdg
        have HT := Lib.hid (fun W => rtext_any (decB m) W (by
          have h1 := decB_size m
          rw [h1]
          exact Nat.lt_of_le_of_lt (dec_len 2 m (by omega)) (by decide)))
        simp only [hlab] at HT
        have HC := Lib.hid (fun W => rtwo_any 68 68 rfl s (bs (labelT m)) W (by omega) (by rw [size_bs]; have := label_len m; omega))
        simp only [bs_list] at HC
        have HE1 := Lib.hid (onE_one (t := s.data.toList) h0)
        have HE2 := Lib.hid (onE_err (t := s.data.toList) h0)
        have hl2 := twoE_len 68 s.data.toList (labelT m)
        obtain ⟨x, hx⟩ : ∃ x, twoE 68 s.data.toList (labelT m) = x := ⟨_, rfl⟩
        rw [hx] at HE1 HE2 hl2
        simp only [hx] at HC
        unfold tupE at HT HC
        unfold bs at HC
        obtain ⟨xe, xs⟩ := x
        clear hb hbw hr hlab hx h0
        by_cases h10 : m < 10
        · have HDB := Lib.hid (HDS.out h10)
          have g10 : decide ((9 : Int) < (m : Int)) = false := decide_eq_false (by omega)
          rw [HDB.out] at HT
          clear HDB h10
          go_wp2_with fail
          refine (HT.out _).mono ?_
          rintro e w1 ⟨rfl, hb1⟩
          have HB1 := Lib.hid (HBW.out.trans (hb1.mono HBW.out.size))
          clear hb1
          go_wp2_with fail
          refine (HC.out _).mono ?_
          rintro e w2 ⟨rfl, hb2⟩
          have HB2 := Lib.hid (HB1.out.trans (hb2.mono HB1.out.size))
          clear hb2
          by_cases hxe : xe = 0
          · subst hxe
            go_wp2_with fail
            go_roundw
            case rel =>
              refine ⟨bs xs, rfl, by rw [size_bs]; exact hl2, HB2.out, ?_⟩
              rcases Nat.eq_zero_or_pos m with rfl | hp
              · exact .inl ⟨by go_num, by rw [← HM.out, HE1.out (by first | trivial | rfl), bs_list]; rfl⟩
              · obtain ⟨m, rfl⟩ : ∃ m', m = m' + 1 := ⟨m - 1, by omega⟩
                exact .inr ⟨m, by omega, by go_num, by rw [← HM.out, HE1.out (by first | trivial | rfl), bs_list]⟩
            case measure => (simp [intOf] <;> omega)
          · have g : (xe == 0) = false := beq_false_of_ne hxe
            have HXE := Lib.hid hxe
            clear hxe
            go_wp2_with fail
            go_ret2
            rw [← HM.out, HE2.out HXE.out]
            exact ⟨rfl, HB2.out⟩
        · have HDB := Lib.hid (HD.out h10)
          have g10 : decide ((9 : Int) < (m : Int)) = true := decide_eq_true (by omega)
          rw [← HDB.out] at HT
          clear HDB h10
          go_wp2_with fail
          refine (HT.out _).mono ?_
          rintro e w1 ⟨rfl, hb1⟩
          have HB1 := Lib.hid (HBW.out.trans (hb1.mono HBW.out.size))
          clear hb1
          go_wp2_with fail
          refine (HC.out _).mono ?_
          rintro e w2 ⟨rfl, hb2⟩
          have HB2 := Lib.hid (HB1.out.trans (hb2.mono HB1.out.size))
          clear hb2
          by_cases hxe : xe = 0
          · subst hxe
            go_wp2_with fail
            go_roundw
            case rel =>
              refine ⟨bs xs, rfl, by rw [size_bs]; exact hl2, HB2.out, ?_⟩
              rcases Nat.eq_zero_or_pos m with rfl | hp
              · exact .inl ⟨by go_num, by rw [← HM.out, HE1.out (by first | trivial | rfl), bs_list]; rfl⟩
              · obtain ⟨m, rfl⟩ : ∃ m', m = m' + 1 := ⟨m - 1, by omega⟩
                exact .inr ⟨m, by omega, by go_num, by rw [← HM.out, HE1.out (by first | trivial | rfl), bs_list]⟩
            case measure => (simp [intOf] <;> omega)
          · have g : (xe == 0) = false := beq_false_of_ne hxe
            have HXE := Lib.hid hxe
            clear hxe
            go_wp2_with fail
            go_ret2
            rw [← HM.out, HE2.out HXE.out]
            exact ⟨rfl, HB2.out⟩
end Go.Proofs.YtaonadgelkdbcaaGreatDoor

namespace Go.Proofs.YtaonadgelkdbcaaGreatDoor
open Go.RowKit

set_option maxRecDepth 100000 in
set_option maxHeartbeats 8000000 in
theorem secret_any (t : ByteArray) (i : Int) (hl : t.size ≤ 900000) (w : World) (hv : VarsOk w) : Calls Tryz.prog 75 #[.string t, .int .i64 i] w fun e w' => e = .returned (tupE (secretE t.data.toList i)) ∧ Below w.heap.size w w' := by
  obtain ⟨R, hR⟩ : ∃ R, secretE t.data.toList i = R := ⟨_, rfl⟩
  rw [hR]
  have HR := Lib.hid hR
  have HT := Lib.hid (right_any t w (by omega) hv)
  unfold secretE at HR
  clear hR
  by_cases h0 : i < 0
  · have HR := Lib.hid (show ((2, []) : Int × List UInt8) = R by rw [← HR.out, if_pos (.inl h0)])
    have g0 : decide (i < 0) = true := decide_eq_true h0
    clear h0
    go_enter Tryz.func75, Tryz.ntmps75
    go_wp2_with fail
    go_ret2
    rw [← HR.out]
    exact ⟨rfl, Below.refl _ _⟩
  by_cases h1 : 1048575 < i
  · have HR := Lib.hid (show ((2, []) : Int × List UInt8) = R by rw [← HR.out, if_pos (.inr h1)])
    have g0 : decide (i < 0) = false := decide_eq_false h0
    have g1 : decide (1048575 < i) = true := decide_eq_true h1
    clear h0 h1
    go_enter Tryz.func75, Tryz.ntmps75
    go_wp2_with fail
    go_ret2
    rw [← HR.out]
    exact ⟨rfl, Below.refl _ _⟩
  have HR2 := Lib.hid (show (if rightB t.data.toList then onE i.toNat 20 t.data.toList else (10, [])) = R by rw [← HR.out]; exact (if_neg (c := i < 0 ∨ 1048575 < i) (by omega)).symm)
  have g0 : decide (i < 0) = false := decide_eq_false h0
  have g1 : decide (1048575 < i) = false := decide_eq_false h1
  cases hq : rightB t.data.toList with
  | false =>
    rw [hq] at HT HR2
    clear HR h0 h1 hq
    go_enter Tryz.func75, Tryz.ntmps75
    go_wp2_with fail
    refine HT.out.mono ?_
    rintro e w1 ⟨rfl, hb1⟩
    have HB1 := Lib.hid hb1
    clear hb1
    go_wp2_with fail
    go_ret2
    rw [← HR2.out]
    exact ⟨rfl, HB1.out⟩
  | true =>
    have hlen : t.size ≤ 16384 := rightB_len hq
    obtain ⟨n, rfl⟩ : ∃ n : Nat, i = n := ⟨i.toNat, by omega⟩
    have HO := Lib.hid (fun W (hv : VarsOk W) => on_any t n (by omega) hlen W hv)
    rw [hq] at HT HR2
    have hr3 := HR2.out
    rw [if_pos rfl, Int.toNat_natCast] at hr3
    rw [hr3] at HO
    clear hr3
    unfold tupE at HO ⊢
    have HV := Lib.hid hv
    clear HR HR2 h0 h1 hq hlen hv
    go_enter Tryz.func75, Tryz.ntmps75
    go_wp2_with fail
    refine HT.out.mono ?_
    rintro e w1 ⟨rfl, hb1⟩
    have HB1 := Lib.hid hb1
    clear hb1
    go_wp2_with fail
    refine (HO.out _ (HV.out.below HB1.out)).mono ?_
    rintro e w2 ⟨rfl, hb2⟩
    have HB2 := Lib.hid (HB1.out.trans (hb2.mono HB1.out.size))
    clear hb2
    go_wp2_with fail
    go_ret2
    exact ⟨rfl, HB2.out⟩
set_option maxRecDepth 100000 in
set_option maxHeartbeats 8000000 in
theorem rsecret_any (t : ByteArray) (i : Int) (hl : t.size ≤ 900000) (w : World) : Calls Tryz.prog 80 #[.string t, .int .i64 i] w fun e w' => e = .returned (tupE (secretE t.data.toList i)) ∧ Below w.heap.size w w' := by
  obtain ⟨R, hR⟩ : ∃ R, secretE t.data.toList i = R := ⟨_, rfl⟩
  rw [hR]
  have HR := Lib.hid hR
  have HT := Lib.hid (rright_any t w (by omega))
  unfold secretE at HR
  clear hR
  by_cases h0 : i < 0
  · have HR := Lib.hid (show ((2, []) : Int × List UInt8) = R by rw [← HR.out, if_pos (.inl h0)])
    have g0 : decide (i < 0) = true := decide_eq_true h0
    clear h0
    go_enter Tryz.func80, Tryz.ntmps80
    go_wp2_with fail
    go_ret2
    rw [← HR.out]
    exact ⟨rfl, Below.refl _ _⟩
  by_cases h1 : 1048575 < i
  · have HR := Lib.hid (show ((2, []) : Int × List UInt8) = R by rw [← HR.out, if_pos (.inr h1)])
    have g0 : decide (i < 0) = false := decide_eq_false h0
    have g1 : decide (1048575 < i) = true := decide_eq_true h1
    clear h0 h1
    go_enter Tryz.func80, Tryz.ntmps80
    go_wp2_with fail
    go_ret2
    rw [← HR.out]
    exact ⟨rfl, Below.refl _ _⟩
  have HR2 := Lib.hid (show (if rightB t.data.toList then onE i.toNat 20 t.data.toList else (10, [])) = R by rw [← HR.out]; exact (if_neg (c := i < 0 ∨ 1048575 < i) (by omega)).symm)
  have g0 : decide (i < 0) = false := decide_eq_false h0
  have g1 : decide (1048575 < i) = false := decide_eq_false h1
  cases hq : rightB t.data.toList with
  | false =>
    rw [hq] at HT HR2
    clear HR h0 h1 hq
    go_enter Tryz.func80, Tryz.ntmps80
    go_wp2_with fail
    refine HT.out.mono ?_
    rintro e w1 ⟨rfl, hb1⟩
    have HB1 := Lib.hid hb1
    clear hb1
    go_wp2_with fail
    go_ret2
    rw [← HR2.out]
    exact ⟨rfl, HB1.out⟩
  | true =>
    have hlen : t.size ≤ 16384 := rightB_len hq
    obtain ⟨n, rfl⟩ : ∃ n : Nat, i = n := ⟨i.toNat, by omega⟩
    have HO := Lib.hid (fun W => ron_any t n (by omega) hlen W)
    rw [hq] at HT HR2
    have hr3 := HR2.out
    rw [if_pos rfl, Int.toNat_natCast] at hr3
    rw [hr3] at HO
    clear hr3
    unfold tupE at HO ⊢
    clear HR HR2 h0 h1 hq hlen 
    go_enter Tryz.func80, Tryz.ntmps80
    go_wp2_with fail
    refine HT.out.mono ?_
    rintro e w1 ⟨rfl, hb1⟩
    have HB1 := Lib.hid hb1
    clear hb1
    go_wp2_with fail
    refine (HO.out _ ).mono ?_
    rintro e w2 ⟨rfl, hb2⟩
    have HB2 := Lib.hid (HB1.out.trans (hb2.mono HB1.out.size))
    clear hb2
    go_wp2_with fail
    go_ret2
    exact ⟨rfl, HB2.out⟩
end Go.Proofs.YtaonadgelkdbcaaGreatDoor

namespace Go.Proofs.YtaonadgelkdbcaaGreatDoor
open Go.RowKit

/-- A commitment's secret. -/
def revealE (seed : List UInt8) (n : Int) : Int × List UInt8 := if n < 0 ∨ 1048575 < n then (2, []) else secretE seed (1048575 - n)
theorem pointE_reveal (seed : List UInt8) (n : Int) : pointE seed n = if (revealE seed n).1 = 0 then pubE (revealE seed n).2 else ((revealE seed n).1, []) := by
  unfold pointE revealE
  by_cases h : n < 0 ∨ 1048575 < n
  · simp only [if_pos h]
    rw [if_neg (by decide)]
  · simp only [if_neg h]
theorem onE_len (i : Nat) : ∀ (b : Nat) (t : List UInt8), t.length ≤ 16384 → (onE i b t).2.length ≤ 16384
  | 0, t, h => h
  | b + 1, t, h => by
    unfold onE
    split
    · exact onE_len i b t h
    · split
      · exact onE_len i b _ (twoE_len _ _ _)
      · simp
theorem revealE_len (seed : List UInt8) (n : Int) : (revealE seed n).2.length ≤ 16384 := by
  unfold revealE
  split
  · simp
  · unfold secretE
    split
    · simp
    · split
      · rename_i h; exact onE_len _ _ _ (rightB_len h)
      · simp
set_option maxRecDepth 100000 in
set_option maxHeartbeats 8000000 in
theorem reveal_any (s : SecR) (n : Int) (hl : s.seed.size ≤ 900000) (w : World) (hv : VarsOk w) : Calls Tryz.prog 56 #[.agg #[.string s.fund, .string s.rev, .string s.pay, .string s.later, .string s.htlc, .string s.seed], .int .i64 n] w fun e w' => e = .returned (tupE (revealE s.seed.data.toList n)) ∧ Below w.heap.size w w' := by
  obtain ⟨R, hR⟩ : ∃ R, revealE s.seed.data.toList n = R := ⟨_, rfl⟩
  rw [hR]
  have HR := Lib.hid hR
  unfold revealE at HR
  clear hR
  have hbA : Below w.heap.size w (w.alloc (.cells #[.string s.fund, .string s.rev, .string s.pay, .string s.later, .string s.htlc, .string s.seed] 54)) := (Below.refl _ _).alloc (Nat.le_refl _) _
  have q5 : (w.alloc (.cells #[.string s.fund, .string s.rev, .string s.pay, .string s.later, .string s.htlc, .string s.seed] 54)).cell? ⟨w.heap.size, 5, none⟩ = some (.string s.seed) := alloc_cells 5 _ rfl
  have HA := Lib.hid hbA
  by_cases h0 : n < 0
  · have HR := Lib.hid (show ((2, []) : Int × List UInt8) = R by rw [← HR.out, if_pos (.inl h0)])
    have g0 : decide (n < 0) = true := decide_eq_true h0
    clear h0 hbA
    go_enter Tryz.func56, Tryz.ntmps56
    go_wp2_with fail
    go_ret2
    rw [← HR.out]
    exact ⟨rfl, HA.out⟩
  by_cases h1 : 1048575 < n
  · have HR := Lib.hid (show ((2, []) : Int × List UInt8) = R by rw [← HR.out, if_pos (.inr h1)])
    have g0 : decide (n < 0) = false := decide_eq_false h0
    have g1 : decide (1048575 < n) = true := decide_eq_true h1
    clear h0 h1 hbA
    go_enter Tryz.func56, Tryz.ntmps56
    go_wp2_with fail
    go_ret2
    rw [← HR.out]
    exact ⟨rfl, HA.out⟩
  have HR2 := Lib.hid (show secretE s.seed.data.toList (1048575 - n) = R by rw [← HR.out, if_neg (by omega)])
  have g0 : decide (n < 0) = false := decide_eq_false h0
  have g1 : decide (1048575 < n) = false := decide_eq_false h1
  have hS := secret_any s.seed (1048575 - n) hl (w.alloc (.cells #[.string s.fund, .string s.rev, .string s.pay, .string s.later, .string s.htlc, .string s.seed] 54)) (hv.below hbA)
  rw [HR2.out] at hS
  have HS := Lib.hid hS
  unfold tupE at HS ⊢
  clear hS HR HR2 hbA hv
  go_enter Tryz.func56, Tryz.ntmps56
  go_wp2_with fail
  refine HS.out.mono ?_
  rintro e w2 ⟨rfl, hb2⟩
  have HB2 := Lib.hid (HA.out.trans (hb2.mono HA.out.size))
  clear hb2
  go_wp2_with fail
  go_ret2
  exact ⟨rfl, HB2.out⟩
set_option maxRecDepth 100000 in
set_option maxHeartbeats 8000000 in
theorem rreveal_any (s : SecR) (n : Int) (hl : s.seed.size ≤ 900000) (w : World) : Calls Tryz.prog 60 #[.agg #[.string s.fund, .string s.rev, .string s.pay, .string s.later, .string s.htlc, .string s.seed], .int .i64 n] w fun e w' => e = .returned (tupE (revealE s.seed.data.toList n)) ∧ Below w.heap.size w w' := by
  obtain ⟨R, hR⟩ : ∃ R, revealE s.seed.data.toList n = R := ⟨_, rfl⟩
  rw [hR]
  have HR := Lib.hid hR
  unfold revealE at HR
  clear hR
  have hbA : Below w.heap.size w (w.alloc (.cells #[.string s.fund, .string s.rev, .string s.pay, .string s.later, .string s.htlc, .string s.seed] 54)) := (Below.refl _ _).alloc (Nat.le_refl _) _
  have q5 : (w.alloc (.cells #[.string s.fund, .string s.rev, .string s.pay, .string s.later, .string s.htlc, .string s.seed] 54)).cell? ⟨w.heap.size, 5, none⟩ = some (.string s.seed) := alloc_cells 5 _ rfl
  have HA := Lib.hid hbA
  by_cases h0 : n < 0
  · have HR := Lib.hid (show ((2, []) : Int × List UInt8) = R by rw [← HR.out, if_pos (.inl h0)])
    have g0 : decide (n < 0) = true := decide_eq_true h0
    clear h0 hbA
    go_enter Tryz.func60, Tryz.ntmps60
    go_wp2_with fail
    go_ret2
    rw [← HR.out]
    exact ⟨rfl, HA.out⟩
  by_cases h1 : 1048575 < n
  · have HR := Lib.hid (show ((2, []) : Int × List UInt8) = R by rw [← HR.out, if_pos (.inr h1)])
    have g0 : decide (n < 0) = false := decide_eq_false h0
    have g1 : decide (1048575 < n) = true := decide_eq_true h1
    clear h0 h1 hbA
    go_enter Tryz.func60, Tryz.ntmps60
    go_wp2_with fail
    go_ret2
    rw [← HR.out]
    exact ⟨rfl, HA.out⟩
  have HR2 := Lib.hid (show secretE s.seed.data.toList (1048575 - n) = R by rw [← HR.out, if_neg (by omega)])
  have g0 : decide (n < 0) = false := decide_eq_false h0
  have g1 : decide (1048575 < n) = false := decide_eq_false h1
  have hS := rsecret_any s.seed (1048575 - n) hl (w.alloc (.cells #[.string s.fund, .string s.rev, .string s.pay, .string s.later, .string s.htlc, .string s.seed] 54))
  rw [HR2.out] at hS
  have HS := Lib.hid hS
  unfold tupE at HS ⊢
  clear hS HR HR2 hbA
  go_enter Tryz.func60, Tryz.ntmps60
  go_wp2_with fail
  refine HS.out.mono ?_
  rintro e w2 ⟨rfl, hb2⟩
  have HB2 := Lib.hid (HA.out.trans (hb2.mono HA.out.size))
  clear hb2
  go_wp2_with fail
  go_ret2
  exact ⟨rfl, HB2.out⟩
set_option maxRecDepth 100000 in
set_option maxHeartbeats 8000000 in
theorem point_any (s : SecR) (n : Int) (hl : s.seed.size ≤ 900000) (w : World) (hv : VarsOk w) : Calls Tryz.prog 34 #[.agg #[.string s.fund, .string s.rev, .string s.pay, .string s.later, .string s.htlc, .string s.seed], .int .i64 n] w fun e w' => e = .returned (tupE (pointE s.seed.data.toList n)) ∧ Below w.heap.size w w' := by
  obtain ⟨R, hR⟩ : ∃ R, pointE s.seed.data.toList n = R := ⟨_, rfl⟩
  rw [hR]
  have HR := Lib.hid hR
  rw [pointE_reveal] at HR
  clear hR
  have hbA : Below w.heap.size w (w.alloc (.cells #[.string s.fund, .string s.rev, .string s.pay, .string s.later, .string s.htlc, .string s.seed] 54)) := (Below.refl _ _).alloc (Nat.le_refl _) _
  have q0 : (w.alloc (.cells #[.string s.fund, .string s.rev, .string s.pay, .string s.later, .string s.htlc, .string s.seed] 54)).cell? ⟨w.heap.size, 0, none⟩ = some (.string s.fund) := alloc_cells 0 _ rfl
  have q1 : (w.alloc (.cells #[.string s.fund, .string s.rev, .string s.pay, .string s.later, .string s.htlc, .string s.seed] 54)).cell? ⟨w.heap.size, 1, none⟩ = some (.string s.rev) := alloc_cells 1 _ rfl
  have q2 : (w.alloc (.cells #[.string s.fund, .string s.rev, .string s.pay, .string s.later, .string s.htlc, .string s.seed] 54)).cell? ⟨w.heap.size, 2, none⟩ = some (.string s.pay) := alloc_cells 2 _ rfl
  have q3 : (w.alloc (.cells #[.string s.fund, .string s.rev, .string s.pay, .string s.later, .string s.htlc, .string s.seed] 54)).cell? ⟨w.heap.size, 3, none⟩ = some (.string s.later) := alloc_cells 3 _ rfl
  have q4 : (w.alloc (.cells #[.string s.fund, .string s.rev, .string s.pay, .string s.later, .string s.htlc, .string s.seed] 54)).cell? ⟨w.heap.size, 4, none⟩ = some (.string s.htlc) := alloc_cells 4 _ rfl
  have q5 : (w.alloc (.cells #[.string s.fund, .string s.rev, .string s.pay, .string s.later, .string s.htlc, .string s.seed] 54)).cell? ⟨w.heap.size, 5, none⟩ = some (.string s.seed) := alloc_cells 5 _ rfl
  have HA := Lib.hid hbA
  have hS := reveal_any s n hl (w.alloc (.cells #[.string s.fund, .string s.rev, .string s.pay, .string s.later, .string s.htlc, .string s.seed] 54)) (hv.below hbA)
  obtain ⟨X, hX⟩ : ∃ X, revealE s.seed.data.toList n = X := ⟨_, rfl⟩
  have hXl := revealE_len s.seed.data.toList n
  rw [hX] at hS HR hXl
  obtain ⟨xe, xs⟩ := X
  have HS := Lib.hid hS
  by_cases hxe : xe = 0
  · subst hxe
    have HR2 := Lib.hid (show pubE xs = R by rw [← HR.out]; exact (if_pos rfl).symm)
    have HP := Lib.hid (fun W  (hv : VarsOk W) => pub_any (bs xs) W (by rw [size_bs]; simp only at hXl; omega) hv)
    simp only [bs_list] at HP
    rw [HR2.out] at HP
    have HV := Lib.hid (hv.below hbA)
    unfold tupE at HS HP ⊢
    unfold bs at HP
    clear hS HR HR2 hbA hX hv
    go_enter Tryz.func34, Tryz.ntmps34
    go_wp2_with fail
    refine HS.out.mono ?_
    rintro e w2 ⟨rfl, hb2⟩
    have HV2 := Lib.hid (HV.out.below hb2)
    have HB2 := Lib.hid (HA.out.trans (hb2.mono HA.out.size))
    clear hb2
    go_wp2_with fail
    refine (HP.out _ HV2.out).mono ?_
    rintro e w3 ⟨rfl, hb3⟩
    have HB3 := Lib.hid (HB2.out.trans (hb3.mono HB2.out.size))
    clear hb3
    go_wp2_with fail
    go_ret2
    exact ⟨rfl, HB3.out⟩
  · have g : (xe == 0) = false := beq_false_of_ne hxe
    have HR2 := Lib.hid (show (xe, []) = R by rw [← HR.out, if_neg hxe])
    unfold tupE at HS ⊢
    clear hS HR hbA hX hxe hv
    go_enter Tryz.func34, Tryz.ntmps34
    go_wp2_with fail
    refine HS.out.mono ?_
    rintro e w2 ⟨rfl, hb2⟩
    have HB2 := Lib.hid (HA.out.trans (hb2.mono HA.out.size))
    clear hb2
    go_wp2_with fail
    go_ret2
    rw [← HR2.out]
    exact ⟨rfl, HB2.out⟩
set_option maxRecDepth 100000 in
set_option maxHeartbeats 8000000 in
theorem rpoint_any (s : SecR) (n : Int) (hl : s.seed.size ≤ 900000) (w : World) (hv : VarsOk w) : Calls Tryz.prog 38 #[.agg #[.string s.fund, .string s.rev, .string s.pay, .string s.later, .string s.htlc, .string s.seed], .int .i64 n] w fun e w' => e = .returned (tupE (pointE s.seed.data.toList n)) ∧ Below w.heap.size w w' := by
  obtain ⟨R, hR⟩ : ∃ R, pointE s.seed.data.toList n = R := ⟨_, rfl⟩
  rw [hR]
  have HR := Lib.hid hR
  rw [pointE_reveal] at HR
  clear hR
  have hbA : Below w.heap.size w (w.alloc (.cells #[.string s.fund, .string s.rev, .string s.pay, .string s.later, .string s.htlc, .string s.seed] 54)) := (Below.refl _ _).alloc (Nat.le_refl _) _
  have q0 : (w.alloc (.cells #[.string s.fund, .string s.rev, .string s.pay, .string s.later, .string s.htlc, .string s.seed] 54)).cell? ⟨w.heap.size, 0, none⟩ = some (.string s.fund) := alloc_cells 0 _ rfl
  have q1 : (w.alloc (.cells #[.string s.fund, .string s.rev, .string s.pay, .string s.later, .string s.htlc, .string s.seed] 54)).cell? ⟨w.heap.size, 1, none⟩ = some (.string s.rev) := alloc_cells 1 _ rfl
  have q2 : (w.alloc (.cells #[.string s.fund, .string s.rev, .string s.pay, .string s.later, .string s.htlc, .string s.seed] 54)).cell? ⟨w.heap.size, 2, none⟩ = some (.string s.pay) := alloc_cells 2 _ rfl
  have q3 : (w.alloc (.cells #[.string s.fund, .string s.rev, .string s.pay, .string s.later, .string s.htlc, .string s.seed] 54)).cell? ⟨w.heap.size, 3, none⟩ = some (.string s.later) := alloc_cells 3 _ rfl
  have q4 : (w.alloc (.cells #[.string s.fund, .string s.rev, .string s.pay, .string s.later, .string s.htlc, .string s.seed] 54)).cell? ⟨w.heap.size, 4, none⟩ = some (.string s.htlc) := alloc_cells 4 _ rfl
  have q5 : (w.alloc (.cells #[.string s.fund, .string s.rev, .string s.pay, .string s.later, .string s.htlc, .string s.seed] 54)).cell? ⟨w.heap.size, 5, none⟩ = some (.string s.seed) := alloc_cells 5 _ rfl
  have HA := Lib.hid hbA
  have hS := rreveal_any s n hl (w.alloc (.cells #[.string s.fund, .string s.rev, .string s.pay, .string s.later, .string s.htlc, .string s.seed] 54))
  obtain ⟨X, hX⟩ : ∃ X, revealE s.seed.data.toList n = X := ⟨_, rfl⟩
  have hXl := revealE_len s.seed.data.toList n
  rw [hX] at hS HR hXl
  obtain ⟨xe, xs⟩ := X
  have HS := Lib.hid hS
  by_cases hxe : xe = 0
  · subst hxe
    have HR2 := Lib.hid (show pubE xs = R by rw [← HR.out]; exact (if_pos rfl).symm)
    have HP := Lib.hid (fun W  (hv : VarsOk W) => rpub_any (bs xs) W (by rw [size_bs]; simp only at hXl; omega) hv)
    simp only [bs_list] at HP
    rw [HR2.out] at HP
    have HV := Lib.hid (hv.below hbA)
    unfold tupE at HS HP ⊢
    unfold bs at HP
    clear hS HR HR2 hbA hX hv
    go_enter Tryz.func38, Tryz.ntmps38
    go_wp2_with fail
    refine HS.out.mono ?_
    rintro e w2 ⟨rfl, hb2⟩
    have HV2 := Lib.hid (HV.out.below hb2)
    have HB2 := Lib.hid (HA.out.trans (hb2.mono HA.out.size))
    clear hb2
    go_wp2_with fail
    refine (HP.out _ HV2.out).mono ?_
    rintro e w3 ⟨rfl, hb3⟩
    have HB3 := Lib.hid (HB2.out.trans (hb3.mono HB2.out.size))
    clear hb3
    go_wp2_with fail
    go_ret2
    exact ⟨rfl, HB3.out⟩
  · have g : (xe == 0) = false := beq_false_of_ne hxe
    have HR2 := Lib.hid (show (xe, []) = R by rw [← HR.out, if_neg hxe])
    unfold tupE at HS ⊢
    clear hS HR hbA hX hxe hv
    go_enter Tryz.func38, Tryz.ntmps38
    go_wp2_with fail
    refine HS.out.mono ?_
    rintro e w2 ⟨rfl, hb2⟩
    have HB2 := Lib.hid (HA.out.trans (hb2.mono HA.out.size))
    clear hb2
    go_wp2_with fail
    go_ret2
    rw [← HR2.out]
    exact ⟨rfl, HB2.out⟩
end Go.Proofs.YtaonadgelkdbcaaGreatDoor
