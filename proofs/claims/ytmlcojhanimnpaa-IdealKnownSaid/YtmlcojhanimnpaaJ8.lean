/- IdealSettles: its walk. -/
import Derived.Test.YtmlcojhanimnpaaJ7
namespace Go.Proofs.Ytmlcojhanimnpaa
open Go.RowKit

theorem legSum_all (legs : List Leg) (h : ∀ y ∈ legs, 1 ≤ y.amt) (p : Leg → Bool) (t : Nat) : 0 ≤ legSum p (legs.take t) ∧ legSum p (legs.take t) ≤ legSum (fun _ => true) legs := by
  have h1 := legSum_nonneg p (legs.take t) fun y hy => h y (List.mem_of_mem_take hy)
  have h2 := legSum_take p legs h t
  have h3 : ∀ l : List Leg, (∀ y ∈ l, 1 ≤ y.amt) → legSum p l ≤ legSum (fun _ => true) l := by
    intro l
    induction l with
    | nil => intro _; exact Int.le_refl _
    | cons y r ih =>
      intro hl
      have := ih fun z hz => hl z (List.mem_cons_of_mem _ hz)
      have := hl y (List.mem_cons_self ..)
      rw [legSum_cons, legSum_cons]
      simp only [if_true]
      split <;> omega
  have := h3 legs h
  omega
/-- The legs that are held are worth no more than Total. -/
theorem held_bound {s : Led} (hi : Inv s) {legs : List Leg} (he : (hold s legs).2.1 = 0) : (∀ y ∈ legs, 1 ≤ y.amt) ∧ legSum (fun _ => true) legs ≤ 2100000000000000000 := by
  obtain ⟨h1, h2⟩ := hold_ok he
  obtain ⟨-, -, g3⟩ := takeAll_ok hi.ch h1
  have hpos : ∀ y ∈ legs, 1 ≤ y.amt := fun y hy => (g3 y hy).lo
  refine ⟨hpos, ?_⟩
  have hi1 := (hi.hold legs).1
  have hs := sides_sum hi1
  have ht := total_bounds hi1
  have hc := sum_coins hi1
  have hh : holdSum (fun _ => true) (hold s legs).2.2.holds = holdSum (fun _ => true) s.holds + legSum (fun _ => true) legs := by
    rw [h2]
    show holdSum _ (s.holds ++ [⟨s.last + 1, legs⟩]) = _
    rw [holdSum_append, holdSum_cons, holdSum_nil, Int.add_zero]
  have h0 := holdSum_nonneg (fun _ => true) s.holds fun z hz y hy => (hi.hs z hz y hy).lo
  have ha : 0 ≤ asum (fun c => c.hasA + c.hasB) (hold s legs).2.2.chans := asum_nonneg _ _ fun p hp => by
    have ho := mem_ch hi1 p hp
    have := ho.a0
    have := ho.b0
    omega
  unfold total at ht
  omega
set_option maxRecDepth 100000 in
set_option maxHeartbeats 8000000 in
theorem settles_walk (l : List OpR) (A : Option Addr) (c : Nat) (legs : List Leg) (A1 : Option Addr) (c1 : Nat) (W : World) (hl : l.length ≤ reachBytes) (hA : OpsIn W A l) (hwf : ∀ x ∈ l, OpWf x) (hl1 : legs.length ≤ reachBytes) (hA1 : LegsIn W A1 legs) (hwf1 : ∀ y ∈ legs, LegWf y) :
    Calls Try.prog 3 #[.slice A l.length c, .slice A1 legs.length c1] W fun e w' => e = .returned (.bool true) ∧ Below W.heap.size W w' := by
  have HOW := Lib.hid (opL_wf hl1 hwf1)
  unfold reachBytes at hl hl1
  have HLG := Lib.hid (large_any l A c W (by omega) hA hwf)
  have HA := Lib.hid hA
  have HWF := Lib.hid hwf
  have HA1 := Lib.hid hA1
  clear hA hwf hA1 hwf1
  go_enter Try.func3, Try.ntmps3
  go_wp2_with fail
  refine HLG.out.mono ?_
  rintro e w1 ⟨⟨b, rfl, hb⟩, hbw⟩
  have HB1 := Lib.hid hbw
  have HLB := Lib.hid hb
  clear hb hbw
  cases b with
  | true =>
    go_wp2_with fail
    refine (works_any _).mono ?_
    rintro e w2 ⟨rfl, hb2⟩
    have HB2 := Lib.hid (HB1.out.trans (hb2.mono HB1.out.size))
    clear hb2
    go_wp2_with fail
    go_ret
    exact ⟨rfl, HB2.out⟩
  | false =>
    have hlen := (HLB.out rfl).1
    have HLEG := Lib.hid (HLB.out rfl).2
    clear hl
    have hlg2 := large_any [opL legs] (some ⟨w1.heap.size, 0, none⟩) 1 (w1.alloc (.cells #[.int .u8 0, .string ⟨#[]⟩, .string ⟨#[]⟩, .string ⟨#[]⟩, .int .i64 0, .int .i64 0, .int .i64 0, .slice A1 legs.length c1] 26)) (by simp) (opL_in (HA1.out.below HB1.out)) HOW.out
    have HLG2 := Lib.hid hlg2
    clear hlg2
    go_wp2_with fail
    refine HLG2.out.mono ?_
    rintro e w2 ⟨⟨b, rfl, hb⟩, hbw⟩
    have HB2 := Lib.hid ((HB1.out.alloc HB1.out.size _).trans (hbw.mono (HB1.out.alloc HB1.out.size _).size))
    have HLB2 := Lib.hid hb
    clear hb hbw
    cases b with
    | true =>
      go_wp2_with fail
      refine (works_any _).mono ?_
      rintro e w3 ⟨rfl, hb3⟩
      have HB3 := Lib.hid (HB2.out.trans (hb3.mono HB2.out.size))
      clear hb3
      go_wp2_with fail
      go_ret
      exact ⟨rfl, HB3.out⟩
    | false =>
      have hll := (HLB2.out rfl).2 (opL legs) (by simp)
      have hll2 : legs.length ≤ 40000 := hll
      clear hll hl1
      go_wp2_with fail
      refine (new_any _).mono ?_
      rintro e w3 hN
      obtain ⟨p, rfl, hL, hb3⟩ := LedO.of_new hN
      have HL := Lib.hid (hL.mono HB2.out.size)
      have HB3 := Lib.hid (HB2.out.trans (hb3.mono HB2.out.size))
      clear hL hb3 hN
      go_wp2_with fail
      go_loopw [6] (fun i wr => ∃ (k : Nat) (s : Led), k ≤ l.length ∧ i = .int .i64 k ∧ Good s k ∧ LedO W.heap.size wr p s ∧ Below W.heap.size W wr) (fun i _ => l.length - (intOf i).toNat)
      case atStart => exact ⟨0, led0, Nat.zero_le _, rfl, Good.led0, HL.out, HB3.out⟩
      case round =>
        obtain ⟨k, s, hk, rfl, hg, hLr, hbr⟩ := hrel
        have HG := Lib.hid hg
        have HLR := Lib.hid hLr
        have HBR := Lib.hid hbr
        clear hg hLr hbr
        by_cases hlt : k < l.length
        · obtain ⟨ad, B, ca, rfl, q0, q1, q2, q3, q4, q5, q6, q7, q8⟩ := (HA.out.below HBR.out).look hlt
          have hx := HWF.out _ (List.getElem_mem hlt)
          have hle := HLEG.out _ (List.getElem_mem hlt)
          obtain ⟨X, hX⟩ : ∃ X, l[k] = X := ⟨_, rfl⟩
          rw [hX] at q0 q1 q2 q3 q4 q5 q6 q7 q8 hx hle
          have hd := doesO HG.out.inv HLR.out HBR.out.size X B ca hx (by have := HG.out.last; omega) (by omega) q8
          have HD := Lib.hid hd
          have HGN := Lib.hid (HG.out.step X)
          clear hx hle hX hd q8
          go_wp2_with fail
          refine HD.out.mono ?_
          rintro e w4 ⟨rfl, hL4, hb4⟩
          have HL4 := Lib.hid hL4
          have HB4 := Lib.hid (HBR.out.trans hb4)
          clear hL4 hb4 q0 q1 q2 q3 q4 q5 q6 q7
          go_wp2_with fail
          go_roundw
          case rel => exact ⟨k + 1, (doL s X).2.2, by omega, by go_num, HGN.out, HL4.out, HB4.out⟩
          case measure => simp [intOf]; omega
        · obtain ⟨cc, dd, v, vs, hL, hge⟩ := HLR.out
          have HL4 := Lib.hid hL
          have HGE := Lib.hid hge
          clear hL hge
          go_wp2_with fail
          refine (copyL_any p cc dd v vs s _ HG.out.inv HL4.out).mono ?_
          rintro e w4 ⟨p2, c2, d2, v2, vs2, rfl, hL2, hge2, hb4⟩
          have hdis : ∀ i ∈ fp p cc dd v, i ∉ fp p2 c2 d2 v2 := fun i hi hi2 => by
            have h1 := fp_lt HL4.out i hi
            have h2 := hge2 i hi2
            omega
          have HDIS := Lib.hid hdis
          have HLC := Lib.hid hL2
          have HL5 := Lib.hid (HL4.out.below hb4)
          have HB4 := Lib.hid (HBR.out.trans (hb4.mono HBR.out.size))
          clear hL2 hge2 hb4 hdis
          go_wp2_with fail
          refine (lent_any legs A1 c1 _ (by omega) (HA1.out.below HB4.out)).mono ?_
          rintro e w5 ⟨A5, c5, rfl, hown5, hb5⟩
          have HIN := Lib.hid (legs_of_own hown5)
          have HLC := Lib.hid (HLC.out.below hb5)
          have HL6 := Lib.hid (HL5.out.below hb5)
          have HB5 := Lib.hid (HB4.out.trans (hb5.mono HB4.out.size))
          clear hown5 hb5
          go_wp2_with fail
          have hho := hold_any p cc dd v vs s legs A5 c5 _ HG.out.inv HL6.out (by have := HG.out.last; omega) (by omega) HIN.out
          have HHO := Lib.hid hho
          clear hho
          by_cases he : (hold s legs).2.1 = 0
          · obtain ⟨g1, g2⟩ := hold_end HG.out.inv he true
            have hsw := fun q => settle_worth HG.out.inv he q
            obtain ⟨hpos, hbd⟩ := held_bound HG.out.inv he
            have hi1 := (HG.out.inv.hold legs).1
            have hi2 := (hi1.endH true (s.last + 1)).1
            obtain ⟨R, hR⟩ : ∃ R, hold s legs = R := ⟨_, rfl⟩
            rw [hR] at he g1 g2 hi1 hi2 hsw
            obtain ⟨r1, r2, s2⟩ := R
            simp only at he g1 g2 hi1 hi2 hsw
            subst he
            subst g1
            rw [g2] at hi2 hsw
            obtain ⟨s3, hs3⟩ : ∃ s3 : Led, s3 = { s with chans := giveAll true (takeAll s.chans legs).2 legs, last := s.last + 1 } := ⟨_, rfl⟩
            have hco : s3.coins = s.coins := by rw [hs3]
            rw [← hs3] at hi2 hsw g2
            have HR := Lib.hid hR
            have HE := Lib.hid g2
            have HI1 := Lib.hid hi1
            have HI2 := Lib.hid hi2
            have HSW := Lib.hid hsw
            have HPOS := Lib.hid hpos
            have HCO := Lib.hid hco
            clear hR g2 hi1 hi2 hsw hpos hco hs3
            refine HHO.out.mono ?_
            rw [HR.out]
            rintro e w6 ⟨rfl, -, cc', dd', v', vs', hL7, hf7, hg7⟩
            have hlc := HLC.out.apart HL6.out hf7 HDIS.out
            have hge7 : ∀ i ∈ fp p cc' dd' v', W.heap.size ≤ i := fun i hi => by
              rcases hg7 i hi with h | h
              · exact HGE.out i h
              · exact Nat.le_trans HB5.out.size h
            have hdis2 : ∀ i ∈ fp p cc' dd' v', i ∉ fp p2 c2 d2 v2 := fun i hi hi2 => by
              rcases hg7 i hi with h | h
              · exact HDIS.out i h hi2
              · have := HLC.out.lts i hi2; omega
            have HLC := Lib.hid hlc
            have HL7 := Lib.hid hL7
            have HGE7 := Lib.hid hge7
            have HDIS2 := Lib.hid hdis2
            have HB6 := Lib.hid (HB5.out.trans (hf7.toBelowOf HB5.out.size HGE.out))
            clear hlc hL7 hge7 hdis2 hf7 hg7
            have hfa := settle_any p cc' dd' v' vs' s2 (s.last + 1) w6 HI1.out HL7.out
            rw [HE.out] at hfa
            have HFA := Lib.hid hfa
            clear hfa
            go_wp2_with fail
            refine HFA.out.mono ?_
            rintro e w7 ⟨he7, cc8, dd8, v8, vs8, hL8, hf8, hg8⟩
            have hlc := HLC.out.apart HL7.out hf8 HDIS2.out
            have HLC := Lib.hid hlc
            have HL8 := Lib.hid hL8
            have HB7 := Lib.hid (HB6.out.trans (hf8.toBelowOf HB6.out.size HGE7.out))
            subst he7
            clear hlc hL8 hf8 hg8
            go_wp2_with fail
            refine (acc_any p2 c2 d2 v2 vs2 s _ HG.out.inv HG.out.named HLC.out).mono ?_
            rintro e w8 ⟨va, rfl, howa, hb8⟩
            obtain ⟨Aa, ca, rfl, -, hca⟩ := own_shape howa
            have HCA := Lib.hid hca
            have HLC := Lib.hid (HLC.out.below hb8)
            have HL8 := Lib.hid (HL8.out.below hb8)
            have HB8 := Lib.hid (HB7.out.trans (hb8.mono HB7.out.size))
            clear howa hca hb8
            go_wp2_with fail
            refine (chs_any p2 c2 d2 v2 vs2 s _ HG.out.inv HG.out.named HLC.out).mono ?_
            rintro e w9 ⟨va, rfl, howa, hb9⟩
            obtain ⟨Ac, cx, rfl, -, hcc⟩ := own_shape howa
            have HCC := Lib.hid hcc
            have HCA := Lib.hid (HCA.out.below hb9)
            have HLC := Lib.hid (HLC.out.below hb9)
            have HL8 := Lib.hid (HL8.out.below hb9)
            have HB9 := Lib.hid (HB8.out.trans (hb9.mono HB8.out.size))
            have hla := accs_len s
            have hlcc := chs_len s
            have hk1 := HG.out.inv.lk
            have hk2 := HG.out.inv.lc
            have hAl : (accs s).length ≤ 64 := by omega
            have hCl : (chs s).length ≤ 256 := by omega
            clear howa hcc hb9 hla hlcc hk1 hk2
            go_wp2_with fail
            go_loopw [12] (fun i wr => ∃ k : Nat, k ≤ (accs s).length ∧ i = .int .i64 k ∧ Below w9.heap.size w9 wr) (fun i _ => (accs s).length - (intOf i).toNat)
            case atStart => exact ⟨0, Nat.zero_le _, rfl, Below.refl _ _⟩
            case round =>
              obtain ⟨k, hk, rfl, hb⟩ := hrel
              have HBB := Lib.hid hb
              by_cases hlt : k < (accs s).length
              · obtain ⟨ad, rfl, q0, -⟩ := acc_look (HCA.out.below hb) hlt
                have hsome := accs_some s (List.getElem_mem hlt)
                have hwn := worth_nonneg HG.out.inv (accs s)[k].1
                have hwl := worth_le HG.out.inv (q := (accs s)[k].1) (by rw [hsome]; rfl)
                have hwv : worth1 s (accs s)[k].1 = worth s (accs s)[k].1 := by unfold worth1; rw [if_pos (by rw [hsome]; rfl)]
                have hwv2 : worth1 s3 (accs s)[k].1 = worth s3 (accs s)[k].1 := by unfold worth1; rw [if_pos (by rw [HCO.out, hsome]; rfl)]
                have hsw := HSW.out (accs s)[k].1
                obtain ⟨P, hP⟩ : ∃ P, (accs s)[k] = P := ⟨_, rfl⟩
                rw [hP] at q0 hwn hwl hwv hwv2 hsw
                have htb := (total_bounds HG.out.inv).2
                obtain ⟨V, hV⟩ : ∃ V, worth s P.1 = V := ⟨_, rfl⟩
                rw [hV] at hwn hwl hwv hsw
                have hwl2 : V ≤ 2100000000000000000 := by omega
                have HP := Lib.hid hP
                have HWV := Lib.hid hwv
                have HWV2 := Lib.hid hwv2
                have HSWP := Lib.hid hsw
                have HLCr := Lib.hid (HLC.out.below hb)
                clear hb hsome hwl hwv hwv2 hsw hP htb hV
                go_wp2_with fail
                refine (worthL_any p2 c2 d2 v2 vs2 s P.1 _ HG.out.inv HLCr.out).mono ?_
                rw [HWV.out]
                rintro e wa ⟨rfl, hba⟩
                have HBA := Lib.hid (HBB.out.trans (hba.mono HBB.out.size))
                clear hba q0
                go_wp2_with fail
                go_loopw [13, 14] (fun n j wr => ∃ t : Nat, t ≤ legs.length ∧ j = .int .i64 t ∧ n = .int .i64 (V - legSum (fun x => x.src == P.1) (legs.take t) + legSum (fun x => !(x.src == P.1) && sideOf s.chans x.ch P.1) (legs.take t)) ∧ Below w9.heap.size w9 wr) (fun _ j _ => legs.length - (intOf j).toNat)
                case atStart => exact ⟨0, Nat.zero_le _, rfl, by simp [legSum], HBA.out⟩
                case round =>
                  obtain ⟨t, ht, rfl, hn, hb⟩ := hrel
                  have HBC := Lib.hid hb
                  obtain ⟨ad2, hae, q0, -⟩ := acc_look (HCA.out.below hb) hlt
                  injection hae with hae
                  subst hae
                  rw [HP.out] at q0
                  by_cases htl : t < legs.length
                  · obtain ⟨la, rfl, l0, l1, l2⟩ := LegsIn.look (Cells.below HA1.out (HB9.out.trans (hb.mono HB9.out.size))) htl
                    have u1 := legSum_all legs HPOS.out (fun x => x.src == P.1) t
                    have u2 := legSum_all legs HPOS.out (fun x => !(x.src == P.1) && sideOf s.chans x.ch P.1) t
                    have u3 := legSum_all legs HPOS.out (fun x => x.src == P.1) (t + 1)
                    have u4 := legSum_all legs HPOS.out (fun x => !(x.src == P.1) && sideOf s.chans x.ch P.1) (t + 1)
                    have u5 := legSum_step (fun x => x.src == P.1) legs t htl
                    have u6 := legSum_step (fun x => !(x.src == P.1) && sideOf s.chans x.ch P.1) legs t htl
                    obtain ⟨Y, hY⟩ : ∃ Y, legs[t] = Y := ⟨_, rfl⟩
                    rw [hY] at l0 l1 l2 u5 u6
                    obtain ⟨N1, hN1⟩ : ∃ N, legSum (fun x => x.src == P.1) (legs.take t) = N := ⟨_, rfl⟩
                    obtain ⟨N2, hN2⟩ : ∃ N, legSum (fun x => !(x.src == P.1) && sideOf s.chans x.ch P.1) (legs.take t) = N := ⟨_, rfl⟩
                    rw [hN1] at hn u1 u5
                    rw [hN2] at hn u2 u6
                    subst hn
                    clear hN1 hN2 hY
                    by_cases hq : Y.src = P.1
                    · have hbq : (Y.src == P.1) = true := (ch_beq _ _).2 hq
                      simp only [hbq, if_true, Bool.not_true, Bool.false_and, Bool.false_eq_true, if_false] at u5 u6
                      rw [u5] at u3
                      rw [u6] at u4
                      have m1 : -9000000000000000000 ≤ V - N1 + N2 := by omega
                      have m2 : V - N1 + N2 ≤ 9000000000000000000 := by omega
                      have m3 : -9000000000000000000 ≤ V - N1 + N2 - Y.amt := by omega
                      have m4 : V - N1 + N2 - Y.amt ≤ 9000000000000000000 := by omega
                      have he := tl_t hq
                      have HU5 := Lib.hid u5
                      have HU6 := Lib.hid u6
                      clear hb hq hbq u5 u6
                      go_wp2_with fail
                      go_quiet (fail)
                      go_wp2_with fail
                      go_roundw
                      case rel => exact ⟨t + 1, by omega, by go_num, by rw [HU5.out, HU6.out]; congr 1; omega, below_drewN HBC.out _⟩
                      case measure => simp [intOf]; omega
                    · have hbq : (Y.src == P.1) = false := (ch_bne _ _).2 hq
                      have he := tl_f hq
                      have hsd := fun q n => (sides_any s Ac cx Y.ch P.1 (wr.drewN (q + n)) HG.out.inv ((HCC.out.below hb).drewN (q + n))).mono (fun e w' (h : e = .returned (.bool (sideOf s.chans Y.ch P.1)) ∧ wr.drewN (q + n) = w') => (⟨h.1, n, h.2.symm⟩ : e = .returned (.bool (sideOf s.chans Y.ch P.1)) ∧ ∃ m, w' = wr.drewN (q + m)))
                      simp only [hbq, Bool.false_eq_true, if_false, Bool.not_false, Bool.true_and] at u5 u6
                      cases hsq : sideOf s.chans Y.ch P.1 with
                      | true =>
                        rw [hsq] at hsd u6
                        simp only [if_true] at u6
                        rw [u5] at u3
                        rw [u6] at u4
                        have m1 : -9000000000000000000 ≤ V - N1 + N2 := by omega
                        have m2 : V - N1 + N2 ≤ 9000000000000000000 := by omega
                        have m3 : -9000000000000000000 ≤ V - N1 + N2 + Y.amt := by omega
                        have m4 : V - N1 + N2 + Y.amt ≤ 9000000000000000000 := by omega
                        have HU5 := Lib.hid u5
                        have HU6 := Lib.hid u6
                        have HSD := Lib.hid hsd
                        clear hb hq hbq u5 u6 hsq hsd
                        go_wp2_with fail
                        go_quiet (fail)
                        go_wp2_with fail
                        go_quiet (first | (go_at_call 19; exact HSD.out _ _))
                        go_wp2_with fail
                        go_roundw
                        case rel => exact ⟨t + 1, by omega, by go_num, by rw [HU5.out, HU6.out]; congr 1; omega, below_drewN HBC.out _⟩
                        case measure => simp [intOf]; omega
                      | false =>
                        rw [hsq] at hsd u6
                        simp only [Bool.false_eq_true, if_false] at u6
                        have HU5 := Lib.hid u5
                        have HU6 := Lib.hid u6
                        have HSD := Lib.hid hsd
                        clear hb hq hbq u5 u6 hsq hsd
                        go_wp2_with fail
                        go_quiet (fail)
                        go_wp2_with fail
                        go_quiet (first | (go_at_call 19; exact HSD.out _ _))
                        go_wp2_with fail
                        go_roundw
                        case rel => exact ⟨t + 1, by omega, by go_num, by rw [HU5.out, HU6.out]; congr 1; omega, below_drewN HBC.out _⟩
                        case measure => simp [intOf]; omega
                  · have hte : legs.take t = legs := List.take_of_length_le (by omega)
                    rw [hte, ← HSWP.out] at hn
                    subst hn
                    have HLL := Lib.hid (HL8.out.below hb)
                    clear hb hte
                    go_wp2_with fail
                    refine (worthL_any p cc8 dd8 v8 vs8 s3 P.1 _ HI2.out HLL.out).mono ?_
                    rw [HWV2.out]
                    rintro e wb ⟨rfl, hbb⟩
                    have HBD := Lib.hid (HBC.out.trans (hbb.mono HBC.out.size))
                    clear hbb q0
                    go_wp2_with fail
                    go_roundw
                    case rel => exact ⟨k + 1, by omega, by go_num, HBD.out⟩
                    case measure => simp [intOf]; omega
              · clear hb
                go_wp2_with fail
                refine (works_any _).mono ?_
                rintro e wz ⟨rfl, hbz⟩
                have HBZ := Lib.hid (HB9.out.trans ((HBB.out.trans (hbz.mono HBB.out.size)).mono HB9.out.size))
                clear hbz
                go_wp2_with fail
                go_ret
                exact ⟨rfl, HBZ.out⟩
          · obtain ⟨g1, g2⟩ := hold_bad he
            obtain ⟨R, hR⟩ : ∃ R, hold s legs = R := ⟨_, rfl⟩
            rw [hR] at he g1 g2
            obtain ⟨r1, r2, s2⟩ := R
            simp only at he g1 g2
            subst g1
            subst g2
            have HR := Lib.hid hR
            clear hR
            refine HHO.out.mono ?_
            rw [HR.out]
            rintro e w6 ⟨rfl, -, cc', dd', v', vs', hL7, hf7, hg7⟩
            have HB6 := Lib.hid (HB5.out.trans (hf7.toBelowOf HB5.out.size HGE.out))
            clear hL7 hf7 hg7
            go_wp2_with fail
            refine (works_any _).mono ?_
            rintro e w9 ⟨rfl, hb9⟩
            have HB9 := Lib.hid (HB6.out.trans (hb9.mono HB6.out.size))
            clear hb9
            go_wp2_with fail
            go_ret
            exact ⟨rfl, HB9.out⟩
end Go.Proofs.Ytmlcojhanimnpaa
