/- IdealFails: its walk. -/
import Derived.Test.YtmlcojhanimnpaaJ6
namespace Go.Proofs.Ytmlcojhanimnpaa
open Go.RowKit

theorem fp_not_leg {w : World} {p c d : Nat} {v : Value} {vs : List Value} {s : Led} (h : LedAt w p c d v vs s) : ∀ i ∈ fp p c d v, ∀ cur, w.heap[i]? ≠ some (.cells cur 45) := by
  intro i hi cur he
  simp only [fp, List.mem_cons] at hi
  rcases hi with rfl | rfl | rfl | hi
  · rw [h.blk] at he; cases he
  · obtain ⟨es, k, hb, -⟩ := h.mc; rw [hb] at he; cases he
  · obtain ⟨es, k, hb, -⟩ := h.md; rw [hb] at he; cases he
  · obtain ⟨cur', hh⟩ := own_kind' h.own (by simpa using hi)
    rw [hh] at he; cases he
/-- A ledger beside one that is written to. -/
theorem LedAt.apart {w w' : World} {p c d p2 c2 d2 : Nat} {v v2 : Value} {vs vs2 : List Value} {s s2 : Led} (h2 : LedAt w p2 c2 d2 v2 vs2 s2) (h1 : LedAt w p c d v vs s) (hf : Fr (fp p c d v) w w') (hd : ∀ i ∈ fp p c d v, i ∉ fp p2 c2 d2 v2) : LedAt w' p2 c2 d2 v2 vs2 s2 :=
  h2.kept (fun i hi => hf.block i (h2.lts i hi) fun hm => hd i hm hi) (fun g cur hg => hf.block g (lt_of_block hg) fun hm => fp_not_leg h1 g hm cur hg)
/-- One call that holds these legs and nothing else. -/
def opL (legs : List Leg) : OpR := ⟨0, ⟨#[]⟩, ⟨#[]⟩, ⟨#[]⟩, 0, 0, 0, legs⟩
theorem opL_in {w : World} {A : Option Addr} {legs : List Leg} {c : Nat} (h : LegsIn w A legs) :
    OpsIn (w.alloc (.cells #[.int .u8 0, .string ⟨#[]⟩, .string ⟨#[]⟩, .string ⟨#[]⟩, .int .i64 0, .int .i64 0, .int .i64 0, .slice A legs.length c] 26)) (some ⟨w.heap.size, 0, none⟩) [opL legs] := by
  intro i hi
  have hi0 : i = 0 := by simp at hi; omega
  subst hi0
  refine ⟨⟨w.heap.size, 0, none⟩, rfl, A, c, ?_, ?_, ?_, ?_, ?_, ?_, ?_, ?_, Cells.alloc h _⟩
  all_goals exact World.news_of_block (cs := #[.int .u8 0, .string ⟨#[]⟩, .string ⟨#[]⟩, .string ⟨#[]⟩, .int .i64 0, .int .i64 0, .int .i64 0, .slice A legs.length c]) (Go.heap_alloc_new w _) _ _ rfl
theorem opL_wf {legs : List Leg} (h : legs.length ≤ reachBytes) (hw : ∀ y ∈ legs, LegWf y) : ∀ x ∈ [opL legs], OpWf x := by
  intro x hx
  have e : x = opL legs := by simpa using hx
  subst e
  exact ⟨(by decide : (0 : Int) ≤ 0), (by decide : (0 : Int) ≤ 255), Nat.zero_le _, Nat.zero_le _, Nat.zero_le _, h, (by decide : (-9223372036854775808 : Int) ≤ 0), (by decide : (0 : Int) ≤ 9223372036854775807), hw⟩
set_option maxRecDepth 100000 in
set_option maxHeartbeats 8000000 in
theorem fails_walk (l : List OpR) (A : Option Addr) (c : Nat) (legs : List Leg) (A1 : Option Addr) (c1 : Nat) (W : World) (hl : l.length ≤ reachBytes) (hA : OpsIn W A l) (hwf : ∀ x ∈ l, OpWf x) (hl1 : legs.length ≤ reachBytes) (hA1 : LegsIn W A1 legs) (hwf1 : ∀ y ∈ legs, LegWf y) :
    Calls Try.prog 6 #[.slice A l.length c, .slice A1 legs.length c1] W fun e w' => e = .returned (.bool true) ∧ Below W.heap.size W w' := by
  have HOW := Lib.hid (opL_wf hl1 hwf1)
  unfold reachBytes at hl hl1
  have HLG := Lib.hid (large_any l A c W (by omega) hA hwf)
  have HA := Lib.hid hA
  have HWF := Lib.hid hwf
  have HA1 := Lib.hid hA1
  clear hA hwf hA1 hwf1
  go_enter Try.func6, Try.ntmps6
  go_wp2_with fail
  refine HLG.out.mono ?_
  rintro e w1 ⟨⟨b, rfl, hb⟩, hbw⟩
  have HB1 := Lib.hid hbw
  have HLB := Lib.hid hb
  clear hb hbw
  cases b with
  | true =>
    go_wp2_with fail
    refine (works_any _).mono ?_
    rintro e w2 ⟨rfl, hb2⟩
    have HB2 := Lib.hid (HB1.out.trans (hb2.mono HB1.out.size))
    clear hb2
    go_wp2_with fail
    go_ret
    exact ⟨rfl, HB2.out⟩
  | false =>
    have hlen := (HLB.out rfl).1
    have HLEG := Lib.hid (HLB.out rfl).2
    clear hl
    have hlg2 := large_any [opL legs] (some ⟨w1.heap.size, 0, none⟩) 1 (w1.alloc (.cells #[.int .u8 0, .string ⟨#[]⟩, .string ⟨#[]⟩, .string ⟨#[]⟩, .int .i64 0, .int .i64 0, .int .i64 0, .slice A1 legs.length c1] 26)) (by simp) (opL_in (HA1.out.below HB1.out)) HOW.out
    have HLG2 := Lib.hid hlg2
    clear hlg2
    go_wp2_with fail
    refine HLG2.out.mono ?_
    rintro e w2 ⟨⟨b, rfl, hb⟩, hbw⟩
    have HB2 := Lib.hid ((HB1.out.alloc HB1.out.size _).trans (hbw.mono (HB1.out.alloc HB1.out.size _).size))
    have HLB2 := Lib.hid hb
    clear hb hbw
    cases b with
    | true =>
      go_wp2_with fail
      refine (works_any _).mono ?_
      rintro e w3 ⟨rfl, hb3⟩
      have HB3 := Lib.hid (HB2.out.trans (hb3.mono HB2.out.size))
      clear hb3
      go_wp2_with fail
      go_ret
      exact ⟨rfl, HB3.out⟩
    | false =>
      have hll := (HLB2.out rfl).2 (opL legs) (by simp)
      have hll2 : legs.length ≤ 40000 := hll
      clear hll hl1
      go_wp2_with fail
      refine (new_any _).mono ?_
      rintro e w3 hN
      obtain ⟨p, rfl, hL, hb3⟩ := LedO.of_new hN
      have HL := Lib.hid (hL.mono HB2.out.size)
      have HB3 := Lib.hid (HB2.out.trans (hb3.mono HB2.out.size))
      clear hL hb3 hN
      go_wp2_with fail
      go_loopw [6] (fun i wr => ∃ (k : Nat) (s : Led), k ≤ l.length ∧ i = .int .i64 k ∧ Good s k ∧ LedO W.heap.size wr p s ∧ Below W.heap.size W wr) (fun i _ => l.length - (intOf i).toNat)
      case atStart => exact ⟨0, led0, Nat.zero_le _, rfl, Good.led0, HL.out, HB3.out⟩
      case round =>
        obtain ⟨k, s, hk, rfl, hg, hLr, hbr⟩ := hrel
        have HG := Lib.hid hg
        have HLR := Lib.hid hLr
        have HBR := Lib.hid hbr
        clear hg hLr hbr
        by_cases hlt : k < l.length
        · obtain ⟨ad, B, ca, rfl, q0, q1, q2, q3, q4, q5, q6, q7, q8⟩ := (HA.out.below HBR.out).look hlt
          have hx := HWF.out _ (List.getElem_mem hlt)
          have hle := HLEG.out _ (List.getElem_mem hlt)
          obtain ⟨X, hX⟩ : ∃ X, l[k] = X := ⟨_, rfl⟩
          rw [hX] at q0 q1 q2 q3 q4 q5 q6 q7 q8 hx hle
          have hd := doesO HG.out.inv HLR.out HBR.out.size X B ca hx (by have := HG.out.last; omega) (by omega) q8
          have HD := Lib.hid hd
          have HGN := Lib.hid (HG.out.step X)
          clear hx hle hX hd q8
          go_wp2_with fail
          refine HD.out.mono ?_
          rintro e w4 ⟨rfl, hL4, hb4⟩
          have HL4 := Lib.hid hL4
          have HB4 := Lib.hid (HBR.out.trans hb4)
          clear hL4 hb4 q0 q1 q2 q3 q4 q5 q6 q7
          go_wp2_with fail
          go_roundw
          case rel => exact ⟨k + 1, (doL s X).2.2, by omega, by go_num, HGN.out, HL4.out, HB4.out⟩
          case measure => simp [intOf]; omega
        · obtain ⟨cc, dd, v, vs, hL, hge⟩ := HLR.out
          have HL4 := Lib.hid hL
          have HGE := Lib.hid hge
          clear hL hge
          go_wp2_with fail
          refine (copyL_any p cc dd v vs s _ HG.out.inv HL4.out).mono ?_
          rintro e w4 ⟨p2, c2, d2, v2, vs2, rfl, hL2, hge2, hb4⟩
          have hdis : ∀ i ∈ fp p cc dd v, i ∉ fp p2 c2 d2 v2 := fun i hi hi2 => by
            have h1 := fp_lt HL4.out i hi
            have h2 := hge2 i hi2
            omega
          have HDIS := Lib.hid hdis
          have HLC := Lib.hid hL2
          have HL5 := Lib.hid (HL4.out.below hb4)
          have HB4 := Lib.hid (HBR.out.trans (hb4.mono HBR.out.size))
          clear hL2 hge2 hb4 hdis
          go_wp2_with fail
          refine (lent_any legs A1 c1 _ (by omega) (HA1.out.below HB4.out)).mono ?_
          rintro e w5 ⟨A5, c5, rfl, hown5, hb5⟩
          have HIN := Lib.hid (legs_of_own hown5)
          have HLC := Lib.hid (HLC.out.below hb5)
          have HL6 := Lib.hid (HL5.out.below hb5)
          have HB5 := Lib.hid (HB4.out.trans (hb5.mono HB4.out.size))
          clear hown5 hb5
          go_wp2_with fail
          have hho := hold_any p cc dd v vs s legs A5 c5 _ HG.out.inv HL6.out (by have := HG.out.last; omega) (by omega) HIN.out
          have HHO := Lib.hid hho
          clear hho
          by_cases he : (hold s legs).2.1 = 0
          · obtain ⟨g1, g2⟩ := hold_end HG.out.inv he false
            have hfb := fail_back HG.out.inv he
            have hi1 := (HG.out.inv.hold legs).1
            have hi2 := (hi1.endH false (s.last + 1)).1
            have hn2 := (HG.out.named.hold HG.out.inv legs).endH hi1 false (s.last + 1)
            obtain ⟨R, hR⟩ : ∃ R, hold s legs = R := ⟨_, rfl⟩
            rw [hR] at he g1 g2 hi1 hi2 hn2
            obtain ⟨r1, r2, s2⟩ := R
            simp only at he g1 g2 hi1 hi2 hn2
            subst he
            subst g1
            rw [g2] at hi2 hn2
            have HR := Lib.hid hR
            have HE := Lib.hid g2
            have HI1 := Lib.hid hi1
            have HI2 := Lib.hid hi2
            have HN2 := Lib.hid hn2
            have HFB := Lib.hid hfb
            clear hR g2 hi1 hi2 hn2 hfb
            refine HHO.out.mono ?_
            rw [HR.out]
            rintro e w6 ⟨rfl, -, cc', dd', v', vs', hL7, hf7, hg7⟩
            have hlc := HLC.out.apart HL6.out hf7 HDIS.out
            have hge7 : ∀ i ∈ fp p cc' dd' v', W.heap.size ≤ i := fun i hi => by
              rcases hg7 i hi with h | h
              · exact HGE.out i h
              · exact Nat.le_trans HB5.out.size h
            have hdis2 : ∀ i ∈ fp p cc' dd' v', i ∉ fp p2 c2 d2 v2 := fun i hi hi2 => by
              rcases hg7 i hi with h | h
              · exact HDIS.out i h hi2
              · have := HLC.out.lts i hi2; omega
            have HLC := Lib.hid hlc
            have HL7 := Lib.hid hL7
            have HGE7 := Lib.hid hge7
            have HDIS2 := Lib.hid hdis2
            have HB6 := Lib.hid (HB5.out.trans (hf7.toBelowOf HB5.out.size HGE.out))
            clear hlc hL7 hge7 hdis2 hf7 hg7
            have hfa := fail_any p cc' dd' v' vs' s2 (s.last + 1) w6 HI1.out HL7.out
            rw [HE.out] at hfa
            have HFA := Lib.hid hfa
            clear hfa
            go_wp2_with fail
            refine HFA.out.mono ?_
            rintro e w7 ⟨he7, cc8, dd8, v8, vs8, hL8, hf8, hg8⟩
            have hlc := HLC.out.apart HL7.out hf8 HDIS2.out
            have HLC := Lib.hid hlc
            have HL8 := Lib.hid hL8
            have HB7 := Lib.hid (HB6.out.trans (hf8.toBelowOf HB6.out.size HGE7.out))
            subst he7
            clear hlc hL8 hf8 hg8
            go_wp2_with fail
            refine (alike_any p cc8 dd8 v8 vs8 _ p2 c2 d2 v2 vs2 s _ HI2.out HN2.out HL8.out HG.out.inv HG.out.named HLC.out (accs_congr rfl) (chs_congr HFB.out.2.keys HFB.out.1).symm rfl).mono ?_
            rintro e w8 ⟨rfl, hb8⟩
            have HB8 := Lib.hid (HB7.out.trans (hb8.mono HB7.out.size))
            clear hb8
            go_wp2_with fail
            refine (works_any _).mono ?_
            rintro e w9 ⟨rfl, hb9⟩
            have HB9 := Lib.hid (HB8.out.trans (hb9.mono HB8.out.size))
            clear hb9
            go_wp2_with fail
            go_ret
            exact ⟨rfl, HB9.out⟩
          · obtain ⟨g1, g2⟩ := hold_bad he
            obtain ⟨R, hR⟩ : ∃ R, hold s legs = R := ⟨_, rfl⟩
            rw [hR] at he g1 g2
            obtain ⟨r1, r2, s2⟩ := R
            simp only at he g1 g2
            subst g1
            subst g2
            have HR := Lib.hid hR
            clear hR
            refine HHO.out.mono ?_
            rw [HR.out]
            rintro e w6 ⟨rfl, -, cc', dd', v', vs', hL7, hf7, hg7⟩
            have HLC := Lib.hid (HLC.out.apart HL6.out hf7 HDIS.out)
            have HL7 := Lib.hid hL7
            have HB6 := Lib.hid (HB5.out.trans (hf7.toBelowOf HB5.out.size HGE.out))
            clear hL7 hf7 hg7
            go_wp2_with fail
            refine (alike_any p cc' dd' v' vs' _ p2 c2 d2 v2 vs2 _ _ HG.out.inv HG.out.named HL7.out HG.out.inv HG.out.named HLC.out rfl rfl rfl).mono ?_
            rintro e w8 ⟨rfl, hb8⟩
            have HB8 := Lib.hid (HB6.out.trans (hb8.mono HB6.out.size))
            clear hb8
            go_wp2_with fail
            refine (works_any _).mono ?_
            rintro e w9 ⟨rfl, hb9⟩
            have HB9 := Lib.hid (HB8.out.trans (hb9.mono HB8.out.size))
            clear hb9
            go_wp2_with fail
            go_ret
            exact ⟨rfl, HB9.out⟩
end Go.Proofs.Ytmlcojhanimnpaa
