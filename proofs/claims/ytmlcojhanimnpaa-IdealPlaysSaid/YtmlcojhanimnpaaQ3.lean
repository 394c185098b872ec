/- The document's Open. · The document's may and gives: a leg against a row of channels. · The document's gives: a side of a channel has so much more. -/
import Derived.Test.YtmlcojhanimnpaaQ2
namespace Go.Proofs.Ytmlcojhanimnpaa
open Go.RowKit

theorem ch_place {s : Led} (hi : Inv s) {name : ByteArray} (h : (mget s.chans name).isSome = true) : ∃ i, ∃ hi2 : i < (chs s).length, mget s.chans name = some (chs s)[i] ∧ (chs s)[i].name = name ∧ (∃ hi3 : i < (skeys s.chans).length, (skeys s.chans)[i] = name) ∧ ∀ j (hj : j < (chs s).length), j < i → (chs s)[j].name ≠ name := by
  obtain ⟨i, hi1, hk⟩ := skeys_find h
  have hi2 : i < (chs s).length := by rw [chs_len, ← skeys_len]; exact hi1
  have h1 := chs_at s hi2 hi1
  rw [hk] at h1
  refine ⟨i, hi2, h1, (hi.ch _ _ h1).name, ⟨hi1, hk⟩, fun j hj hji e => ?_⟩
  have hj2 : j < (skeys s.chans).length := by omega
  have h2 := chs_at s hj hj2
  have h3 := (hi.ch _ _ h2).name
  have := (List.getElem_inj (skeys_nodup hi.nc) (h₀ := hj2) (h₁ := hi1)).1 (by rw [hk, ← h3, e])
  omega
theorem ch_noplace {s : Led} (hi : Inv s) {name : ByteArray} (h : mget s.chans name = none) : ∀ j (hj : j < (chs s).length), (chs s)[j].name ≠ name := fun j hj e => by
  have := chs_named hi (List.getElem_mem hj)
  rw [e, h] at this; cases this
theorem rch_some {s : Led} {w : World} {p : Nat} {va vc vh : Value} {vs : List Value} (hs : Inv s) (h : RLed w p va vc vh vs s) {i : Nat} {name : ByteArray} (hi : i < (chs s).length) (h1 : (chs s)[i].name = name) (h2 : ∀ j (hj : j < (chs s).length), j < i → (chs s)[j].name ≠ name) :
    Calls Try.prog 81 #[.pointer (some ⟨p, 0, none⟩), .string name] w fun e w' => e = .returned (.int .i64 i) ∧ w = w' :=
  rch_any p va vc vh vs _ _ _ _ name i w h (by rw [chs_len]; have := hs.lc; omega) (.inl ⟨i, hi, h1, rfl, h2⟩)
theorem rch_none {s : Led} {w : World} {p : Nat} {va vc vh : Value} {vs : List Value} (hs : Inv s) (h : RLed w p va vc vh vs s) {name : ByteArray} (hm : mget s.chans name = none) :
    Calls Try.prog 81 #[.pointer (some ⟨p, 0, none⟩), .string name] w fun e w' => e = .returned (.int .i64 (-1)) ∧ w = w' :=
  rch_any p va vc vh vs _ _ _ _ name (-1) w h (by rw [chs_len]; have := hs.lc; omega) (.inr ⟨rfl, ch_noplace hs hm⟩)
/-- What an account's place is told as. -/
theorem rfind_two {s : Led} {w : World} {p : Nat} {va vc vh : Value} {vs : List Value} (hs : Inv s) (h : RLed w p va vc vh vs s) (name : ByteArray) :
    ∃ r : Int, (r = -1 ∧ mget s.coins name = none ∨ ∃ i, ∃ hi : i < (accs s).length, r = i ∧ (mget s.coins name).isSome = true ∧ (accs s)[i] = (name, cq s name)) ∧ Calls Try.prog 78 #[.pointer (some ⟨p, 0, none⟩), .string name] w fun e w' => e = .returned (.int .i64 r) ∧ w = w' := by
  cases hm : mget s.coins name with
  | none => exact ⟨_, .inl ⟨rfl, rfl⟩, rfind_none hs h hm⟩
  | some v =>
    obtain ⟨i, hi, h1, -, h2⟩ := acc_place hs.nk (name := name) (by rw [hm]; rfl)
    exact ⟨i, .inr ⟨i, hi, rfl, rfl, h1⟩, rfind_some hs h hi h1 h2⟩
set_option maxRecDepth 100000 in
set_option maxHeartbeats 16000000 in
theorem ropen_at0 (p : Nat) (va vh : Value) (vs : List Value) (s : Led) (name a b : ByteArray) (cap push c : Int) (w : World) (hs : Inv s) (hnm : name.size ≤ reachBytes) (h : RLed w p va (.slice none 0 0) vh vs s) (hnil : chs s = []) :
    Calls Try.prog 49 #[.pointer (some ⟨p, 0, none⟩), .string name, .string a, .string b, .int .i64 cap, .int .i64 push, .int .i64 c] w (ROp w p va (.slice none 0 0) vh (openCh s name a b cap push c).1 (openCh s name a b cap push c).2) := by
  obtain ⟨R, hR⟩ : ∃ R, openCh s name a b cap push c = R := ⟨_, rfl⟩
  rw [hR]
  have HR := Lib.hid hR
  obtain ⟨e0, e1, -, -⟩ := RAt.cell h
  obtain ⟨Aa, ca, rfl, hcapa, -⟩ := RAt.accs h
  have H := Lib.hid h
  have HS := Lib.hid hs
  obtain ⟨ra, hpa, hfa⟩ := rfind_two hs h a
  obtain ⟨rb, hpb, hfb⟩ := rfind_two hs h b
  have HFA := Lib.hid hfa
  have HFB := Lib.hid hfb
  have HPA := Lib.hid hpa
  have HPB := Lib.hid hpb
  have hal : (accs s).length ≤ 64 := by rw [accs_len]; exact hs.lk
  have hcl : (chs s).length ≤ 256 := by rw [chs_len]; exact hs.lc
  have HNIL := Lib.hid hnil
  clear hnil
  clear h hs hR hfa hfb hpa hpb
  go_enter Try.func49, Try.ntmps49
  go_wp2_with fail
  refine (HFA.out).mono ?_
  skip
  rintro e wq ⟨rfl, rfl⟩
  cases hn : namedB name with
  | false =>
    have HN := Lib.hid hn
    clear hn
    go_wp2_with fail
    refine (rnamed_any name hnm _).mono ?_
    rw [HN.out]
    rintro e wq ⟨rfl, rfl⟩
    go_wp2_with fail
    go_ret
    have hr : openCh s name a b cap push c = (2, s) := by unfold openCh; rw [if_pos (.inl HN.out)]
    rw [HR.out] at hr
    rw [hr]
    exact ROp.same H.out (Below.refl _ _)
  | true =>
    have HN := Lib.hid hn
    clear hn
    by_cases hab : a = b
    · have he := tl_t hab
      have HAB := Lib.hid hab
      clear hab
      go_wp2_with fail
      refine (rnamed_any name hnm _).mono ?_
      rw [HN.out]
      rintro e wq ⟨rfl, rfl⟩
      go_wp2_with fail
      go_ret
      have hr : openCh s name a b cap push c = (2, s) := by unfold openCh; rw [if_pos (.inr HAB.out)]
      rw [HR.out] at hr
      rw [hr]
      exact ROp.same H.out (Below.refl _ _)
    · have he := tl_f hab
      have HAB := Lib.hid hab
      clear hab
      have HC1 := Lib.hid (show ¬ (namedB name = false ∨ a = b) from fun hx => by
        rcases hx with hx | hx
        · rw [HN.out] at hx; cases hx
        · exact HAB.out hx)
      go_wp2_with fail
      refine (rnamed_any name hnm _).mono ?_
      rw [HN.out]
      rintro e wq ⟨rfl, rfl⟩
      rcases HPA.out with ⟨rfl, hma⟩ | ⟨ia, hia, rfl, hma, hga⟩
      · have HMA := Lib.hid hma
        clear hma
        go_wp2_with fail
        go_ret
        have hr : openCh s name a b cap push c = (5, s) := by unfold openCh; rw [if_neg HC1.out, if_pos (by unfold both; rw [HMA.out]; rfl)]
        rw [HR.out] at hr
        rw [hr]
        exact ROp.same H.out (Below.refl _ _)
      · have HMA := Lib.hid hma
        have HGA := Lib.hid hga
        clear hma hga
        go_wp2_with fail
        refine (HFB.out).mono ?_
        skip
        rintro e wq ⟨rfl, rfl⟩
        rcases HPB.out with ⟨rfl, hmb⟩ | ⟨ib, hib, rfl, hmb, -⟩
        · have HMB := Lib.hid hmb
          clear hmb
          go_wp2_with fail
          go_ret
          have hr : openCh s name a b cap push c = (5, s) := by unfold openCh; rw [if_neg HC1.out, if_pos (by unfold both; rw [HMB.out]; simp)]
          rw [HR.out] at hr
          rw [hr]
          exact ROp.same H.out (Below.refl _ _)
        · have HBO := Lib.hid (show ¬ both s a b = false by unfold both; rw [HMA.out, hmb]; simp)
          clear hmb
          cases hmc : mget s.chans name with
          | some c0 =>
            obtain ⟨ic, hic, -, hcn, -, hcf⟩ := ch_place HS.out (name := name) (by rw [hmc]; rfl)
            have HFC := Lib.hid (rch_some HS.out H.out hic hcn hcf)
            have HMC := Lib.hid hmc
            clear hmc hcn hcf
            go_wp2_with fail
            refine (HFC.out).mono ?_
            skip
            rintro e wq ⟨rfl, rfl⟩
            go_wp2_with fail
            go_ret
            have hr : openCh s name a b cap push c = (6, s) := by unfold openCh; rw [if_neg HC1.out, if_neg HBO.out, if_pos (by rw [HMC.out]; rfl)]
            rw [HR.out] at hr
            rw [hr]
            exact ROp.same H.out (Below.refl _ _)
          | none =>
            have HFC := Lib.hid (rch_none HS.out H.out hmc)
            have HMC := Lib.hid hmc
            have HC3 := Lib.hid (show ¬ (mget s.chans name).isSome = true by rw [hmc]; simp)
            clear hmc
            go_wp2_with fail
            refine (HFC.out).mono ?_
            skip
            rintro e wq ⟨rfl, rfl⟩
            by_cases hc1 : cap < 1
            · have HX := Lib.hid hc1
              go_wp2_with fail
              go_ret
              have hr : openCh s name a b cap push c = (40, s) := by unfold openCh; rw [if_neg HC1.out, if_neg HBO.out, if_neg HC3.out, if_pos (fun hx => by have := HX.out; have := hx.1; omega)]
              rw [HR.out] at hr
              rw [hr]
              exact ROp.same H.out (Below.refl _ _)
            · cases hoc : okCoin cap with
              | false =>
                have HOC := Lib.hid hoc
                clear hoc
                go_wp2_with fail
                refine (rcoins_any cap _).mono ?_
                rw [HOC.out]
                rintro e wq ⟨rfl, rfl⟩
                go_wp2_with fail
                go_ret
                have hr : openCh s name a b cap push c = (40, s) := by unfold openCh; rw [if_neg HC1.out, if_neg HBO.out, if_neg HC3.out, if_pos (fun hx => by have h1 := okCoin_iff.2 ⟨(by have := hx.1; omega : 0 ≤ cap), hx.2.1⟩; rw [HOC.out] at h1; cases h1)]
                rw [HR.out] at hr
                rw [hr]
                exact ROp.same H.out (Below.refl _ _)
              | true =>
                have HOC := Lib.hid hoc
                have hocb := okCoin_iff.1 hoc
                unfold maxCoin at hocb
                have hcp1 : ¬ 2100000000000000 < cap := by omega
                clear hoc hocb
                go_wp2_with fail
                refine (rcoins_any cap _).mono ?_
                rw [HOC.out]
                rintro e wq ⟨rfl, rfl⟩
                cases hok : okCoin c with
                | false =>
                  have HOK := Lib.hid hok
                  clear hok
                  go_wp2_with fail
                  refine (rcoins_any c _).mono ?_
                  rw [HOK.out]
                  rintro e wq ⟨rfl, rfl⟩
                  go_wp2_with fail
                  go_ret
                  have hr : openCh s name a b cap push c = (40, s) := by unfold openCh; rw [if_neg HC1.out, if_neg HBO.out, if_neg HC3.out, if_pos (fun hx => by have h1 := hx.2.2.1; rw [HOK.out] at h1; cases h1)]
                  rw [HR.out] at hr
                  rw [hr]
                  exact ROp.same H.out (Below.refl _ _)
                | true =>
                  have HOK := Lib.hid hok
                  have hokb := okCoin_iff.1 hok
                  unfold maxCoin at hokb
                  obtain ⟨k0, k1⟩ := hokb
                  have k1' : ¬ 2100000000000000 < c := by omega
                  clear hok k1
                  go_wp2_with fail
                  refine (rcoins_any c _).mono ?_
                  rw [HOK.out]
                  rintro e wq ⟨rfl, rfl⟩
                  by_cases hp0 : push < 0
                  · have HX := Lib.hid hp0
                    go_wp2_with fail
                    go_ret
                    have hr : openCh s name a b cap push c = (40, s) := by unfold openCh; rw [if_neg HC1.out, if_neg HBO.out, if_neg HC3.out, if_pos (fun hx => by have := HX.out; have := hx.2.2.2.1; omega)]
                    rw [HR.out] at hr
                    rw [hr]
                    exact ROp.same H.out (Below.refl _ _)
                  · by_cases hp1 : cap * 1000 < push
                    · have HX := Lib.hid hp1
                      go_wp2_with fail
                      go_ret
                      have hr : openCh s name a b cap push c = (40, s) := by unfold openCh; rw [if_neg HC1.out, if_neg HBO.out, if_neg HC3.out, if_pos (fun hx => by have := HX.out; have := hx.2.2.2.2; omega)]
                      rw [HR.out] at hr
                      rw [hr]
                      exact ROp.same H.out (Below.refl _ _)
                    · have HC4 := Lib.hid (show ¬ ¬ (1 ≤ cap ∧ cap ≤ maxCoin ∧ okCoin c = true ∧ 0 ≤ push ∧ push ≤ cap * 1000) from fun hx => hx ⟨by omega, (okCoin_iff.1 HOC.out).2, HOK.out, by omega, by omega⟩)
                      have hlc0 : (chs s).length = 0 := by rw [HNIL.out]; rfl
                      have hz : ¬ 256 ≤ s.chans.length := by rw [← chs_len]; omega
                      have HC5 := Lib.hid hz
                      clear hz
                      have hAs : ∃ ad, Aa = some ad := by
                        obtain ⟨ad, hA, -⟩ := RAt.acc_put H.out hia
                        exact ⟨ad, hA⟩
                      obtain ⟨ad, rfl⟩ := hAs
                      obtain ⟨q1, fz1, hput⟩ := rput_coins HS.out.nk H.out hia HGA.out
                      have HPUT := Lib.hid hput
                      have hq0 := cq_pos HS.out a
                      have hq1 : cq s a ≤ 2100000000000000 := by
                        have h1 := some_getD HMA.out 0
                        have := (coin_le HS.out h1).2
                        unfold maxCoin at this
                        exact this
                      obtain ⟨Q, hQ⟩ : ∃ Q, cq s a = Q := ⟨_, rfl⟩
                      have HQ := Lib.hid hQ
                      rw [hQ] at q1 hq0 hq1
                      have hq1' : ¬ 2100000000000000 < Q := by omega
                      have hs0 : 0 ≤ cap + c := by omega
                      have hs1 : cap + c ≤ 4200000000000000 := by omega
                      clear hput hq1 hQ
                      by_cases hfu : Q < cap + c
                      · have HX := Lib.hid hfu
                        go_wp2_with fail
                        go_ret
                        have hr : openCh s name a b cap push c = (170, s) := by unfold openCh; rw [if_neg HC1.out, if_neg HBO.out, if_neg HC3.out, if_neg HC4.out, if_neg HC5.out, if_pos (by show cq s a < _; rw [HQ.out]; exact HX.out)]
                        rw [HR.out] at hr
                        rw [hr]
                        exact ROp.same H.out (Below.refl _ _)
                      · have HRF := Lib.hid (show openCh s name a b cap push c = (0, { s with coins := mset s.coins a (Q - cap - c), chans := mset s.chans name ⟨name, a, b, cap, cap * 1000 - push, push⟩ }) by
                          unfold openCh; rw [if_neg HC1.out, if_neg HBO.out, if_neg HC3.out, if_neg HC4.out, if_neg HC5.out, if_neg (by show ¬ cq s a < _; rw [HQ.out]; exact hfu)]
                          show (0, ({ s with coins := mset s.coins a (cq s a - (cap + c)), chans := _ } : Led)) = _
                          rw [HQ.out, show Q - (cap + c) = Q - cap - c by omega])
                        have g1 : 0 ≤ Q - cap := by omega
                        have g2 : 0 ≤ Q - cap - c := by omega
                        have g3 : 0 ≤ cap * 1000 - push := by omega
                        have g4 : ¬ 2100000000000000000 < cap * 1000 - push := by omega
                        go_wp2_with fail
                        go_region
                        obtain ⟨w1, hw1⟩ : ∃ w1 : World, w1 = (w.setCell ⟨(ad.add (ia * 2)).block, (ad.add (ia * 2)).off + 1, none⟩ (.int .i64 (Q - cap - c))).drew := ⟨_, rfl⟩
                        obtain ⟨hL1, hF1⟩ := HPUT.out (Q - cap - c) w1 (by rw [hw1]; rfl) (by rw [hw1]; rfl) (by rw [hw1]; rfl) (by rw [hw1]; rfl)
                        have hsz : w1.heap.size = w.heap.size := by rw [hw1]; simp [World.setCell, World.drew]
                        rw [← hw1]
                        obtain ⟨e0', e1', -, -⟩ := RAt.cell hL1
                        obtain ⟨Ac', cc', hvc, hcap2, hcc⟩ := RAt.chs hL1
                        have HLW := Lib.hid hL1
                        have HF1 := Lib.hid hF1
                        have HSZ := Lib.hid hsz
                        have HCC := Lib.hid (show Cells w1 Ac' ((chs s).flatMap chC) from hcc)
                        clear hw1 hL1 hF1 hsz hcc e0 e1 q1 fz1
                        have e1 := e1'
                        clear e1'
                        clear hvc hcap2
                        have hkey : ∀ j (hj : j < (chs s).length) (hj2 : j < (skeys s.chans).length), (chs s)[j].name = (skeys s.chans)[j] := fun j hj hj2 => (HS.out.ch _ _ (chs_at s hj hj2)).name
                        have HKEY := Lib.hid hkey
                        have hfin : ∀ k, k ≤ (chs s).length → (∀ j (hj : j < (chs s).length), k ≤ j → bLt name (chs s)[j].name) → (∀ j (hj : j < (chs s).length), j < k → bLt (chs s)[j].name name) → ∀ w3 v3, w3.ownsRow w1.heap.size 95 6 v3 (0 + k + 1 + ((chs s).length - k)) (([] ++ ((chs s).take k).flatMap chC ++ [Value.string name, Value.string a, Value.string b, Value.int .i64 cap, Value.int .i64 (cap * 1000 - push), Value.int .i64 push]) ++ ((chs s).drop k).flatMap chC) → Below w1.heap.size w1 w3 →
                            ROp w p (.slice (some ad) (accs s).length ca) (.slice none 0 0) vh R.1 R.2 (.returned (.int .i64 0)) (w3.setCell ⟨p, 1, none⟩ v3) := by
                          intro k hk hup hlow w3 v3 ho hb
                          have hins : chs { s with coins := mset s.coins a (Q - cap - c), chans := mset s.chans name ⟨name, a, b, cap, cap * 1000 - push, push⟩ } = (chs s).take k ++ (⟨name, a, b, cap, cap * 1000 - push, push⟩ : Chan) :: (chs s).drop k := by
                            refine told_ins (g := fun _ c => c) (d := chan0) HMC.out (fun j hj hjk => ?_) (fun j hj hjk => ?_)
                            · have hj2 : j < (chs s).length := by rw [chs_len, ← skeys_len]; exact hj
                              rw [← HKEY.out j hj2 hj]
                              exact hlow j hj2 hjk
                            · have hj2 : j < (chs s).length := by rw [chs_len, ← skeys_len]; exact hj
                              rw [← HKEY.out j hj2 hj]
                              exact hup j hj2 hjk
                          obtain ⟨s', hs'⟩ : ∃ s' : Led, s' = { s with coins := mset s.coins a (Q - cap - c), chans := mset s.chans name ⟨name, a, b, cap, cap * 1000 - push, push⟩ } := ⟨_, rfl⟩
                          rw [← hs'] at hins
                          have hl : 0 + k + 1 + ((chs s).length - k) = (chs s').length := by rw [hins]; simp; omega
                          have hx : ([] ++ ((chs s).take k).flatMap chC ++ [Value.string name, Value.string a, Value.string b, Value.int .i64 cap, Value.int .i64 (cap * 1000 - push), Value.int .i64 push]) ++ ((chs s).drop k).flatMap chC = (chs s').flatMap chC := by
                            rw [hins, List.flatMap_append, List.flatMap_cons, List.nil_append, List.append_assoc]; rfl
                          rw [hl, hx] at ho
                          obtain ⟨g1, g2, g3⟩ := RAt.set_chs HLW.out hb ho
                          have hRR := HRF.out
                          rw [HR.out, ← hs'] at hRR
                          rw [hRR]
                          refine ⟨rfl, _, v3, vh, vs, ?_, HF1.out.trans g2 fun i hi _ => hi, fun i hi => by rcases g3 i hi with h | h; exact .inl h; exact .inr (by rw [← HSZ.out]; exact h)⟩
                          show RAt _ _ _ _ _ _ (accs s') (chs s') s'.holds s'.last
                          have ea : accs s' = accs { s with coins := mset s.coins a (Q - cap - c) } := accs_congr (by rw [hs'])
                          rw [ea]
                          have eh : s'.holds = s.holds := by rw [hs']
                          have el : s'.last = s.last := by rw [hs']
                          rw [eh, el]
                          exact g1
                        have HFN := Lib.hid hfin
                        have HNE := Lib.hid (ch_noplace HS.out HMC.out)
                        clear hkey hfin
                        go_wp2_with fail
                        go_loop [16] (fun i => i = .int .i64 0) (fun i => (intOf i).toNat)
                        case atStart => exact rfl
                        case round =>
                          subst hrel
                          have hfw := HFN.out 0 (Nat.zero_le _) (fun j hj _ => by rw [HNIL.out] at hj; cases hj) (fun j _ h => absurd h (Nat.not_lt_zero j))
                          have hl0 : (chs s).length = 0 := by rw [HNIL.out]; rfl
                          rw [hl0] at hfw
                          have HFIN := Lib.hid (fun (_ : True) => hfw)
                          clear hfw
                          have HTK := Lib.hid (show Cells w1 none (((chs s).take 0).flatMap chC) from Cells.nil _ _)
                          have HDK := Lib.hid (fun (w' : World) (_ : Below w1.heap.size w1 w') => (show Cells w' none (((chs s).drop 0).flatMap chC) by rw [HNIL.out]; exact Cells.nil _ _))
                          have HDL := Lib.hid (show (((chs s).drop 0).flatMap chC).length = 0 * 6 by rw [HNIL.out]; rfl)
                          have HTL := Lib.hid (show (((chs s).take 0).flatMap chC).length = 0 * 6 by rw [HNIL.out]; rfl)
                          clear hl0 hlc0
                          have HN1 := Lib.hid (show (0 + 0) * 72 ≤ 140737488355328 by omega)
                          have HN2 := Lib.hid (show 0 + 0 ≤ 140737488355328 by omega)
                          have HN3 := Lib.hid (show (0 + 0 + 1) * 72 ≤ 140737488355328 by omega)
                          have HN4 := Lib.hid (show 0 + 0 + 1 ≤ 140737488355328 by omega)
                          have HN5 := Lib.hid (show (0 + 0 + 1 + 0) * 72 ≤ 140737488355328 by omega)
                          have HN6 := Lib.hid (show 0 + 0 + 1 + 0 ≤ 140737488355328 by omega)
                          have HFW := Lib.hid (HFIN.out (trivial))
                          have tok1 : True := trivial
                          have tok2 : True := trivial
                          have tok3 : True := trivial
                          have H0 := Lib.hid (World.ownsRow_nil w1 w1.heap.size 95 6)
                          go_wp2_with (first
                            | (at_builtin; have _t := tok1; go_must (refine wpList_appk slRChan rfl _ _ rfl w1.heap.size _ 0 [] rfl H0.out none 0 0 (((chs s).take 0).flatMap chC) rfl HTL.out HTK.out (flat_one _ chC_one _) HN1.out HN2.out (Nat.le_refl _) ?_); intro v1 u1 hown1 hg1 hb1 hat1; obtain ⟨L1, hL1⟩ : ∃ L1, 0 + 0 = L1 := ⟨_, rfl⟩; rw [hL1] at hown1; have HL1 := Lib.hid hL1; have HN3 := Lib.hid (show (L1 + 1) * 72 ≤ 140737488355328 by rw [← hL1]; exact HN3.out); have HN4 := Lib.hid (show L1 + 1 ≤ 140737488355328 by rw [← hL1]; exact HN4.out); clear hL1; obtain ⟨A1, c1', hv1, -, -⟩ := own_shape hown1; subst hv1; have HO1 := Lib.hid hown1; have HB1 := Lib.hid hb1; have k1 := cell_below hb1 e1; have HSZ1 := Lib.hid (show w1.heap.size ≤ (u1.alloc (.cells #[Value.string name, Value.string a, Value.string b, Value.int .i64 cap, Value.int .i64 (cap * 1000 - push), Value.int .i64 push] 95)).heap.size from Nat.le_trans hb1.size (by simp)); have HOA1 := Lib.hid (own_below hown1 ((Below.refl _ _).alloc (Nat.le_refl _) (.cells #[Value.string name, Value.string a, Value.string b, Value.int .i64 cap, Value.int .i64 (cap * 1000 - push), Value.int .i64 push] 95))); clear tok1 _t hown1 hg1 hb1 hat1)
                            | (at_builtin; have _t := tok2; clear tok1; fail)
                            | (at_builtin; have _t := tok2; go_must (refine wpList_appk slRChan rfl _ _ rfl w1.heap.size _ L1 ([] ++ ((chs s).take 0).flatMap chC) rfl HOA1.out (some ⟨u1.heap.size, 0, none⟩) 1 1 [Value.string name, Value.string a, Value.string b, Value.int .i64 cap, Value.int .i64 (cap * 1000 - push), Value.int .i64 push] rfl rfl (fun _ => ⟨_, rfl, fun j u hj => World.news_of_block (Go.heap_alloc_new u1 _) j u hj⟩) (by simp [Value.oneCell']) HN3.out HN4.out HSZ1.out ?_); intro v2 u2 hown2 hg2 hb2 hat2; obtain ⟨L2, hL2⟩ : ∃ L2, L1 + 1 = L2 := ⟨_, rfl⟩; rw [hL2] at hown2; have HL2 := Lib.hid hL2; have HN5 := Lib.hid (show (L2 + 0) * 72 ≤ 140737488355328 by rw [← hL2, ← HL1.out]; exact HN5.out); have HN6 := Lib.hid (show L2 + 0 ≤ 140737488355328 by rw [← hL2, ← HL1.out]; exact HN6.out); clear hL2; obtain ⟨A2, c2', hv2, -, -⟩ := own_shape hown2; subst hv2; have HO2 := Lib.hid hown2; have hbb2 := (HB1.out.alloc HB1.out.size (.cells #[Value.string name, Value.string a, Value.string b, Value.int .i64 cap, Value.int .i64 (cap * 1000 - push), Value.int .i64 push] 95)).trans hb2; have HB2 := Lib.hid hbb2; have k2 := cell_below hbb2 e1; have HSZ2 := Lib.hid hbb2.size; have HDR := Lib.hid (HDK.out u2 hbb2); clear tok2 _t hown2 hg2 hb2 hat2 hbb2 k1)
                            | (at_builtin; have _t := tok3; go_must (refine wpList_appk slRChan rfl _ _ rfl w1.heap.size _ L2 ([] ++ ((chs s).take 0).flatMap chC ++ [Value.string name, Value.string a, Value.string b, Value.int .i64 cap, Value.int .i64 (cap * 1000 - push), Value.int .i64 push]) rfl HO2.out none 0 0 (((chs s).drop 0).flatMap chC) rfl HDL.out HDR.out (flat_one _ chC_one _) HN5.out HN6.out HSZ2.out ?_); intro v3 u3 hown3 hg3 hb3 hat3; obtain ⟨L3, hL3⟩ : ∃ L3, L2 + 0 = L3 := ⟨_, rfl⟩; rw [hL3] at hown3; have HL3 := Lib.hid (show L3 = 0 + 0 + 1 + 0 by rw [← hL3, ← HL2.out, ← HL1.out]); clear hL3; obtain ⟨A3, c3', hv3, -, -⟩ := own_shape hown3; subst hv3; have HO3 := Lib.hid hown3; have hbb3 := HB2.out.trans hb3; have HB3 := Lib.hid hbb3; have k3 := cell_below hbb3 e1; have f3 := RAt.free (HLW.out.below hbb3) 1; clear tok3 _t hown3 hg3 hb3 hat3 hbb3 k2))
                          go_ret
                          have hown3 := HO3.out
                          rw [HL3.out] at hown3 ⊢
                          exact HFW.out _ _ hown3 HB3.out
set_option maxRecDepth 100000 in
set_option maxHeartbeats 16000000 in
theorem ropen_at1 (p : Nat) (ac : Addr) (cc : Nat) (va vh : Value) (vs : List Value) (s : Led) (name a b : ByteArray) (cap push c : Int) (w : World) (hs : Inv s) (hnm : name.size ≤ reachBytes) (h : RLed w p va (.slice (some ac) (chs s).length cc) vh vs s) :
    Calls Try.prog 49 #[.pointer (some ⟨p, 0, none⟩), .string name, .string a, .string b, .int .i64 cap, .int .i64 push, .int .i64 c] w (ROp w p va (.slice (some ac) (chs s).length cc) vh (openCh s name a b cap push c).1 (openCh s name a b cap push c).2) := by
  obtain ⟨R, hR⟩ : ∃ R, openCh s name a b cap push c = R := ⟨_, rfl⟩
  rw [hR]
  have HR := Lib.hid hR
  obtain ⟨e0, e1, -, -⟩ := RAt.cell h
  obtain ⟨Aa, ca, rfl, hcapa, -⟩ := RAt.accs h
  have H := Lib.hid h
  have HS := Lib.hid hs
  obtain ⟨ra, hpa, hfa⟩ := rfind_two hs h a
  obtain ⟨rb, hpb, hfb⟩ := rfind_two hs h b
  have HFA := Lib.hid hfa
  have HFB := Lib.hid hfb
  have HPA := Lib.hid hpa
  have HPB := Lib.hid hpb
  have hal : (accs s).length ≤ 64 := by rw [accs_len]; exact hs.lk
  have hcl : (chs s).length ≤ 256 := by rw [chs_len]; exact hs.lc
  obtain ⟨Ab, cb, hvb, hcap, hca⟩ := RAt.chs h
  injection hvb with hv1 hv2 hv3
  subst hv1
  subst hv3
  clear hv2 hca
  clear h hs hR hfa hfb hpa hpb
  go_enter Try.func49, Try.ntmps49
  go_wp2_with fail
  refine (HFA.out).mono ?_
  skip
  rintro e wq ⟨rfl, rfl⟩
  cases hn : namedB name with
  | false =>
    have HN := Lib.hid hn
    clear hn
    go_wp2_with fail
    refine (rnamed_any name hnm _).mono ?_
    rw [HN.out]
    rintro e wq ⟨rfl, rfl⟩
    go_wp2_with fail
    go_ret
    have hr : openCh s name a b cap push c = (2, s) := by unfold openCh; rw [if_pos (.inl HN.out)]
    rw [HR.out] at hr
    rw [hr]
    exact ROp.same H.out (Below.refl _ _)
  | true =>
    have HN := Lib.hid hn
    clear hn
    by_cases hab : a = b
    · have he := tl_t hab
      have HAB := Lib.hid hab
      clear hab
      go_wp2_with fail
      refine (rnamed_any name hnm _).mono ?_
      rw [HN.out]
      rintro e wq ⟨rfl, rfl⟩
      go_wp2_with fail
      go_ret
      have hr : openCh s name a b cap push c = (2, s) := by unfold openCh; rw [if_pos (.inr HAB.out)]
      rw [HR.out] at hr
      rw [hr]
      exact ROp.same H.out (Below.refl _ _)
    · have he := tl_f hab
      have HAB := Lib.hid hab
      clear hab
      have HC1 := Lib.hid (show ¬ (namedB name = false ∨ a = b) from fun hx => by
        rcases hx with hx | hx
        · rw [HN.out] at hx; cases hx
        · exact HAB.out hx)
      go_wp2_with fail
      refine (rnamed_any name hnm _).mono ?_
      rw [HN.out]
      rintro e wq ⟨rfl, rfl⟩
      rcases HPA.out with ⟨rfl, hma⟩ | ⟨ia, hia, rfl, hma, hga⟩
      · have HMA := Lib.hid hma
        clear hma
        go_wp2_with fail
        go_ret
        have hr : openCh s name a b cap push c = (5, s) := by unfold openCh; rw [if_neg HC1.out, if_pos (by unfold both; rw [HMA.out]; rfl)]
        rw [HR.out] at hr
        rw [hr]
        exact ROp.same H.out (Below.refl _ _)
      · have HMA := Lib.hid hma
        have HGA := Lib.hid hga
        clear hma hga
        go_wp2_with fail
        refine (HFB.out).mono ?_
        skip
        rintro e wq ⟨rfl, rfl⟩
        rcases HPB.out with ⟨rfl, hmb⟩ | ⟨ib, hib, rfl, hmb, -⟩
        · have HMB := Lib.hid hmb
          clear hmb
          go_wp2_with fail
          go_ret
          have hr : openCh s name a b cap push c = (5, s) := by unfold openCh; rw [if_neg HC1.out, if_pos (by unfold both; rw [HMB.out]; simp)]
          rw [HR.out] at hr
          rw [hr]
          exact ROp.same H.out (Below.refl _ _)
        · have HBO := Lib.hid (show ¬ both s a b = false by unfold both; rw [HMA.out, hmb]; simp)
          clear hmb
          cases hmc : mget s.chans name with
          | some c0 =>
            obtain ⟨ic, hic, -, hcn, -, hcf⟩ := ch_place HS.out (name := name) (by rw [hmc]; rfl)
            have HFC := Lib.hid (rch_some HS.out H.out hic hcn hcf)
            have HMC := Lib.hid hmc
            clear hmc hcn hcf
            go_wp2_with fail
            refine (HFC.out).mono ?_
            skip
            rintro e wq ⟨rfl, rfl⟩
            go_wp2_with fail
            go_ret
            have hr : openCh s name a b cap push c = (6, s) := by unfold openCh; rw [if_neg HC1.out, if_neg HBO.out, if_pos (by rw [HMC.out]; rfl)]
            rw [HR.out] at hr
            rw [hr]
            exact ROp.same H.out (Below.refl _ _)
          | none =>
            have HFC := Lib.hid (rch_none HS.out H.out hmc)
            have HMC := Lib.hid hmc
            have HC3 := Lib.hid (show ¬ (mget s.chans name).isSome = true by rw [hmc]; simp)
            clear hmc
            go_wp2_with fail
            refine (HFC.out).mono ?_
            skip
            rintro e wq ⟨rfl, rfl⟩
            by_cases hc1 : cap < 1
            · have HX := Lib.hid hc1
              go_wp2_with fail
              go_ret
              have hr : openCh s name a b cap push c = (40, s) := by unfold openCh; rw [if_neg HC1.out, if_neg HBO.out, if_neg HC3.out, if_pos (fun hx => by have := HX.out; have := hx.1; omega)]
              rw [HR.out] at hr
              rw [hr]
              exact ROp.same H.out (Below.refl _ _)
            · cases hoc : okCoin cap with
              | false =>
                have HOC := Lib.hid hoc
                clear hoc
                go_wp2_with fail
                refine (rcoins_any cap _).mono ?_
                rw [HOC.out]
                rintro e wq ⟨rfl, rfl⟩
                go_wp2_with fail
                go_ret
                have hr : openCh s name a b cap push c = (40, s) := by unfold openCh; rw [if_neg HC1.out, if_neg HBO.out, if_neg HC3.out, if_pos (fun hx => by have h1 := okCoin_iff.2 ⟨(by have := hx.1; omega : 0 ≤ cap), hx.2.1⟩; rw [HOC.out] at h1; cases h1)]
                rw [HR.out] at hr
                rw [hr]
                exact ROp.same H.out (Below.refl _ _)
              | true =>
                have HOC := Lib.hid hoc
                have hocb := okCoin_iff.1 hoc
                unfold maxCoin at hocb
                have hcp1 : ¬ 2100000000000000 < cap := by omega
                clear hoc hocb
                go_wp2_with fail
                refine (rcoins_any cap _).mono ?_
                rw [HOC.out]
                rintro e wq ⟨rfl, rfl⟩
                cases hok : okCoin c with
                | false =>
                  have HOK := Lib.hid hok
                  clear hok
                  go_wp2_with fail
                  refine (rcoins_any c _).mono ?_
                  rw [HOK.out]
                  rintro e wq ⟨rfl, rfl⟩
                  go_wp2_with fail
                  go_ret
                  have hr : openCh s name a b cap push c = (40, s) := by unfold openCh; rw [if_neg HC1.out, if_neg HBO.out, if_neg HC3.out, if_pos (fun hx => by have h1 := hx.2.2.1; rw [HOK.out] at h1; cases h1)]
                  rw [HR.out] at hr
                  rw [hr]
                  exact ROp.same H.out (Below.refl _ _)
                | true =>
                  have HOK := Lib.hid hok
                  have hokb := okCoin_iff.1 hok
                  unfold maxCoin at hokb
                  obtain ⟨k0, k1⟩ := hokb
                  have k1' : ¬ 2100000000000000 < c := by omega
                  clear hok k1
                  go_wp2_with fail
                  refine (rcoins_any c _).mono ?_
                  rw [HOK.out]
                  rintro e wq ⟨rfl, rfl⟩
                  by_cases hp0 : push < 0
                  · have HX := Lib.hid hp0
                    go_wp2_with fail
                    go_ret
                    have hr : openCh s name a b cap push c = (40, s) := by unfold openCh; rw [if_neg HC1.out, if_neg HBO.out, if_neg HC3.out, if_pos (fun hx => by have := HX.out; have := hx.2.2.2.1; omega)]
                    rw [HR.out] at hr
                    rw [hr]
                    exact ROp.same H.out (Below.refl _ _)
                  · by_cases hp1 : cap * 1000 < push
                    · have HX := Lib.hid hp1
                      go_wp2_with fail
                      go_ret
                      have hr : openCh s name a b cap push c = (40, s) := by unfold openCh; rw [if_neg HC1.out, if_neg HBO.out, if_neg HC3.out, if_pos (fun hx => by have := HX.out; have := hx.2.2.2.2; omega)]
                      rw [HR.out] at hr
                      rw [hr]
                      exact ROp.same H.out (Below.refl _ _)
                    · have HC4 := Lib.hid (show ¬ ¬ (1 ≤ cap ∧ cap ≤ maxCoin ∧ okCoin c = true ∧ 0 ≤ push ∧ push ≤ cap * 1000) from fun hx => hx ⟨by omega, (okCoin_iff.1 HOC.out).2, HOK.out, by omega, by omega⟩)
                      by_cases h256 : 256 ≤ (chs s).length
                      · have HX := Lib.hid h256
                        have h256I : (256 : Int) ≤ ((chs s).length : Int) := by omega
                        clear h256
                        go_wp2_with fail
                        go_ret
                        have hr : openCh s name a b cap push c = (3, s) := by unfold openCh; rw [if_neg HC1.out, if_neg HBO.out, if_neg HC3.out, if_neg HC4.out, if_pos (by rw [← chs_len]; exact HX.out)]
                        rw [HR.out] at hr
                        rw [hr]
                        exact ROp.same H.out (Below.refl _ _)
                      · have HC5 := Lib.hid (show ¬ 256 ≤ s.chans.length by rw [← chs_len]; exact h256)
                        have h256I : ¬ (256 : Int) ≤ ((chs s).length : Int) := by omega
                        have hAs : ∃ ad, Aa = some ad := by
                          obtain ⟨ad, hA, -⟩ := RAt.acc_put H.out hia
                          exact ⟨ad, hA⟩
                        obtain ⟨ad, rfl⟩ := hAs
                        obtain ⟨q1, fz1, hput⟩ := rput_coins HS.out.nk H.out hia HGA.out
                        have HPUT := Lib.hid hput
                        have hq0 := cq_pos HS.out a
                        have hq1 : cq s a ≤ 2100000000000000 := by
                          have h1 := some_getD HMA.out 0
                          have := (coin_le HS.out h1).2
                          unfold maxCoin at this
                          exact this
                        obtain ⟨Q, hQ⟩ : ∃ Q, cq s a = Q := ⟨_, rfl⟩
                        have HQ := Lib.hid hQ
                        rw [hQ] at q1 hq0 hq1
                        have hq1' : ¬ 2100000000000000 < Q := by omega
                        have hs0 : 0 ≤ cap + c := by omega
                        have hs1 : cap + c ≤ 4200000000000000 := by omega
                        clear hput hq1 hQ
                        by_cases hfu : Q < cap + c
                        · have HX := Lib.hid hfu
                          go_wp2_with fail
                          go_ret
                          have hr : openCh s name a b cap push c = (170, s) := by unfold openCh; rw [if_neg HC1.out, if_neg HBO.out, if_neg HC3.out, if_neg HC4.out, if_neg HC5.out, if_pos (by show cq s a < _; rw [HQ.out]; exact HX.out)]
                          rw [HR.out] at hr
                          rw [hr]
                          exact ROp.same H.out (Below.refl _ _)
                        · have HRF := Lib.hid (show openCh s name a b cap push c = (0, { s with coins := mset s.coins a (Q - cap - c), chans := mset s.chans name ⟨name, a, b, cap, cap * 1000 - push, push⟩ }) by
                            unfold openCh; rw [if_neg HC1.out, if_neg HBO.out, if_neg HC3.out, if_neg HC4.out, if_neg HC5.out, if_neg (by show ¬ cq s a < _; rw [HQ.out]; exact hfu)]
                            show (0, ({ s with coins := mset s.coins a (cq s a - (cap + c)), chans := _ } : Led)) = _
                            rw [HQ.out, show Q - (cap + c) = Q - cap - c by omega])
                          have g1 : 0 ≤ Q - cap := by omega
                          have g2 : 0 ≤ Q - cap - c := by omega
                          have g3 : 0 ≤ cap * 1000 - push := by omega
                          have g4 : ¬ 2100000000000000000 < cap * 1000 - push := by omega
                          go_wp2_with fail
                          go_region
                          obtain ⟨w1, hw1⟩ : ∃ w1 : World, w1 = (w.setCell ⟨(ad.add (ia * 2)).block, (ad.add (ia * 2)).off + 1, none⟩ (.int .i64 (Q - cap - c))).drew := ⟨_, rfl⟩
                          obtain ⟨hL1, hF1⟩ := HPUT.out (Q - cap - c) w1 (by rw [hw1]; rfl) (by rw [hw1]; rfl) (by rw [hw1]; rfl) (by rw [hw1]; rfl)
                          have hsz : w1.heap.size = w.heap.size := by rw [hw1]; simp [World.setCell, World.drew]
                          rw [← hw1]
                          obtain ⟨e0', e1', -, -⟩ := RAt.cell hL1
                          obtain ⟨Ac', cc', hvc, hcap2, hcc⟩ := RAt.chs hL1
                          have HLW := Lib.hid hL1
                          have HF1 := Lib.hid hF1
                          have HSZ := Lib.hid hsz
                          have HCC := Lib.hid (show Cells w1 Ac' ((chs s).flatMap chC) from hcc)
                          clear hw1 hL1 hF1 hsz hcc e0 e1 q1 fz1
                          have e1 := e1'
                          clear e1'
                          injection hvc with hv1 hv2 hv3
                          subst hv1
                          subst hv3
                          clear hv2
                          have hkey : ∀ j (hj : j < (chs s).length) (hj2 : j < (skeys s.chans).length), (chs s)[j].name = (skeys s.chans)[j] := fun j hj hj2 => (HS.out.ch _ _ (chs_at s hj hj2)).name
                          have HKEY := Lib.hid hkey
                          have hfin : ∀ k, k ≤ (chs s).length → (∀ j (hj : j < (chs s).length), k ≤ j → bLt name (chs s)[j].name) → (∀ j (hj : j < (chs s).length), j < k → bLt (chs s)[j].name name) → ∀ w3 v3, w3.ownsRow w1.heap.size 95 6 v3 (0 + k + 1 + ((chs s).length - k)) (([] ++ ((chs s).take k).flatMap chC ++ [Value.string name, Value.string a, Value.string b, Value.int .i64 cap, Value.int .i64 (cap * 1000 - push), Value.int .i64 push]) ++ ((chs s).drop k).flatMap chC) → Below w1.heap.size w1 w3 →
                              ROp w p (.slice (some ad) (accs s).length ca) (.slice (some ac) (chs s).length cc) vh R.1 R.2 (.returned (.int .i64 0)) (w3.setCell ⟨p, 1, none⟩ v3) := by
                            intro k hk hup hlow w3 v3 ho hb
                            have hins : chs { s with coins := mset s.coins a (Q - cap - c), chans := mset s.chans name ⟨name, a, b, cap, cap * 1000 - push, push⟩ } = (chs s).take k ++ (⟨name, a, b, cap, cap * 1000 - push, push⟩ : Chan) :: (chs s).drop k := by
                              refine told_ins (g := fun _ c => c) (d := chan0) HMC.out (fun j hj hjk => ?_) (fun j hj hjk => ?_)
                              · have hj2 : j < (chs s).length := by rw [chs_len, ← skeys_len]; exact hj
                                rw [← HKEY.out j hj2 hj]
                                exact hlow j hj2 hjk
                              · have hj2 : j < (chs s).length := by rw [chs_len, ← skeys_len]; exact hj
                                rw [← HKEY.out j hj2 hj]
                                exact hup j hj2 hjk
                            obtain ⟨s', hs'⟩ : ∃ s' : Led, s' = { s with coins := mset s.coins a (Q - cap - c), chans := mset s.chans name ⟨name, a, b, cap, cap * 1000 - push, push⟩ } := ⟨_, rfl⟩
                            rw [← hs'] at hins
                            have hl : 0 + k + 1 + ((chs s).length - k) = (chs s').length := by rw [hins]; simp; omega
                            have hx : ([] ++ ((chs s).take k).flatMap chC ++ [Value.string name, Value.string a, Value.string b, Value.int .i64 cap, Value.int .i64 (cap * 1000 - push), Value.int .i64 push]) ++ ((chs s).drop k).flatMap chC = (chs s').flatMap chC := by
                              rw [hins, List.flatMap_append, List.flatMap_cons, List.nil_append, List.append_assoc]; rfl
                            rw [hl, hx] at ho
                            obtain ⟨g1, g2, g3⟩ := RAt.set_chs HLW.out hb ho
                            have hRR := HRF.out
                            rw [HR.out, ← hs'] at hRR
                            rw [hRR]
                            refine ⟨rfl, _, v3, vh, vs, ?_, HF1.out.trans g2 fun i hi _ => hi, fun i hi => by rcases g3 i hi with h | h; exact .inl h; exact .inr (by rw [← HSZ.out]; exact h)⟩
                            show RAt _ _ _ _ _ _ (accs s') (chs s') s'.holds s'.last
                            have ea : accs s' = accs { s with coins := mset s.coins a (Q - cap - c) } := accs_congr (by rw [hs'])
                            rw [ea]
                            have eh : s'.holds = s.holds := by rw [hs']
                            have el : s'.last = s.last := by rw [hs']
                            rw [eh, el]
                            exact g1
                          have HFN := Lib.hid hfin
                          have HNE := Lib.hid (ch_noplace HS.out HMC.out)
                          clear hkey hfin
                          go_wp2_with fail
                          go_loop [16] (fun i => ∃ k : Nat, k ≤ (chs s).length ∧ i = .int .i64 k ∧ ∀ j (hj : j < (chs s).length), k ≤ j → bLt name (chs s)[j].name) (fun i => (intOf i).toNat)
                          case atStart => exact ⟨(chs s).length, Nat.le_refl _, rfl, fun j hj h => by omega⟩
                          case round =>
                            obtain ⟨k, hk, rfl, hall⟩ := hrel
                            have HALL := Lib.hid hall
                            have HFIN := Lib.hid (HFN.out k hk hall)
                            clear hall
                            have HDL := Lib.hid (show (((chs s).drop k).flatMap chC).length = ((chs s).length - k) * 6 by rw [flat_len chC 6 (fun _ => rfl), List.length_drop])
                            have HTL := Lib.hid (show (((chs s).take k).flatMap chC).length = k * 6 by rw [flat_len chC 6 (fun _ => rfl), List.length_take, Nat.min_eq_left hk])
                            have HTK := Lib.hid (flat_take chC HCC.out k)
                            have HDK := Lib.hid (fun (w' : World) (hb : Below w1.heap.size w1 w') => flat_drop chC 6 (fun _ => rfl) (HCC.out.below hb) k hk)
                            have HN1 := Lib.hid (show (0 + k) * 72 ≤ 140737488355328 by omega)
                            have HN2 := Lib.hid (show 0 + k ≤ 140737488355328 by omega)
                            have HN3 := Lib.hid (show (0 + k + 1) * 72 ≤ 140737488355328 by omega)
                            have HN4 := Lib.hid (show 0 + k + 1 ≤ 140737488355328 by omega)
                            have HN5 := Lib.hid (show (0 + k + 1 + ((chs s).length - k)) * 72 ≤ 140737488355328 by omega)
                            have HN6 := Lib.hid (show 0 + k + 1 + ((chs s).length - k) ≤ 140737488355328 by omega)
                            by_cases hk0 : k = 0
                            · subst hk0
                              have HFW := Lib.hid (HFIN.out (fun j _ h => absurd h (Nat.not_lt_zero j)))
                              have tok1 : True := trivial
                              have tok2 : True := trivial
                              have tok3 : True := trivial
                              have H0 := Lib.hid (World.ownsRow_nil w1 w1.heap.size 95 6)
                              go_wp2_with (first
                                | (at_builtin; have _t := tok1; go_must (refine wpList_appk slRChan rfl _ _ rfl w1.heap.size _ 0 [] rfl H0.out (some ac) 0 cc (((chs s).take 0).flatMap chC) rfl HTL.out HTK.out (flat_one _ chC_one _) HN1.out HN2.out (Nat.le_refl _) ?_); intro v1 u1 hown1 hg1 hb1 hat1; obtain ⟨L1, hL1⟩ : ∃ L1, 0 + 0 = L1 := ⟨_, rfl⟩; rw [hL1] at hown1; have HL1 := Lib.hid hL1; have HN3 := Lib.hid (show (L1 + 1) * 72 ≤ 140737488355328 by rw [← hL1]; exact HN3.out); have HN4 := Lib.hid (show L1 + 1 ≤ 140737488355328 by rw [← hL1]; exact HN4.out); clear hL1; obtain ⟨A1, c1', hv1, -, -⟩ := own_shape hown1; subst hv1; have HO1 := Lib.hid hown1; have HB1 := Lib.hid hb1; have k1 := cell_below hb1 e1; have HSZ1 := Lib.hid (show w1.heap.size ≤ (u1.alloc (.cells #[Value.string name, Value.string a, Value.string b, Value.int .i64 cap, Value.int .i64 (cap * 1000 - push), Value.int .i64 push] 95)).heap.size from Nat.le_trans hb1.size (by simp)); have HOA1 := Lib.hid (own_below hown1 ((Below.refl _ _).alloc (Nat.le_refl _) (.cells #[Value.string name, Value.string a, Value.string b, Value.int .i64 cap, Value.int .i64 (cap * 1000 - push), Value.int .i64 push] 95))); clear tok1 _t hown1 hg1 hb1 hat1)
                                | (at_builtin; have _t := tok2; clear tok1; fail)
                                | (at_builtin; have _t := tok2; go_must (refine wpList_appk slRChan rfl _ _ rfl w1.heap.size _ L1 ([] ++ ((chs s).take 0).flatMap chC) rfl HOA1.out (some ⟨u1.heap.size, 0, none⟩) 1 1 [Value.string name, Value.string a, Value.string b, Value.int .i64 cap, Value.int .i64 (cap * 1000 - push), Value.int .i64 push] rfl rfl (fun _ => ⟨_, rfl, fun j u hj => World.news_of_block (Go.heap_alloc_new u1 _) j u hj⟩) (by simp [Value.oneCell']) HN3.out HN4.out HSZ1.out ?_); intro v2 u2 hown2 hg2 hb2 hat2; obtain ⟨L2, hL2⟩ : ∃ L2, L1 + 1 = L2 := ⟨_, rfl⟩; rw [hL2] at hown2; have HL2 := Lib.hid hL2; have HN5 := Lib.hid (show (L2 + ((chs s).length - 0)) * 72 ≤ 140737488355328 by rw [← hL2, ← HL1.out]; exact HN5.out); have HN6 := Lib.hid (show L2 + ((chs s).length - 0) ≤ 140737488355328 by rw [← hL2, ← HL1.out]; exact HN6.out); clear hL2; obtain ⟨A2, c2', hv2, -, -⟩ := own_shape hown2; subst hv2; have HO2 := Lib.hid hown2; have hbb2 := (HB1.out.alloc HB1.out.size (.cells #[Value.string name, Value.string a, Value.string b, Value.int .i64 cap, Value.int .i64 (cap * 1000 - push), Value.int .i64 push] 95)).trans hb2; have HB2 := Lib.hid hbb2; have k2 := cell_below hbb2 e1; have HSZ2 := Lib.hid hbb2.size; have HDR := Lib.hid (HDK.out u2 hbb2); clear tok2 _t hown2 hg2 hb2 hat2 hbb2 k1)
                                | (at_builtin; have _t := tok3; go_must (refine wpList_appk slRChan rfl _ _ rfl w1.heap.size _ L2 ([] ++ ((chs s).take 0).flatMap chC ++ [Value.string name, Value.string a, Value.string b, Value.int .i64 cap, Value.int .i64 (cap * 1000 - push), Value.int .i64 push]) rfl HO2.out (some (ac.add (0 * 6))) ((chs s).length - 0) (cc - 0) (((chs s).drop 0).flatMap chC) rfl HDL.out HDR.out (flat_one _ chC_one _) HN5.out HN6.out HSZ2.out ?_); intro v3 u3 hown3 hg3 hb3 hat3; obtain ⟨L3, hL3⟩ : ∃ L3, L2 + ((chs s).length - 0) = L3 := ⟨_, rfl⟩; rw [hL3] at hown3; have HL3 := Lib.hid (show L3 = 0 + 0 + 1 + ((chs s).length - 0) by rw [← hL3, ← HL2.out, ← HL1.out]); clear hL3; obtain ⟨A3, c3', hv3, -, -⟩ := own_shape hown3; subst hv3; have HO3 := Lib.hid hown3; have hbb3 := HB2.out.trans hb3; have HB3 := Lib.hid hbb3; have k3 := cell_below hbb3 e1; have f3 := RAt.free (HLW.out.below hbb3) 1; clear tok3 _t hown3 hg3 hb3 hat3 hbb3 k2))
                              go_ret
                              have hown3 := HO3.out
                              rw [HL3.out] at hown3 ⊢
                              exact HFW.out _ _ hown3 HB3.out
                            · obtain ⟨ad', hexx, c0, -, -, -, -, -⟩ := ch_look HCC.out (k := k - 1) (by omega)
                              injection hexx with hexx
                              subst hexx
                              have hne := HNE.out (k - 1) (by omega)
                              have hxl : ∀ j (hj : j < (chs s).length), j < k → bLe (chs s)[j].name ((chs s)[k - 1]'(by omega)).name := fun j hj hjk => by
                                have hj2 : j < (skeys s.chans).length := by rw [skeys_len, ← chs_len]; exact hj
                                have hk2 : k - 1 < (skeys s.chans).length := by rw [skeys_len, ← chs_len]; omega
                                rw [HKEY.out j hj hj2, HKEY.out (k - 1) (by omega) hk2]
                                exact skeys_lt (by omega) hk2
                              obtain ⟨P, hP⟩ : ∃ P, ((chs s)[k - 1]'(by omega)).name = P := ⟨_, rfl⟩
                              rw [hP] at c0 hne
                              have HP := Lib.hid hP
                              have he2 := tl_f hne
                              by_cases hlt : bLt name P
                              · have he1 := less_f (bLt_not hlt)
                                have HLT := Lib.hid hlt
                                clear hne hlt hxl hP
                                go_wp2_with fail
                                go_round
                                case rel =>
                                  refine ⟨k - 1, by omega, by first | rfl | (congr 1; omega), fun j hj hjk => ?_⟩
                                  rcases Nat.lt_or_ge j k with h | h
                                  · obtain rfl : j = k - 1 := by omega
                                    rw [HP.out]; exact HLT.out
                                  · exact HALL.out j hj h
                                case measure => simp [intOf]; omega
                              · have hlt2 : bLt P name := (bLt_or hne).resolve_right hlt
                                have he1 := less_t hlt2
                                have HXL := Lib.hid (fun j (hj : j < (chs s).length) (hjk : j < k) => bLe_lt (hxl j hj hjk) (by rw [hP]; exact hlt2))
                                clear hne hlt hlt2 hxl hP
                                by_cases hce : cc = k
                                · have hlk : (chs s).length - k = 0 := by omega
                                  have hdrop : (chs s).drop k = [] := List.drop_of_length_le (by omega)
                                  have hfw := HFIN.out HXL.out
                                  have h5 := HN5.out
                                  have h6 := HN6.out
                                  have h7 := HDL.out
                                  rw [hlk] at hfw h5 h6 h7
                                  have HFIN := Lib.hid (fun (_ : True) => hfw)
                                  have HN5 := Lib.hid h5
                                  have HN6 := Lib.hid h6
                                  have HDL := Lib.hid h7
                                  have HDK := Lib.hid (fun (w' : World) (_ : Below w1.heap.size w1 w') => (show Cells w' (some ac) (((chs s).drop k).flatMap chC) by rw [hdrop]; exact Cells.nil _ _))
                                  subst hce
                                  clear hfw h5 h6 h7 hlk hdrop
                                  have HFW := Lib.hid (HFIN.out (trivial))
                                  have tok1 : True := trivial
                                  have tok2 : True := trivial
                                  have tok3 : True := trivial
                                  have H0 := Lib.hid (World.ownsRow_nil w1 w1.heap.size 95 6)
                                  go_wp2_with (first
                                    | (at_builtin; have _t := tok1; go_must (refine wpList_appk slRChan rfl _ _ rfl w1.heap.size _ 0 [] rfl H0.out (some ac) cc cc (((chs s).take cc).flatMap chC) rfl HTL.out HTK.out (flat_one _ chC_one _) HN1.out HN2.out (Nat.le_refl _) ?_); intro v1 u1 hown1 hg1 hb1 hat1; obtain ⟨L1, hL1⟩ : ∃ L1, 0 + cc = L1 := ⟨_, rfl⟩; rw [hL1] at hown1; have HL1 := Lib.hid hL1; have HN3 := Lib.hid (show (L1 + 1) * 72 ≤ 140737488355328 by rw [← hL1]; exact HN3.out); have HN4 := Lib.hid (show L1 + 1 ≤ 140737488355328 by rw [← hL1]; exact HN4.out); clear hL1; obtain ⟨A1, c1', hv1, -, -⟩ := own_shape hown1; subst hv1; have HO1 := Lib.hid hown1; have HB1 := Lib.hid hb1; have k1 := cell_below hb1 e1; have HSZ1 := Lib.hid (show w1.heap.size ≤ (u1.alloc (.cells #[Value.string name, Value.string a, Value.string b, Value.int .i64 cap, Value.int .i64 (cap * 1000 - push), Value.int .i64 push] 95)).heap.size from Nat.le_trans hb1.size (by simp)); have HOA1 := Lib.hid (own_below hown1 ((Below.refl _ _).alloc (Nat.le_refl _) (.cells #[Value.string name, Value.string a, Value.string b, Value.int .i64 cap, Value.int .i64 (cap * 1000 - push), Value.int .i64 push] 95))); clear tok1 _t hown1 hg1 hb1 hat1)
                                    | (at_builtin; have _t := tok2; clear tok1; fail)
                                    | (at_builtin; have _t := tok2; go_must (refine wpList_appk slRChan rfl _ _ rfl w1.heap.size _ L1 ([] ++ ((chs s).take cc).flatMap chC) rfl HOA1.out (some ⟨u1.heap.size, 0, none⟩) 1 1 [Value.string name, Value.string a, Value.string b, Value.int .i64 cap, Value.int .i64 (cap * 1000 - push), Value.int .i64 push] rfl rfl (fun _ => ⟨_, rfl, fun j u hj => World.news_of_block (Go.heap_alloc_new u1 _) j u hj⟩) (by simp [Value.oneCell']) HN3.out HN4.out HSZ1.out ?_); intro v2 u2 hown2 hg2 hb2 hat2; obtain ⟨L2, hL2⟩ : ∃ L2, L1 + 1 = L2 := ⟨_, rfl⟩; rw [hL2] at hown2; have HL2 := Lib.hid hL2; have HN5 := Lib.hid (show (L2 + 0) * 72 ≤ 140737488355328 by rw [← hL2, ← HL1.out]; exact HN5.out); have HN6 := Lib.hid (show L2 + 0 ≤ 140737488355328 by rw [← hL2, ← HL1.out]; exact HN6.out); clear hL2; obtain ⟨A2, c2', hv2, -, -⟩ := own_shape hown2; subst hv2; have HO2 := Lib.hid hown2; have hbb2 := (HB1.out.alloc HB1.out.size (.cells #[Value.string name, Value.string a, Value.string b, Value.int .i64 cap, Value.int .i64 (cap * 1000 - push), Value.int .i64 push] 95)).trans hb2; have HB2 := Lib.hid hbb2; have k2 := cell_below hbb2 e1; have HSZ2 := Lib.hid hbb2.size; have HDR := Lib.hid (HDK.out u2 hbb2); clear tok2 _t hown2 hg2 hb2 hat2 hbb2 k1)
                                    | (at_builtin; have _t := tok3; go_must (refine wpList_appk slRChan rfl _ _ rfl w1.heap.size _ L2 ([] ++ ((chs s).take cc).flatMap chC ++ [Value.string name, Value.string a, Value.string b, Value.int .i64 cap, Value.int .i64 (cap * 1000 - push), Value.int .i64 push]) rfl HO2.out (some ac) 0 0 (((chs s).drop cc).flatMap chC) rfl HDL.out HDR.out (flat_one _ chC_one _) HN5.out HN6.out HSZ2.out ?_); intro v3 u3 hown3 hg3 hb3 hat3; obtain ⟨L3, hL3⟩ : ∃ L3, L2 + 0 = L3 := ⟨_, rfl⟩; rw [hL3] at hown3; have HL3 := Lib.hid (show L3 = 0 + cc + 1 + 0 by rw [← hL3, ← HL2.out, ← HL1.out]); clear hL3; obtain ⟨A3, c3', hv3, -, -⟩ := own_shape hown3; subst hv3; have HO3 := Lib.hid hown3; have hbb3 := HB2.out.trans hb3; have HB3 := Lib.hid hbb3; have k3 := cell_below hbb3 e1; have f3 := RAt.free (HLW.out.below hbb3) 1; clear tok3 _t hown3 hg3 hb3 hat3 hbb3 k2))
                                  go_ret
                                  have hown3 := HO3.out
                                  rw [HL3.out] at hown3 ⊢
                                  exact HFW.out _ _ hown3 HB3.out
                                · skip
                                  have HFW := Lib.hid (HFIN.out (HXL.out))
                                  have tok1 : True := trivial
                                  have tok2 : True := trivial
                                  have tok3 : True := trivial
                                  have H0 := Lib.hid (World.ownsRow_nil w1 w1.heap.size 95 6)
                                  go_wp2_with (first
                                    | (at_builtin; have _t := tok1; go_must (refine wpList_appk slRChan rfl _ _ rfl w1.heap.size _ 0 [] rfl H0.out (some ac) k cc (((chs s).take k).flatMap chC) rfl HTL.out HTK.out (flat_one _ chC_one _) HN1.out HN2.out (Nat.le_refl _) ?_); intro v1 u1 hown1 hg1 hb1 hat1; obtain ⟨L1, hL1⟩ : ∃ L1, 0 + k = L1 := ⟨_, rfl⟩; rw [hL1] at hown1; have HL1 := Lib.hid hL1; have HN3 := Lib.hid (show (L1 + 1) * 72 ≤ 140737488355328 by rw [← hL1]; exact HN3.out); have HN4 := Lib.hid (show L1 + 1 ≤ 140737488355328 by rw [← hL1]; exact HN4.out); clear hL1; obtain ⟨A1, c1', hv1, -, -⟩ := own_shape hown1; subst hv1; have HO1 := Lib.hid hown1; have HB1 := Lib.hid hb1; have k1 := cell_below hb1 e1; have HSZ1 := Lib.hid (show w1.heap.size ≤ (u1.alloc (.cells #[Value.string name, Value.string a, Value.string b, Value.int .i64 cap, Value.int .i64 (cap * 1000 - push), Value.int .i64 push] 95)).heap.size from Nat.le_trans hb1.size (by simp)); have HOA1 := Lib.hid (own_below hown1 ((Below.refl _ _).alloc (Nat.le_refl _) (.cells #[Value.string name, Value.string a, Value.string b, Value.int .i64 cap, Value.int .i64 (cap * 1000 - push), Value.int .i64 push] 95))); clear tok1 _t hown1 hg1 hb1 hat1)
                                    | (at_builtin; have _t := tok2; clear tok1; fail)
                                    | (at_builtin; have _t := tok2; go_must (refine wpList_appk slRChan rfl _ _ rfl w1.heap.size _ L1 ([] ++ ((chs s).take k).flatMap chC) rfl HOA1.out (some ⟨u1.heap.size, 0, none⟩) 1 1 [Value.string name, Value.string a, Value.string b, Value.int .i64 cap, Value.int .i64 (cap * 1000 - push), Value.int .i64 push] rfl rfl (fun _ => ⟨_, rfl, fun j u hj => World.news_of_block (Go.heap_alloc_new u1 _) j u hj⟩) (by simp [Value.oneCell']) HN3.out HN4.out HSZ1.out ?_); intro v2 u2 hown2 hg2 hb2 hat2; obtain ⟨L2, hL2⟩ : ∃ L2, L1 + 1 = L2 := ⟨_, rfl⟩; rw [hL2] at hown2; have HL2 := Lib.hid hL2; have HN5 := Lib.hid (show (L2 + ((chs s).length - k)) * 72 ≤ 140737488355328 by rw [← hL2, ← HL1.out]; exact HN5.out); have HN6 := Lib.hid (show L2 + ((chs s).length - k) ≤ 140737488355328 by rw [← hL2, ← HL1.out]; exact HN6.out); clear hL2; obtain ⟨A2, c2', hv2, -, -⟩ := own_shape hown2; subst hv2; have HO2 := Lib.hid hown2; have hbb2 := (HB1.out.alloc HB1.out.size (.cells #[Value.string name, Value.string a, Value.string b, Value.int .i64 cap, Value.int .i64 (cap * 1000 - push), Value.int .i64 push] 95)).trans hb2; have HB2 := Lib.hid hbb2; have k2 := cell_below hbb2 e1; have HSZ2 := Lib.hid hbb2.size; have HDR := Lib.hid (HDK.out u2 hbb2); clear tok2 _t hown2 hg2 hb2 hat2 hbb2 k1)
                                    | (at_builtin; have _t := tok3; go_must (refine wpList_appk slRChan rfl _ _ rfl w1.heap.size _ L2 ([] ++ ((chs s).take k).flatMap chC ++ [Value.string name, Value.string a, Value.string b, Value.int .i64 cap, Value.int .i64 (cap * 1000 - push), Value.int .i64 push]) rfl HO2.out (some (ac.add (k * 6))) ((chs s).length - k) (cc - k) (((chs s).drop k).flatMap chC) rfl HDL.out HDR.out (flat_one _ chC_one _) HN5.out HN6.out HSZ2.out ?_); intro v3 u3 hown3 hg3 hb3 hat3; obtain ⟨L3, hL3⟩ : ∃ L3, L2 + ((chs s).length - k) = L3 := ⟨_, rfl⟩; rw [hL3] at hown3; have HL3 := Lib.hid (show L3 = 0 + k + 1 + ((chs s).length - k) by rw [← hL3, ← HL2.out, ← HL1.out]); clear hL3; obtain ⟨A3, c3', hv3, -, -⟩ := own_shape hown3; subst hv3; have HO3 := Lib.hid hown3; have hbb3 := HB2.out.trans hb3; have HB3 := Lib.hid hbb3; have k3 := cell_below hbb3 e1; have f3 := RAt.free (HLW.out.below hbb3) 1; clear tok3 _t hown3 hg3 hb3 hat3 hbb3 k2))
                                  go_ret
                                  have hown3 := HO3.out
                                  rw [HL3.out] at hown3 ⊢
                                  exact HFW.out _ _ hown3 HB3.out
theorem ropen_any (p : Nat) (va vc vh : Value) (vs : List Value) (s : Led) (name a b : ByteArray) (cap push c : Int) (w : World) (hs : Inv s) (hnm : name.size ≤ reachBytes) (h : RLed w p va vc vh vs s) :
    Calls Try.prog 49 #[.pointer (some ⟨p, 0, none⟩), .string name, .string a, .string b, .int .i64 cap, .int .i64 push, .int .i64 c] w (ROp w p va vc vh (openCh s name a b cap push c).1 (openCh s name a b cap push c).2) := by
  rcases (RAt.oc h).2 with ⟨rfl, hz⟩ | ⟨g, cp, cur, rfl, -⟩
  · exact ropen_at0 p va vh vs s name a b cap push c w hs hnm h (List.eq_nil_of_length_eq_zero hz)
  · exact ropen_at1 p ⟨g, 0, none⟩ cp va vh vs s name a b cap push c w hs hnm h
end Go.Proofs.Ytmlcojhanimnpaa

namespace Go.Proofs.Ytmlcojhanimnpaa
open Go.RowKit

def tch (l : List (ByteArray × Chan)) : List Chan := told (fun _ c => c) chan0 l
/-- Channels as they may be, between two legs of a hold too. -/
structure CHok (l : List (ByteArray × Chan)) : Prop where
  nc : (l.map (·.1)).Nodup
  len : l.length ≤ 256
  nm : ∀ k c, mget l k = some c → c.name = k
  ne : ∀ k c, mget l k = some c → c.a ≠ c.b
  lo : ∀ k c, mget l k = some c → 0 ≤ c.hasA ∧ 0 ≤ c.hasB
  hi : ∀ k c, mget l k = some c → c.hasA ≤ 2100000000000000000 ∧ c.hasB ≤ 2100000000000000000
theorem CHok.of {coins : List (ByteArray × Int)} {hf : ByteArray → Int} {l : List (ByteArray × Chan)} (hn : (l.map (·.1)).Nodup) (hl : l.length ≤ 256) (h : ChInv coins hf l) (h0 : ∀ k, 0 ≤ hf k) (hc : ∀ k c, mget l k = some c → c.cap ≤ maxCoin) : CHok l :=
  ⟨hn, hl, fun k c hk => (h k c hk).name, fun k c hk => (h k c hk).ne, fun k c hk => ⟨(h k c hk).a0, (h k c hk).b0⟩, fun k c hk => by
    have h1 := h k c hk
    have h2 := h1.sum
    have h3 := h0 k
    have h4 := hc k c hk
    have h5 := h1.a0
    have h6 := h1.b0
    unfold maxCoin at h4
    omega⟩
theorem CHok.led {s : Led} (h : Inv s) : CHok s.chans :=
  CHok.of h.nc h.lc h.ch (fun _ => holdSum_nonneg _ s.holds fun z hz x hx => (h.hs z hz x hx).lo) fun _ _ hk => cap_le h hk
theorem tch_len (l : List (ByteArray × Chan)) : (tch l).length = l.length := by unfold tch told; rw [List.length_map, skeys_len]
theorem tch_at (l : List (ByteArray × Chan)) {k : Nat} (hk : k < (tch l).length) (hk2 : k < (skeys l).length) : mget l (skeys l)[k] = some (tch l)[k] := chs_at ⟨[], l, [], 0⟩ hk hk2
theorem tch_place {l : List (ByteArray × Chan)} (h : CHok l) {name : ByteArray} {c : Chan} (hm : mget l name = some c) : ∃ i, ∃ hi : i < (tch l).length, (tch l)[i] = c ∧ c.name = name ∧ (∃ hi3 : i < (skeys l).length, (skeys l)[i] = name) ∧ ∀ j (hj : j < (tch l).length), j < i → (tch l)[j].name ≠ name := by
  obtain ⟨i, hi1, hk⟩ := skeys_find (l := l) (k := name) (by rw [hm]; rfl)
  have hi2 : i < (tch l).length := by rw [tch_len, ← skeys_len l]; exact hi1
  have h1 := tch_at l hi2 hi1
  rw [hk, hm] at h1
  injection h1 with h1
  refine ⟨i, hi2, h1.symm, h.nm _ _ hm, ⟨hi1, hk⟩, fun j hj hji e => ?_⟩
  have hj2 : j < (skeys l).length := by omega
  have h2 := tch_at l hj hj2
  have h3 := h.nm _ _ h2
  have := (List.getElem_inj (skeys_nodup h.nc) (h₀ := hj2) (h₁ := hi1)).1 (by rw [hk, ← h3, e])
  omega
theorem tch_noplace {l : List (ByteArray × Chan)} (h : CHok l) {name : ByteArray} (hm : mget l name = none) : ∀ j (hj : j < (tch l).length), (tch l)[j].name ≠ name := fun j hj e => by
  have hj2 : j < (skeys l).length := by rw [skeys_len, ← tch_len]; exact hj
  have h2 := tch_at l hj hj2
  have h3 := h.nm _ _ h2
  rw [← h3, e, hm] at h2
  cases h2
def legRV (x : Leg) : Value := .agg #[.string x.ch, .string x.src, .int .i64 x.amt]
section
variable {p : Nat} {va vc vh : Value} {vs : List Value} {A : List (ByteArray × Int)} {H : List HoldR} {n : Int} {l : List (ByteArray × Chan)} {w : World}
theorem rchl_some (h : RAt w p va vc vh vs A (tch l) H n) (hc : CHok l) {i : Nat} {name : ByteArray} (hi : i < (tch l).length) (h1 : (tch l)[i].name = name) (h2 : ∀ j (hj : j < (tch l).length), j < i → (tch l)[j].name ≠ name) :
    Calls Try.prog 81 #[.pointer (some ⟨p, 0, none⟩), .string name] w fun e w' => e = .returned (.int .i64 i) ∧ w = w' :=
  rch_any p va vc vh vs _ _ _ _ name i w h (by rw [tch_len]; have := hc.len; omega) (.inl ⟨i, hi, h1, rfl, h2⟩)
theorem rchl_none (h : RAt w p va vc vh vs A (tch l) H n) (hc : CHok l) {name : ByteArray} (hm : mget l name = none) :
    Calls Try.prog 81 #[.pointer (some ⟨p, 0, none⟩), .string name] w fun e w' => e = .returned (.int .i64 (-1)) ∧ w = w' :=
  rch_any p va vc vh vs _ _ _ _ name (-1) w h (by rw [tch_len]; have := hc.len; omega) (.inr ⟨rfl, tch_noplace hc hm⟩)
end
theorem legCells (w : World) (x : Leg) : (w.alloc (.cells #[.string x.ch, .string x.src, .int .i64 x.amt] 119)).cell? ⟨w.heap.size, 0, none⟩ = some (.string x.ch) ∧ (w.alloc (.cells #[.string x.ch, .string x.src, .int .i64 x.amt] 119)).cell? ⟨w.heap.size, 1, none⟩ = some (.string x.src) ∧ (w.alloc (.cells #[.string x.ch, .string x.src, .int .i64 x.amt] 119)).cell? ⟨w.heap.size, 2, none⟩ = some (.int .i64 x.amt) := by
  refine ⟨?_, ?_, ?_⟩
  · exact World.news_of_block (cs := #[.string x.ch, .string x.src, .int .i64 x.amt]) (Go.heap_alloc_new w _) 0 _ rfl
  · exact World.news_of_block (cs := #[.string x.ch, .string x.src, .int .i64 x.amt]) (Go.heap_alloc_new w _) 1 _ rfl
  · exact World.news_of_block (cs := #[.string x.ch, .string x.src, .int .i64 x.amt]) (Go.heap_alloc_new w _) 2 _ rfl
set_option maxRecDepth 100000 in
set_option maxHeartbeats 3000000 in
theorem rmay_any (p : Nat) (va vc vh : Value) (vs : List Value) (A : List (ByteArray × Int)) (l : List (ByteArray × Chan)) (H : List HoldR) (n : Int) (x : Leg) (w : World) (hc : CHok l) (h : RAt w p va vc vh vs A (tch l) H n) :
    Calls Try.prog 83 #[.pointer (some ⟨p, 0, none⟩), legRV x] w fun e w' => e = .returned (.int .i64 (take1 l x).1) ∧ Below w.heap.size w w' := by
  have hb0 : Below w.heap.size w (w.alloc (.cells #[.string x.ch, .string x.src, .int .i64 x.amt] 119)) := (Below.refl _ _).alloc (Nat.le_refl _) _
  have H1 := Lib.hid (h.below hb0)
  have HB0 := Lib.hid hb0
  obtain ⟨r, hr⟩ : ∃ r, (take1 l x).1 = r := ⟨_, rfl⟩
  rw [hr]
  have HR := Lib.hid hr
  have hlen : (tch l).length ≤ 256 := by rw [tch_len]; exact hc.len
  unfold legRV
  cases hm : mget l x.ch with
  | none =>
    have HF := Lib.hid (rchl_none H1.out hc hm)
    have hr5 : r = 5 := by rw [← HR.out]; unfold take1; rw [hm]
    subst hr5
    clear h hb0 hr hm
    go_enter Try.func83, Try.ntmps83
    go_wp2_with fail
    refine HF.out.mono ?_
    rintro e w1 ⟨rfl, rfl⟩
    go_wp2_with fail
    go_quiet (fail)
    go_wp2_with fail
    go_ret
    exact ⟨rfl, below_drewN HB0.out _⟩
  | some c =>
    obtain ⟨i, hi, h1, h2, -, h3⟩ := tch_place hc hm
    have HF := Lib.hid (rchl_some H1.out hc hi (by rw [h1]; exact h2) h3)
    obtain ⟨e0, e1, -, -⟩ := RAt.cell H1.out
    obtain ⟨Ac, cc, rfl, -, hcc⟩ := RAt.chs H1.out
    obtain ⟨ad, rfl, -, d1, d2, -, d4, d5⟩ := ch_look hcc hi
    rw [h1] at d1 d2 d4 d5
    obtain ⟨l0, l1, l2⟩ := legCells w x
    have hne := hc.ne _ _ hm
    have hlo := hc.lo _ _ hm
    have hhi := hc.hi _ _ hm
    clear h hb0 hr h1 h2 h3 hcc
    by_cases ha : c.a = x.src
    · have HA := Lib.hid ha
      have hb : c.b ≠ x.src := fun e => hne (by rw [ha, e])
      have heb := tl_f hb
      have hx : c.has x.src = some c.hasA := by unfold Chan.has; rw [if_pos ha.symm]
      have ht : take1 l x = if x.amt < 1 ∨ maxMoney < x.amt then (40, l) else if c.hasA < x.amt then (170, l) else (0, mset l x.ch (c.put x.src (c.hasA - x.amt))) := by
        unfold take1; rw [hm]; simp only [hx]
      have HT := Lib.hid ht
      unfold maxMoney at ht
      have hrv : (x.amt < 1 → r = 40) ∧ (2100000000000000000 < x.amt → r = 40) ∧ (¬ x.amt < 1 → ¬ 2100000000000000000 < x.amt → c.hasA < x.amt → r = 170) ∧ (¬ x.amt < 1 → ¬ 2100000000000000000 < x.amt → ¬ c.hasA < x.amt → r = 0) := by
        rw [← HR.out, ht]
        refine ⟨fun h => by rw [if_pos (.inl h)], fun h => by rw [if_pos (.inr h)], fun h1 h2 h3 => by rw [if_neg (fun h => h.elim h1 h2), if_pos h3], fun h1 h2 h3 => by rw [if_neg (fun h => h.elim h1 h2), if_neg h3]⟩
      have HRV := Lib.hid hrv
      clear ht hrv hx ha hb hne hm
      by_cases q1 : x.amt < 1
      · have hr2 := HRV.out.1 q1
        subst hr2
        go_enter Try.func83, Try.ntmps83
        go_wp2_with fail
        refine HF.out.mono ?_
        rintro e w1 ⟨rfl, rfl⟩
        go_wp2_with fail
        have hx : c.a.toList = x.src.toList := by rw [HA.out]
        have hd : decide ((i : Int) < 0) = false := by simp
        go_quiet (fail)
        clear hx hd
        go_wp2_with fail
        go_quiet (fail)
        go_wp2_with fail
        go_ret
        exact ⟨rfl, below_drewN HB0.out _⟩
      · by_cases q2 : 2100000000000000000 < x.amt
        · have hr2 := HRV.out.2.1 q2
          subst hr2
          go_enter Try.func83, Try.ntmps83
          go_wp2_with fail
          refine HF.out.mono ?_
          rintro e w1 ⟨rfl, rfl⟩
          go_wp2_with fail
          have hx : c.a.toList = x.src.toList := by rw [HA.out]
          have hd : decide ((i : Int) < 0) = false := by simp
          go_quiet (fail)
          clear hx hd
          go_wp2_with fail
          go_quiet (fail)
          go_wp2_with fail
          go_ret
          exact ⟨rfl, below_drewN HB0.out _⟩
        · by_cases q3 : c.hasA < x.amt
          · have hr2 := HRV.out.2.2.1 q1 q2 q3
            subst hr2
            go_enter Try.func83, Try.ntmps83
            go_wp2_with fail
            refine HF.out.mono ?_
            rintro e w1 ⟨rfl, rfl⟩
            go_wp2_with fail
            have hx : c.a.toList = x.src.toList := by rw [HA.out]
            have hd : decide ((i : Int) < 0) = false := by simp
            go_quiet (fail)
            clear hx hd
            go_wp2_with fail
            go_quiet (fail)
            go_wp2_with fail
            go_ret
            exact ⟨rfl, below_drewN HB0.out _⟩
          · have hr2 := HRV.out.2.2.2 q1 q2 q3
            subst hr2
            go_enter Try.func83, Try.ntmps83
            go_wp2_with fail
            refine HF.out.mono ?_
            rintro e w1 ⟨rfl, rfl⟩
            go_wp2_with fail
            have hx : c.a.toList = x.src.toList := by rw [HA.out]
            have hd : decide ((i : Int) < 0) = false := by simp
            go_quiet (fail)
            clear hx hd
            go_wp2_with fail
            go_quiet (fail)
            go_wp2_with fail
            go_ret
            exact ⟨rfl, below_drewN HB0.out _⟩
    · have hea := tl_f ha
      have hean : (!(c.a.toList == x.src.toList)) = true := by rw [hea]; rfl
      by_cases hb : c.b = x.src
      · have HBX := Lib.hid hb
        have heb := tl_t hb
        have hx : c.has x.src = some c.hasB := by unfold Chan.has; rw [if_neg (fun e => ha e.symm), if_pos hb.symm]
        have ht : take1 l x = if x.amt < 1 ∨ maxMoney < x.amt then (40, l) else if c.hasB < x.amt then (170, l) else (0, mset l x.ch (c.put x.src (c.hasB - x.amt))) := by
          unfold take1; rw [hm]; simp only [hx]
        unfold maxMoney at ht
        have hrv : (x.amt < 1 → r = 40) ∧ (2100000000000000000 < x.amt → r = 40) ∧ (¬ x.amt < 1 → ¬ 2100000000000000000 < x.amt → c.hasB < x.amt → r = 170) ∧ (¬ x.amt < 1 → ¬ 2100000000000000000 < x.amt → ¬ c.hasB < x.amt → r = 0) := by
          rw [← HR.out, ht]
          refine ⟨fun h => by rw [if_pos (.inl h)], fun h => by rw [if_pos (.inr h)], fun h1 h2 h3 => by rw [if_neg (fun h => h.elim h1 h2), if_pos h3], fun h1 h2 h3 => by rw [if_neg (fun h => h.elim h1 h2), if_neg h3]⟩
        have HRV := Lib.hid hrv
        clear ht hrv hx ha hb hne hm
        by_cases q1 : x.amt < 1
        · have hr2 := HRV.out.1 q1
          subst hr2
          go_enter Try.func83, Try.ntmps83
          go_wp2_with fail
          refine HF.out.mono ?_
          rintro e w1 ⟨rfl, rfl⟩
          go_wp2_with fail
          have hx : c.b.toList = x.src.toList := by rw [HBX.out]
          have hd : decide ((i : Int) < 0) = false := by simp
          go_quiet (fail)
          clear hx hd
          go_wp2_with fail
          go_quiet (fail)
          go_wp2_with fail
          go_ret
          exact ⟨rfl, below_drewN HB0.out _⟩
        · by_cases q2 : 2100000000000000000 < x.amt
          · have hr2 := HRV.out.2.1 q2
            subst hr2
            go_enter Try.func83, Try.ntmps83
            go_wp2_with fail
            refine HF.out.mono ?_
            rintro e w1 ⟨rfl, rfl⟩
            go_wp2_with fail
            have hx : c.b.toList = x.src.toList := by rw [HBX.out]
            have hd : decide ((i : Int) < 0) = false := by simp
            go_quiet (fail)
            clear hx hd
            go_wp2_with fail
            go_quiet (fail)
            go_wp2_with fail
            go_ret
            exact ⟨rfl, below_drewN HB0.out _⟩
          · by_cases q3 : c.hasB < x.amt
            · have hr2 := HRV.out.2.2.1 q1 q2 q3
              subst hr2
              go_enter Try.func83, Try.ntmps83
              go_wp2_with fail
              refine HF.out.mono ?_
              rintro e w1 ⟨rfl, rfl⟩
              go_wp2_with fail
              have hx : c.b.toList = x.src.toList := by rw [HBX.out]
              have hd : decide ((i : Int) < 0) = false := by simp
              go_quiet (fail)
              clear hx hd
              go_wp2_with fail
              go_quiet (fail)
              go_wp2_with fail
              go_ret
              exact ⟨rfl, below_drewN HB0.out _⟩
            · have hr2 := HRV.out.2.2.2 q1 q2 q3
              subst hr2
              go_enter Try.func83, Try.ntmps83
              go_wp2_with fail
              refine HF.out.mono ?_
              rintro e w1 ⟨rfl, rfl⟩
              go_wp2_with fail
              have hx : c.b.toList = x.src.toList := by rw [HBX.out]
              have hd : decide ((i : Int) < 0) = false := by simp
              go_quiet (fail)
              clear hx hd
              go_wp2_with fail
              go_quiet (fail)
              go_wp2_with fail
              go_ret
              exact ⟨rfl, below_drewN HB0.out _⟩
      · have heb := tl_f hb
        have hebn : (!(c.b.toList == x.src.toList)) = true := by rw [heb]; rfl
        have hx : c.has x.src = none := by unfold Chan.has; rw [if_neg (fun e => ha e.symm), if_neg (fun e => hb e.symm)]
        have hr5 : r = 5 := by rw [← HR.out]; unfold take1; rw [hm]; simp only [hx]
        subst hr5
        clear hx ha hb hne hm
        go_enter Try.func83, Try.ntmps83
        go_wp2_with fail
        refine HF.out.mono ?_
        rintro e w1 ⟨rfl, rfl⟩
        go_wp2_with fail
        have hd : decide ((i : Int) < 0) = false := by simp
        go_quiet (fail)
        clear hd
        go_wp2_with fail
        go_ret
        exact ⟨rfl, below_drewN HB0.out _⟩
end Go.Proofs.Ytmlcojhanimnpaa

namespace Go.Proofs.Ytmlcojhanimnpaa
open Go.RowKit

theorem tch_set {l : List (ByteArray × Chan)} (h : CHok l) {i : Nat} {name : ByteArray} {c : Chan} (hm : mget l name = some c) (hi : i < (skeys l).length) (hk : (skeys l)[i] = name) (c' : Chan) : tch (mset l name c') = (tch l).set i c' :=
  told_set (g := fun _ c => c) (d := chan0) h.nc hi hk (by rw [hm]; rfl)
/-- A store of what a side has, in place. -/
theorem rput_ch {w : World} {p : Nat} {ad : Addr} {nc cc : Nat} {va vh : Value} {vs : List Value} {A : List (ByteArray × Int)} {l : List (ByteArray × Chan)} {H : List HoldR} {n : Int} (hc : CHok l) (h : RAt w p va (.slice (some ad) nc cc) vh vs A (tch l) H n) {i : Nat} {name : ByteArray} {c : Chan} (hm : mget l name = some c) (hi : i < (tch l).length) (h1 : (tch l)[i] = c) (hk : ∃ hi3 : i < (skeys l).length, (skeys l)[i] = name) (j : Nat) (hj : j = 4 ∨ j = 5) :
    w.frozen? ⟨(ad.add (i * 6)).block, (ad.add (i * 6)).off + j, none⟩ = false ∧
      ∀ (m : Int) (w' : World), w'.heap = (w.setCell ⟨(ad.add (i * 6)).block, (ad.add (i * 6)).off + j, none⟩ (.int .i64 m)).heap → w'.os = w.os → w'.tape = w.tape → w'.output = w.output → RAt w' p va (.slice (some ad) nc cc) vh vs A (tch (mset l name (putF c j m))) H n ∧ Fr (fpR p va (.slice (some ad) nc cc) vh) w w' := by
  obtain ⟨ad', hA, -, -, -, -, -, -, fz, hput⟩ := RAt.ch_put h hi
  injection hA with hA
  subst hA
  obtain ⟨hi3, hk3⟩ := hk
  refine ⟨fz j (by omega), fun m w' hh ho ht hu => ?_⟩
  obtain ⟨g1, g2⟩ := hput 0 j m hj
  rw [h1] at g1
  refine ⟨?_, ⟨ho, ht, hu, by rw [hh]; exact g2.size, fun j hj hjn => by rw [hh]; exact g2.block j hj hjn⟩⟩
  rw [tch_set hc hm hi3 hk3]
  exact RAt.of_heap g1 (by rw [hh]; rfl)
/-- Which side gets it. -/
def toA (c : Chan) (x : Leg) (turned : Bool) : Bool := (c.a == x.src) != turned
def givesC (c : Chan) (x : Leg) (turned : Bool) (more : Int) : Chan := if toA c x turned = true then putF c 4 (c.hasA + more) else putF c 5 (c.hasB + more)
def GivesP (w : World) (p : Nat) (va vc vh : Value) (vs : List Value) (A : List (ByteArray × Int)) (l : List (ByteArray × Chan)) (H : List HoldR) (n : Int) (e : Ending) (w' : World) : Prop :=
  e = .returned (.tuple #[]) ∧ RAt w' p va vc vh vs A (tch l) H n ∧ Fr (fpR p va vc vh) w w'
set_option maxRecDepth 100000 in
set_option maxHeartbeats 4000000 in
theorem rgives_any (p : Nat) (va vc vh : Value) (vs : List Value) (A : List (ByteArray × Int)) (l : List (ByteArray × Chan)) (H : List HoldR) (n : Int) (x : Leg) (turned : Bool) (more : Int) (c : Chan) (w : World) (hc : CHok l) (h : RAt w p va vc vh vs A (tch l) H n) (hm : mget l x.ch = some c) (m0 : -2100000000000000000 ≤ more) (m1 : more ≤ 2100000000000000000) :
    Calls Try.prog 84 #[.pointer (some ⟨p, 0, none⟩), legRV x, .bool turned, .int .i64 more] w (GivesP w p va vc vh vs A (mset l x.ch (givesC c x turned more)) H n) := by
  have hb0 : Below w.heap.size w (w.alloc (.cells #[.string x.ch, .string x.src, .int .i64 x.amt] 119)) := (Below.refl _ _).alloc (Nat.le_refl _) _
  have h1' := h.below hb0
  have HB0 := Lib.hid hb0
  have hlen : (tch l).length ≤ 256 := by rw [tch_len]; exact hc.len
  obtain ⟨i, hi, h1, h2, hk, h3⟩ := tch_place hc hm
  have HF := Lib.hid (rchl_some h1' hc hi (by rw [h1]; exact h2) h3)
  obtain ⟨e0, e1, -, -⟩ := RAt.cell h1'
  obtain ⟨Ac, cc, rfl, -, hcc⟩ := RAt.chs h1'
  obtain ⟨ad, rfl, -, d1, -, -, d4, d5⟩ := ch_look hcc hi
  rw [h1] at d1 d4 d5
  obtain ⟨fz4, hp4⟩ := rput_ch hc h1' hm hi h1 hk 4 (.inl rfl)
  obtain ⟨fz5, hp5⟩ := rput_ch hc h1' hm hi h1 hk 5 (.inr rfl)
  have HP4 := Lib.hid hp4
  have HP5 := Lib.hid hp5
  obtain ⟨l0, l1, -⟩ := legCells w x
  obtain ⟨a0, b0⟩ := hc.lo _ _ hm
  obtain ⟨a1, b1⟩ := hc.hi _ _ hm
  have g1 : -2100000000000000000 ≤ c.hasA + more := by omega
  have g2 : c.hasA + more ≤ 4200000000000000000 := by omega
  have g3 : -2100000000000000000 ≤ c.hasB + more := by omega
  have g4 : c.hasB + more ≤ 4200000000000000000 := by omega
  clear h h1' hb0 h1 h2 h3 hk hcc hp4 hp5
  unfold legRV
  by_cases ha : c.a = x.src
  · have he := tl_t ha
    have hat : (c.a == x.src) = true := (ch_beq _ _).2 ha
    cases turned with
    | false =>
      have HG := Lib.hid (show givesC c x false more = putF c 4 (c.hasA + more) by unfold givesC toA; rw [hat]; rfl)
      clear ha hat
      go_enter Try.func84, Try.ntmps84
      go_wp2_with fail
      refine HF.out.mono ?_
      rintro e w1 ⟨rfl, rfl⟩
      go_wp2_with fail
      go_quiet (fail)
      go_wp2_with fail
      go_region
      go_wp2_with fail
      first | (refine bodyPost_end (results_none rfl _ _ _) rfl ?_) | (refine bodyPost_ret (results_none rfl _ _ _) rfl ?_)
      rw [HG.out]
      exact ⟨rfl, (HP4.out (c.hasA + more) _ (by rfl) (by rfl) (by rfl) (by rfl)).1, (Fr.below HB0.out).trans (HP4.out (c.hasA + more) _ (by rfl) (by rfl) (by rfl) (by rfl)).2 fun i hi _ => hi⟩
    | true =>
      have HG := Lib.hid (show givesC c x true more = putF c 5 (c.hasB + more) by unfold givesC toA; rw [hat]; rfl)
      clear ha hat
      go_enter Try.func84, Try.ntmps84
      go_wp2_with fail
      refine HF.out.mono ?_
      rintro e w1 ⟨rfl, rfl⟩
      go_wp2_with fail
      go_quiet (fail)
      go_wp2_with fail
      go_region
      go_wp2_with fail
      first | (refine bodyPost_end (results_none rfl _ _ _) rfl ?_) | (refine bodyPost_ret (results_none rfl _ _ _) rfl ?_)
      rw [HG.out]
      exact ⟨rfl, (HP5.out (c.hasB + more) _ (by rfl) (by rfl) (by rfl) (by rfl)).1, (Fr.below HB0.out).trans (HP5.out (c.hasB + more) _ (by rfl) (by rfl) (by rfl) (by rfl)).2 fun i hi _ => hi⟩
  · have he := tl_f ha
    have hat : (c.a == x.src) = false := (ch_bne _ _).2 ha
    cases turned with
    | false =>
      have HG := Lib.hid (show givesC c x false more = putF c 5 (c.hasB + more) by unfold givesC toA; rw [hat]; rfl)
      clear ha hat
      go_enter Try.func84, Try.ntmps84
      go_wp2_with fail
      refine HF.out.mono ?_
      rintro e w1 ⟨rfl, rfl⟩
      go_wp2_with fail
      go_quiet (fail)
      go_wp2_with fail
      go_region
      go_wp2_with fail
      first | (refine bodyPost_end (results_none rfl _ _ _) rfl ?_) | (refine bodyPost_ret (results_none rfl _ _ _) rfl ?_)
      rw [HG.out]
      exact ⟨rfl, (HP5.out (c.hasB + more) _ (by rfl) (by rfl) (by rfl) (by rfl)).1, (Fr.below HB0.out).trans (HP5.out (c.hasB + more) _ (by rfl) (by rfl) (by rfl) (by rfl)).2 fun i hi _ => hi⟩
    | true =>
      have HG := Lib.hid (show givesC c x true more = putF c 4 (c.hasA + more) by unfold givesC toA; rw [hat]; rfl)
      clear ha hat
      go_enter Try.func84, Try.ntmps84
      go_wp2_with fail
      refine HF.out.mono ?_
      rintro e w1 ⟨rfl, rfl⟩
      go_wp2_with fail
      go_quiet (fail)
      go_wp2_with fail
      go_region
      go_wp2_with fail
      first | (refine bodyPost_end (results_none rfl _ _ _) rfl ?_) | (refine bodyPost_ret (results_none rfl _ _ _) rfl ?_)
      rw [HG.out]
      exact ⟨rfl, (HP4.out (c.hasA + more) _ (by rfl) (by rfl) (by rfl) (by rfl)).1, (Fr.below HB0.out).trans (HP4.out (c.hasA + more) _ (by rfl) (by rfl) (by rfl) (by rfl)).2 fun i hi _ => hi⟩
end Go.Proofs.Ytmlcojhanimnpaa
