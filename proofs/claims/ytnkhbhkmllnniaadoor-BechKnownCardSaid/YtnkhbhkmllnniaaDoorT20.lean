/- The reference's Decode at every text: DecPost. -/
import Derived.Test.YtnkhbhkmllnniaaDoorT19
import Derived.Test.YtnkhbhkmllnniaaDoorT16
import Derived.Test.YtnkhbhkmllnniaaDoorT6
import Derived.Test.YtnkhbhkmllnniaaDoorT7
namespace Go.Proofs.YtnkhbhkmllnniaaDoor
open Go.RowKit Bech

/-- Behind place m stands no 1. -/
def NoneFrom (l : List UInt8) (m : Int) : Prop := ∀ j : Nat, m < j → j < l.length → l[j]? ≠ some 49
theorem small_shape (l : List UInt8) (h : smallOk l = true) : smallText l = l.map lower := by
  unfold smallOk at h; unfold smallText
  simp only [Bool.and_eq_true] at h
  rw [if_pos h.1]

theorem lower_one (c : UInt8) : lower c = 49 ↔ c = 49 := by
  cases h : isUp c with
  | false => rw [lower_not h]
  | true =>
    have h1 := lower_up h
    unfold isUp at h
    simp only [Bool.and_eq_true, decide_eq_true_eq] at h
    rw [← UInt8.toNat_inj, ← UInt8.toNat_inj, h1]
    have : (49 : UInt8).toNat = 49 := rfl
    omega
theorem isLast_lower {l : List UInt8} {a : Int} (h : IsLast (l.map lower) a) : IsLast l a := by
  have hg : ∀ j : Nat, (l.map lower)[j]? = some 49 ↔ l[j]? = some 49 := by
    intro j
    rw [List.getElem?_map]
    cases hj : l[j]? with
    | none => simp
    | some c => simp [lower_one]
  refine ⟨h.lo, by have := h.hi; rwa [List.length_map] at this, fun h0 => (hg _).1 (h.at_ h0), fun j h1 h2 he => h.none j h1 (by rwa [List.length_map]) ((hg j).2 he)⟩
theorem ref_good (s : ByteArray) (m : Int) (h : IsLast (smallText s.data.toList) m) (hok : smallOk s.data.toList = true) : lastAt s.data.toList = m := by
  rw [small_shape _ hok] at h
  exact (lastAt_isLast _).unique (isLast_lower h)
theorem ref_ok (s : ByteArray) (hok : smallOk s.data.toList = true) : bad1 s.data.toList = false ∧ bad2 s.data.toList = false := by
  unfold smallOk at hok
  unfold bad1 bad2
  rw [all_of_some, someIn_low, someIn_up]
  simp only [Bool.and_eq_true] at hok
  rw [hok.1]
  exact ⟨rfl, by have := hok.2; rwa [Bool.not_eq_true'] at this⟩
theorem ref_bad (s : ByteArray) (hl : ¬ 32768 < s.size) (m : Int) (h : IsLast (smallText s.data.toList) m) (n : Nat) (hn : (smallText s.data.toList).length = n)
    (hb : smallOk s.data.toList = false ∨ m < 1 ∨ 83 < m ∨ (n : Int) - m ≤ 6) : decErr s.data.toList = 60 := by
  have hls : s.data.toList.length = s.size := by simp
  subst hn
  cases hok : smallOk s.data.toList with
  | false =>
    refine decErr_bad s hl ?_
    unfold smallOk at hok
    unfold bad1 bad2
    rw [all_of_some, someIn_low, someIn_up]
    cases ha : s.data.toList.all okByte with
    | false => rfl
    | true =>
      rw [ha] at hok
      have : (s.data.toList.any isLow && s.data.toList.any isUp) = true := by simpa using hok
      rw [this]; simp
  | true =>
    have hm := ref_good s m h hok
    refine decErr_bad s hl ?_
    rw [hm]
    have e : bad3 m s.size = true := by
      rw [small_shape _ hok, List.length_map, hls] at hb
      unfold bad3
      rcases hb with hb | hb | hb | hb
      · rw [hok] at hb; exact absurd hb (by simp)
      · simp [hb]
      · simp [hb]
      · simp [hb]
    rw [e]; simp

set_option maxRecDepth 100000 in
set_option maxHeartbeats 2000000 in
theorem refDecode_any (s : ByteArray) (w : World) (hs : s.size ≤ 1000000) : Calls Tryd.prog 13 #[.string s] w (DecPost s.data.toList w) := by
  have hls : s.data.toList.length = s.size := by simp
  by_cases hlim : 32768 < s.size
  · have he : decErr s.data.toList = 3 := by unfold decErr; rw [if_pos (by rw [hls]; exact hlim)]
    have HE := Lib.hid he; clear he hls
    have hlimI : (32768 : Int) < (s.size : Int) := by omega
    clear hlim
    go_enter Tryd.func13, Tryd.ntmps13
    go_wp2_with fail
    go_ret3
    exact decPost_err HE.out (by decide) (Below.refl _ _)
  · have hlimI : ¬ (32768 : Int) < (s.size : Int) := by omega
    have HLIM := Lib.hid hlim; clear hlim
    have HLS := Lib.hid hls; clear hls
    go_enter Tryd.func13, Tryd.ntmps13
    go_wp2_with fail
    refine (refSmall_any s _ hs).mono ?_
    rintro e w1 ⟨rfl, hb1⟩
    obtain ⟨tb, htb⟩ : ∃ tb : ByteArray, tb = ⟨(smallText s.data.toList).toArray⟩ := ⟨_, rfl⟩
    have htl : tb.data.toList = smallText s.data.toList := by rw [htb]
    have hts : tb.size ≤ 32768 := by
      have : tb.data.toList.length = tb.size := by simp
      rw [htl] at this
      have h2 : (smallText s.data.toList).length ≤ s.data.toList.length := by unfold smallText; split <;> simp
      rw [HLS.out] at h2
      omega
    have htsI : ¬ (32768 : Int) < (tb.size : Int) := by omega
    have HTS := Lib.hid hts; clear hts
    rw [← htb]
    generalize hok : smallOk s.data.toList = ok
    have HOK := Lib.hid hok; clear hok
    have HTL := Lib.hid htl; clear htl htb
    go_wp2_with fail
    go_loop [7] (fun i => ∃ m : Int, -1 ≤ m ∧ m < tb.size ∧ i = .int .i64 m ∧ NoneFrom tb.data.toList m) (fun i => (intOf i + 1).toNat)
    case atStart => exact ⟨(tb.size : Int) - 1, by omega, by omega, rfl, by intro j h1 h2; have : tb.data.toList.length = tb.size := by simp
                                                                            omega⟩
    case round =>
      obtain ⟨m, hm1, hm2, rfl, hnf⟩ := hrel
      have HNF := Lib.hid hnf; clear hnf
      by_cases hm0 : 0 ≤ m
      · obtain ⟨k, rfl⟩ : ∃ k : Nat, m = k := ⟨m.toNat, by omega⟩
        have hkt : k < tb.size := by omega
        by_cases h49 : (((tb[k]).toNat : Int) != 49) = true
        · have hnf2 : NoneFrom tb.data.toList ((k : Int) - 1) := by
            intro j h1 h2 he
            by_cases hj : j = k
            · subst hj
              rw [List.getElem?_eq_getElem h2] at he
              injection he with he
              rw [bne_iff_ne] at h49
              exact h49 (by have : tb[j] = 49 := he
                            rw [this]; rfl)
            · exact HNF.out j (by omega) h2 he
          have HN2 := Lib.hid hnf2; clear hnf2
          go_wp2_with fail
          go_round
          case rel => exact ⟨(k : Int) - 1, by omega, by omega, rfl, HN2.out⟩
          case measure => simp [intOf]
        · have hlast : IsLast tb.data.toList (k : Int) := by
            refine ⟨by omega, by simpa using hkt, fun _ => ?_, HNF.out⟩
            rw [show (k : Int).toNat = k by omega, List.getElem?_eq_getElem (by simpa using hkt)]
            have h49 := Decidable.not_not.1 (fun h => h49 (bne_iff_ne.2 h))
            have : tb[k] = 49 := UInt8.toNat_inj.1 (by have : (49 : UInt8).toNat = 49 := rfl
                                                       omega)
            exact congrArg some this
          have h49' : (((tb[k]).toNat : Int) != 49) = false := by simpa using h49
          have HLAST := Lib.hid hlast; clear hlast HNF h49
          by_cases hbad : ok = false ∨ (k : Int) < 1 ∨ 83 < (k : Int) ∨ (tb.size : Int) - k ≤ 6
          · have he := ref_bad s HLIM.out k (by rw [← HTL.out]; exact HLAST.out) tb.size (by rw [← HTL.out]; simp) (by rw [HOK.out]; exact hbad)
            have HE := Lib.hid he; clear he
            have HBAD := Lib.hid hbad; clear hbad
            cases ok with
            | false =>
              go_wp2_with fail
              go_ret3
              exact decPost_err HE.out (by decide) hb1
            | true =>
              have hb3 := HBAD.out
              simp only [Bool.true_eq_false, false_or] at hb3
              by_cases c1 : (k : Int) < 1
              · go_wp2_with fail
                go_ret3
                exact decPost_err HE.out (by decide) hb1
              · by_cases c2 : 83 < (k : Int)
                · go_wp2_with fail
                  go_ret3
                  exact decPost_err HE.out (by decide) hb1
                · have c3 : (tb.size : Int) - k - 1 < 6 := by omega
                  clear hb3
                  go_wp2_with fail
                  go_ret3
                  exact decPost_err HE.out (by decide) hb1
          · have hok : ok = true := by cases ok with
              | true => rfl
              | false => exact absurd (.inl rfl) hbad
            subst hok
            have c1 : ¬ (k : Int) < 1 := fun h => hbad (.inr (.inl h))
            have c2 : ¬ 83 < (k : Int) := fun h => hbad (.inr (.inr (.inl h)))
            have c3 : ¬ (tb.size : Int) - k - 1 < 6 := fun h => hbad (.inr (.inr (.inr (by omega))))
            clear hbad
            have htl2 : tb.data.toList = s.data.toList.map lower := by rw [HTL.out, small_shape _ HOK.out]
            have hts2 : tb.size = s.size := by
              have : tb.data.toList.length = tb.size := by simp
              rw [htl2, List.length_map, HLS.out] at this
              exact this.symm
            have HTL2 := Lib.hid htl2; clear htl2
            have HTS2 := Lib.hid hts2; clear hts2
            have HAA := Lib.hid (ref_good s k (by rw [← HTL.out]; exact HLAST.out) HOK.out)
            obtain ⟨hb1', hb2'⟩ := ref_ok s HOK.out
            have H1 := Lib.hid hb1'
            have H2 := Lib.hid hb2'
            clear hb1' hb2'
            have hb3' : bad3 (k : Int) s.size = false := by
              rw [← HTS2.out]
              unfold bad3
              simp only [Bool.or_eq_false_iff, decide_eq_false_iff_not]
              omega
            have H3 := Lib.hid hb3'; clear hb3'
            go_wp2_with fail
            go_loopw [8, 9] (fun v i wr => ∃ m : Nat, k + 1 ≤ m ∧ m ≤ tb.size ∧ i = .int .i64 m ∧ Row wr w1.heap.size 5 v (bv (wordsOf ((tb.data.toList.take m).drop (k + 1)))) ∧ (∀ c ∈ (tb.data.toList.take m).drop (k + 1), wordOf c ≠ 32) ∧ Below w1.heap.size w1 wr) (fun _ i _ => tb.size - (intOf i).toNat)
            case atStart =>
              have e : (tb.data.toList.take (k + 1)).drop (k + 1) = [] := List.drop_of_length_le (by rw [List.length_take]; omega)
              refine ⟨k + 1, Nat.le_refl _, by omega, by go_num, ?_, ?_, Below.refl _ _⟩
              · rw [e]; exact Row.nil _ _ _
              · rw [e]; intro c hc; cases hc
            case round =>
              obtain ⟨m, hm1, hm2, rfl, hrow, hne, hbr⟩ := hrel
              have HNE := Lib.hid hne; clear hne
              have hbr0 : Below w.heap.size w wr := hb1.trans (hbr.mono hb1.size)
              have hlen6 : (bv (wordsOf ((tb.data.toList.take m).drop (k + 1)))).length ≤ 40000 := by
                rw [bv_length]; unfold wordsOf; rw [List.length_map, List.length_drop, List.length_take]
                have : tb.data.toList.length = tb.size := by simp
                have := HTS.out
                omega
              by_cases hlt : m < tb.size
              · have hsn : (tb.data.toList.take (m + 1)).drop (k + 1) = (tb.data.toList.take m).drop (k + 1) ++ [tb[m]] := by
                  rw [List.take_succ_eq_append_getElem (by simpa using hlt), List.drop_append_of_le_length (by rw [List.length_take]; simp; omega)]
                  rfl
                have HSN := Lib.hid hsn; clear hsn
                have htm : tb[m] ∈ (s.data.toList.map lower).drop (k + 1) := by
                  rw [← HTL2.out]
                  have e : (tb.data.toList.drop (k + 1))[m - (k + 1)]? = some tb[m] := by
                    rw [List.getElem?_drop, show k + 1 + (m - (k + 1)) = m by omega, List.getElem?_eq_getElem (by simpa using hlt)]
                    rfl
                  exact List.mem_of_getElem? e
                have HTM := Lib.hid htm; clear htm
                have hwl := wordOf_le tb[m]
                by_cases hw : wordOf tb[m] = 32
                · have he := decErr_word s k HLIM.out H1.out H2.out HAA.out H3.out _ HTM.out hw
                  have HE := Lib.hid he; clear he
                  have hrw : refWord tb[m] = 99 := by unfold refWord; rw [if_pos hw]
                  have HRW := Lib.hid hrw; clear hrw hw hwl
                  go_wp2_with fail
                  refine (refWord_any tb[m] _).mono ?_
                  rintro e w5 ⟨rfl, rfl⟩
                  rw [HRW.out]
                  go_wp2_with fail
                  go_ret3
                  exact decPost_err HE.out (by decide) hbr0
                · have hw31 : wordOf tb[m] ≤ 31 := by omega
                  have hwb : ((UInt8.ofNat (wordOf tb[m])).toNat : Int) = (wordOf tb[m] : Nat) := by rw [UInt8.toNat_ofNat']; omega
                  have HWB := Lib.hid hwb; clear hwb
                  have hsn3 : bv (wordsOf ((tb.data.toList.take (m + 1)).drop (k + 1))) = bv (wordsOf ((tb.data.toList.take m).drop (k + 1))) ++ [.int .u8 ((wordOf tb[m] : Nat) : Int)] := by
                    rw [HSN.out]
                    unfold wordsOf
                    rw [List.map_append]
                    show bv (_ ++ [UInt8.ofNat (wordOf tb[m])]) = _
                    rw [bv_snoc, HWB.out]
                  have hne1 : ∀ c ∈ (tb.data.toList.take (m + 1)).drop (k + 1), wordOf c ≠ 32 := by
                    rw [HSN.out]
                    intro c hc
                    rcases List.mem_append.1 hc with h | h
                    · exact HNE.out c h
                    · rw [List.mem_singleton.1 h]; exact hw
                  have hrw : refWord tb[m] = wordOf tb[m] := by unfold refWord; rw [if_neg hw]
                  have HRW := Lib.hid hrw
                  have HSN3 := Lib.hid hsn3
                  have HNE1 := Lib.hid hne1
                  clear hw hwl hrw hsn3 hne1
                  have hcall : ∀ W : World, Calls Tryd.prog 36 #[.int .u8 (tb[m].toNat : Int)] W fun e w' => e = .returned (.int .u8 (wordOf tb[m] : Nat)) ∧ W = w' := by
                    intro W
                    rw [← HRW.out]
                    exact refWord_any _ _
                  generalize wordOf tb[m] = x at hw31 HSN3 hcall HWB HRW
                  generalize bv (wordsOf ((tb.data.toList.take m).drop (k + 1))) = xs at hrow hlen6 HSN3
                  have HCALL := Lib.hid hcall; clear hcall
                  have hx99 : ((x : Int) == 99) = false := by rw [beq_eq_false_iff_ne]; omega
                  have hbs := hbr.size
                  go_wp2_with fail
                  refine (HCALL.out _).mono ?_
                  rintro e w5 ⟨rfl, rfl⟩
                  go_wp2_with fail
                  refine (HCALL.out _).mono ?_
                  rintro e w5 ⟨rfl, rfl⟩
                  go_wp2_with (at_builtin; refine wpList_row1 sl22 rfl _ _ rfl w1.heap.size _ xs (by rfl) hrow _ (by rfl) (by rfl) (by omega) (by omega) hbs ?_; intro v' wn hrow1 hg1 hb1 hat)
                  go_roundw
                  case rel => exact ⟨m + 1, by omega, by omega, by go_num, by rw [HSN3.out]; exact hrow1, HNE1.out, hbr.trans hb1⟩
                  case measure => simp [intOf]; omega
              · have htk : tb.data.toList.take m = tb.data.toList := List.take_of_length_le (by simp; omega)
                have hne2 := HNE.out
                rw [htk] at hne2 hrow
                rw [htk] at hlen6
                have he := decErr_sum s k HLIM.out H1.out H2.out HAA.out H3.out (by rw [← HTL2.out]; exact hne2)
                rw [← HTL2.out] at he
                have hhd : (tb.extract 0 k).data.toList = tb.data.toList.take k := by
                  rw [Lib.extract_data]; simp
                have hhs : (tb.extract 0 k).size ≤ 1000000 := by
                  have : (tb.extract 0 k).data.toList.length = (tb.extract 0 k).size := by simp
                  rw [hhd, List.length_take] at this; omega
                have hhl : (bv (heads (tb.extract 0 k).data.toList)).length ≤ 200 := by
                  rw [hhd, bv_length]; unfold heads; rw [List.length_append, List.length_map, List.length_cons, List.length_map, List.length_take]; omega
                have HE := Lib.hid he; clear he hne2 HNE htk
                have HHD := Lib.hid hhd; clear hhd
                have hwlen : (wordsOf (tb.data.toList.drop (k + 1))).length = tb.size - (k + 1) := by unfold wordsOf; simp
                generalize hwsg : wordsOf (tb.data.toList.drop (k + 1)) = ws at hrow hlen6 hwlen
                have HWS := Lib.hid hwsg; clear hwsg
                obtain ⟨A6, c6, hv6, hcap6, hcells6⟩ := hrow.shape
                rw [bv_length] at hv6 hcap6
                subst hv6
                rw [bv_length] at hlen6
                have HCE := Lib.hid hcells6; clear hcells6
                have HROW := Lib.hid hrow; clear hrow
                have hki : (k : Int) ≤ (tb.size : Int) := by omega
                have hk0 : (0 : Int) ≤ (k : Int) := by omega
                have HWL := Lib.hid hwlen; clear hwlen
                go_wp2_with fail
                refine (refHeads_any (tb.extract 0 k) _ hhs).mono ?_
                rintro e w2 ⟨v2, rfl, hown2, hb2⟩
                have hrow2 := Row.of_own hown2
                have hcell2 := HCE.out.below hb2
                have hb2s := hb2.size
                clear hown2
                have HC2 := Lib.hid hcell2; clear hcell2
                generalize hhdl : heads (tb.extract 0 k).data.toList = hd at hrow2 hhl
                have HHL := Lib.hid hhdl; clear hhdl
                go_wp2_with (at_builtin; refine wpList_row_any sl22 rfl _ _ rfl wr.heap.size _ (bv hd) (by rfl) hrow2 A6 ws.length c6 (bv ws) (by rfl) (bv_length _) HC2.out (bv_one _) (by omega) (by omega) hb2s ?_; intro v3 w3 hrow3 hg3 hb3 hat3)
                rw [← bv_append] at hrow3
                obtain ⟨A3, c3', hv3, hcap3, hcells3⟩ := hrow3.shape
                rw [bv_length] at hv3 hcap3
                subst hv3
                have hln : (hd ++ ws).length ≤ 200000 := by
                  rw [bv_length] at hhl
                  rw [List.length_append]; omega
                have HC3 := Lib.hid hcells3; clear hcells3 hrow3
                refine (refCheck_n (hd ++ ws) _ rfl _ _ _ (by omega) HC3.out).mono ?_
                rintro e w5 ⟨rfl, hb5⟩
                have hb25 : Below wr.heap.size wr w5 := (hb2.trans hb3).trans (hb5.mono (hb2.trans hb3).size)
                have hb05 : Below w.heap.size w w5 := hbr0.trans (hb25.mono hbr0.size)
                have HC5 := Lib.hid (HCE.out.below hb25)
                clear hg3 hb3 hat3 hb5 hb25 HC3 HC2
                have HE2 : Hid (decErr s.data.toList = if chk (hd ++ ws) ≠ 1 then 61 else 0) := by
                  have h := HE.out
                  rw [HWS.out, ← HHD.out, HHL.out] at h
                  exact h
                by_cases h1 : chk (hd ++ ws) = 1
                · have he : decErr s.data.toList = 0 := by rw [HE2.out, if_neg (by rw [h1]; simp)]
                  have HE3 := Lib.hid he; clear he
                  have hne3 : (((chk (hd ++ ws) : Nat) : Int) != 1) = false := by rw [h1]; rfl
                  obtain ⟨q, hq⟩ : ∃ q, ws.length = q + 6 := ⟨ws.length - 6, by have := HWL.out; omega⟩
                  have HWLL := Lib.hid hq
                  rw [hq] at hcap6
                  have hqc : q + 6 ≤ c6 := hcap6
                  have hqi : (q : Int) ≤ (c6 : Int) := by omega
                  have hq0 : (0 : Int) ≤ (q : Int) := by omega
                  clear h1
                  go_wp2_with fail
                  go_quiet (fail)
                  go_wp2_with fail
                  go_ret3
                  have hwords : decWords s.data.toList = ws.take q := by
                    unfold decWords
                    rw [if_pos HE3.out]
                    unfold tailOf
                    rw [HAA.out, ← HTL2.out, show ((k : Int) + 1).toNat = k + 1 by omega, HWS.out]
                    congr 1
                    rw [List.length_drop]
                    have h1 : tb.data.toList.length = tb.size := by simp
                    have h2 := HWL.out
                    have h3 := HWLL.out
                    omega
                  have hheadw : decHead s.data.toList = tb.data.toList.take k := by
                    unfold decHead
                    rw [if_pos HE3.out]
                    unfold headOf
                    rw [HAA.out, ← HTL2.out, show (k : Int).toNat = k by omega]
                  refine decPost_ok HE3.out (by rw [HHD.out, hheadw]) (by rw [hwords, List.length_take]; have := HWLL.out; omega) (by omega) ?_ (below_drewN hb05 _)
                  rw [hwords]
                  have h := HC5.out.take q
                  have e : (bv ws).take q = bv (ws.take q) := by simp [bv, List.map_take]
                  rw [e] at h
                  exact h.drewN _
                · have he : decErr s.data.toList = 61 := by rw [HE2.out, if_pos h1]
                  have HE3 := Lib.hid he; clear he
                  have hne3 : (((chk (hd ++ ws) : Nat) : Int) != 1) = true := by rw [bne_iff_ne]; omega
                  clear h1
                  go_wp2_with fail
                  go_ret3
                  exact decPost_err HE3.out (by decide) hb05
      · obtain rfl : m = -1 := by omega
        have hlast : IsLast tb.data.toList (-1) := ⟨by omega, by omega, fun h => by omega, HNF.out⟩
        have he := ref_bad s HLIM.out (-1) (by rw [← HTL.out]; exact hlast) tb.size (by rw [← HTL.out]; simp) (.inr (.inl (by decide)))
        have HE := Lib.hid he; clear he hlast
        cases ok with
        | false =>
          go_wp2_with fail
          go_ret3
          exact decPost_err HE.out (by decide) hb1
        | true =>
          go_wp2_with fail
          go_ret3
          exact decPost_err HE.out (by decide) hb1
end Go.Proofs.YtnkhbhkmllnniaaDoor
