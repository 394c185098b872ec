/- BechKnown: the call gives true. -/
import Derived.Test.YtnkhbhkmllnniaaDoorT27
import Derived.Deep.DeepCutAuto
import Derived.Deep.RegionWith
namespace Go.Proofs.YtnkhbhkmllnniaaDoor
open Go.RowKit Bech

def strs (f : Nat → List UInt8) (n : Nat) (b : Nat) (w : World) : Prop := ∀ k, k < n → w.cell? ⟨b, k, none⟩ = some (.string ⟨(f k).toArray⟩)
theorem strs.below {f : Nat → List UInt8} {n b : Nat} {w w' : World} (h : strs f n b w) (hb : Below w.heap.size w w') : strs f n b w' := fun k hk => cell_below hb (h k hk)

theorem zrow_kept {w w' : World} {n : Nat} (hb : Below (w.alloc (zrow n)).drew.heap.size (w.alloc (zrow n)).drew w') : Cells w' (some ⟨w.heap.size, 0, none⟩) (bv (rl n)) := (zrow_cells w n).drew.below hb

theorem join_a {w w' w'' : World} {n : Nat} (h : Below w.drew.heap.size w.drew w') (h2 : Below (w'.alloc (zrow n)).heap.size (w'.alloc (zrow n)) w'') : Below w.heap.size w w'' := by
  have h' : Below w.heap.size w w' := ⟨h.os, h.tape, h.output, h.size, h.block⟩
  have h3 := h'.alloc h'.size (zrow n)
  exact h3.trans (h2.mono h3.size)
theorem join_b {w w' w'' : World} {n : Nat} (h : Below (w.alloc (zrow n)).drew.heap.size (w.alloc (zrow n)).drew w') (h2 : Below w'.heap.size w' w'') : Below w.heap.size w w'' := by
  have h' : Below (w.alloc (zrow n)).heap.size (w.alloc (zrow n)) w' := ⟨h.os, h.tape, h.output, h.size, h.block⟩
  have h0 : Below w.heap.size w (w.alloc (zrow n)) := (Below.refl _ _).alloc (Nat.le_refl _) _
  have h3 := h0.trans (h'.mono h0.size)
  exact h3.trans (h2.mono h3.size)

set_option maxRecDepth 100000 in
set_option maxHeartbeats 8000000 in
theorem bechKnown_walk (w : World) : Calls Tryd.prog 8 #[] w (LawPost w) := by
  go_enter Tryd.func8, Tryd.ntmps8
  go_wp2_with fail
  go_loopw [2] (fun i wr => ∃ k : Nat, k ≤ 7 ∧ i = .int .i64 k ∧ Below w.heap.size w wr ∧ strs goodT 7 w.heap.size wr) (fun i _ => 7 - (intOf i).toNat)
  case atStart =>
    refine ⟨0, by omega, rfl, (Below.refl _ _).alloc (Nat.le_refl _) _, fun k hk => ?_⟩
    simp only [World.cell?]
    rw [heap_alloc_new]
    rcases (by omega : k = 0 ∨ k = 1 ∨ k = 2 ∨ k = 3 ∨ k = 4 ∨ k = 5 ∨ k = 6) with rfl | rfl | rfl | rfl | rfl | rfl | rfl <;> rfl
  case round =>
    obtain ⟨k, hk, rfl, hbr, hst⟩ := hrel
    by_cases hlt : k < 7
    · have hc := hst k hlt
      obtain ⟨u, hu⟩ : ∃ u : ByteArray, u = ⟨(goodT k).toArray⟩ := ⟨_, rfl⟩
      have hue : decErr u.data.toList = 0 := by rw [hu]; exact good_err k hlt
      have hul : u.size ≤ 1000000 := by
        have h := good_len k hlt
        have h2 : u.data.toList.length = (goodT k).length := by rw [hu]
        simp at h2; omega
      rw [← hu] at hc
      have HU := Lib.hid hu; clear hu
      have HUE := Lib.hid hue; clear hue
      have HUL := Lib.hid hul; clear hul
      have HST := Lib.hid hst; clear hst
      have HC := Lib.hid hc
      go_wp2_with fail
      refine (back_good u _ HUL.out HUE.out).mono ?_
      rintro e w3 ⟨A3, c3, n3, h3, ws3, hwl3, hn3, hh3, he3, ht3, rfl, hc3, hb3⟩
      have HWL3 := Lib.hid hwl3
      have HE3 := Lib.hid he3
      have HT3 := Lib.hid ht3
      have HC3 := Lib.hid hc3
      have HN3 := Lib.hid hn3
      have HH3 := Lib.hid hh3
      have HB3 := Lib.hid hb3
      clear hwl3 he3 ht3 hc3 hb3 hn3 hh3 hc
      go_wp2_with fail
      refine (back_ok h3 ws3 n3 HWL3.out A3 c3 _ HH3.out HN3.out HC3.out HE3.out).mono ?_
      rintro e w4 ⟨t4, ht4, -, rfl, hb4⟩
      have ht5 : t4 = ⟨(u.data.toList.map lower).toArray⟩ := by
        rw [← HT3.out, ← ht4]
      subst ht5
      have hbr4 := HB3.out.trans (hb4.mono HB3.out.size)
      have hc := cell_below hbr4 HC.out
      have HB4 := Lib.hid hbr4
      clear ht4 hb4 hbr4
      go_wp2_with fail
      refine (small_any u _ HUL.out).mono ?_
      rintro e w5 ⟨rfl, hb5⟩
      have hbr5 := HB4.out.trans (hb5.mono HB4.out.size)
      have HB5 := Lib.hid (hbr.trans (hbr5.mono hbr.size))
      have HS5 := Lib.hid (HST.out.below hbr5)
      clear hb5 hbr5 hc
      go_wp2_with fail
      go_roundw
      case rel => exact ⟨k + 1, by omega, by go_num, HB5.out, HS5.out⟩
      case measure => simp [intOf]; omega
    · clear hst hk
      go_wp2_with fail
      obtain ⟨wo, hwo⟩ : ∃ wo : World, wo = wr := ⟨_, rfl⟩
      subst hwo
      go_loopw [9] (fun i wr => ∃ k : Nat, k ≤ 15 ∧ i = .int .i64 k ∧ Below w.heap.size w wr ∧ strs badT 15 wo.heap.size wr) (fun i _ => 15 - (intOf i).toNat)
      case atStart =>
        refine ⟨0, by omega, rfl, hbr.alloc hbr.size _, fun k hk => ?_⟩
        simp only [World.cell?]
        rw [heap_alloc_new]
        rcases (by omega : k = 0 ∨ k = 1 ∨ k = 2 ∨ k = 3 ∨ k = 4 ∨ k = 5 ∨ k = 6 ∨ k = 7 ∨ k = 8 ∨ k = 9 ∨ k = 10 ∨ k = 11 ∨ k = 12 ∨ k = 13 ∨ k = 14) with rfl | rfl | rfl | rfl | rfl | rfl | rfl | rfl | rfl | rfl | rfl | rfl | rfl | rfl | rfl <;> rfl
      case round =>
        obtain ⟨j, hj, rfl, hbr, hst⟩ := hrel
        by_cases hlt : j < 15
        · have hc := hst j hlt
          obtain ⟨u, hu⟩ : ∃ u : ByteArray, u = ⟨(badT j).toArray⟩ := ⟨_, rfl⟩
          have hue : u.data.toList = badT j := by rw [hu]
          rw [← hu] at hc
          have HU := Lib.hid hue; clear hue hu
          have HST := Lib.hid hst; clear hst
          have hle := bad_len j hlt
          have HLE := Lib.hid hle; clear hle
          go_wp2_with fail
          refine (dec_bad (badT j) u _ 60 HU.out (by have := HLE.out; omega) (bad_err j hlt) (by decide)).mono ?_
          rintro e w3 ⟨A3, c3, rfl, hb3⟩
          have HB3 := Lib.hid (hbr.trans (hb3.mono hbr.size))
          have HS3 := Lib.hid (HST.out.below hb3)
          clear hb3 hc
          go_wp2_with fail
          go_roundw
          case rel => exact ⟨j + 1, by omega, by go_num, HB3.out, HS3.out⟩
          case measure => simp [intOf]; omega
        · clear hst
          have HB := Lib.hid hbr; clear hbr
          go_wp2_with fail
          refine (dec_bad _ _ _ 61 rfl (by decide) dec_m (by decide)).mono ?_
          rintro e w1 ⟨A1, c1, rfl, hb1⟩
          have HB1 := Lib.hid (HB.out.trans (hb1.mono HB.out.size)); clear hb1
          go_wp2_with fail
          refine (dec_bad _ _ _ 61 rfl (by decide) dec_g (by decide)).mono ?_
          rintro e w2 ⟨A2, c2, rfl, hb2⟩
          have HB2 := Lib.hid (HB1.out.trans (hb2.mono HB1.out.size)); clear hb2
          go_wp2_with fail
          refine (enc_bad ⟨#[]⟩ [] 0 rfl none 0 _ 60 (by decide) (by decide) (Cells.nil _ _) enc_e (by decide)).mono ?_
          rintro e w3 ⟨rfl, hb3⟩
          have HB3 := Lib.hid (HB2.out.trans (hb3.mono HB2.out.size)); clear hb3
          go_wp2_with fail
          refine (enc_bad ⟨#[65]⟩ [] 0 rfl none 0 _ 60 (by decide) (by decide) (Cells.nil _ _) enc_a (by decide)).mono ?_
          rintro e w4 ⟨rfl, hb4⟩
          have HB4 := Lib.hid (HB3.out.trans (hb4.mono HB3.out.size)); clear hb4
          go_wp2_with fail
          refine (row_84 _).mono ?_
          rintro e w5 ⟨rfl, hb5⟩
          have HB5 := Lib.hid (HB4.out.trans (hb5.mono HB4.out.size)); clear hb5
          go_wp2_with fail
          refine (enc_bad (rowT 84) [] 0 rfl none 0 _ 60 (by decide) (by decide) (Cells.nil _ _) enc_84 (by decide)).mono ?_
          rintro e w6 ⟨rfl, hb6⟩
          have HB6 := Lib.hid (HB5.out.trans (hb6.mono HB5.out.size)); clear hb6
          go_wp2_with fail
          refine (enc_bad ⟨#[97]⟩ [32] 1 rfl _ 1 _ 60 (by decide) (by decide) ?_ enc_32 (by decide)).mono ?_
          · exact fun _ => ⟨_, rfl, fun j u hj => World.news_of_block (heap_alloc_new w6 _) j u hj⟩
          rintro e w7 ⟨rfl, hb7⟩
          have HB7 := Lib.hid ((HB6.out.alloc HB6.out.size _).trans (hb7.mono (by have := HB6.out.size; simp; omega))); clear hb7
          go_upto_region 23 with fail
          go_cut [28, 29] (fun a b wx => ∃ t : ByteArray, t.data.toList = encText (List.replicate 83 97) (rl 32678) ∧ a = .string t ∧ b = .int .i64 0 ∧ Below w7.heap.size w7 wx)
          case first =>
            have hmk : ∀ w, (Instr.makeSlice 22 (.int .i64 32678) (.int .i64 32678)).run Tryd.prog w = .ok (.slice (some ⟨w.heap.size, 0, none⟩) 32678 32678) (w.alloc (zrow 32678)) := make_z 32678 (by omega)
            go_region_with (first
              | (go_at_call 17; refine (row_83 _).mono ?_; rintro e w' ⟨rfl, hbr⟩)
              | (go_at_call 10; refine (long_enc _ _ (zrow_cells _ _)).mono ?_; rintro e w'' ⟨t, ht, rfl, hbe⟩)
              | (go_at_call 10; refine (long_enc _ _ (zrow_kept hbr)).mono ?_; rintro e w'' ⟨t, ht, rfl, hbe⟩))
            all_goals (go_wp2_with fail; go_meet; first | exact ⟨t, ht, rfl, rfl, join_a hbr hbe⟩ | exact ⟨t, ht, rfl, rfl, join_b hbr hbe⟩)
          case rest =>
            obtain ⟨t, ht, rfl, rfl, hb8⟩ := hcut
            have HT := Lib.hid ht; clear ht
            have HB8 := Lib.hid (HB7.out.trans (hb8.mono HB7.out.size)); clear hb8
            go_wp2_with fail
            refine (long_dec t _ HT.out).mono ?_
            rintro e w9 ⟨A9, c9, h9, rfl, hb9⟩
            have HB9 := Lib.hid (HB8.out.trans (hb9.mono HB8.out.size)); clear hb9
            go_upto_region 25 with fail
            go_cut [33, 34] (fun a b wx => a = .string ⟨#[]⟩ ∧ b = .int .i64 3 ∧ Below w9.heap.size w9 wx)
            case first =>
              have hmk : ∀ w, (Instr.makeSlice 22 (.int .i64 32679) (.int .i64 32679)).run Tryd.prog w = .ok (.slice (some ⟨w.heap.size, 0, none⟩) 32679 32679) (w.alloc (zrow 32679)) := make_z 32679 (by omega)
              go_region_with (first
                | (go_at_call 17; refine (row_83 _).mono ?_; rintro e w' ⟨rfl, hbr⟩)
                | (go_at_call 10; refine (long_bad _ _ (zrow_cells _ _)).mono ?_; rintro e w'' ⟨rfl, hbe⟩)
                | (go_at_call 10; refine (long_bad _ _ (zrow_kept hbr)).mono ?_; rintro e w'' ⟨rfl, hbe⟩))
              all_goals (go_wp2_with fail; go_meet; first | exact ⟨rfl, rfl, join_a hbr hbe⟩ | exact ⟨rfl, rfl, join_b hbr hbe⟩)
            case rest =>
              obtain ⟨rfl, rfl, hb10⟩ := hcut
              have HB10 := Lib.hid (HB9.out.trans (hb10.mono HB9.out.size)); clear hb10
              have hts := long_size t HT.out
              go_wp2_with fail
              refine (dec_bad _ _ _ 3 rfl ?_ (dec_long ?_) (by decide)).mono ?_
              · simp; omega
              · simp; omega
              rintro e w11 ⟨A11, c11, rfl, hb11⟩
              have HB11 := Lib.hid (HB10.out.trans (hb11.mono HB10.out.size)); clear hb11
              go_wp2_with fail
              refine (bits_is [255, 0] 2 rfl _ _ 8 5 true _ [31, 28, 0, 0] 4 rfl 0 (by decide) ?_ bits_1).mono ?_
              · exact fun _ => ⟨_, rfl, fun j u hj => World.news_of_block (heap_alloc_new w11 _) j u hj⟩
              rintro e w12 ⟨A12, c12, rfl, hc12, hb12⟩
              have hba12 : Below w11.heap.size w11 w12 := ((Below.refl _ _).alloc (Nat.le_refl _) _).trans (hb12.mono (by simp))
              have HB12 := Lib.hid (HB11.out.trans (hba12.mono HB11.out.size))
              have HC12 := Lib.hid hc12
              clear hb12 hba12 hc12
              go_wp2_with fail
              refine (bits_is [31, 28, 0, 0] 4 rfl _ _ 5 8 false _ [255, 0] 2 rfl 0 (by decide) ?_ bits_2).mono ?_
              · exact HC12.out
              rintro e w13 ⟨A13, c13, rfl, hc13, hb13⟩
              have hba13 := hb13
              have HB13 := Lib.hid (HB12.out.trans (hba13.mono HB12.out.size))
              have HC12 := Lib.hid (HC12.out.below hba13)
              have HC13 := Lib.hid hc13
              clear hb13 hba13 hc13
              go_wp2_with fail
              refine (bits_is [31, 29, 0, 0] 4 rfl _ _ 5 8 false _ [255, 64] 2 rfl 0 (by decide) ?_ bits_3).mono ?_
              · exact fun _ => ⟨_, rfl, fun j u hj => World.news_of_block (heap_alloc_new w13 _) j u hj⟩
              rintro e w14 ⟨A14, c14, rfl, hc14, hb14⟩
              have hba14 : Below w13.heap.size w13 w14 := ((Below.refl _ _).alloc (Nat.le_refl _) _).trans (hb14.mono (by simp))
              have HB14 := Lib.hid (HB13.out.trans (hba14.mono HB13.out.size))
              have HC12 := Lib.hid (HC12.out.below hba14)
              have HC13 := Lib.hid (HC13.out.below hba14)
              have HC14 := Lib.hid hc14
              clear hb14 hba14 hc14
              go_wp2_with fail
              refine (bits_is [31] 1 rfl _ _ 5 8 false _ [] 0 rfl 50 (by decide) ?_ bits_4).mono ?_
              · exact fun _ => ⟨_, rfl, fun j u hj => World.news_of_block (heap_alloc_new w14 _) j u hj⟩
              rintro e w15 ⟨A15, c15, rfl, hc15, hb15⟩
              have hba15 : Below w14.heap.size w14 w15 := ((Below.refl _ _).alloc (Nat.le_refl _) _).trans (hb15.mono (by simp))
              have HB15 := Lib.hid (HB14.out.trans (hba15.mono HB14.out.size))
              have HC12 := Lib.hid (HC12.out.below hba15)
              have HC13 := Lib.hid (HC13.out.below hba15)
              have HC14 := Lib.hid (HC14.out.below hba15)
              clear hb15 hba15 hc15
              go_wp2_with fail
              refine (bits_is [32] 1 rfl _ _ 5 8 true _ [] 0 rfl 50 (by decide) ?_ bits_5).mono ?_
              · exact fun _ => ⟨_, rfl, fun j u hj => World.news_of_block (heap_alloc_new w15 _) j u hj⟩
              rintro e w16 ⟨A16, c16, rfl, hc16, hb16⟩
              have hba16 : Below w15.heap.size w15 w16 := ((Below.refl _ _).alloc (Nat.le_refl _) _).trans (hb16.mono (by simp))
              have HB16 := Lib.hid (HB15.out.trans (hba16.mono HB15.out.size))
              have HC12 := Lib.hid (HC12.out.below hba16)
              have HC13 := Lib.hid (HC13.out.below hba16)
              have HC14 := Lib.hid (HC14.out.below hba16)
              clear hb16 hba16 hc16
              go_wp2_with fail
              refine (bits_is [1] 1 rfl _ _ 0 8 true _ [] 0 rfl 2 (by decide) ?_ bits_6).mono ?_
              · exact fun _ => ⟨_, rfl, fun j u hj => World.news_of_block (heap_alloc_new w16 _) j u hj⟩
              rintro e w17 ⟨A17, c17, rfl, hc17, hb17⟩
              have hba17 : Below w16.heap.size w16 w17 := ((Below.refl _ _).alloc (Nat.le_refl _) _).trans (hb17.mono (by simp))
              have HB17 := Lib.hid (HB16.out.trans (hba17.mono HB16.out.size))
              have HC12 := Lib.hid (HC12.out.below hba17)
              have HC13 := Lib.hid (HC13.out.below hba17)
              have HC14 := Lib.hid (HC14.out.below hba17)
              clear hb17 hba17 hc17
              go_wp2_with fail
              refine (bits_is [1] 1 rfl _ _ 8 9 true _ [] 0 rfl 2 (by decide) ?_ bits_7).mono ?_
              · exact fun _ => ⟨_, rfl, fun j u hj => World.news_of_block (heap_alloc_new w17 _) j u hj⟩
              rintro e w18 ⟨A18, c18, rfl, hc18, hb18⟩
              have hba18 : Below w17.heap.size w17 w18 := ((Below.refl _ _).alloc (Nat.le_refl _) _).trans (hb18.mono (by simp))
              have HB18 := Lib.hid (HB17.out.trans (hba18.mono HB17.out.size))
              have HC12 := Lib.hid (HC12.out.below hba18)
              have HC13 := Lib.hid (HC13.out.below hba18)
              have HC14 := Lib.hid (HC14.out.below hba18)
              clear hb18 hba18 hc18
              have hcv1 := conv_str (P := Tryd.prog) HC12.out c12 22 9 5 Tryd.underlying22 Tryd.underlying5 Tryd.underlying9
              have hcv2 := conv_str (P := Tryd.prog) HC13.out c13 22 9 5 Tryd.underlying22 Tryd.underlying5 Tryd.underlying9
              have hcv3 := conv_str (P := Tryd.prog) HC14.out c14 22 9 5 Tryd.underlying22 Tryd.underlying5 Tryd.underlying9
              simp only [List.length_cons, List.length_nil, Nat.zero_add, Nat.reduceAdd] at hcv1 hcv2 hcv3
              go_wp2_with fail
              refine (works_any _).mono ?_
              rintro e w19 ⟨rfl, hb19⟩
              go_wp2_with fail
              go_ret
              exact ⟨rfl, HB18.out.trans (hb19.mono HB18.out.size)⟩
end Go.Proofs.YtnkhbhkmllnniaaDoor
