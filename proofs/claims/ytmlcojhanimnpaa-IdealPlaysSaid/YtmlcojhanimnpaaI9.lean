/- Pay. -/
import Derived.Test.YtmlcojhanimnpaaI8
namespace Go.Proofs.Ytmlcojhanimnpaa
open Go.RowKit

set_option maxRecDepth 100000 in
set_option maxHeartbeats 2000000 in
theorem pay_any (p c d : Nat) (v : Value) (vs : List Value) (s : Led) (src dst : ByteArray) (n k : Int) (w : World) (hs : Inv s) (h : LedAt w p c d v vs s) :
    Calls Try.prog 29 #[.pointer (some ⟨p, 0, none⟩), .string src, .string dst, .int .i64 n, .int .i64 k] w (OpP w p c d v (pay s src dst n k).1 (pay s src dst n k).2) := by
  obtain ⟨c0, c1, -, -⟩ := h.cell
  have H := Lib.hid h
  have HS := Lib.hid hs
  cases hb : both s src dst with
  | false =>
    have hr : pay s src dst n k = (5, s) := by unfold pay; rw [if_pos hb]
    rw [hr]
    have HB := Lib.hid hb
    clear h hs hr hb
    go_enter Try.func29, Try.ntmps29
    go_wp2_with fail
    refine (both_any c d s src dst _ H.out.mc).mono ?_
    rintro e w1 ⟨rfl, hb1⟩
    rw [HB.out]
    go_wp2_with fail
    go_ret
    exact OpP.same H.out hb1
  | true =>
    have HB := Lib.hid hb
    by_cases he : src = dst
    · have hr : pay s src dst n k = (2, s) := by unfold pay; rw [if_neg (by rw [hb]; simp), if_pos he]
      rw [hr]
      have hq := tl_t he
      clear h hs hr hb he
      go_enter Try.func29, Try.ntmps29
      go_wp2_with fail
      refine (both_any c d s src dst _ H.out.mc).mono ?_
      rintro e w1 ⟨rfl, hb1⟩
      rw [HB.out]
      go_wp2_with fail
      go_ret
      exact OpP.same H.out hb1
    · have hq := tl_f he
      cases ho : (okCoin n && okCoin k) with
      | false =>
        have hr : pay s src dst n k = (40, s) := by unfold pay; rw [if_neg (by rw [hb]; simp), if_neg he, if_pos ho]
        rw [hr]
        have HO := Lib.hid ho
        clear h hs hr hb he ho
        go_enter Try.func29, Try.ntmps29
        go_wp2_with fail
        refine (both_any c d s src dst _ H.out.mc).mono ?_
        rintro e w1 ⟨rfl, hb1⟩
        rw [HB.out]
        go_wp2_with fail
        refine (right_two n k _).mono ?_
        rintro e w' ⟨rfl, rfl⟩
        rw [HO.out]
        go_wp2_with fail
        go_ret
        exact OpP.same H.out (hb1.alloc hb1.size _)
      | true =>
        have HO := Lib.hid ho
        have hon : okCoin n = true ∧ okCoin k = true := by simpa using ho
        rw [okCoin_iff, okCoin_iff] at hon
        unfold maxCoin at hon
        obtain ⟨⟨n0, n1⟩, k0, k1⟩ := hon
        have hg0 : 0 ≤ (mget s.coins src).getD 0 := getD_pos hs.pos src
        have hg1 : (mget s.coins src).getD 0 ≤ 2100000000000000 := by
          cases hm : mget s.coins src with
          | none => simp
          | some x => have := (coin_le hs hm).2; unfold maxCoin at this; simpa using this
        have hd0 : 0 ≤ (mget s.coins dst).getD 0 := getD_pos hs.pos dst
        have hd1 : (mget s.coins dst).getD 0 ≤ 2100000000000000 := by
          cases hm : mget s.coins dst with
          | none => simp
          | some x => have := (coin_le hs hm).2; unfold maxCoin at this; simpa using this
        obtain ⟨g1, hg⟩ : ∃ g1, (mget s.coins src).getD 0 = g1 := ⟨_, rfl⟩
        obtain ⟨g2, hg2⟩ : ∃ g2, (mget s.coins dst).getD 0 = g2 := ⟨_, rfl⟩
        rw [hg] at hg0 hg1
        rw [hg2] at hd0 hd1
        have n1' : ¬ 2100000000000000 < n := by omega
        have k1' : ¬ 2100000000000000 < k := by omega
        have g1' : ¬ 2100000000000000 < g1 := by omega
        have g2' : ¬ 2100000000000000 < g2 := by omega
        have HG := Lib.hid hg
        have HG2 := Lib.hid hg2
        by_cases hf : g1 < n + k
        · have hr : pay s src dst n k = (170, s) := by unfold pay; rw [if_neg (by rw [hb]; simp), if_neg he, if_neg (by rw [ho]; simp), if_pos (by rw [hg]; exact hf)]
          rw [hr]
          clear h hs hr hb he ho hg hg2 n1 k1 hg1 hd1
          go_enter Try.func29, Try.ntmps29
          go_wp2_with fail
          refine (both_any c d s src dst _ H.out.mc).mono ?_
          rintro e w1 ⟨rfl, hb1⟩
          rw [HB.out]
          go_wp2_with fail
          refine (right_two n k _).mono ?_
          rintro e w' ⟨rfl, rfl⟩
          rw [HO.out]
          have H2 := Lib.hid (H.out.below hb1)
          obtain ⟨f0, f1, -, -⟩ := H2.out.cellA
          have hl2 := fun o => look_coins (H2.out.mc.alloc o) src false
          simp only [Bool.false_eq_true, if_false, HG.out] at hl2
          go_wp2_with fail
          go_ret
          exact OpP.same H.out (hb1.alloc hb1.size _)
        · have hr : pay s src dst n k = (0, { s with coins := payTo s src dst n k }) := by unfold pay; rw [if_neg (by rw [hb]; simp), if_neg he, if_neg (by rw [ho]; simp), if_neg (by rw [hg]; exact hf)]
          rw [hr]
          have hpt : payTo s src dst n k = mset (mset s.coins src (g1 - (n + k))) dst (g2 + n) := by unfold payTo; simp only []; rw [mget_mset_other _ _ (Ne.symm he), hg, hg2]
          rw [hpt]
          have HNE := Lib.hid he
          have hlo : 0 ≤ g1 - (n + k) := by omega
          have hhi : ¬ 2100000000000000 < g1 - (n + k) := by omega
          clear h hs hr hb he ho hg hg2 n1 k1 hg1 hd1 hpt
          go_enter Try.func29, Try.ntmps29
          go_wp2_with fail
          refine (both_any c d s src dst _ H.out.mc).mono ?_
          rintro e w1 ⟨rfl, hb1⟩
          rw [HB.out]
          go_wp2_with fail
          refine (right_two n k _).mono ?_
          rintro e w' ⟨rfl, rfl⟩
          rw [HO.out]
          have H2 := Lib.hid (H.out.below hb1)
          obtain ⟨f0, f1, -, -⟩ := H2.out.cellA
          have hl2 := fun o => look_coins (H2.out.mc.alloc o) src false
          simp only [Bool.false_eq_true, if_false, HG.out] at hl2
          have tok1 : True := trivial
          go_wp2_with (first
            | (at_mapUpdate; have _t := tok1; refine wpList_supd _ rfl _ _ _ 64 rfl 9 2 Try.underlying64 Try.underlying9 c (menc encI s.coins) rfl (H2.out.mc.alloc _) src (encI (g1 - (n + k))) rfl rfl ?_; intro w3 hm3 hg3; clear tok1; rw [mset_menc] at hm3; have L3 := (H2.out.alloc _).coins hm3 hg3; obtain ⟨x0, x1, -, -⟩ := L3.cell; have hl3 := look_coins L3.mc dst false; simp only [Bool.false_eq_true, if_false, mget_mset_other _ _ (Ne.symm HNE.out), HG2.out] at hl3; have H3 := Lib.hid L3; have HG3 := Lib.hid hg3; clear L3 hm3 hg3; have tok2 : True := trivial)
            | (at_mapUpdate; have _t := tok2; refine wpList_supd _ rfl _ _ _ 64 rfl 9 2 Try.underlying64 Try.underlying9 c _ rfl H3.out.mc dst (encI (g2 + n)) rfl rfl ?_; intro w4 hm4 hg4; clear tok2))
          rw [mset_menc] at hm4
          go_ret
          exact coinsP H.out (hb1.alloc hb1.size _) hm4 (HG3.out.trans hg4)
end Go.Proofs.Ytmlcojhanimnpaa
