/- Open. -/
import Derived.Test.YtmlcojhanimnpaaI9
namespace Go.Proofs.Ytmlcojhanimnpaa
open Go.RowKit

theorem chansP {w w1 w2 w' : World} {p c d : Nat} {v : Value} {vs : List Value} {s : Led} {err : Int} (h : LedAt w p c d v vs s) (hb : Below w.heap.size w w1) {l : List (ByteArray × Int)} {l2 : List (ByteArray × Chan)} (hm : SMap w2 c (menc encI l)) (hg : w1.grownBy w2 (some c))
    (hm2 : SMap w' d (menc encC l2)) (hg2 : w2.grownBy w' (some d)) : OpP w p c d v err { s with coins := l, chans := l2 } (.returned (.int .i64 err)) w' := by
  refine ⟨rfl, c, d, v, vs, ((h.below hb).coins hm hg).chans hm2 hg2, ?_, fun i hi => .inl hi⟩
  have h1 : Fr (fp p c d v) w w2 := (Fr.below hb).trans (Fr.grown (F := [c]) hg fun k hk _ => by injection hk with hk; subst hk; simp) fun i hi _ => by simp at hi; subst hi; simp [fp]
  exact h1.trans (Fr.grown (F := [d]) hg2 fun k hk _ => by injection hk with hk; subst hk; simp) fun i hi _ => by simp at hi; subst hi; simp [fp]
theorem look_chanX {w : World} {b : Nat} {l : List (ByteArray × Chan)} (h : SMap w b (menc encC l)) (key : ByteArray) : ∃ cc : Chan, (mget l key).getD chan0 = cc ∧
    (Instr.lookup 65 (.map (some b)) (.string key) true).run Try.prog w = .ok (.tuple #[.agg #[.string cc.name, .string cc.a, .string cc.b, .int .i64 cc.cap, .int .i64 cc.hasA, .int .i64 cc.hasB], .bool (mget l key).isSome]) w :=
  ⟨_, rfl, look_chans h key true⟩
set_option maxRecDepth 100000 in
set_option maxHeartbeats 4000000 in
theorem open_any (p c d : Nat) (v : Value) (vs : List Value) (s : Led) (name a b : ByteArray) (cap push k : Int) (w : World) (hs : Inv s) (h : LedAt w p c d v vs s) :
    Calls Try.prog 31 #[.pointer (some ⟨p, 0, none⟩), .string name, .string a, .string b, .int .i64 cap, .int .i64 push, .int .i64 k] w (OpP w p c d v (openCh s name a b cap push k).1 (openCh s name a b cap push k).2) := by
  obtain ⟨R, hR⟩ : ∃ R, openCh s name a b cap push k = R := ⟨_, rfl⟩
  rw [hR]
  have HR := Lib.hid hR; clear hR
  obtain ⟨c0, c1, -, -⟩ := h.cell
  obtain ⟨e0, e1, -, -⟩ := h.cellA
  obtain ⟨cc, -, hl1⟩ := look_chanX h.md name
  have hth : ∃ th, (mget s.chans name).isSome = th := ⟨_, rfl⟩
  obtain ⟨th, hth⟩ := hth
  rw [hth] at hl1
  have H := Lib.hid h
  have HS := Lib.hid hs
  have HTH := Lib.hid hth
  clear h hs hth
  go_enter Try.func31, Try.ntmps31
  go_wp2_with fail
  refine (milli_any cap _).mono ?_
  rintro e w' ⟨rfl, rfl⟩
  have hm : ∃ m er : Int, (if okCoin cap = true then (Value.tuple #[.int .i64 (cap * 1000), .int .i64 0]) else .tuple #[.int .i64 0, .int .i64 40]) = .tuple #[.int .i64 m, .int .i64 er] ∧ ((okCoin cap = true ∧ m = cap * 1000 ∧ er = 0) ∨ (okCoin cap = false ∧ m = 0 ∧ er = 40)) := by
    cases okCoin cap
    · exact ⟨0, 40, rfl, .inr ⟨rfl, rfl, rfl⟩⟩
    · exact ⟨cap * 1000, 0, rfl, .inl ⟨rfl, rfl, rfl⟩⟩
  obtain ⟨m, er, hm, hmer⟩ := hm
  rw [hm]
  have HMER := Lib.hid hmer
  clear hm hmer
  go_wp2_with fail
  refine (named_any _ _).mono ?_
  rintro e w' ⟨rfl, rfl⟩
  cases hn : namedB name with
  | false =>
    have HN := Lib.hid hn; clear hn
    go_wp2_with fail
    go_ret
    have hr : R = (2, s) := by rw [← HR.out]; unfold openCh; rw [if_pos (.inl HN.out)]
    rw [hr]
    exact OpP.same H.out ((Below.refl _ _).alloc (Nat.le_refl _) _)
  | true =>
    have HN := Lib.hid hn; clear hn
    by_cases hab : a = b
    · have hq := tl_t hab
      have HAB := Lib.hid hab; clear hab
      go_wp2_with fail
      go_ret
      have hr : R = (2, s) := by rw [← HR.out]; unfold openCh; rw [if_pos (.inr HAB.out)]
      rw [hr]
      exact OpP.same H.out ((Below.refl _ _).alloc (Nat.le_refl _) _)
    · have hq := tl_f hab
      have HAB := Lib.hid hab; clear hab
      have hno1 : ¬ (namedB name = false ∨ a = b) := by rintro (h | h); rw [HN.out] at h; cases h; exact HAB.out h
      have HNO1 := Lib.hid hno1; clear hno1
      go_wp2_with fail
      refine (both_any c d s a b _ (H.out.mc.alloc _)).mono ?_
      rintro e w1 ⟨rfl, hb1⟩
      have hbb : Below w.heap.size w w1 := ((Below.refl _ _).alloc (Nat.le_refl _) _).trans (hb1.mono (by simp))
      have HBB := Lib.hid hbb
      have H1 := Lib.hid (H.out.below hbb)
      clear hb1 hbb c0 c1 e0 e1 hl1
      obtain ⟨c0, c1, -, -⟩ := H1.out.cell
      obtain ⟨e0, e1, -, -⟩ := H1.out.cellA
      cases hb : both s a b with
      | false =>
        have HB := Lib.hid hb; clear hb
        go_wp2_with fail
        go_ret
        have hr : R = (5, s) := by rw [← HR.out]; unfold openCh; rw [if_neg HNO1.out, if_pos HB.out]
        rw [hr]
        exact OpP.same H.out HBB.out
      | true =>
        have hno2 : ¬ both s a b = false := by rw [hb]; simp
        have HNO2 := Lib.hid hno2
        clear hb hno2
        cases th with
        | true =>
          go_wp2_with fail
          go_ret
          have hr : R = (6, s) := by rw [← HR.out]; unfold openCh; rw [if_neg HNO1.out, if_neg HNO2.out, if_pos HTH.out]
          rw [hr]
          exact OpP.same H.out HBB.out
        | false =>
          have hno3 : ¬ (mget s.chans name).isSome = true := by rw [HTH.out]; simp
          have HNO3 := Lib.hid hno3; clear hno3
          have h40 : ¬ (1 ≤ cap ∧ cap ≤ maxCoin ∧ okCoin k = true ∧ 0 ≤ push ∧ push ≤ cap * 1000) → R = (40, s) := by
            intro hx
            rw [← HR.out]; unfold openCh; rw [if_neg HNO1.out, if_neg HNO2.out, if_neg HNO3.out, if_pos hx]
          have H40 := Lib.hid h40; clear h40
          rcases HMER.out with ⟨hok, rfl, rfl⟩ | ⟨hok, rfl, rfl⟩
          · have hok' := okCoin_iff.1 hok
            unfold maxCoin at hok'
            obtain ⟨p0, p1⟩ := hok'
            have p1' : ¬ 2100000000000000 < cap := by omega
            have HP1 := Lib.hid p1
            clear hok HMER p1
            by_cases h1 : cap < 1
            · go_wp2_with fail
              go_ret
              have hr : R = (40, s) := H40.out (by rintro ⟨g1, -⟩; omega)
              rw [hr]
              exact OpP.same H.out HBB.out
            · go_wp2_with fail
              refine (right_one k _).mono ?_
              rintro e w' ⟨rfl, rfl⟩
              cases hk : okCoin k with
              | false =>
                have HK := Lib.hid hk; clear hk
                go_wp2_with fail
                go_ret
                have hr : R = (40, s) := H40.out (by rintro ⟨-, -, g1, -⟩; rw [HK.out] at g1; cases g1)
                rw [hr]
                exact OpP.same H.out (HBB.out.alloc HBB.out.size _)
              | true =>
                have HK := Lib.hid hk
                have hk' := okCoin_iff.1 hk
                unfold maxCoin at hk'
                obtain ⟨k0, k1⟩ := hk'
                have k1' : ¬ 2100000000000000 < k := by omega
                clear hk k1
                by_cases h2 : push < 0
                · go_wp2_with fail
                  go_ret
                  have hr : R = (40, s) := H40.out (by rintro ⟨-, -, -, g1, -⟩; omega)
                  rw [hr]
                  exact OpP.same H.out (HBB.out.alloc HBB.out.size _)
                · by_cases h3 : cap * 1000 < push
                  · have h3' : decide (cap * 1000 < push) = true := by simpa using h3
                    clear h3
                    go_wp2_with fail
                    go_ret
                    have hr : R = (40, s) := H40.out (by rintro ⟨-, -, -, -, g1⟩; have := of_decide_eq_true h3'; omega)
                    rw [hr]
                    exact OpP.same H.out (HBB.out.alloc HBB.out.size _)
                  · have hno4 : ¬ ¬ (1 ≤ cap ∧ cap ≤ maxCoin ∧ okCoin k = true ∧ 0 ≤ push ∧ push ≤ cap * 1000) := by
                      intro hx; exact hx ⟨by omega, HP1.out, HK.out, by omega, by omega⟩
                    have HNO4 := Lib.hid hno4; clear hno4
                    have hp0 : 0 ≤ cap * 1000 - push := by omega
                    have hp1 : ¬ 2100000000000000000 < cap * 1000 - push := by omega
                    have hlen := fun o ty => (H1.out.md.alloc o).len Try.underlying65 ty
                    rw [menc_len] at hlen
                    by_cases h256 : 256 ≤ s.chans.length
                    · have h256I : (256 : Int) ≤ (s.chans.length : Int) := by omega
                      have H256 := Lib.hid h256; clear h256
                      go_wp2_with fail
                      go_ret
                      have hr : R = (3, s) := by rw [← HR.out]; unfold openCh; rw [if_neg HNO1.out, if_neg HNO2.out, if_neg HNO3.out, if_neg HNO4.out, if_pos H256.out]
                      rw [hr]
                      exact OpP.same H.out (HBB.out.alloc HBB.out.size _)
                    · have h256I : ¬ (256 : Int) ≤ (s.chans.length : Int) := by omega
                      have H256 := Lib.hid h256; clear h256
                      have hg0 : 0 ≤ (mget s.coins a).getD 0 := getD_pos HS.out.pos a
                      have hg1 : (mget s.coins a).getD 0 ≤ 2100000000000000 := by
                        cases hm : mget s.coins a with
                        | none => simp
                        | some x => have := (coin_le HS.out hm).2; unfold maxCoin at this; simpa using this
                      obtain ⟨g1, hg⟩ : ∃ g1, (mget s.coins a).getD 0 = g1 := ⟨_, rfl⟩
                      rw [hg] at hg0 hg1
                      have g1' : ¬ 2100000000000000 < g1 := by omega
                      have HG := Lib.hid hg
                      have hl2 := fun o => look_coins (H1.out.mc.alloc o) a false
                      simp only [Bool.false_eq_true, if_false, hg] at hl2
                      clear hg hg1
                      by_cases hf : g1 < cap + k
                      · have HF := Lib.hid hf
                        go_wp2_with fail
                        go_ret
                        have hr : R = (170, s) := by rw [← HR.out]; unfold openCh; rw [if_neg HNO1.out, if_neg HNO2.out, if_neg HNO3.out, if_neg HNO4.out, if_neg H256.out, if_pos (by rw [HG.out]; exact HF.out)]
                        rw [hr]
                        exact OpP.same H.out (HBB.out.alloc HBB.out.size _)
                      · have HF := Lib.hid hf
                        have hlo : 0 ≤ g1 - (cap + k) := by omega
                        have hhi : ¬ 2100000000000000 < g1 - (cap + k) := by omega
                        have tok1 : True := trivial
                        go_wp2_with (first
                          | (at_mapUpdate; have _t := tok1; refine wpList_supd _ rfl _ _ _ 64 rfl 9 2 Try.underlying64 Try.underlying9 c (menc encI s.coins) rfl (H1.out.mc.alloc _) a (encI (g1 - (cap + k))) rfl rfl ?_; intro w3 hm3 hg3; clear tok1; rw [mset_menc] at hm3; have L3 := (H1.out.alloc _).coins hm3 hg3; obtain ⟨x0, x1, -, -⟩ := L3.cell; have H3 := Lib.hid L3; have HM3 := Lib.hid hm3; have HG3 := Lib.hid hg3; clear L3 hm3 hg3; have tok2 : True := trivial)
                          | (at_mapUpdate; have _t := tok2; refine wpList_supd _ rfl _ _ _ 65 rfl 9 87 Try.underlying65 Try.underlying9 d _ rfl H3.out.md name (encC ⟨name, a, b, cap, cap * 1000 - push, push⟩) rfl rfl ?_; intro w4 hm4 hg4; clear tok2))
                        rw [mset_menc] at hm4
                        go_ret
                        have hr : R = (0, { s with coins := mset s.coins a (g1 - (cap + k)), chans := mset s.chans name ⟨name, a, b, cap, cap * 1000 - push, push⟩ }) := by
                          rw [← HR.out]; unfold openCh; rw [if_neg HNO1.out, if_neg HNO2.out, if_neg HNO3.out, if_neg HNO4.out, if_neg H256.out, if_neg (by rw [HG.out]; have := HF.out; omega), HG.out]
                        rw [hr]
                        exact chansP H.out (HBB.out.alloc HBB.out.size _) HM3.out HG3.out hm4 hg4
          · have hr : R = (40, s) := H40.out (by
              rintro ⟨g1, g2, -⟩
              have := okCoin_iff.2 ⟨(by omega : 0 ≤ cap), g2⟩
              rw [hok] at this; cases this)
            clear hok HMER
            go_wp2_with fail
            go_ret
            rw [hr]
            exact OpP.same H.out HBB.out
end Go.Proofs.Ytmlcojhanimnpaa
