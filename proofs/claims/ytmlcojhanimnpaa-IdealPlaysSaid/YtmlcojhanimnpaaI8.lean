/- A new ledger; Mint. -/
import Derived.Test.YtmlcojhanimnpaaI7
namespace Go.Proofs.Ytmlcojhanimnpaa
open Go.RowKit

theorem alloc2_n (w : World) (o1 o2 : Obj) : ((w.alloc o1).alloc o2).heap.size = w.heap.size + 2 := by simp
def NewP (w : World) (e : Ending) (w' : World) : Prop := ∃ p c d, e = .returned (.pointer (some ⟨p, 0, none⟩)) ∧ LedAt w' p c d (.slice none 0 0) [] led0 ∧ w.heap.size ≤ p ∧ w.heap.size ≤ c ∧ w.heap.size ≤ d ∧ Below w.heap.size w w'
theorem new_any (w : World) : Calls Try.prog 10 #[] w (NewP w) := by
  have hmm := @run_makeMap Try.prog
  have hfin : NewP w (.returned (.pointer (some ⟨w.heap.size + 1 + 1, 0, none⟩))) (((w.alloc (.map #[] 0)).alloc (.map #[] 0)).alloc (.cells #[.map (some w.heap.size), .map (some (w.heap.size + 1)), .slice none 0 0, .int .i64 0] 70)) := by
    have m1 : SMap (w.alloc (.map #[] 0)) w.heap.size [] := SMap.made w
    have m2 : SMap ((w.alloc (.map #[] 0)).alloc (.map #[] 0)) (w.heap.size + 1) [] := by
      have := SMap.made (w.alloc (.map #[] 0))
      rwa [show (w.alloc (.map #[] 0)).heap.size = w.heap.size + 1 by simp] at this
    refine ⟨w.heap.size + 1 + 1, w.heap.size, w.heap.size + 1, rfl, ⟨alloc3_new .., ((m1.alloc _).alloc _), m2.alloc _, by omega, World.ownsRow_nil _ _ _ _, rfl⟩, by omega, by omega, by omega, ?_⟩
    exact (((Below.refl _ _).alloc (Nat.le_refl _) _).alloc (by simp) _).alloc (by simp; omega) _
  have HF := Lib.hid hfin; clear hfin
  go_enter Try.func10, Try.ntmps10
  go_wp2
  go_ret
  exact HF.out

/-- What a call of the ledger leaves. -/
def OpP (w : World) (p c d : Nat) (v : Value) (err : Int) (s' : Led) (e : Ending) (w' : World) : Prop :=
  e = .returned (.int .i64 err) ∧ ∃ c' d' v' vs', LedAt w' p c' d' v' vs' s' ∧ Fr (fp p c d v) w w' ∧ ∀ i ∈ fp p c' d' v', i ∈ fp p c d v ∨ w.heap.size ≤ i
theorem OpP.same {w w' : World} {p c d : Nat} {v : Value} {vs : List Value} {s : Led} {err : Int} (h : LedAt w p c d v vs s) (hb : Below w.heap.size w w') : OpP w p c d v err s (.returned (.int .i64 err)) w' :=
  ⟨rfl, c, d, v, vs, h.below hb, Fr.below hb, fun _ hi => .inl hi⟩
/-- A store into the map of coins. -/
theorem LedAt.coins {w w' : World} {p c d : Nat} {v : Value} {vs : List Value} {s : Led} (h : LedAt w p c d v vs s) {l : List (ByteArray × Int)} (hm : SMap w' c (menc encI l)) (hg : w.grownBy w' (some c)) : LedAt w' p c d v vs { s with coins := l } := by
  have hcb : ∃ es k, w.heap[c]? = some (.map es k) := by obtain ⟨es, k, hb, -⟩ := h.mc; exact ⟨es, k, hb⟩
  obtain ⟨es, k, hcb⟩ := hcb
  have hne : ∀ (i : Nat) (cur : Array Value) (T : TypeId) (fr : Nat × Nat), w.heap[i]? = some (.cells cur T fr) → w'.heap[i]? = w.heap[i]? := by
    intro i cur T fr hi
    refine hg.block i (lt_of_block hi) fun e => ?_
    injection e with e
    subst e
    rw [hcb] at hi
    cases hi
  refine ⟨(hne p _ _ _ h.blk).trans h.blk, hm, h.md.block (hg.block d h.md.lt fun e => ?_), h.ne, ownsRow_block h.own fun g hgv => ?_, h.hv.kept fun g cur hg' => hne g _ _ _ hg'⟩
  · injection e with e; exact h.ne e.symm
  · rcases h.own.2 with ⟨hv, -⟩ | ⟨g', cap, cur, hv, -, hh, -⟩
    · rw [hv] at hgv; cases hgv
    · rw [hv] at hgv
      injection hgv with hgv
      have hgv' : g' = g := hgv
      subst hgv'
      exact hne g' _ _ _ hh
theorem LedAt.chans {w w' : World} {p c d : Nat} {v : Value} {vs : List Value} {s : Led} (h : LedAt w p c d v vs s) {l : List (ByteArray × Chan)} (hm : SMap w' d (menc encC l)) (hg : w.grownBy w' (some d)) : LedAt w' p c d v vs { s with chans := l } := by
  have hcb : ∃ es k, w.heap[d]? = some (.map es k) := by obtain ⟨es, k, hb, -⟩ := h.md; exact ⟨es, k, hb⟩
  obtain ⟨es, k, hcb⟩ := hcb
  have hne : ∀ (i : Nat) (cur : Array Value) (T : TypeId) (fr : Nat × Nat), w.heap[i]? = some (.cells cur T fr) → w'.heap[i]? = w.heap[i]? := by
    intro i cur T fr hi
    refine hg.block i (lt_of_block hi) fun e => ?_
    injection e with e
    subst e
    rw [hcb] at hi
    cases hi
  refine ⟨(hne p _ _ _ h.blk).trans h.blk, h.mc.block (hg.block c h.mc.lt fun e => ?_), hm, h.ne, ownsRow_block h.own fun g hgv => ?_, h.hv.kept fun g cur hg' => hne g _ _ _ hg'⟩
  · injection e with e; exact h.ne e
  · rcases h.own.2 with ⟨hv, -⟩ | ⟨g', cap, cur, hv, -, hh, -⟩
    · rw [hv] at hgv; cases hgv
    · rw [hv] at hgv
      injection hgv with hgv
      have hgv' : g' = g := hgv
      subst hgv'
      exact hne g' _ _ _ hh
theorem coinsP {w w1 w' : World} {p c d : Nat} {v : Value} {vs : List Value} {s : Led} {err : Int} (h : LedAt w p c d v vs s) (hb : Below w.heap.size w w1) {l : List (ByteArray × Int)} (hm : SMap w' c (menc encI l)) (hg : w1.grownBy w' (some c)) :
    OpP w p c d v err { s with coins := l } (.returned (.int .i64 err)) w' := by
  refine ⟨rfl, c, d, v, vs, (h.below hb).coins hm hg, ?_, fun i hi => .inl hi⟩
  refine (Fr.below hb).trans (Fr.grown (F := [c]) hg fun k hk _ => ?_) fun i hi _ => ?_
  · injection hk with hk; subst hk; simp
  · simp at hi; subst hi; simp [fp]
set_option maxRecDepth 100000 in
set_option maxHeartbeats 2000000 in
theorem mint_any (p c d : Nat) (v : Value) (vs : List Value) (s : Led) (name : ByteArray) (n : Int) (w : World) (hs : Inv s) (h : LedAt w p c d v vs s) :
    Calls Try.prog 30 #[.pointer (some ⟨p, 0, none⟩), .string name, .int .i64 n] w (OpP w p c d v (mint s name n).1 (mint s name n).2) := by
  have hcell := h.cell
  obtain ⟨c0, c1, -, -⟩ := hcell
  obtain ⟨e0, e1, -, -⟩ := h.cellA
  have hl1 := look_coins h.mc name true
  simp only [if_true] at hl1
  have H := Lib.hid h
  have HS := Lib.hid hs
  cases hn : namedB name with
  | false =>
    have hr : mint s name n = (2, s) := by unfold mint; rw [if_pos hn]
    rw [hr]
    have HN := Lib.hid hn
    clear h hs hr hn
    generalize (mget s.coins name).getD 0 = g1 at *
    generalize (mget s.coins name).isSome = g2 at *
    go_enter Try.func30, Try.ntmps30
    go_wp2_with fail
    refine (named_any _ _).mono ?_
    rintro e w' ⟨rfl, rfl⟩
    rw [HN.out]
    go_wp2_with fail
    go_ret
    exact OpP.same H.out (Below.refl _ _)
  | true =>
    have HN := Lib.hid hn
    cases ho : okCoin n with
    | false =>
      have hr : mint s name n = (40, s) := by unfold mint; rw [if_neg (by rw [hn]; simp), if_pos (by rw [ho]; rfl)]
      rw [hr]
      have HO := Lib.hid ho
      clear h hs hr hn ho
      generalize (mget s.coins name).getD 0 = g1 at *
      generalize (mget s.coins name).isSome = g2 at *
      go_enter Try.func30, Try.ntmps30
      go_wp2_with fail
      refine (named_any _ _).mono ?_
      rintro e w' ⟨rfl, rfl⟩
      rw [HN.out]
      go_wp2_with fail
      refine (right_one n _).mono ?_
      rintro e w' ⟨rfl, rfl⟩
      rw [HO.out]
      go_wp2_with fail
      go_ret
      exact OpP.same H.out ((Below.refl _ _).alloc (Nat.le_refl _) _)
    | true =>
      have HO := Lib.hid ho
      have hon := okCoin_iff.1 ho
      unfold maxCoin at hon
      obtain ⟨n0, n1⟩ := hon
      have ht0 : 0 ≤ total s := by have h1 := sum_coins hs; have h2 := sum_caps hs; unfold total; omega
      have ht1 : total s ≤ 2100000000000000 := hs.tot
      obtain ⟨T, hT⟩ : ∃ T, total s = T := ⟨_, rfl⟩
      rw [hT] at ht0 ht1
      have HT := Lib.hid hT
      have n1' : ¬ 2100000000000000 < n := by omega
      have t1' : ¬ 2100000000000000 < T := by omega
      clear n1 ht1
      cases ho2 : okCoin (T + n) with
      | false =>
        have hr : mint s name n = (40, s) := by unfold mint; rw [if_neg (by rw [hn]; simp), if_pos (by rw [ho, hT, ho2]; rfl)]
        rw [hr]
        have HO2 := Lib.hid ho2
        clear h hs hr hn ho ho2 hT
        generalize (mget s.coins name).getD 0 = g1 at *
        generalize (mget s.coins name).isSome = g2 at *
        go_enter Try.func30, Try.ntmps30
        go_wp2_with fail
        refine (named_any _ _).mono ?_
        rintro e w' ⟨rfl, rfl⟩
        rw [HN.out]
        go_wp2_with fail
        refine (right_one n _).mono ?_
        rintro e w' ⟨rfl, rfl⟩
        rw [HO.out]
        go_wp2_with fail
        refine (total_any c d s _ (mem_pos HS.out) (fun q hq => by have := (mem_ch HS.out q hq).cap; omega) HS.out.tot (H.out.mc.alloc _) (H.out.md.alloc _)).mono ?_
        rintro e w2 ⟨rfl, hb2⟩
        rw [HT.out]
        have hbb : Below w.heap.size w w2 := ((Below.refl _ _).alloc (Nat.le_refl _) _).trans (hb2.mono (by simp))
        have H2 := Lib.hid (H.out.below hbb)
        have HBB := Lib.hid hbb
        have hcell := H2.out.cell
        obtain ⟨d0, d1, -, -⟩ := hcell
        obtain ⟨f0, f1, -, -⟩ := H2.out.cellA
        clear hb2 hbb
        go_wp2_with fail
        refine (right_one (T + n) _).mono ?_
        rintro e w' ⟨rfl, rfl⟩
        rw [HO2.out]
        go_wp2_with fail
        go_ret
        exact OpP.same H.out (HBB.out.alloc HBB.out.size _)
      | true =>
        have HO2 := Lib.hid ho2
        cases hth : (mget s.coins name).isSome with
        | false =>
          by_cases h64 : 64 ≤ s.coins.length
          · have hr : mint s name n = (3, s) := by unfold mint; rw [if_neg (by rw [hn]; simp), if_neg (by rw [ho, hT, ho2]; simp), if_pos ⟨by simpa using hth, h64⟩]
            rw [hr]
            have h64I : (64 : Int) ≤ (s.coins.length : Int) := by omega
            rw [hth] at hl1
            clear h hs hr hn ho ho2 hT hth h64
            generalize (mget s.coins name).getD 0 = g1 at *
            go_enter Try.func30, Try.ntmps30
            go_wp2_with fail
            refine (named_any _ _).mono ?_
            rintro e w' ⟨rfl, rfl⟩
            rw [HN.out]
            go_wp2_with fail
            refine (right_one n _).mono ?_
            rintro e w' ⟨rfl, rfl⟩
            rw [HO.out]
            go_wp2_with fail
            refine (total_any c d s _ (mem_pos HS.out) (fun q hq => by have := (mem_ch HS.out q hq).cap; omega) HS.out.tot (H.out.mc.alloc _) (H.out.md.alloc _)).mono ?_
            rintro e w2 ⟨rfl, hb2⟩
            rw [HT.out]
            have hbb : Below w.heap.size w w2 := ((Below.refl _ _).alloc (Nat.le_refl _) _).trans (hb2.mono (by simp))
            have H2 := Lib.hid (H.out.below hbb)
            have HBB := Lib.hid hbb
            have hcell := H2.out.cell
            obtain ⟨d0, d1, -, -⟩ := hcell
            obtain ⟨f0, f1, -, -⟩ := H2.out.cellA
            clear hb2 hbb
            go_wp2_with fail
            refine (right_one (T + n) _).mono ?_
            rintro e w' ⟨rfl, rfl⟩
            rw [HO2.out]
            have hlen := fun o ty => (H2.out.mc.alloc o).len Try.underlying64 ty
            rw [menc_len] at hlen
            go_wp2_with fail
            go_ret
            exact OpP.same H.out (HBB.out.alloc HBB.out.size _)
          · have hr : mint s name n = (0, { s with coins := mset s.coins name ((mget s.coins name).getD 0 + n) }) := by unfold mint; rw [if_neg (by rw [hn]; simp), if_neg (by rw [ho, hT, ho2]; simp), if_neg (fun hx => h64 hx.2)]
            rw [hr]
            have h64I : ¬ (64 : Int) ≤ (s.coins.length : Int) := by omega
            rw [hth] at hl1
            have hg0 : 0 ≤ (mget s.coins name).getD 0 := getD_pos hs.pos name
            have hg1 : ¬ 2100000000000000 < (mget s.coins name).getD 0 := by
              cases hm : mget s.coins name with
              | none => simp
              | some x => have := (coin_le hs hm).2; unfold maxCoin at this; simp; omega
            obtain ⟨g1, hg⟩ : ∃ g1, (mget s.coins name).getD 0 = g1 := ⟨_, rfl⟩
            rw [hg] at hl1 hg0 hg1 ⊢
            have HG := Lib.hid hg
            clear h hs hr hn ho ho2 hT hth h64 hg
            go_enter Try.func30, Try.ntmps30
            go_wp2_with fail
            refine (named_any _ _).mono ?_
            rintro e w' ⟨rfl, rfl⟩
            rw [HN.out]
            go_wp2_with fail
            refine (right_one n _).mono ?_
            rintro e w' ⟨rfl, rfl⟩
            rw [HO.out]
            go_wp2_with fail
            refine (total_any c d s _ (mem_pos HS.out) (fun q hq => by have := (mem_ch HS.out q hq).cap; omega) HS.out.tot (H.out.mc.alloc _) (H.out.md.alloc _)).mono ?_
            rintro e w2 ⟨rfl, hb2⟩
            rw [HT.out]
            have hbb : Below w.heap.size w w2 := ((Below.refl _ _).alloc (Nat.le_refl _) _).trans (hb2.mono (by simp))
            have H2 := Lib.hid (H.out.below hbb)
            have HBB := Lib.hid hbb
            have hcell := H2.out.cell
            obtain ⟨d0, d1, -, -⟩ := hcell
            obtain ⟨f0, f1, -, -⟩ := H2.out.cellA
            clear hb2 hbb
            go_wp2_with fail
            refine (right_one (T + n) _).mono ?_
            rintro e w' ⟨rfl, rfl⟩
            rw [HO2.out]
            have hlen := fun o ty => (H2.out.mc.alloc o).len Try.underlying64 ty
            have hl2 := fun o => look_coins (H2.out.mc.alloc o) name false
            simp only [Bool.false_eq_true, if_false, HG.out] at hl2
            rw [menc_len] at hlen
            go_wp2_with (at_mapUpdate; refine wpList_supd _ rfl _ _ _ 64 rfl 9 2 Try.underlying64 Try.underlying9 c (menc encI s.coins) rfl (H2.out.mc.alloc _) name (encI (g1 + n)) rfl rfl ?_; intro w3 hm3 hg3)
            rw [mset_menc] at hm3
            go_ret
            exact coinsP H.out (HBB.out.alloc HBB.out.size _) hm3 hg3
        | true =>
          have hr : mint s name n = (0, { s with coins := mset s.coins name ((mget s.coins name).getD 0 + n) }) := by unfold mint; rw [if_neg (by rw [hn]; simp), if_neg (by rw [ho, hT, ho2]; simp), if_neg (fun hx => by have h1 := hx.1; cases hm : mget s.coins name with | none => rw [hm] at hth; cases hth | some x => rw [hm] at h1; cases h1)]
          rw [hr]
          rw [hth] at hl1
          have hg0 : 0 ≤ (mget s.coins name).getD 0 := getD_pos hs.pos name
          have hg1 : ¬ 2100000000000000 < (mget s.coins name).getD 0 := by
            cases hm : mget s.coins name with
            | none => simp
            | some x => have := (coin_le hs hm).2; unfold maxCoin at this; simp; omega
          obtain ⟨g1, hg⟩ : ∃ g1, (mget s.coins name).getD 0 = g1 := ⟨_, rfl⟩
          rw [hg] at hl1 hg0 hg1 ⊢
          have HG := Lib.hid hg
          clear h hs hr hn ho ho2 hT hth hg
          go_enter Try.func30, Try.ntmps30
          go_wp2_with fail
          refine (named_any _ _).mono ?_
          rintro e w' ⟨rfl, rfl⟩
          rw [HN.out]
          go_wp2_with fail
          refine (right_one n _).mono ?_
          rintro e w' ⟨rfl, rfl⟩
          rw [HO.out]
          go_wp2_with fail
          refine (total_any c d s _ (mem_pos HS.out) (fun q hq => by have := (mem_ch HS.out q hq).cap; omega) HS.out.tot (H.out.mc.alloc _) (H.out.md.alloc _)).mono ?_
          rintro e w2 ⟨rfl, hb2⟩
          rw [HT.out]
          have hbb : Below w.heap.size w w2 := ((Below.refl _ _).alloc (Nat.le_refl _) _).trans (hb2.mono (by simp))
          have H2 := Lib.hid (H.out.below hbb)
          have HBB := Lib.hid hbb
          have hcell := H2.out.cell
          obtain ⟨d0, d1, -, -⟩ := hcell
          obtain ⟨f0, f1, -, -⟩ := H2.out.cellA
          clear hb2 hbb
          go_wp2_with fail
          refine (right_one (T + n) _).mono ?_
          rintro e w' ⟨rfl, rfl⟩
          rw [HO2.out]
          have hl2 := fun o => look_coins (H2.out.mc.alloc o) name false
          simp only [Bool.false_eq_true, if_false, HG.out] at hl2
          go_wp2_with (at_mapUpdate; refine wpList_supd _ rfl _ _ _ 64 rfl 9 2 Try.underlying64 Try.underlying9 c (menc encI s.coins) rfl (H2.out.mc.alloc _) name (encI (g1 + n)) rfl rfl ?_; intro w3 hm3 hg3)
          rw [mset_menc] at hm3
          go_ret
          exact coinsP H.out (HBB.out.alloc HBB.out.size _) hm3 hg3
end Go.Proofs.Ytmlcojhanimnpaa
