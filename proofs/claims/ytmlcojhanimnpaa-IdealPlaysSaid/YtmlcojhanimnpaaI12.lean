/- Close. -/
import Derived.Test.YtmlcojhanimnpaaI11
import Derived.StillTailTactics
namespace Go.Proofs.Ytmlcojhanimnpaa
open Go.RowKit

theorem legSum_nonneg (p : Leg → Bool) (l : List Leg) (h : ∀ x ∈ l, 1 ≤ x.amt) : 0 ≤ legSum p l := by
  induction l with
  | nil => exact Int.le_refl _
  | cons x r ih =>
    have h1 := h x (List.mem_cons_self ..)
    have h2 := ih fun y hy => h y (List.mem_cons_of_mem _ hy)
    rw [legSum_cons]
    split <;> omega
theorem heldF_nonneg {s : Led} (h : Inv s) (k : ByteArray) : 0 ≤ heldF s.holds k := by
  have hall := h.hs
  unfold heldF
  generalize s.holds = L at hall
  induction L with
  | nil => exact Int.le_refl _
  | cons x r ih =>
    have h1 := legSum_nonneg (fun y => y.ch == k) x.legs fun y hy => (hall x (List.mem_cons_self ..) y hy).lo
    have h2 := ih fun y hy => hall y (List.mem_cons_of_mem _ hy)
    rw [holdSum_cons]
    omega
theorem cell_grown {w w' : World} {c : Nat} {a : Addr} {v : Value} (hg : w.grownBy w' (some c)) (hne : a.block ≠ c) (h : w.cell? a = some v) : w'.cell? a = some v :=
  (World.cell?_of_block (hg.block _ (cell_lt h) (by intro e; injection e with e; exact hne e))).trans h
set_option maxRecDepth 100000 in
set_option maxHeartbeats 8000000 in
theorem close_any (p c d : Nat) (v : Value) (vs : List Value) (s : Led) (name : ByteArray) (k : Int) (w : World) (hs : Inv s) (h : LedAt w p c d v vs s) :
    Calls Try.prog 28 #[.pointer (some ⟨p, 0, none⟩), .string name, .int .i64 k] w (OpP w p c d v (closeCh s name k).1 (closeCh s name k).2) := by
  obtain ⟨R, hR⟩ : ∃ R, closeCh s name k = R := ⟨_, rfl⟩
  rw [hR]
  have HR := Lib.hid hR; clear hR
  obtain ⟨A, cp, hv, -, hcells⟩ := own_shape h.own
  subst hv
  obtain ⟨e0, e1, e2, -⟩ := h.cellA
  have e1b : ∀ o o2, ((w.alloc o).alloc o2).cell? ⟨p, 1, none⟩ = some (.map (some d)) := fun o o2 => (h.alloc o).cellA.2.1 o2
  have e2b : ∀ o o2, ((w.alloc o).alloc o2).cell? ⟨p, 2, none⟩ = some (.slice A s.holds.length cp) := fun o o2 => (h.alloc o).cellA.2.2.1 o2
  obtain ⟨cc, hcc⟩ : ∃ cc : Chan, (mget s.chans name).getD chan0 = cc := ⟨_, rfl⟩
  have hl0 : ∀ o, (Instr.lookup 65 (.map (some d)) (.string name) true).run Try.prog (w.alloc o).drew = .ok (.tuple #[.agg #[.string cc.name, .string cc.a, .string cc.b, .int .i64 cc.cap, .int .i64 cc.hasA, .int .i64 cc.hasB], .bool (mget s.chans name).isSome]) (w.alloc o).drew := by
    intro o
    obtain ⟨cc', hcc', h2⟩ := look_chanX (SMap.drew (h.md.alloc o)) name
    rw [hcc] at hcc'; subst hcc'; exact h2
  have hl1 : ∀ o o2, (Instr.lookup 65 (.map (some d)) (.string name) true).run Try.prog ((w.alloc o).alloc o2).drew = .ok (.tuple #[.agg #[.string cc.name, .string cc.a, .string cc.b, .int .i64 cc.cap, .int .i64 cc.hasA, .int .i64 cc.hasB], .bool (mget s.chans name).isSome]) ((w.alloc o).alloc o2).drew := by
    intro o o2
    obtain ⟨cc', hcc', h2⟩ := look_chanX (SMap.drew ((h.md.alloc o).alloc o2)) name
    rw [hcc] at hcc'; subst hcc'; exact h2
  obtain ⟨th, hth⟩ : ∃ th, (mget s.chans name).isSome = th := ⟨_, rfl⟩
  rw [hth] at hl1 hl0
  have H := Lib.hid h
  have HS := Lib.hid hs
  have HTH := Lib.hid hth
  have HCC := Lib.hid hcc
  have HIN : HoldsIn w A s.holds vs := ⟨hcells, h.hv⟩
  have HHI := Lib.hid HIN
  clear h hs hth hcc HIN hcells
  go_enter Try.func28, Try.ntmps28
  go_wp2_with fail
  go_region
  go_wp2_with fail
  have hb0 : Below w.heap.size w ((w.alloc (.cells #[.string name] 9)).alloc (.cells #[.string cc.name, .string cc.a, .string cc.b, .int .i64 cc.cap, .int .i64 cc.hasA, .int .i64 cc.hasB] 87)).drew := below_drewN (((Below.refl _ _).alloc (Nat.le_refl _) _).alloc (by simp) _) 1
  have hnm : ((w.alloc (.cells #[.string name] 9)).alloc (.cells #[.string cc.name, .string cc.a, .string cc.b, .int .i64 cc.cap, .int .i64 cc.hasA, .int .i64 cc.hasB] 87)).drew.heap[w.heap.size]? = some (.cells #[.string name] 9) := alloc2_old w _ _
  have hch : ((w.alloc (.cells #[.string name] 9)).alloc (.cells #[.string cc.name, .string cc.a, .string cc.b, .int .i64 cc.cap, .int .i64 cc.hasA, .int .i64 cc.hasB] 87)).drew.heap[w.heap.size + 1]? = some (.cells #[.string cc.name, .string cc.a, .string cc.b, .int .i64 cc.cap, .int .i64 cc.hasA, .int .i64 cc.hasB] 87) := alloc2_new w _ _
  refine (hasHolds s.holds vs A cp w.heap.size name _ (by have := HS.out.lh; omega) (fun x hx => by have := HS.out.hl x hx; omega) (HHI.out.below hb0) (by simp [World.cell?, hnm])).mono ?_
  rintro e w4 ⟨rfl, hb4⟩
  have hbb : Below w.heap.size w w4 := hb0.trans (hb4.mono hb0.size)
  have hnm4 : w4.heap[w.heap.size]? = some (.cells #[.string name] 9) := (hb4.block _ (lt_of_block hnm)).trans hnm
  have hch4 : w4.heap[w.heap.size + 1]? = some (.cells #[.string cc.name, .string cc.a, .string cc.b, .int .i64 cc.cap, .int .i64 cc.hasA, .int .i64 cc.hasB] 87) := (hb4.block _ (lt_of_block hch)).trans hch
  have HBB := Lib.hid hbb
  have H4 := Lib.hid (H.out.below hbb)
  have HNM := Lib.hid hnm4
  have HCH := Lib.hid hch4
  obtain ⟨hb, hhb⟩ : ∃ hb, (s.holds.any fun h => h.legs.any fun x => x.ch == name) = hb := ⟨_, rfl⟩
  rw [hhb]
  have HHB := Lib.hid hhb
  clear hb0 hnm hch hb4 hbb hnm4 hch4 hhb hl0 hl1 e0 e1 e2 e1b e2b
  cases th with
  | false =>
    go_wp2_with fail
    go_ret
    have hr : R = (5, s) := by
      rw [← HR.out]; unfold closeCh
      cases hm : mget s.chans name with
      | none => rfl
      | some x => have := HTH.out; rw [hm] at this; cases this
    rw [hr]
    exact OpP.same H.out HBB.out
  | true =>
    have hget : mget s.chans name = some cc := by
      have h1 := HTH.out
      have h2 := HCC.out
      cases hm : mget s.chans name with
      | none => rw [hm] at h1; cases h1
      | some x => rw [hm] at h2; exact congrArg some h2
    have HGET := Lib.hid hget
    have ho := HS.out.ch _ _ hget
    have hcap := cap_le HS.out hget
    have hheld := heldF_nonneg HS.out name
    have ha0 := ho.a0
    have hb0 := ho.b0
    have hsm := ho.sum
    unfold maxCoin at hcap
    have ha1 : ¬ 2100000000000000000 < cc.hasA := by omega
    have hb1 : ¬ 2100000000000000000 < cc.hasB := by omega
    have HO := Lib.hid ho
    clear hget hcap hheld hsm ho
    go_wp2_with fail
    refine (right_one k _).mono ?_
    rintro e w' ⟨rfl, rfl⟩
    cases hk : okCoin k with
    | false =>
      have HK := Lib.hid hk; clear hk
      go_wp2_with fail
      go_ret
      have hr : R = (40, s) := by rw [← HR.out]; unfold closeCh; rw [HGET.out]; simp only []; rw [if_pos HK.out]
      rw [hr]
      exact OpP.same H.out (HBB.out.alloc HBB.out.size _)
    | true =>
      have HK := Lib.hid hk
      have hk' := okCoin_iff.1 hk
      unfold maxCoin at hk'
      obtain ⟨k0, k1⟩ := hk'
      have k1' : ¬ 2100000000000000 < k := by omega
      clear hk k1
      cases hb with
      | true =>
        go_wp2_with fail
        go_ret
        have hr : R = (4, s) := by rw [← HR.out]; unfold closeCh; rw [HGET.out]; simp only []; rw [if_neg (by rw [HK.out]; simp), if_pos (show heldOn s name = true from HHB.out)]
        rw [hr]
        exact OpP.same H.out (HBB.out.alloc HBB.out.size _)
      | false =>
        have f4 : ∀ o, (w4.alloc o).cell? ⟨w.heap.size + 1, 4, none⟩ = some (.int .i64 cc.hasA) := fun o => cell_below ((Below.refl _ _).alloc (Nat.le_refl _) o) (by simp [World.cell?, HCH.out])
        by_cases hf : cc.hasA < k * 1000
        · have hf' : decide (cc.hasA < k * 1000) = true := by simpa using hf
          clear hf
          go_wp2_with fail
          go_ret
          have hr : R = (170, s) := by rw [← HR.out]; unfold closeCh; rw [HGET.out]; simp only []; rw [if_neg (by rw [HK.out]; simp), if_neg (by unfold heldOn; rw [HHB.out]; simp), if_pos (of_decide_eq_true hf')]
          rw [hr]
          exact OpP.same H.out (HBB.out.alloc HBB.out.size _)
        · have hf' : decide (cc.hasA < k * 1000) = false := by simpa using hf
          have HF := Lib.hid hf
          have hq0 : 0 ≤ cc.hasA / 1000 - k := by omega
          have hq1 : ¬ 2100000000000000 < cc.hasA / 1000 - k := by omega
          clear hf
          have hd0 : w4.heap.size ≤ (w4.alloc (.cells #[.int .i64 k] 2)).drew.heap.size := by simp
          have L5 : LedAt (w4.alloc (.cells #[.int .i64 k] 2)).drew p c d (.slice A s.holds.length cp) vs s := H4.out.below (below_drewN ((Below.refl _ _).alloc (Nat.le_refl _) _) 1)
          have CH5 : (w4.alloc (.cells #[.int .i64 k] 2)).drew.heap[w.heap.size + 1]? = some (.cells #[.string cc.name, .string cc.a, .string cc.b, .int .i64 cc.cap, .int .i64 cc.hasA, .int .i64 cc.hasB] 87) := (Go.heap_alloc_old w4 _ (lt_of_block HCH.out)).trans HCH.out
          have NM5 : (w4.alloc (.cells #[.int .i64 k] 2)).drew.heap[w.heap.size]? = some (.cells #[.string name] 9) := (Go.heap_alloc_old w4 _ (lt_of_block HNM.out)).trans HNM.out
          have HB5 : Below w.heap.size w (w4.alloc (.cells #[.int .i64 k] 2)).drew := below_drewN (HBB.out.alloc HBB.out.size _) 1
          have hga0 : 0 ≤ (mget s.coins cc.a).getD 0 := getD_pos HS.out.pos cc.a
          have hga1 : (mget s.coins cc.a).getD 0 ≤ 2100000000000000 := by
            cases hm : mget s.coins cc.a with
            | none => simp
            | some x => have := (coin_le HS.out hm).2; unfold maxCoin at this; simpa using this
          have hgb0 : 0 ≤ (mget s.coins cc.b).getD 0 := getD_pos HS.out.pos cc.b
          have hgb1 : (mget s.coins cc.b).getD 0 ≤ 2100000000000000 := by
            cases hm : mget s.coins cc.b with
            | none => simp
            | some x => have := (coin_le HS.out hm).2; unfold maxCoin at this; simpa using this
          obtain ⟨g1, hg1⟩ : ∃ g1, (mget s.coins cc.a).getD 0 = g1 := ⟨_, rfl⟩
          obtain ⟨g2, hg2⟩ : ∃ g2, (mget s.coins cc.b).getD 0 = g2 := ⟨_, rfl⟩
          rw [hg1] at hga0 hga1
          rw [hg2] at hgb0 hgb1
          have hga1' : ¬ 2100000000000000 < g1 := by omega
          have hgb1' : ¬ 2100000000000000 < g2 := by omega
          have hqb0 : 0 ≤ cc.hasB / 1000 := by omega
          have hqb1 : ¬ 2100000000000000 < cc.hasB / 1000 := by omega
          have hl5 := look_coins L5.mc cc.a false
          simp only [Bool.false_eq_true, if_false, hg1] at hl5
          obtain ⟨w6, hup6, hm6, hg6⟩ := L5.mc.upd Try.underlying64 Try.underlying9 cc.a (encI (g1 + (cc.hasA / 1000 - k)))
          rw [mset_menc] at hm6
          have L6 := L5.coins hm6 hg6
          have hnec : ∀ (g : Nat) (cur : Array Value) (T : TypeId) (fr : Nat × Nat), (w4.alloc (.cells #[.int .i64 k] 2)).drew.heap[g]? = some (.cells cur T fr) → g ≠ c := by
            rintro g cur T fr hg rfl
            obtain ⟨es, cl, hmap, -⟩ := L5.mc
            rw [hg] at hmap; cases hmap
          have CH6 : w6.heap[w.heap.size + 1]? = some (.cells #[.string cc.name, .string cc.a, .string cc.b, .int .i64 cc.cap, .int .i64 cc.hasA, .int .i64 cc.hasB] 87) := (hg6.block _ (lt_of_block CH5) (by intro e; injection e with e; exact hnec _ _ _ _ CH5 e)).trans CH5
          have NM6 : w6.heap[w.heap.size]? = some (.cells #[.string name] 9) := (hg6.block _ (lt_of_block NM5) (by intro e; injection e with e; exact hnec _ _ _ _ NM5 e)).trans NM5
          have hl6 : (Instr.lookup 64 (.map (some c)) (.string cc.b) false).run Try.prog w6.drew = .ok (.int .i64 g2) w6.drew := by
            have h1 := look_coins (SMap.drew L6.mc) cc.b false
            simp only [Bool.false_eq_true, if_false, mget_mset_other _ _ (Ne.symm HO.out.ne), hg2] at h1
            exact h1
          obtain ⟨w7, hup7, hm7, hg7⟩ := (SMap.drew L6.mc).upd Try.underlying64 Try.underlying9 cc.b (encI (g2 + cc.hasB / 1000))
          rw [mset_menc] at hm7
          have hg67 : w6.grownBy w7 (some c) := ⟨hg7.os, hg7.tape, hg7.output, hg7.size, hg7.block⟩
          have L7 := L6.coins hm7 hg67
          have NM7 : w7.heap[w.heap.size]? = some (.cells #[.string name] 9) := (hg67.block _ (lt_of_block NM6) (by intro e; injection e with e; exact hnec _ _ _ _ NM5 e)).trans NM6
          obtain ⟨w8, hdel, hm8, hg8⟩ := (SMap.drew L7.md).del Try.underlying65 Try.underlying9 name 0
          rw [mdel_menc] at hm8
          have hg78 : w7.grownBy w8 (some d) := ⟨hg8.os, hg8.tape, hg8.output, hg8.size, hg8.block⟩
          have hup6' : (Instr.mapUpdate 64 (.map (some c)) (.string cc.a) (.int .i64 (g1 + (cc.hasA / 1000 - k)))).run Try.prog (w4.alloc (.cells #[.int .i64 k] 2)).drew = .ok () w6 := hup6
          have hup7' : (Instr.mapUpdate 64 (.map (some c)) (.string cc.b) (.int .i64 (g2 + cc.hasB / 1000))).run Try.prog w6.drew = .ok () w7 := hup7
          have hfin : OpP w p c d (.slice A s.holds.length cp) 0 { s with coins := closeTo s cc k, chans := mdel s.chans name } (.returned (.int .i64 0)) w8 := by
            have hct : closeTo s cc k = mset (mset s.coins cc.a (g1 + (cc.hasA / 1000 - k))) cc.b (g2 + cc.hasB / 1000) := by
              unfold closeTo
              simp only []
              rw [mget_mset_other _ _ (Ne.symm HO.out.ne), hg1, hg2]
            rw [hct]
            refine ⟨rfl, c, d, _, vs, L7.chans hm8 hg78, ?_, fun i hi => .inl hi⟩
            have h1 : Fr (fp p c d (.slice A s.holds.length cp)) w w7 := (Fr.below HB5).trans (Fr.grown (F := [c]) (hg6.trans hg67) fun k hk _ => by injection hk with hk; subst hk; simp) fun i hi _ => by simp at hi; subst hi; simp [fp]
            exact h1.trans (Fr.grown (F := [d]) hg78 fun k hk _ => by injection hk with hk; subst hk; simp) fun i hi _ => by simp at hi; subst hi; simp [fp]
          have hr : R = (0, { s with coins := closeTo s cc k, chans := mdel s.chans name }) := by rw [← HR.out]; unfold closeCh; rw [HGET.out]; simp only []; rw [if_neg (by rw [HK.out]; simp), if_neg (by show ¬ heldOn s name = true; unfold heldOn; rw [HHB.out]; simp), if_neg (by have := HF.out; omega)]
          have HRR := Lib.hid hr
          have HFIN := Lib.hid hfin
          obtain ⟨x5, -, -, -⟩ := H4.out.cellA
          have y1 : ∀ o, (w4.alloc o).cell? ⟨w.heap.size + 1, 1, none⟩ = some (.string cc.a) := fun o => cell_below ((Below.refl _ _).alloc (Nat.le_refl _) o) (by simp [World.cell?, HCH.out])
          obtain ⟨z0, -, -, -⟩ := L6.cell
          have z2 : w6.cell? ⟨w.heap.size + 1, 2, none⟩ = some (.string cc.b) := by simp [World.cell?, CH6]
          have z5 : w6.cell? ⟨w.heap.size + 1, 5, none⟩ = some (.int .i64 cc.hasB) := by simp [World.cell?, CH6]
          obtain ⟨-, u1, -, -⟩ := L7.cell
          have u0 : w7.cell? ⟨w.heap.size, 0, none⟩ = some (.string name) := by simp [World.cell?, NM7]
          clear hfin hr hup6 hup7 hg78 hm8 hg8 L7 NM7 hg67 hm7 hg7 CH6 NM6 L6 hm6 hg6 hg1 hg2 CH5 NM5 HB5 L5 hnec hd0 hga1 hgb1
          go_wp2_with fail
          go_region
          go_wp2_with fail
          go_region
          go_wp2_with fail
          go_region
          go_wp2_with fail
          go_ret
          rw [HRR.out]
          exact HFIN.out
end Go.Proofs.Ytmlcojhanimnpaa
