/- CommitSums: what the walk leans on. -/
import Derived.Test.YtncniomiplnaaaaGreatDoorQ49
import Derived.Test.YtncniomiplnaaaaGreatDoorQ47
import Derived.Test.YtncniomiplnaaaaGreatDoorQ10
set_option linter.all false
namespace Go.Proofs.YtncniomiplnaaaaGreatDoor
open Go.RowKit

theorem linesH_small (d : DealR) (k : KeysR) (hk : k.rev.size ≤ 900000 ∧ k.mine.size ≤ 900000 ∧ k.theirs.size ≤ 900000) : ∀ (hs : List PayR) (i : Nat), (∀ h ∈ hs, h.hash.size ≤ 900000) → ∀ p ∈ linesH d k i hs, smallT p.lk
  | [], _, _, p, hp => by simp [linesH] at hp
  | h :: r, i, hh, p, hp => by
    unfold linesH at hp
    split at hp
    · exact linesH_small d k hk r (i + 1) (fun x hx => hh x (List.mem_cons_of_mem _ hx)) p hp
    · rcases List.mem_cons.1 hp with rfl | hp
      · exact small_htlc _ _ _ _ _ hk.1 hk.2.1 hk.2.2 (hh h (by simp))
      · exact linesH_small d k hk r (i + 1) (fun x hx => hh x (List.mem_cons_of_mem _ hx)) p hp
theorem wholeE_small {tx : ByteArray} {pn tag : Int} {l : List LineP} (h : ∀ p ∈ l, smallT p.lk) (hl : l.length ≤ 1000000) : (∀ o ∈ (wholeE tx pn l tag).1.outs, smallT o.lock) ∧ (wholeE tx pn l tag).1.ins.length ≤ 1000000 ∧ (wholeE tx pn l tag).1.outs.length ≤ 1000000 ∧ (wholeE tx pn l tag).2.1.length ≤ 1000000 := by
  have hz : (∀ o ∈ zeroTx.outs, smallT o.lock) ∧ zeroTx.ins.length ≤ 1000000 ∧ zeroTx.outs.length ≤ 1000000 ∧ ([] : List Int).length ≤ 1000000 := ⟨fun o h => by simp [zeroTx] at h, by decide, by decide, by decide⟩
  unfold wholeE
  split
  · exact hz
  · split
    · refine ⟨fun o ho => ?_, by simp [txOf], ?_, ?_⟩
      · obtain ⟨p, hp, rfl⟩ := List.mem_map.1 (show o ∈ (ordL ltP l).map outP from ho)
        exact h p ((ordL_mem ltP _ p).1 hp)
      · show ((ordL ltP l).map outP).length ≤ 1000000
        rw [List.length_map, ordL_len]; exact hl
      · show ((ordL ltP l).map LineP.what).length ≤ 1000000
        rw [List.length_map, ordL_len]; exact hl
    · exact hz
theorem buildE_small {tx : ByteArray} {pn : Int} {d : DealR} {opener : Bool} {n own other : Int} {hs : List PayR} {k : KeysR} (hk : k.rev.size ≤ 900000 ∧ k.later.size ≤ 900000 ∧ k.pay.size ≤ 900000 ∧ k.mine.size ≤ 900000 ∧ k.theirs.size ≤ 900000) (hh : ∀ h ∈ hs, h.hash.size ≤ 900000) (hl : hs.length ≤ 900) : (∀ o ∈ (buildE tx pn d opener n own other hs k).1.outs, smallT o.lock) ∧ (buildE tx pn d opener n own other hs k).1.ins.length ≤ 1000000 ∧ (buildE tx pn d opener n own other hs k).1.outs.length ≤ 1000000 ∧ (buildE tx pn d opener n own other hs k).2.1.length ≤ 1000000 := by
  have hz : (∀ o ∈ zeroTx.outs, smallT o.lock) ∧ zeroTx.ins.length ≤ 1000000 ∧ zeroTx.outs.length ≤ 1000000 ∧ ([] : List Int).length ≤ 1000000 := ⟨fun o h => by simp [zeroTx] at h, by decide, by decide, by decide⟩
  have hb : ∀ m o, (baseL d k m o).length ≤ 2 ∧ ∀ p ∈ baseL d k m o, smallT p.lk := fun m o => by
    unfold baseL
    refine ⟨by split <;> split <;> simp, fun p hp => ?_⟩
    rcases List.mem_append.1 hp with hp | hp
    · split at hp
      · rw [List.mem_singleton.1 hp]; exact small_own d.delay k hk.1 hk.2.1
      · cases hp
    · split at hp
      · rw [List.mem_singleton.1 hp]; exact small_other k hk.2.2.1
      · cases hp
  unfold buildE
  split
  · split
    · refine wholeE_small (fun p hp => ?_) ?_
      · unfold allL2 at hp
        rcases List.mem_append.1 hp with hp | hp
        · exact (hb _ _).2 p hp
        · exact linesH_small d k ⟨hk.1, hk.2.2.2.1, hk.2.2.2.2⟩ hs 0 hh p hp
      · unfold allL2
        rw [List.length_append]
        have h1 := (hb (ownA opener own (feeE d.rate ((linesH d k 0 hs).length : Int)).1) (otherA opener other (feeE d.rate ((linesH d k 0 hs).length : Int)).1)).1
        have h2 := linesH_len d k hs 0
        omega
    · exact hz
  · exact hz
section
variable {w W : World} {b : Nat} {A0 : Option Addr} {n0 c0 : Nat} {B0 : Option Addr} {m0 d0 : Nat} {a0 g0 : Int}
theorem nostr (h : TxBox w b A0 n0 c0 B0 m0 d0 a0 g0) {a : Addr} {s : ByteArray} (hc : w.cell? a = some (.string s)) : a.block ≠ b := fun e => by
  unfold World.cell? at hc
  rw [e, show w.heap[b]? = _ from h] at hc
  simp only at hc
  split at hc
  · cases hc
  · have hlt : a.off < 4 := Classical.byContradiction fun hn => by rw [Array.getElem?_eq_none (by simp; omega)] at hc; cases hc
    obtain h0 | h0 | h0 | h0 : a.off = 0 ∨ a.off = 1 ∨ a.off = 2 ∨ a.off = 3 := by omega
    all_goals (rw [h0] at hc; simp at hc)
theorem cells_tx (h : TxBox w b A0 n0 c0 B0 m0 d0 a0 g0) (hk : ∀ (p : Addr) (v : Value), p.block ≠ b → w.cell? p = some v → W.cell? p = some v) {A : Option Addr} {xs : List Value} (hc : Cells w A xs) {j : Nat} {s : ByteArray} (hs : xs[j]? = some (.string s)) : Cells W A xs := fun hn => by
  obtain ⟨ad, e, hcc⟩ := hc hn
  have hbl : ∀ k, (ad.add k).block = ad.block := fun k => by unfold Go.Addr.add; split <;> rfl
  have hb : ad.block ≠ b := by rw [← hbl j]; exact nostr h (hcc j _ hs)
  exact ⟨ad, e, fun k u hu => hk _ _ (by rw [hbl]; exact hb) (hcc k u hu)⟩
mutual
theorem lock_tx (h : TxBox w b A0 n0 c0 B0 m0 d0 a0 g0) (hk : ∀ (p : Addr) (v : Value), p.block ≠ b → w.cell? p = some v → W.cell? p = some v) : ∀ (x : LockT) (cs : List Value), LockC w x cs → LockC W x cs
  | .node k t n l, cs, hx => by
    unfold LockC at hx ⊢
    obtain ⟨A, cap, xs, h1, h2, h3⟩ := hx
    refine ⟨A, cap, xs, h1, ?_, locks_tx h hk l xs h3⟩
    cases l with
    | nil => unfold LocksC at h3; subst h3; exact Cells.nil _ _
    | cons x r =>
      unfold LocksC at h3
      obtain ⟨cs', rest, rfl, h4, -⟩ := h3
      obtain ⟨B, cp, ys, rfl, -, -⟩ := h4.shape
      exact cells_tx h hk h2 (j := 1) rfl
theorem locks_tx (h : TxBox w b A0 n0 c0 B0 m0 d0 a0 g0) (hk : ∀ (p : Addr) (v : Value), p.block ≠ b → w.cell? p = some v → W.cell? p = some v) : ∀ (l : List LockT) (xs : List Value), LocksC w l xs → LocksC W l xs
  | [], xs, hx => by unfold LocksC at hx ⊢; exact hx
  | x :: r, xs, hx => by
    unfold LocksC at hx ⊢
    obtain ⟨cs, rest, h1, h2, h3⟩ := hx
    exact ⟨cs, rest, h1, lock_tx h hk x cs h2, locks_tx h hk r rest h3⟩
end
theorem outs_tx (h : TxBox w b A0 n0 c0 B0 m0 d0 a0 g0) (hk : ∀ (p : Addr) (v : Value), p.block ≠ b → w.cell? p = some v → W.cell? p = some v) : ∀ (l : List OutT) (xs : List Value), OutsC w l xs → OutsC W l xs
  | [], xs, hx => by unfold OutsC at hx ⊢; exact hx
  | x :: r, xs, hx => by
    unfold OutsC at hx ⊢
    obtain ⟨cs, rest, h1, h2, h3⟩ := hx
    exact ⟨cs, rest, h1, lock_tx h hk _ cs h2, outs_tx h hk r rest h3⟩
/-- A store into the box of a transaction keeps another one. -/
theorem txc_tx (h : TxBox w b A0 n0 c0 B0 m0 d0 a0 g0) (hk : ∀ (p : Addr) (v : Value), p.block ≠ b → w.cell? p = some v → W.cell? p = some v) {t : TxT} {A B : Option Addr} (hc : TxC w t A B) : TxC W t A B := by
  obtain ⟨h1, ys, h2, h3⟩ := hc
  refine ⟨?_, ys, ?_, outs_tx h hk _ _ h3⟩
  · cases hi : t.ins with
    | nil => exact Cells.nil _ _
    | cons x r => rw [hi] at h1; exact cells_tx h hk h1 (j := 0) rfl
  · cases ho : t.outs with
    | nil => rw [ho] at h3; unfold OutsC at h3; subst h3; exact Cells.nil _ _
    | cons x r =>
      rw [ho] at h3
      unfold OutsC at h3
      obtain ⟨cs, rest, rfl, h4, -⟩ := h3
      obtain ⟨B, cp, zs, rfl, -, -⟩ := h4.shape
      exact cells_tx h hk h2 (j := 2) rfl
end
theorem anyG_rest {P : Go.Program} {md : Go.Region.Mode} {ops : Array Go.Oper} {Q : Go.Exit → Go.Act → World → Prop} {S : World → Prop} {n : Nat} {R : Go.Act → World → Prop} {l1 : Array Bool} {f1 f : Nat} {l : Array Bool} {a : Go.Act} {w : World} (hr : ∀ a u, R a u → AnyG P md ops Q S n f1 l1 a u) (h : (∀ a u, R a u → AnyG P md ops Q S n f1 l1 a u) → AnyG P md ops Q S n f l a w) : AnyG P md ops Q S n f l a w := h hr
theorem ltP_weak : Weak ltP where
  asym x y h := by
    unfold ltP at h ⊢
    simp only [Bool.or_eq_true, Bool.and_eq_true, decide_eq_true_eq] at h
    rw [Bool.or_eq_false_iff]
    rcases h with h | ⟨h1, h2⟩
    · exact ⟨decide_eq_false (by omega), by rw [decide_eq_false (by omega : ¬ y.v = x.v)]; rfl⟩
    · refine ⟨decide_eq_false (by omega), ?_⟩
      rw [decide_eq_false (List.lt_asymm h2)]
      simp
  neg x y z h h' := by
    unfold ltP at h h' ⊢
    simp only [Bool.or_eq_true, Bool.and_eq_true, decide_eq_true_eq] at h ⊢
    rw [Bool.or_eq_false_iff] at h'
    have a1 : ¬ z.v < y.v := by simpa using h'.1
    rcases h with h | ⟨h1, h2⟩
    · exact .inl (by omega)
    · by_cases hz : y.v < z.v
      · exact .inl (by omega)
      · have hv : z.v = y.v := by omega
        have a2 : ¬ z.text.data.toList < y.text.data.toList := by simpa [hv] using h'.2
        exact .inr ⟨by omega, lt_le_list h2 (List.not_lt.1 a2)⟩
theorem build_bnd {tx : ByteArray} {pn : Int} {d : DealR} {opener : Bool} {n own other : Int} {hs : List PayR} {k : KeysR} {t : TxT} {ws : List Int} (h : buildE tx pn d opener n own other hs k = (t, ws, 0)) : bndE d n own other hs = 0 := by
  unfold buildE at h
  split at h
  · split at h
    · assumption
    · rename_i hb
      exact absurd (congrArg (fun q => q.2.2) h) hb
  · rename_i hd
    exact absurd (congrArg (fun q => q.2.2) h) hd
theorem mk2i (w : World) : (Go.Instr.makeSlice 64 (.int .i64 2) (.int .i64 2)).run Tryz.prog w = .ok (.slice (some ⟨w.heap.size, 0, none⟩) 2 2) (w.alloc (.cells #[.int .i64 0, .int .i64 0] 2)) := by kernel_rfl
theorem fS_nn {f : LineP → Int} : ∀ {l : List LineP}, (∀ x ∈ l, 0 ≤ f x) → 0 ≤ fS f l
  | [], _ => by simp [fS]
  | x :: r, h => by
    have h1 := h x (List.mem_cons_self ..)
    have h2 := fS_nn (f := f) (l := r) fun y hy => h y (List.mem_cons_of_mem _ hy)
    simp only [fS]; omega
def cntN (d : DealR) (hs : List PayR) : Nat := (hs.filter fun h => !trimB d h.mine h.amt).length
theorem cnt_snoc (d : DealR) (hs : List PayR) (h : PayR) : cntN d (hs ++ [h]) = if trimB d h.mine h.amt then cntN d hs else cntN d hs + 1 := by
  unfold cntN
  rw [List.filter_append, List.length_append]
  cases ht : trimB d h.mine h.amt <;> simp [ht]
theorem cnt_le (d : DealR) (hs : List PayR) : cntN d hs ≤ hs.length := List.length_filter_le _ _
theorem linesH_cnt (d : DealR) (k : KeysR) : ∀ (hs : List PayR) (i : Nat), (linesH d k i hs).length = cntN d hs
  | [], i => rfl
  | h :: r, i => by
    have ih := linesH_cnt d k r (i + 1)
    unfold linesH cntN
    unfold cntN at ih
    cases ht : trimB d h.mine h.amt <;> simp [ht, ih]
theorem tot_outs : ∀ S : List LineP, totO (S.map outP) = fS LineP.v S
  | [] => rfl
  | x :: r => by
    show x.v + totO (r.map outP) = x.v + fS LineP.v r
    rw [tot_outs r]
theorem fS_step (f : LineP → Int) (S : List LineP) {i : Nat} (hi : i < S.length) : fS f (S.take (i + 1)) = fS f (S.take i) + f S[i] := by
  rw [List.take_succ_eq_append_getElem hi, fS_app]
  simp [fS]
theorem fS_take_le {f : LineP → Int} {S : List LineP} (h : ∀ x, 0 ≤ f x) (i : Nat) : fS f (S.take i) ≤ fS f S := by
  have e : fS f S = fS f (S.take i) + fS f (S.drop i) := by rw [← fS_app, List.take_append_drop]
  have := fS_nn (f := f) (l := S.drop i) fun x _ => h x
  omega
theorem cA_nn (j : Int) (x : LineP) : 0 ≤ cA j x := by unfold cA; split <;> omega
theorem c0_v0 (j : Int) : ∀ {l : List LineP}, fS (cA j) l = 0 → fS (vA j) l = 0
  | [], _ => rfl
  | x :: r, h => by
    have h1 := cA_nn j x
    have h2 := fS_nn (f := cA j) (l := r) fun y _ => cA_nn j y
    simp only [fS] at h ⊢
    have h3 := c0_v0 j (l := r) (by omega)
    have h4 : vA j x = 0 := by
      have hc : cA j x = 0 := by omega
      unfold cA at hc
      unfold vA
      split at hc
      · omega
      · rename_i hne; rw [if_neg hne]
    omega
/-- The one line of a kind. -/
theorem one_v {j : Int} {S : List LineP} (h : fS (cA j) S ≤ 1) {i : Nat} (hi : i < S.length) (hj : S[i].what = j) : fS (vA j) (S.take (i + 1)) = S[i].v := by
  have h1 := fS_step (cA j) S hi
  have h2 := fS_take_le (f := cA j) (S := S) (cA_nn j) (i + 1)
  have h3 := fS_nn (f := cA j) (l := S.take i) fun y _ => cA_nn j y
  have h4 : cA j S[i] = 1 := by unfold cA; rw [if_pos hj]
  rw [fS_step (vA j) S hi, c0_v0 j (l := S.take i) (by omega)]
  unfold vA
  rw [if_pos hj]; omega
theorem other_v {j : Int} {S : List LineP} {i : Nat} (hi : i < S.length) (hj : S[i].what ≠ j) : fS (vA j) (S.take (i + 1)) = fS (vA j) (S.take i) := by
  rw [fS_step (vA j) S hi]
  unfold vA
  rw [if_neg hj]; omega
/-- What is left to each, as the law reckons it. -/
theorem own_last {d : DealR} {x fee : Int} (h1 : 1 ≤ d.dust) (h0 : 0 ≤ x) : ownF d (x - fee) = (if max 0 (x - fee) < d.dust then 0 else max 0 (x - fee)) ∧ ownF d x = (if x < d.dust then 0 else x) := by
  unfold ownF
  constructor <;> (split <;> split <;> omega)
theorem last_eq {d : DealR} {opener : Bool} {own other fee qo qr oo rr ow rw' : Int} (h1 : 1 ≤ d.dust) (hqo : own / 1000 = qo) (hqr : other / 1000 = qr) (h2 : 0 ≤ qo) (h3 : 0 ≤ qr) (hoo : (if opener = true then max 0 (qo - fee) else qo) = oo) (hrr : (if opener = true then qr else max 0 (qr - fee)) = rr)
    (how : (if oo < d.dust then 0 else oo) = ow) (hrw : (if rr < d.dust then 0 else rr) = rw') : ownF d (ownA opener own fee) = ow ∧ ownF d (otherA opener other fee) = rw' := by
  subst how hrw hoo hrr
  unfold ownA otherA
  rw [hqo, hqr]
  cases opener with
  | true => exact ⟨(own_last h1 h2).1, (own_last (fee := fee) h1 h3).2⟩
  | false => exact ⟨(own_last (fee := fee) h1 h2).2, (own_last h1 h3).1⟩
end Go.Proofs.YtncniomiplnaaaaGreatDoor
