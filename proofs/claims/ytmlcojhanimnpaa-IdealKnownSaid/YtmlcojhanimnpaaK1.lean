/- As many accounts, channels and holds as may be (plain). -/
import Derived.Test.YtmlcojhanimnpaaJ9
namespace Go.Proofs.Ytmlcojhanimnpaa

theorem nameB_inj {i j : Nat} (hi : i < 600) (hj : j < 600) (h : nameB i = nameB j) : i = j := by
  have h1 := congrArg (fun b : ByteArray => b.data.toList.map UInt8.toNat) h
  simp only [nameB, List.map_cons, List.map_nil, List.cons.injEq, and_true, UInt8.toNat_ofNat'] at h1
  omega
theorem nameB_ne {i j : Nat} (hi : i < 600) (hj : j < 600) (h : i ≠ j) : nameB i ≠ nameB j := fun e => h (nameB_inj hi hj e)
theorem nameB_named (i : Nat) : namedB (nameB i) = true := by
  have : (nameB i).size = 2 := rfl
  unfold namedB
  rw [this]; rfl
structure M1 (s : Led) (k : Nat) : Prop where
  inv : Inv s
  named : Named s
  len : s.coins.length = k
  keys : ∀ j, j < 600 → ((mget s.coins (nameB j)).isSome = true ↔ j < k)
  tot : total s = 1000 * k
  val : ∀ j, j < k → mget s.coins (nameB j) = some 1000
  ch : s.chans = []
  h : s.holds = []
  last : s.last = 0
theorem M1.zero : M1 led0 0 := ⟨Inv.led0, Named.led0, rfl, (fun j _ => by constructor <;> intro h <;> cases h), rfl, (fun j h => by omega), rfl, rfl, rfl⟩
theorem M1.step {s : Led} {k : Nat} (h : M1 s k) (hk : k < 64) : (mint s (nameB k) 1000).1 = 0 ∧ M1 (mint s (nameB k) 1000).2 (k + 1) := by
  have hnone : mget s.coins (nameB k) = none := by
    cases hm : mget s.coins (nameB k) with
    | none => rfl
    | some v => have := (h.keys k (by omega)).1 (by rw [hm]; rfl); omega
  have ht := h.tot
  have e : mint s (nameB k) 1000 = (0, { s with coins := mset s.coins (nameB k) 1000 }) := by
    unfold Proofs.Ytmlcojhanimnpaa.mint
    rw [if_neg (by rw [nameB_named]; simp), if_neg, if_neg (by rw [h.len]; omega), hnone]
    · rfl
    · rw [ht]
      unfold okCoin maxCoin
      simp
      omega
  have hi := h.inv.mint (nameB k) 1000
  have hn := h.named.mint (nameB k) 1000
  rw [e] at hi hn ⊢
  refine ⟨rfl, hi.1, hn, ?_, fun j hj => ?_, ?_, fun j hj => ?_, h.ch, h.h, h.last⟩
  · show (mset s.coins (nameB k) 1000).length = k + 1
    rw [mset_length, hnone, h.len]; rfl
  · show (mget (mset s.coins (nameB k) 1000) (nameB j)).isSome = true ↔ j < k + 1
    by_cases e1 : j = k
    · subst e1; rw [mget_mset_same]; simp
    · rw [mget_mset_other _ _ (nameB_ne hj (by omega) e1), h.keys j hj]; omega
  · have := hi.2
    simp only [if_true] at this
    rw [this, ht]; omega
  · show mget (mset s.coins (nameB k) 1000) (nameB j) = some 1000
    by_cases e1 : j = k
    · subst e1; rw [mget_mset_same]
    · rw [mget_mset_other _ _ (nameB_ne (by omega) (by omega) e1)]; exact h.val j (by omega)
theorem M1.full {s : Led} (h : M1 s 64) : mint s (nameB 64) 1000 = (3, s) := by
  have hnone : mget s.coins (nameB 64) = none := by
    cases hm : mget s.coins (nameB 64) with
    | none => rfl
    | some v => have := (h.keys 64 (by omega)).1 (by rw [hm]; rfl); omega
  have ht := h.tot
  unfold Proofs.Ytmlcojhanimnpaa.mint
  rw [if_neg (by rw [nameB_named]; simp), if_neg, if_pos ⟨by rw [hnone]; rfl, by rw [h.len]; exact Nat.le_refl _⟩]
  rw [ht]; decide
structure M2 (s : Led) (k : Nat) : Prop where
  inv : Inv s
  named : Named s
  len : s.chans.length = k
  keys : ∀ j, j < 600 → ((mget s.chans (nameB j)).isSome = true ↔ j < k)
  c0 : mget s.coins (nameB 0) = some (1000 - (k : Int))
  c1 : (mget s.coins (nameB 1)).isSome = true
  first : 0 < k → ∃ c, mget s.chans (nameB 0) = some c ∧ c.a = nameB 0 ∧ c.hasA = 1000
  h : s.holds = []
  last : s.last = 0
  tot : total s = 64000
theorem M2.zero {s : Led} (h : M1 s 64) : M2 s 0 :=
  ⟨h.inv, h.named, by rw [h.ch]; rfl, (fun j _ => by rw [h.ch]; constructor <;> intro h <;> cases h), h.val 0 (by omega), by rw [h.val 1 (by omega)]; rfl, (fun h => by omega), h.h, h.last, h.tot⟩
theorem M2.has2 {s : Led} {k : Nat} (h : M2 s k) : both s (nameB 0) (nameB 1) = true := by
  unfold Proofs.Ytmlcojhanimnpaa.both
  rw [h.c0, h.c1]; rfl
theorem M2.fresh {s : Led} {k : Nat} (h : M2 s k) (hk : k < 600) : mget s.chans (nameB k) = none := by
  cases hm : mget s.chans (nameB k) with
  | none => rfl
  | some v => have := (h.keys k hk).1 (by rw [hm]; rfl); omega
theorem M2.step {s : Led} {k : Nat} (h : M2 s k) (hk : k < 256) : (openCh s (nameB k) (nameB 0) (nameB 1) 1 0 0).1 = 0 ∧ M2 (openCh s (nameB k) (nameB 0) (nameB 1) 1 0 0).2 (k + 1) := by
  have hnone := h.fresh (by omega)
  have e : openCh s (nameB k) (nameB 0) (nameB 1) 1 0 0 = (0, { s with coins := mset s.coins (nameB 0) (1000 - k - (1 + 0)), chans := mset s.chans (nameB k) ⟨nameB k, nameB 0, nameB 1, 1, 1 * 1000 - 0, 0⟩ }) := by
    unfold Proofs.Ytmlcojhanimnpaa.openCh
    rw [if_neg (by rw [nameB_named]; rintro (h1 | h1); · cases h1
                   · exact nameB_ne (by omega) (by omega) (by omega) h1), if_neg (by rw [h.has2]; simp), if_neg (by rw [hnone]; simp), if_neg (by decide), if_neg (by rw [h.len]; omega), if_neg (by rw [h.c0]; simp; omega), h.c0]
    rfl
  have hi := h.inv.openCh (nameB k) (nameB 0) (nameB 1) 1 0 0
  have hn := h.named.openCh (nameB k) (nameB 0) (nameB 1) 1 0 0
  rw [e] at hi hn ⊢
  refine ⟨rfl, hi.1, hn, ?_, fun j hj => ?_, ?_, ?_, fun _ => ?_, h.h, h.last, ?_⟩
  · show (mset s.chans (nameB k) _).length = k + 1
    rw [mset_length, hnone, h.len]; rfl
  · show (mget (mset s.chans (nameB k) _) (nameB j)).isSome = true ↔ j < k + 1
    by_cases e1 : j = k
    · subst e1; rw [mget_mset_same]; simp
    · rw [mget_mset_other _ _ (nameB_ne hj (by omega) e1), h.keys j hj]; omega
  · show mget (mset s.coins (nameB 0) _) (nameB 0) = _
    rw [mget_mset_same, show (1000 : Int) - k - (1 + 0) = 1000 - ((k + 1 : Nat) : Int) by omega]
  · exact mset_isSome _ _ _ _ h.c1
  · show ∃ c, mget (mset s.chans (nameB k) _) (nameB 0) = some c ∧ _
    by_cases e1 : k = 0
    · subst e1; rw [mget_mset_same]; exact ⟨_, rfl, rfl, rfl⟩
    · rw [mget_mset_other _ _ (nameB_ne (by omega) (by omega) (fun h => e1 h.symm))]
      exact h.first (by omega)
  · have := hi.2.1
    simp only [if_true] at this
    rw [this, h.tot]
    simp
theorem M2.full {s : Led} (h : M2 s 256) : openCh s (nameB 256) (nameB 0) (nameB 1) 1 0 0 = (3, s) := by
  unfold Proofs.Ytmlcojhanimnpaa.openCh
  rw [if_neg (by rw [nameB_named]; rintro (h1 | h1); · cases h1
                 · exact nameB_ne (by omega) (by omega) (by omega) h1), if_neg (by rw [h.has2]; simp), if_neg (by rw [h.fresh (by omega)]; simp), if_neg (by decide), if_pos (by rw [h.len]; exact Nat.le_refl _)]
structure M3 (s : Led) (k : Nat) : Prop where
  inv : Inv s
  named : Named s
  len : s.holds.length = k
  last : s.last = k
  ids : ∀ j, j < k → ∃ z ∈ s.holds, z.id = (j : Int) + 1
  first : ∃ c, mget s.chans (nameB 0) = some c ∧ c.a = nameB 0 ∧ c.hasA = 1000 - k
  c0 : (mget s.coins (nameB 0)).isSome = true
  tot : total s = 64000
theorem M3.zero {s : Led} (h : M2 s 256) : M3 s 0 :=
  ⟨h.inv, h.named, by rw [h.h]; rfl, h.last, (fun j h => by omega), h.first (by omega), by rw [h.c0]; rfl, h.tot⟩
def leg0 : Leg := ⟨nameB 0, nameB 0, 1⟩
theorem M3.take {s : Led} {k : Nat} (h : M3 s k) (hk : k ≤ 256) : ∃ c, mget s.chans (nameB 0) = some c ∧ c.a = nameB 0 ∧ takeAll s.chans [leg0] = (0, mset s.chans (nameB 0) { c with hasA := 1000 - k - 1 }) := by
  obtain ⟨c, h1, h2, h3⟩ := h.first
  refine ⟨c, h1, h2, ?_⟩
  have e : take1 s.chans leg0 = (0, mset s.chans (nameB 0) { c with hasA := 1000 - k - 1 }) := by
    unfold take1 leg0
    simp only [h1]
    unfold Chan.has Chan.put
    rw [if_pos h2.symm]
    simp only [h3, if_pos h2.symm]
    rw [if_neg (by unfold maxMoney; omega), if_neg (by omega)]
  unfold takeAll
  rw [e]
  rfl
theorem M3.step {s : Led} {k : Nat} (h : M3 s k) (hk : k < 256) : (hold s [leg0]).1 = (k : Int) + 1 ∧ (hold s [leg0]).2.1 = 0 ∧ M3 (hold s [leg0]).2.2 (k + 1) := by
  obtain ⟨c, h1, h2, h3⟩ := h.take (by omega)
  have e : hold s [leg0] = (s.last + 1, 0, { s with chans := mset s.chans (nameB 0) { c with hasA := 1000 - k - 1 }, holds := s.holds ++ [⟨s.last + 1, [leg0]⟩], last := s.last + 1 }) := by
    unfold Proofs.Ytmlcojhanimnpaa.hold
    rw [if_neg (by simp), h3, if_neg (by simp), if_neg (by rw [h.len]; omega)]
  have hi := h.inv.hold [leg0]
  have hn := h.named.hold h.inv [leg0]
  rw [e] at hi hn ⊢
  refine ⟨by simp only [h.last], rfl, hi.1, hn, ?_, ?_, fun j hj => ?_, ⟨{ c with hasA := 1000 - k - 1 }, mget_mset_same _ _ _, h2, ?_⟩, h.c0, ?_⟩
  · simp [h.len]
  · simp only [h.last]; omega
  · by_cases e1 : j = k
    · subst e1
      exact ⟨⟨s.last + 1, [leg0]⟩, by simp, by simp only [h.last]⟩
    · obtain ⟨z, hz, hz2⟩ := h.ids j (by omega)
      exact ⟨z, List.mem_append_left _ hz, hz2⟩
  · simp only; omega
  · rw [hi.2, h.tot]
theorem M3.full {s : Led} (h : M3 s 256) : hold s [leg0] = (0, 3, s) := by
  obtain ⟨c, h1, h2, h3⟩ := h.take (by omega)
  unfold Proofs.Ytmlcojhanimnpaa.hold
  rw [if_neg (by simp), h3, if_neg (by simp), if_pos (by rw [h.len]; exact Nat.le_refl _)]
theorem M3.fail {s : Led} (h : M3 s 256) : (endH false s 7).1 = 0 ∧ Inv (endH false s 7).2 ∧ (endH false s 7).2.holds.length = 255 ∧ total (endH false s 7).2 = 64000 ∧ (mget (endH false s 7).2.coins (nameB 0)).isSome = true := by
  obtain ⟨z, hz, hz2⟩ := h.ids 6 (by omega)
  have hi := h.inv.endH false 7
  have hp : ∃ i, placeOf s.holds 7 = some i := by
    cases hm : placeOf s.holds 7 with
    | some i => exact ⟨i, rfl⟩
    | none =>
      unfold placeOf at hm
      rw [List.findIdx?_eq_none_iff] at hm
      have := hm z hz
      rw [hz2] at this
      simp at this
  obtain ⟨i, hp⟩ := hp
  have hlt : i < s.holds.length := by
    unfold placeOf at hp
    exact (List.findIdx?_eq_some_iff_getElem.1 hp).1
  have e : ∃ ch, endH false s 7 = (0, { s with chans := ch, holds := s.holds.eraseIdx i }) := by
    unfold endH
    rw [hp]
    exact ⟨_, rfl⟩
  obtain ⟨ch, e⟩ := e
  rw [e] at hi ⊢
  refine ⟨rfl, hi.1, ?_, by rw [hi.2, h.tot], h.c0⟩
  have hlen : (s.holds.eraseIdx i).length = s.holds.length - 1 := List.length_eraseIdx_of_lt hlt
  simp only [hlen, h.len]
theorem mint_five {s : Led} (hi : total s = 64000) (hc : (mget s.coins (nameB 0)).isSome = true) : (mint s (nameB 0) 5).1 = 0 := by
  unfold Proofs.Ytmlcojhanimnpaa.mint
  rw [if_neg (by rw [nameB_named]; simp), if_neg (by rw [hi]; decide), if_neg]
  rintro ⟨h1, -⟩
  cases hm : mget s.coins (nameB 0) with
  | none => rw [hm] at hc; cases hc
  | some v => rw [hm] at h1; cases h1
end Go.Proofs.Ytmlcojhanimnpaa
