/- What all accounts are worth together is the total. -/
import Derived.Test.YtmlcojhanimnpaaI14
namespace Go.Proofs.Ytmlcojhanimnpaa

section ks
variable {α : Type}
def ksum (g : ByteArray → Int) (l : List (ByteArray × α)) : Int := (l.map fun p => g p.1).sum
theorem ksum_cons (g : ByteArray → Int) (p : ByteArray × α) (l : List (ByteArray × α)) : ksum g (p :: l) = g p.1 + ksum g l := by simp [ksum]
theorem ksum_add (g h : ByteArray → Int) (l : List (ByteArray × α)) : ksum (fun q => g q + h q) l = ksum g l + ksum h l := by
  induction l with
  | nil => rfl
  | cons p r ih => rw [ksum_cons, ksum_cons, ksum_cons, ih]; omega
theorem ksum_zero (l : List (ByteArray × α)) : ksum (fun _ => 0) l = 0 := by
  induction l with
  | nil => rfl
  | cons p r ih => rw [ksum_cons, ih]; omega
theorem ksum_congr {g h : ByteArray → Int} {l : List (ByteArray × α)} (he : ∀ q, g q = h q) : ksum g l = ksum h l := by
  rw [show g = h from funext he]
theorem ksum_miss (k : ByteArray) (n : Int) (l : List (ByteArray × α)) (hk : k ∉ l.map (·.1)) : ksum (fun q => if q = k then n else 0) l = 0 := by
  induction l with
  | nil => rfl
  | cons p r ih =>
    simp only [List.map_cons, List.mem_cons, not_or] at hk
    rw [ksum_cons, ih hk.2, if_neg (fun e => hk.1 e.symm)]; rfl
theorem ksum_one (k : ByteArray) (n : Int) (l : List (ByteArray × α)) (hn : (l.map (·.1)).Nodup) (hk : k ∈ l.map (·.1)) : ksum (fun q => if q = k then n else 0) l = n := by
  induction l with
  | nil => cases hk
  | cons p r ih =>
    simp only [List.map_cons, List.nodup_cons] at hn
    simp only [List.map_cons, List.mem_cons] at hk
    rw [ksum_cons]
    by_cases e : p.1 = k
    · rw [if_pos e, ksum_miss _ _ _ (by rw [← e]; exact hn.1)]; omega
    · rw [if_neg e, ih hn.2 (hk.resolve_left (fun h => e h.symm))]; omega
theorem key_of_get {l : List (ByteArray × α)} {k : ByteArray} (h : (mget l k).isSome = true) : k ∈ l.map (·.1) := by
  induction l with
  | nil => cases h
  | cons p r ih =>
    unfold mget at h
    split at h
    · rename_i e; simp [e]
    · simp only [List.map_cons, List.mem_cons]; exact .inr (ih h)
end ks
/-- Legs, each of which is told by one key. -/
theorem ksum_legs {α : Type} (key : Leg → ByteArray) (l : List (ByteArray × α)) (hn : (l.map (·.1)).Nodup) (legs : List Leg) (h : ∀ x ∈ legs, key x ∈ l.map (·.1)) :
    ksum (fun q => legSum (fun x => key x == q) legs) l = legSum (fun _ => true) legs := by
  induction legs with
  | nil => exact ksum_zero l
  | cons x r ih =>
    have e : ∀ q, legSum (fun x => key x == q) (x :: r) = (if q = key x then x.amt else 0) + legSum (fun x => key x == q) r := fun q => by
      rw [legSum_cons, ch_if]
      by_cases h0 : key x = q
      · rw [if_pos h0, if_pos h0.symm]
      · rw [if_neg h0, if_neg (fun h1 => h0 h1.symm)]
    rw [ksum_congr e, ksum_add, ksum_one _ _ _ hn (h x (List.mem_cons_self ..)), ih fun y hy => h y (List.mem_cons_of_mem _ hy), legSum_cons, if_pos rfl]
theorem ksum_holds {α : Type} (key : Leg → ByteArray) (l : List (ByteArray × α)) (hn : (l.map (·.1)).Nodup) (L : List HoldR) (h : ∀ z ∈ L, ∀ x ∈ z.legs, key x ∈ l.map (·.1)) :
    ksum (fun q => holdSum (fun x => key x == q) L) l = holdSum (fun _ => true) L := by
  induction L with
  | nil => exact ksum_zero l
  | cons z r ih =>
    have e : ∀ q, holdSum (fun x => key x == q) (z :: r) = legSum (fun x => key x == q) z.legs + holdSum (fun x => key x == q) r := fun q => holdSum_cons _ _ _
    rw [ksum_congr e, ksum_add, ksum_legs key l hn z.legs (h z (List.mem_cons_self ..)), ih fun y hy => h y (List.mem_cons_of_mem _ hy), holdSum_cons]
theorem ksum_has {coins : List (ByteArray × Int)} (hn : (coins.map (·.1)).Nodup) (C : List (ByteArray × Chan)) (h : ∀ p ∈ C, p.2.a ≠ p.2.b ∧ p.2.a ∈ coins.map (·.1) ∧ p.2.b ∈ coins.map (·.1)) :
    ksum (fun q => asum (fun c => (c.has q).getD 0) C) coins = asum (fun c => c.hasA + c.hasB) C := by
  induction C with
  | nil => exact ksum_zero coins
  | cons p r ih =>
    obtain ⟨h1, h2, h3⟩ := h p (List.mem_cons_self ..)
    have e : ∀ q, asum (fun c => (c.has q).getD 0) (p :: r) = ((if q = p.2.a then p.2.hasA else 0) + (if q = p.2.b then p.2.hasB else 0)) + asum (fun c => (c.has q).getD 0) r := fun q => by
      rw [asum_cons]
      congr 1
      unfold Chan.has
      by_cases ha : q = p.2.a
      · rw [if_pos ha, if_pos ha, if_neg (by rw [ha]; exact h1)]; simp
      · rw [if_neg ha, if_neg ha]
        by_cases hb : q = p.2.b
        · rw [if_pos hb, if_pos hb]; simp
        · rw [if_neg hb, if_neg hb]; rfl
    rw [ksum_congr e, ksum_add, ksum_add, ksum_one _ _ _ hn h2, ksum_one _ _ _ hn h3, ih fun y hy => h y (List.mem_cons_of_mem _ hy), asum_cons]
/-- What the sides have and what is held of them is what the channels hold. -/
theorem sides_sum {s : Led} (h : Inv s) : asum (fun c => c.hasA + c.hasB) s.chans + holdSum (fun _ => true) s.holds = asum Chan.cap s.chans * 1000 := by
  have h1 := ksum_holds Leg.ch s.chans h.nc s.holds fun z hz x hx => by
    obtain ⟨c, hc, -⟩ := (h.hs z hz x hx).on
    exact key_of_get (by rw [hc]; rfl)
  rw [← h1]
  have hall := mem_ch h
  have : ∀ (C : List (ByteArray × Chan)), (∀ p ∈ C, ChanOk s.coins (heldF s.holds) p.1 p.2) → asum (fun c => c.hasA + c.hasB) C + ksum (fun q => holdSum (fun x => x.ch == q) s.holds) C = asum Chan.cap C * 1000 := by
    intro C
    induction C with
    | nil => intro _; rfl
    | cons p r ih =>
      intro hC
      have h2 := ih fun q hq => hC q (List.mem_cons_of_mem _ hq)
      have h3 := (hC p (List.mem_cons_self ..)).sum
      rw [asum_cons, asum_cons, ksum_cons]
      have e : heldF s.holds p.1 = holdSum (fun x => x.ch == p.1) s.holds := rfl
      omega
  exact this s.chans hall
theorem ksum_coins (coins : List (ByteArray × Int)) (hn : (coins.map (·.1)).Nodup) : ksum (fun q => (mget coins q).getD 0 * 1000) coins = asum id coins * 1000 := by
  have : ∀ (l : List (ByteArray × Int)), (∀ p ∈ l, mget coins p.1 = some p.2) → ksum (fun q => (mget coins q).getD 0 * 1000) l = asum id l * 1000 := by
    intro l
    induction l with
    | nil => intro _; rfl
    | cons p r ih =>
      intro h
      rw [ksum_cons, asum_cons, ih fun q hq => h q (List.mem_cons_of_mem _ hq), h p (List.mem_cons_self ..)]
      simp; omega
  refine this coins fun p hp => ?_
  obtain ⟨j, hj, rfl⟩ := List.getElem_of_mem hp
  exact mget_at hn (List.getElem?_eq_getElem hj)
/-- All accounts together. -/
theorem sum_worth {s : Led} (h : Inv s) : ksum (worth s) s.coins = total s * 1000 := by
  have e : ∀ q, worth s q = ((mget s.coins q).getD 0 * 1000 + asum (fun c => (c.has q).getD 0) s.chans) + holdSum (fun x => x.src == q) s.holds := fun q => rfl
  have hch : ∀ p ∈ s.chans, p.2.a ≠ p.2.b ∧ p.2.a ∈ s.coins.map (·.1) ∧ p.2.b ∈ s.coins.map (·.1) := fun p hp => by
    have := mem_ch h p hp
    exact ⟨this.ne, key_of_get this.ina, key_of_get this.inb⟩
  rw [ksum_congr e, ksum_add, ksum_add, ksum_coins s.coins h.nk, ksum_has h.nk s.chans hch, ksum_holds Leg.src s.coins h.nk s.holds fun z hz x hx => ?_]
  · have := sides_sum h
    unfold total
    omega
  · obtain ⟨c, hc, hx⟩ := (h.hs z hz x hx).on
    have ho := h.ch _ _ hc
    rcases hx with hx | hx
    · rw [hx]; exact key_of_get ho.ina
    · rw [hx]; exact key_of_get ho.inb
theorem worth_nonneg {s : Led} (h : Inv s) (q : ByteArray) : 0 ≤ worth s q := by
  have h1 := getD_pos h.pos q
  have h2 : 0 ≤ asum (fun c => (c.has q).getD 0) s.chans := asum_nonneg _ _ fun p hp => by
    have ho := mem_ch h p hp
    cases hx : p.2.has q with
    | none => simp
    | some n => simpa using has_nonneg ho hx
  have h3 := holdSum_nonneg (fun x => x.src == q) s.holds fun z hz x hx => (h.hs z hz x hx).lo
  unfold worth
  omega
theorem ksum_ge {α : Type} (g : ByteArray → Int) (l : List (ByteArray × α)) (h : ∀ q, 0 ≤ g q) {k : ByteArray} (hk : k ∈ l.map (·.1)) : 0 ≤ ksum g l ∧ g k ≤ ksum g l := by
  have h0 : ∀ l : List (ByteArray × α), 0 ≤ ksum g l := by
    intro l
    induction l with
    | nil => exact Int.le_refl _
    | cons p r ih => rw [ksum_cons]; have := h p.1; omega
  refine ⟨h0 l, ?_⟩
  induction l with
  | nil => cases hk
  | cons p r ih =>
    rw [ksum_cons]
    simp only [List.map_cons, List.mem_cons] at hk
    have h1 := h p.1
    have h2 := h0 r
    rcases hk with rfl | hk
    · omega
    · have := ih hk; omega
/-- No account is worth more than the total. -/
theorem worth_le {s : Led} (h : Inv s) {q : ByteArray} (hq : (mget s.coins q).isSome = true) : worth s q ≤ total s * 1000 := by
  have := (ksum_ge (worth s) s.coins (worth_nonneg h) (key_of_get hq)).2
  rw [sum_worth h] at this
  exact this
end Go.Proofs.Ytmlcojhanimnpaa
