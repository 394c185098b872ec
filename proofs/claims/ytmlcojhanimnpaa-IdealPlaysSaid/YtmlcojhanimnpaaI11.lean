/- The looks through holds and legs. -/
import Derived.Test.YtmlcojhanimnpaaI10
namespace Go.Proofs.Ytmlcojhanimnpaa
open Go.RowKit

theorem next_add (ad : Addr) (i j : Nat) (hj : 0 < j) : (⟨(ad.add i).block, (ad.add i).off + j, none⟩ : Addr) = ad.add (i + j) := by
  unfold Addr.add
  by_cases hi : i = 0
  · subst hi; simp; omega
  · rw [if_neg hi, if_neg (by omega)]; simp; omega
theorem LegsIn.look {w : World} {A : Option Addr} {l : List Leg} (h : LegsIn w A l) {k : Nat} (hk : k < l.length) :
    ∃ ad, A = some ad ∧ w.cell? (ad.add (k * 3)) = some (.string l[k].ch) ∧ w.cell? ⟨(ad.add (k * 3)).block, (ad.add (k * 3)).off + 1, none⟩ = some (.string l[k].src) ∧ w.cell? ⟨(ad.add (k * 3)).block, (ad.add (k * 3)).off + 2, none⟩ = some (.int .i64 l[k].amt) := by
  obtain ⟨ad, he, h0, h1, h2⟩ := h.at_ hk
  exact ⟨ad, he, h0, by rw [next_add _ _ _ (by decide)]; exact h1, by rw [next_add _ _ _ (by decide)]; exact h2⟩
def fnV (f : Nat) (a : Addr) : Value := .func (.func f) #[] #[.pointer (some a)]
theorem ch1_any (x : Leg) (nb : Nat) (name : ByteArray) (w : World) (hn : w.cell? ⟨nb, 0, none⟩ = some (.string name)) :
    Calls Try.prog 62 #[.agg #[.string x.ch, .string x.src, .int .i64 x.amt], .pointer (some ⟨nb, 0, none⟩)] w fun e w' => e = .returned (.bool (x.ch == name)) ∧ Below w.heap.size w w' := by
  have hc : ∀ o, (w.alloc o).cell? ⟨nb, 0, none⟩ = some (.string name) := fun o => cell_below ((Below.refl _ _).alloc (Nat.le_refl _) o) hn
  by_cases h : x.ch = name
  · have hb : (x.ch == name) = true := (ch_beq _ _).2 h
    rw [hb]
    have hq := tl_t h
    clear h hb
    go_enter Try.func62, Try.ntmps62
    go_wp2
    go_ret
    exact ⟨rfl, (Below.refl _ _).alloc (Nat.le_refl _) _⟩
  · have hb : (x.ch == name) = false := by cases hq : (x.ch == name) with
      | false => rfl
      | true => exact absurd ((ch_beq _ _).1 hq) h
    rw [hb]
    have hq := tl_f h
    clear h hb
    go_enter Try.func62, Try.ntmps62
    go_wp2
    go_ret
    exact ⟨rfl, (Below.refl _ _).alloc (Nat.le_refl _) _⟩
def idx {α : Type} (p : α → Bool) (l : List α) : Int := match l.findIdx? p with | some i => i | none => -1
theorem idx_hit {α : Type} {p : α → Bool} {l : List α} {k : Nat} (hk : k < l.length) (hp : p l[k] = true) (h : ∀ j (hj : j < l.length), j < k → p l[j] = false) : idx p l = k := by
  have : l.findIdx? p = some k := by
    rw [List.findIdx?_eq_some_iff_getElem]
    exact ⟨hk, hp, fun j hj => by rw [h j (by omega) hj]; simp⟩
  unfold idx
  rw [this]
theorem idx_miss {α : Type} {p : α → Bool} {l : List α} (h : ∀ j (hj : j < l.length), p l[j] = false) : idx p l = -1 := by
  have : l.findIdx? p = none := by
    rw [List.findIdx?_eq_none_iff]
    intro x hx
    obtain ⟨j, hj, rfl⟩ := List.getElem_of_mem hx
    exact h j hj
  unfold idx
  rw [this]
theorem idx_any {α : Type} (p : α → Bool) (l : List α) : (decide (idx p l ≥ 0)) = l.any p := by
  unfold idx
  cases h : l.findIdx? p with
  | none =>
    rw [List.findIdx?_eq_none_iff] at h
    have : l.any p = false := by rw [List.any_eq_false]; intro x hx; rw [h x hx]; simp
    rw [this]; rfl
  | some i =>
    rw [List.findIdx?_eq_some_iff_getElem] at h
    obtain ⟨hi, hb, -⟩ := h
    have : l.any p = true := List.any_eq_true.2 ⟨l[i], List.getElem_mem _, hb⟩
    rw [this]; simp
set_option maxRecDepth 100000 in
set_option maxHeartbeats 1000000 in
theorem idxLegs (l : List Leg) (A : Option Addr) (c : Nat) (nb : Nat) (name : ByteArray) (w : World) (hl : l.length ≤ 1000) (hA : LegsIn w A l) (hn : w.cell? ⟨nb, 0, none⟩ = some (.string name)) :
    Calls Try.prog 85 #[.slice A l.length c, fnV 62 ⟨nb, 0, none⟩] w fun e w' => e = .returned (.int .i64 (idx (fun x => x.ch == name) l)) ∧ Below w.heap.size w w' := by
  have HA := Lib.hid hA
  have HN := Lib.hid hn
  clear hA hn
  unfold fnV
  go_enter Try.func85, Try.ntmps85
  go_wp2_with fail
  go_loopw [8] (fun i wr => ∃ k : Nat, k ≤ l.length ∧ i = .int .i64 k ∧ (∀ j (hj : j < l.length), j < k → (l[j].ch == name) = false) ∧ Below w.heap.size w wr) (fun i _ => l.length - (intOf i).toNat)
  case atStart => exact ⟨0, Nat.zero_le _, rfl, fun j _ h => by omega, Below.refl _ _⟩
  case round =>
    obtain ⟨k, hk, rfl, hall, hbr⟩ := hrel
    have HALL := Lib.hid hall; clear hall
    have HBR := Lib.hid hbr; clear hbr
    by_cases hlt : k < l.length
    · obtain ⟨ad, rfl, hc0, hc1, hc2⟩ := LegsIn.look (Cells.below HA.out HBR.out) hlt
      have hcn := cell_below HBR.out HN.out
      obtain ⟨b, hb⟩ : ∃ b, (l[k].ch == name) = b := ⟨_, rfl⟩
      have HBV := Lib.hid hb
      go_wp2_with fail
      refine (ch1_any l[k] nb name wr hcn).mono ?_
      rintro e w1 ⟨rfl, hb1⟩
      rw [hb]
      have HB1 := Lib.hid (HBR.out.trans (hb1.mono HBR.out.size))
      clear hb hb1 hcn hc0 hc1 hc2
      cases b with
      | false =>
        go_wp2_with fail
        go_roundw
        case rel =>
          refine ⟨k + 1, by omega, by go_num, fun j hj hjk => ?_, HB1.out⟩
          rcases Nat.lt_or_ge j k with h | h
          · exact HALL.out j hj h
          · obtain rfl : j = k := by omega
            exact HBV.out
        case measure => simp [intOf]; omega
      | true =>
        have hf := idx_hit (p := fun x : Leg => x.ch == name) hlt HBV.out HALL.out
        have HF := Lib.hid hf; clear hf
        go_wp2_with fail
        go_ret
        exact ⟨ret_int HF.out.symm, HB1.out⟩
    · have hf := idx_miss (p := fun x : Leg => x.ch == name) (l := l) fun j hj => HALL.out j hj (by omega)
      have HF := Lib.hid hf; clear hf
      go_wp2_with fail
      go_ret
      exact ⟨ret_int HF.out.symm, HBR.out⟩
set_option maxRecDepth 100000 in
theorem hasLegs (l : List Leg) (A : Option Addr) (c : Nat) (nb : Nat) (name : ByteArray) (w : World) (hl : l.length ≤ 1000) (hA : LegsIn w A l) (hn : w.cell? ⟨nb, 0, none⟩ = some (.string name)) :
    Calls Try.prog 61 #[.slice A l.length c, fnV 62 ⟨nb, 0, none⟩] w fun e w' => e = .returned (.bool (l.any fun x => x.ch == name)) ∧ Below w.heap.size w w' := by
  have hf := idx_any (fun x : Leg => x.ch == name) l
  have HF := Lib.hid hf; clear hf
  have HA := Lib.hid hA
  have HN := Lib.hid hn
  clear hA hn
  unfold fnV
  go_enter Try.func61, Try.ntmps61
  go_wp2_with fail
  refine (idxLegs l A c nb name _ hl HA.out HN.out).mono ?_
  rintro e w' ⟨rfl, hb⟩
  go_wp2_with fail
  go_ret
  exact ⟨ret_bool HF.out, hb⟩
/-- Close$1: has a hold a leg on the channel? -/
theorem close1_any (h : HoldR) (A : Option Addr) (c : Nat) (nb : Nat) (name : ByteArray) (w : World) (hl : h.legs.length ≤ 1000) (hA : LegsIn w A h.legs) (hn : w.cell? ⟨nb, 0, none⟩ = some (.string name)) :
    Calls Try.prog 60 #[.agg #[.int .i64 h.id, .slice A h.legs.length c], .pointer (some ⟨nb, 0, none⟩)] w fun e w' => e = .returned (.bool (h.legs.any fun x => x.ch == name)) ∧ Below w.heap.size w w' := by
  have HA := Lib.hid hA
  have HN := Lib.hid hn
  clear hA hn
  go_enter Try.func60, Try.ntmps60
  go_wp2_with fail
  refine (hasLegs h.legs A c nb name _ hl (Cells.alloc HA.out _) (cell_below ((Below.refl _ _).alloc (Nat.le_refl _) _) HN.out)).mono ?_
  rintro e w' ⟨rfl, hb⟩
  go_wp2_with fail
  go_ret
  exact ⟨rfl, ((Below.refl _ _).alloc (Nat.le_refl _) _).trans (hb.mono (by simp))⟩
/-- end$1: is it the hold of a number? -/
theorem end1_any (h : HoldR) (A : Option Addr) (c n : Nat) (nb : Nat) (id : Int) (w : World) (hn : w.cell? ⟨nb, 0, none⟩ = some (.int .i64 id)) :
    Calls Try.prog 72 #[.agg #[.int .i64 h.id, .slice A n c], .pointer (some ⟨nb, 0, none⟩)] w fun e w' => e = .returned (.bool (h.id == id)) ∧ Below w.heap.size w w' := by
  have hc : ∀ o, (w.alloc o).cell? ⟨nb, 0, none⟩ = some (.int .i64 id) := fun o => cell_below ((Below.refl _ _).alloc (Nat.le_refl _) o) hn
  go_enter Try.func72, Try.ntmps72
  go_wp2
  go_ret
  exact ⟨rfl, (Below.refl _ _).alloc (Nat.le_refl _) _⟩
/-- The holds of a readable slice. -/
structure HoldsIn (w : World) (A : Option Addr) (l : List HoldR) (vs : List Value) : Prop where
  cells : Cells w A vs
  hv : HoldVs w l vs
theorem HoldsIn.look {w : World} {A : Option Addr} {l : List HoldR} {vs : List Value} (h : HoldsIn w A l vs) {k : Nat} (hk : k < l.length) :
    ∃ ad B c, A = some ad ∧ w.cell? (ad.add (k * 2)) = some (.int .i64 l[k].id) ∧ w.cell? ⟨(ad.add (k * 2)).block, (ad.add (k * 2)).off + 1, none⟩ = some (.slice B l[k].legs.length c) ∧ w.ownsRow 0 45 3 (.slice B l[k].legs.length c) l[k].legs.length (legsC l[k].legs) := by
  obtain ⟨B, c, h1, h2, h3⟩ := h.hv.at_ k hk
  have hlen := h.hv.len
  obtain ⟨ad, he, hc⟩ := h.cells (by rw [hlen]; omega)
  exact ⟨ad, B, c, he, hc _ _ h1, by rw [next_add _ _ _ (by decide)]; exact hc _ _ h2, h3⟩
theorem HoldsIn.below {w w' : World} {A : Option Addr} {l : List HoldR} {vs : List Value} (h : HoldsIn w A l vs) (hb : Below w.heap.size w w') : HoldsIn w' A l vs := ⟨h.cells.below hb, h.hv.kept fun g _ hg => hb.block g (lt_of_block hg)⟩
theorem legs_of_own {w : World} {B : Option Addr} {c : Nat} {base : Nat} {l : List Leg} (h : w.ownsRow base 45 3 (.slice B l.length c) l.length (legsC l)) : LegsIn w B l := by
  obtain ⟨A, c', hv, -, hc⟩ := own_shape h
  injection hv with h1 h2 h3
  subst h1
  exact hc
set_option maxRecDepth 100000 in
set_option maxHeartbeats 1000000 in
theorem idxHoldsC (nb : Nat) (p : HoldR → Bool) (l : List HoldR) (vs : List Value) (A : Option Addr) (c : Nat) (w : World) (hl : l.length ≤ 1000) (hA : HoldsIn w A l vs)
    (hf : ∀ (k : Nat) (hk : k < l.length) (B : Option Addr) (c' : Nat) (W : World), Below w.heap.size w W → LegsIn W B l[k].legs → Calls Try.prog 60 #[.agg #[.int .i64 l[k].id, .slice B l[k].legs.length c'], .pointer (some ⟨nb, 0, none⟩)] W fun e w' => e = .returned (.bool (p l[k])) ∧ Below W.heap.size W w') :
    Calls Try.prog 71 #[.slice A l.length c, fnV 60 ⟨nb, 0, none⟩] w fun e w' => e = .returned (.int .i64 (idx p l)) ∧ Below w.heap.size w w' := by
  have HA := Lib.hid hA
  have HF := Lib.hid hf
  clear hA hf
  unfold fnV
  go_enter Try.func71, Try.ntmps71
  go_wp2_with fail
  go_loopw [8] (fun i wr => ∃ k : Nat, k ≤ l.length ∧ i = .int .i64 k ∧ (∀ j (hj : j < l.length), j < k → p l[j] = false) ∧ Below w.heap.size w wr) (fun i _ => l.length - (intOf i).toNat)
  case atStart => exact ⟨0, Nat.zero_le _, rfl, fun j _ h => by omega, Below.refl _ _⟩
  case round =>
    obtain ⟨k, hk, rfl, hall, hbr⟩ := hrel
    have HALL := Lib.hid hall; clear hall
    have HBR := Lib.hid hbr; clear hbr
    by_cases hlt : k < l.length
    · obtain ⟨ad, B, c', rfl, hc0, hc1, hown⟩ := (HA.out.below HBR.out).look hlt
      have HL := Lib.hid (legs_of_own hown)
      clear hown
      obtain ⟨b, hb⟩ : ∃ b, p l[k] = b := ⟨_, rfl⟩
      have HBV := Lib.hid hb
      go_wp2_with fail
      refine (HF.out k hlt B c' wr HBR.out HL.out).mono ?_
      rintro e w1 ⟨rfl, hb1⟩
      rw [hb]
      have HB1 := Lib.hid (HBR.out.trans (hb1.mono HBR.out.size))
      clear hb hb1 hc0 hc1
      cases b with
      | false =>
        go_wp2_with fail
        go_roundw
        case rel =>
          refine ⟨k + 1, by omega, by go_num, fun j hj hjk => ?_, HB1.out⟩
          rcases Nat.lt_or_ge j k with h | h
          · exact HALL.out j hj h
          · obtain rfl : j = k := by omega
            exact HBV.out
        case measure => simp [intOf]; omega
      | true =>
        have hf := idx_hit (p := p) hlt HBV.out HALL.out
        have HF2 := Lib.hid hf; clear hf
        go_wp2_with fail
        go_ret
        exact ⟨ret_int HF2.out.symm, HB1.out⟩
    · have hf := idx_miss (p := p) (l := l) fun j hj => HALL.out j hj (by omega)
      have HF2 := Lib.hid hf; clear hf
      go_wp2_with fail
      go_ret
      exact ⟨ret_int HF2.out.symm, HBR.out⟩
set_option maxRecDepth 100000 in
set_option maxHeartbeats 1000000 in
theorem idxHoldsE (nb : Nat) (p : HoldR → Bool) (l : List HoldR) (vs : List Value) (A : Option Addr) (c : Nat) (w : World) (hl : l.length ≤ 1000) (hA : HoldsIn w A l vs)
    (hf : ∀ (k : Nat) (hk : k < l.length) (B : Option Addr) (c' : Nat) (W : World), Below w.heap.size w W → LegsIn W B l[k].legs → Calls Try.prog 72 #[.agg #[.int .i64 l[k].id, .slice B l[k].legs.length c'], .pointer (some ⟨nb, 0, none⟩)] W fun e w' => e = .returned (.bool (p l[k])) ∧ Below W.heap.size W w') :
    Calls Try.prog 71 #[.slice A l.length c, fnV 72 ⟨nb, 0, none⟩] w fun e w' => e = .returned (.int .i64 (idx p l)) ∧ Below w.heap.size w w' := by
  have HA := Lib.hid hA
  have HF := Lib.hid hf
  clear hA hf
  unfold fnV
  go_enter Try.func71, Try.ntmps71
  go_wp2_with fail
  go_loopw [8] (fun i wr => ∃ k : Nat, k ≤ l.length ∧ i = .int .i64 k ∧ (∀ j (hj : j < l.length), j < k → p l[j] = false) ∧ Below w.heap.size w wr) (fun i _ => l.length - (intOf i).toNat)
  case atStart => exact ⟨0, Nat.zero_le _, rfl, fun j _ h => by omega, Below.refl _ _⟩
  case round =>
    obtain ⟨k, hk, rfl, hall, hbr⟩ := hrel
    have HALL := Lib.hid hall; clear hall
    have HBR := Lib.hid hbr; clear hbr
    by_cases hlt : k < l.length
    · obtain ⟨ad, B, c', rfl, hc0, hc1, hown⟩ := (HA.out.below HBR.out).look hlt
      have HL := Lib.hid (legs_of_own hown)
      clear hown
      obtain ⟨b, hb⟩ : ∃ b, p l[k] = b := ⟨_, rfl⟩
      have HBV := Lib.hid hb
      go_wp2_with fail
      refine (HF.out k hlt B c' wr HBR.out HL.out).mono ?_
      rintro e w1 ⟨rfl, hb1⟩
      rw [hb]
      have HB1 := Lib.hid (HBR.out.trans (hb1.mono HBR.out.size))
      clear hb hb1 hc0 hc1
      cases b with
      | false =>
        go_wp2_with fail
        go_roundw
        case rel =>
          refine ⟨k + 1, by omega, by go_num, fun j hj hjk => ?_, HB1.out⟩
          rcases Nat.lt_or_ge j k with h | h
          · exact HALL.out j hj h
          · obtain rfl : j = k := by omega
            exact HBV.out
        case measure => simp [intOf]; omega
      | true =>
        have hf := idx_hit (p := p) hlt HBV.out HALL.out
        have HF2 := Lib.hid hf; clear hf
        go_wp2_with fail
        go_ret
        exact ⟨ret_int HF2.out.symm, HB1.out⟩
    · have hf := idx_miss (p := p) (l := l) fun j hj => HALL.out j hj (by omega)
      have HF2 := Lib.hid hf; clear hf
      go_wp2_with fail
      go_ret
      exact ⟨ret_int HF2.out.symm, HBR.out⟩
set_option maxRecDepth 100000 in
theorem hasHolds (l : List HoldR) (vs : List Value) (A : Option Addr) (c : Nat) (nb : Nat) (name : ByteArray) (w : World) (hl : l.length ≤ 1000) (hll : ∀ h ∈ l, h.legs.length ≤ 1000) (hA : HoldsIn w A l vs) (hn : w.cell? ⟨nb, 0, none⟩ = some (.string name)) :
    Calls Try.prog 59 #[.slice A l.length c, fnV 60 ⟨nb, 0, none⟩] w fun e w' => e = .returned (.bool (l.any fun h => h.legs.any fun x => x.ch == name)) ∧ Below w.heap.size w w' := by
  have hf := idx_any (fun h : HoldR => h.legs.any fun x => x.ch == name) l
  have HF := Lib.hid hf; clear hf
  have HA := Lib.hid hA
  have HN := Lib.hid hn
  have HL := Lib.hid hll
  clear hA hn hll
  unfold fnV
  go_enter Try.func59, Try.ntmps59
  go_wp2_with fail
  refine (idxHoldsC nb (fun h => h.legs.any fun x => x.ch == name) l vs A c _ hl HA.out (fun k hk B c' W hb hB => close1_any l[k] B c' nb name W (HL.out _ (List.getElem_mem hk)) hB (cell_below hb HN.out))).mono ?_
  rintro e w' ⟨rfl, hb⟩
  go_wp2_with fail
  go_ret
  exact ⟨ret_bool HF.out, hb⟩
end Go.Proofs.Ytmlcojhanimnpaa
