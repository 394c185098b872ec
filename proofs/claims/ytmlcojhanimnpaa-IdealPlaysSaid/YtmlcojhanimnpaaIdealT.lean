/- What holding and settling, or holding and failing, leaves (plain). -/
import Derived.Test.YtmlcojhanimnpaaIdealS
namespace Go.Proofs.Ytmlcojhanimnpaa

theorem ch_bne (a b : ByteArray) : (a == b) = false ↔ ¬ a = b := by
  rw [← ch_beq]
  cases (a == b) <;> simp
theorem has_put {c : Chan} {x : ByteArray} {n : Int} (h : c.has x = some n) (m : Int) (q : ByteArray) : ((c.put x m).has q).getD 0 = if x = q then m else (c.has q).getD 0 := by
  unfold Chan.has at h
  unfold Chan.put Chan.has
  by_cases e : x = c.a
  · rw [if_pos e]
    simp only
    by_cases e2 : q = c.a
    · rw [if_pos e2, if_pos (show x = q by rw [e, e2])]; rfl
    · rw [if_neg e2, if_neg (show ¬ x = q from fun e3 => e2 (by rw [← e3, e])), if_neg e2]
  · rw [if_neg e] at h ⊢
    by_cases e1 : x = c.b
    · simp only
      by_cases e2 : q = c.a
      · rw [if_pos e2, if_neg (show ¬ x = q from fun e3 => e (by rw [e3, e2])), if_pos e2]
      · rw [if_neg e2]
        by_cases e4 : q = c.b
        · rw [if_pos e4, if_pos (show x = q by rw [e1, e4])]; rfl
        · rw [if_neg e4, if_neg (show ¬ x = q from fun e3 => e4 (by rw [← e3, e1])), if_neg e2, if_neg e4]
    · rw [if_neg e1] at h; cases h
theorem hasSum_put {l : List (ByteArray × Chan)} {k x : ByteArray} {c : Chan} {n : Int} (hc : mget l k = some c) (h : c.has x = some n) (d : Int) (q : ByteArray) :
    asum (fun c => (c.has q).getD 0) (mset l k (c.put x (n + d))) = asum (fun c => (c.has q).getD 0) l + if x = q then d else 0 := by
  rw [asum_mset, hc, has_put h]
  simp only [Option.map_some, Option.getD_some]
  by_cases e : x = q
  · subst e
    rw [if_pos rfl, if_pos rfl, h]
    simp; omega
  · rw [if_neg e, if_neg e]; omega
theorem take1_worth {l : List (ByteArray × Chan)} {x : Leg} (he : (take1 l x).1 = 0) (q : ByteArray) : asum (fun c => (c.has q).getD 0) (take1 l x).2 = asum (fun c => (c.has q).getD 0) l - if x.src = q then x.amt else 0 := by
  unfold take1 at he ⊢
  split at he
  · cases he
  · rename_i c hc
    split at he
    · cases he
    · rename_i n hn
      split at he
      · cases he
      · split at he
        · cases he
        · rename_i h1 h2
          simp only [if_neg h1, if_neg h2]
          have := hasSum_put hc hn (-x.amt) q
          rw [show n + -x.amt = n - x.amt by omega] at this
          rw [this]
          split <;> omega
theorem takeAll_worth (q : ByteArray) : ∀ {legs : List Leg} {l : List (ByteArray × Chan)}, (takeAll l legs).1 = 0 → asum (fun c => (c.has q).getD 0) (takeAll l legs).2 = asum (fun c => (c.has q).getD 0) l - legSum (fun x => x.src == q) legs
  | [], l, _ => by rw [legSum_nil, Int.sub_zero]; rfl
  | x :: r, l, he => by
    unfold takeAll at he ⊢
    by_cases h0 : (take1 l x).1 = 0
    · rw [if_pos h0] at he ⊢
      rw [takeAll_worth q he, take1_worth h0, legSum_cons, ch_if]; omega
    · rw [if_neg h0] at he
      exact absurd he h0
/-- Is an account a side of a channel? -/
def sideOf (l : List (ByteArray × Chan)) (ch q : ByteArray) : Bool := match mget l ch with
  | some c => c.a == q || c.b == q
  | none => false
theorem sideOf_same {l l' : List (ByteArray × Chan)} (h : Same l l') (ch q : ByteArray) : sideOf l' ch q = sideOf l ch q := by
  have h1 := shape_get (fun c : Chan => c.shape) h ch
  unfold sideOf
  cases hc : mget l ch with
  | none =>
    rw [hc] at h1
    cases hc' : mget l' ch with
    | none => rfl
    | some c => rw [hc'] at h1; cases h1
  | some c =>
    rw [hc] at h1
    cases hc' : mget l' ch with
    | none => rw [hc'] at h1; cases h1
    | some c' =>
      rw [hc'] at h1
      simp only [Option.map_some, Option.some.injEq, Chan.shape, Prod.mk.injEq] at h1
      obtain ⟨-, h2, h3, -⟩ := h1
      simp only [h2, h3]
theorem give1_worth {coins : List (ByteArray × Int)} {hf : ByteArray → Int} {l : List (ByteArray × Chan)} (h : ChInv coins hf l) {x : Leg} (hx : LegOk l x) (q : ByteArray) :
    asum (fun c => (c.has q).getD 0) (give1 true l x) = asum (fun c => (c.has q).getD 0) l + if (!(x.src == q) && sideOf l x.ch q) = true then x.amt else 0 := by
  obtain ⟨c, hc, hs⟩ := hx.on
  obtain ⟨n, hn⟩ := legOk_has hx hc true
  have hne := (h _ _ hc).ne
  unfold give1 sideOf
  rw [hc]
  simp only [if_true] at hn ⊢
  simp only [hn, Option.getD_some]
  rw [hasSum_put hc hn]
  congr 1
  have : (c.other x.src = q) ↔ (!(x.src == q) && (c.a == q || c.b == q)) = true := by
    unfold Chan.other
    simp only [Bool.and_eq_true, Bool.or_eq_true, ch_beq, Bool.not_eq_true', ch_bne]
    by_cases e : x.src = c.a
    · rw [if_pos e, e]
      constructor
      · intro e2; exact ⟨fun e3 => hne (by rw [e3, e2]), .inr e2⟩
      · rintro ⟨e2, e3 | e3⟩
        · exact absurd e3 e2
        · exact e3
    · have e1 := hs.resolve_left e
      rw [if_neg e, e1]
      constructor
      · intro e2; exact ⟨fun e3 => hne (by rw [e3, e2]), .inl e2⟩
      · rintro ⟨e2, e3 | e3⟩
        · exact e3
        · exact absurd e3 e2
  by_cases e : c.other x.src = q
  · rw [if_pos e, if_pos (this.1 e)]
  · rw [if_neg e, if_neg (fun e2 => e (this.2 e2))]
theorem legSum_congr {p p' : Leg → Bool} {l : List Leg} (h : ∀ x, p x = p' x) : legSum p l = legSum p' l := by rw [show p = p' from funext h]
theorem giveAll_worth {coins : List (ByteArray × Int)} (q : ByteArray) : ∀ {legs : List Leg} {hf : ByteArray → Int} {l : List (ByteArray × Chan)}, ChInv coins hf l → (∀ x ∈ legs, LegOk l x) →
    asum (fun c => (c.has q).getD 0) (giveAll true l legs) = asum (fun c => (c.has q).getD 0) l + legSum (fun x => !(x.src == q) && sideOf l x.ch q) legs
  | [], hf, l, _, _ => by rw [legSum_nil, Int.add_zero]; rfl
  | x :: r, hf, l, h, hx => by
    have hx0 := hx x (List.mem_cons_self ..)
    obtain ⟨h1, h2⟩ := give1_ok true h hx0
    have := giveAll_worth q h1 (fun y hy => (hx y (List.mem_cons_of_mem _ hy)).same h2)
    show asum _ (giveAll true (give1 true l x) r) = _
    rw [this, give1_worth h hx0, legSum_cons, legSum_congr (l := r) fun y => by rw [sideOf_same h2]]
    omega
theorem placeOf_last {l : List HoldR} {n : Int} (h : ∀ z ∈ l, z.id ≤ n) (legs : List Leg) : placeOf (l ++ [⟨n + 1, legs⟩]) (n + 1) = some l.length := by
  unfold placeOf
  rw [List.findIdx?_eq_some_iff_getElem]
  refine ⟨by simp, by simp, fun j hj => ?_⟩
  rw [List.getElem_append_left hj]
  have := h _ (List.getElem_mem hj)
  simp; omega
theorem hold_ok {s : Led} {legs : List Leg} (h : (hold s legs).2.1 = 0) : (takeAll s.chans legs).1 = 0 ∧ hold s legs = (s.last + 1, 0, { s with chans := (takeAll s.chans legs).2, holds := s.holds ++ [⟨s.last + 1, legs⟩], last := s.last + 1 }) := by
  unfold Proofs.Ytmlcojhanimnpaa.hold at h ⊢
  split at h
  · cases h
  rename_i h1
  split at h
  · rename_i h2; exact absurd h h2
  rename_i h2
  split at h
  · cases h
  rename_i h3
  rw [if_neg h1, if_neg h2, if_neg h3]
  exact ⟨Decidable.not_not.1 h2, rfl⟩
theorem hold_bad {s : Led} {legs : List Leg} (h : (hold s legs).2.1 ≠ 0) : (hold s legs).1 = 0 ∧ (hold s legs).2.2 = s := by
  unfold Proofs.Ytmlcojhanimnpaa.hold at h ⊢
  split
  · exact ⟨rfl, rfl⟩
  split
  · exact ⟨rfl, rfl⟩
  split
  · exact ⟨rfl, rfl⟩
  rename_i h1 h2 h3
  rw [if_neg h1, if_neg h2, if_neg h3] at h
  exact absurd rfl h
/-- What holding and then ending leaves. -/
theorem hold_end {s : Led} (hi : Inv s) {legs : List Leg} (h : (hold s legs).2.1 = 0) (settled : Bool) :
    (hold s legs).1 = s.last + 1 ∧ endH settled (hold s legs).2.2 (s.last + 1) = (0, { s with chans := giveAll settled (takeAll s.chans legs).2 legs, last := s.last + 1 }) := by
  obtain ⟨h1, h2⟩ := hold_ok h
  rw [h2]
  refine ⟨rfl, ?_⟩
  unfold endH
  simp only
  rw [placeOf_last (fun z hz => (hi.ids z hz).2) legs]
  have e : (s.holds ++ [(⟨s.last + 1, legs⟩ : HoldR)]).eraseIdx s.holds.length = s.holds := by
    rw [List.eraseIdx_append_of_length_le (Nat.le_refl _)]; simp
  simp only [e]
  simp
/-- THE LAW OF SETTLING. -/
theorem settle_worth {s : Led} (hi : Inv s) {legs : List Leg} (h : (hold s legs).2.1 = 0) (q : ByteArray) :
    worth (endH true (hold s legs).2.2 (s.last + 1)).2 q = worth s q - legSum (fun x => x.src == q) legs + legSum (fun x => !(x.src == q) && sideOf s.chans x.ch q) legs := by
  rw [(hold_end hi h true).2]
  obtain ⟨h1, -⟩ := hold_ok h
  obtain ⟨g1, g2, g3⟩ := takeAll_ok hi.ch h1
  have e1 := giveAll_worth q g1 fun x hx => (g3 x hx).same g2
  have e2 := takeAll_worth q h1
  unfold worth
  simp only
  have e3 : legSum (fun x => !(x.src == q) && sideOf (takeAll s.chans legs).2 x.ch q) legs = legSum (fun x => !(x.src == q) && sideOf s.chans x.ch q) legs := legSum_congr fun y => by rw [sideOf_same g2]
  rw [e1, e2, e3]
  omega
/-- A channel whose sides have changed by what legs took or brought back. -/
def Chan.less (c : Chan) (k : ByteArray) (legs : List Leg) : Chan := { c with hasA := c.hasA - legSum (fun x => x.ch == k && x.src == c.a) legs, hasB := c.hasB - legSum (fun x => x.ch == k && !(x.src == c.a)) legs }
def Chan.plus (c : Chan) (k : ByteArray) (legs : List Leg) : Chan := { c with hasA := c.hasA + legSum (fun x => x.ch == k && x.src == c.a) legs, hasB := c.hasB + legSum (fun x => x.ch == k && !(x.src == c.a)) legs }
theorem chan_ext {c d : Chan} (h : c.shape = d.shape) (ha : c.hasA = d.hasA) (hb : c.hasB = d.hasB) : c = d := by
  cases c; cases d
  simp only [Chan.shape, Prod.mk.injEq] at h
  simp only at ha hb
  obtain ⟨h1, h2, h3, h4⟩ := h
  subst h1; subst h2; subst h3; subst h4; subst ha; subst hb
  rfl
theorem put_move {c : Chan} {x : Leg} {n d : Int} (h : c.has x.src = some n) (k : ByteArray) (hk : x.ch = k) :
    c.put x.src (n + d) = { c with hasA := c.hasA + (if (x.ch == k && x.src == c.a) = true then d else 0), hasB := c.hasB + (if (x.ch == k && !(x.src == c.a)) = true then d else 0) } := by
  have e0 : (x.ch == k) = true := (ch_beq _ _).2 hk
  unfold Chan.has at h
  unfold Chan.put
  by_cases e : x.src = c.a
  · have e1 : (x.src == c.a) = true := (ch_beq _ _).2 e
    rw [if_pos e] at h ⊢
    injection h with h
    rw [e0, e1]
    simp [h]
  · have e1 : (x.src == c.a) = false := by
      cases hq : x.src == c.a with
      | false => rfl
      | true => exact absurd ((ch_beq _ _).1 hq) e
    rw [if_neg e] at h ⊢
    split at h
    · injection h with h
      rw [e0, e1]
      simp [h]
    · cases h
theorem take1_get {l : List (ByteArray × Chan)} {x : Leg} (he : (take1 l x).1 = 0) (k : ByteArray) : mget (take1 l x).2 k = (mget l k).map fun c => c.less k [x] := by
  unfold take1 at he ⊢
  split at he
  · cases he
  · rename_i c hc
    split at he
    · cases he
    · rename_i n hn
      split at he
      · cases he
      · split at he
        · cases he
        · rename_i h1 h2
          simp only [if_neg h1, if_neg h2]
          by_cases e : x.ch = k
          · subst e
            rw [mget_mset_same, hc]
            simp only [Option.map_some, Option.some.injEq]
            have := put_move (d := -x.amt) hn x.ch rfl
            rw [show n + -x.amt = n - x.amt by omega] at this
            rw [this]
            unfold Chan.less
            rw [legSum_cons, legSum_cons, legSum_nil, legSum_nil]
            refine chan_ext rfl ?_ ?_ <;> simp only <;> split <;> omega
          · rw [mget_mset_other _ _ (fun e2 => e e2.symm)]
            cases hk : mget l k with
            | none => rfl
            | some c' =>
              have e0 : (x.ch == k) = false := by
                cases hq : x.ch == k with
                | false => rfl
                | true => exact absurd ((ch_beq _ _).1 hq) e
              simp only [Option.map_some, Option.some.injEq]
              unfold Chan.less
              rw [legSum_cons, legSum_cons, legSum_nil, legSum_nil, e0]
              refine chan_ext rfl ?_ ?_ <;> simp
theorem less_less (c : Chan) (k : ByteArray) (x : Leg) (r : List Leg) : (c.less k [x]).less k r = c.less k (x :: r) := by
  refine chan_ext rfl ?_ ?_ <;> simp only [Chan.less] <;> rw [legSum_cons, legSum_cons, legSum_nil] <;> omega
theorem takeAll_get (k : ByteArray) : ∀ {legs : List Leg} {l : List (ByteArray × Chan)}, (takeAll l legs).1 = 0 → mget (takeAll l legs).2 k = (mget l k).map fun c => c.less k legs
  | [], l, _ => by
    have : (fun c : Chan => c.less k []) = id := by
      funext c
      refine chan_ext rfl ?_ ?_ <;> simp only [Chan.less, legSum_nil, id] <;> omega
    rw [this, Option.map_id]; rfl
  | x :: r, l, he => by
    unfold takeAll at he ⊢
    by_cases h0 : (take1 l x).1 = 0
    · rw [if_pos h0] at he ⊢
      rw [takeAll_get k he, take1_get h0, Option.map_map]
      congr 1
      funext c
      exact less_less c k x r
    · rw [if_neg h0] at he
      exact absurd he h0
theorem give1_get {l : List (ByteArray × Chan)} {x : Leg} (hx : LegOk l x) (k : ByteArray) : mget (give1 false l x) k = (mget l k).map fun c => c.plus k [x] := by
  obtain ⟨c, hc, hs⟩ := hx.on
  obtain ⟨n, hn⟩ := legOk_has hx hc false
  unfold give1
  rw [hc]
  simp only [Bool.false_eq_true, if_false] at hn ⊢
  simp only [hn, Option.getD_some]
  by_cases e : x.ch = k
  · subst e
    rw [mget_mset_same, hc]
    simp only [Option.map_some, Option.some.injEq]
    rw [put_move (d := x.amt) hn x.ch rfl]
    unfold Chan.plus
    rw [legSum_cons, legSum_cons, legSum_nil, legSum_nil]
    refine chan_ext rfl ?_ ?_ <;> simp only <;> split <;> omega
  · rw [mget_mset_other _ _ (fun e2 => e e2.symm)]
    cases hk : mget l k with
    | none => rfl
    | some c' =>
      have e0 : (x.ch == k) = false := by
        cases hq : x.ch == k with
        | false => rfl
        | true => exact absurd ((ch_beq _ _).1 hq) e
      simp only [Option.map_some, Option.some.injEq]
      unfold Chan.plus
      rw [legSum_cons, legSum_cons, legSum_nil, legSum_nil, e0]
      refine chan_ext rfl ?_ ?_ <;> simp
theorem plus_plus (c : Chan) (k : ByteArray) (x : Leg) (r : List Leg) : (c.plus k [x]).plus k r = c.plus k (x :: r) := by
  refine chan_ext rfl ?_ ?_ <;> simp only [Chan.plus] <;> rw [legSum_cons, legSum_cons, legSum_nil] <;> omega
theorem giveAll_get {coins : List (ByteArray × Int)} (k : ByteArray) : ∀ {legs : List Leg} {hf : ByteArray → Int} {l : List (ByteArray × Chan)}, ChInv coins hf l → (∀ x ∈ legs, LegOk l x) → mget (giveAll false l legs) k = (mget l k).map fun c => c.plus k legs
  | [], hf, l, _, _ => by
    have : (fun c : Chan => c.plus k []) = id := by
      funext c
      refine chan_ext rfl ?_ ?_ <;> simp only [Chan.plus, legSum_nil, id] <;> omega
    rw [this, Option.map_id]; rfl
  | x :: r, hf, l, h, hx => by
    have hx0 := hx x (List.mem_cons_self ..)
    obtain ⟨h1, h2⟩ := give1_ok false h hx0
    have := giveAll_get k h1 (fun y hy => (hx y (List.mem_cons_of_mem _ hy)).same h2)
    show mget (giveAll false (give1 false l x) r) k = _
    rw [this, give1_get hx0, Option.map_map]
    congr 1
    funext c
    exact plus_plus c k x r
/-- THE LAW OF FAILING: each channel is what it was. -/
theorem fail_back {s : Led} (hi : Inv s) {legs : List Leg} (h : (hold s legs).2.1 = 0) :
    (∀ k, mget (giveAll false (takeAll s.chans legs).2 legs) k = mget s.chans k) ∧ Same s.chans (giveAll false (takeAll s.chans legs).2 legs) := by
  obtain ⟨h1, -⟩ := hold_ok h
  obtain ⟨g1, g2, g3⟩ := takeAll_ok hi.ch h1
  refine ⟨fun k => ?_, g2.trans (giveAll_ok false g1 fun x hx => (g3 x hx).same g2).2⟩
  rw [giveAll_get k g1 fun x hx => (g3 x hx).same g2, takeAll_get k h1, Option.map_map]
  have : ((fun c : Chan => c.plus k legs) ∘ fun c : Chan => c.less k legs) = id := by
    funext c
    refine chan_ext rfl ?_ ?_ <;> simp only [Function.comp, Chan.plus, Chan.less, id] <;> omega
  rw [this, Option.map_id]; rfl
end Go.Proofs.Ytmlcojhanimnpaa
