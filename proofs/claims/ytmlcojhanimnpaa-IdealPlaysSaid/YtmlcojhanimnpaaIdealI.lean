/- What stays true of the ledger of layer 30, whatever is called. -/
import Derived.Test.YtmlcojhanimnpaaIdealM
namespace Go.Proofs.Ytmlcojhanimnpaa

section more
variable {α β : Type}
theorem mget_mdel_other (l : List (ByteArray × α)) {k k' : ByteArray} (h : k' ≠ k) : mget (mdel l k) k' = mget l k' := by
  induction l with
  | nil => rfl
  | cons p r ih =>
    unfold mdel
    by_cases hp : p.1 = k
    · rw [if_pos hp]; conv => rhs; unfold mget
      rw [if_neg (by rw [hp]; exact Ne.symm h)]
    · rw [if_neg hp]; unfold mget; rw [ih]
theorem mget_mdel_same {l : List (ByteArray × α)} (hn : (l.map (·.1)).Nodup) (k : ByteArray) : mget (mdel l k) k = none := by
  induction l with
  | nil => rfl
  | cons p r ih =>
    rw [List.map_cons, List.nodup_cons] at hn
    unfold mdel
    by_cases hp : p.1 = k
    · rw [if_pos hp]
      refine mget_none fun q hq e => hn.1 ?_
      rw [hp, ← e]
      exact List.mem_map.2 ⟨q, hq, rfl⟩
    · rw [if_neg hp]; unfold mget; rw [if_neg hp, ih hn.2]
theorem mdel_sub (l : List (ByteArray × α)) (k : ByteArray) : (mdel l k).Sublist l := by
  induction l with
  | nil => exact List.Sublist.refl _
  | cons p r ih =>
    unfold mdel
    by_cases hp : p.1 = k
    · rw [if_pos hp]; exact List.sublist_cons_self ..
    · rw [if_neg hp]; exact ih.cons_cons _
theorem mset_shape (g : α → β) {l : List (ByteArray × α)} {k : ByteArray} {c c' : α} (h : mget l k = some c) (hg : g c' = g c) : (mset l k c').map (fun p => (p.1, g p.2)) = l.map fun p => (p.1, g p.2) := by
  induction l with
  | nil => cases h
  | cons p r ih =>
    unfold mget at h
    unfold mset
    by_cases hp : p.1 = k
    · rw [if_pos hp] at h ⊢
      injection h with h
      subst h
      simp [hg, hp]
    · rw [if_neg hp] at h ⊢
      simp [ih h]
theorem shape_get (g : α → β) {l l' : List (ByteArray × α)} (h : l'.map (fun p => (p.1, g p.2)) = l.map fun p => (p.1, g p.2)) (k : ByteArray) : (mget l' k).map g = (mget l k).map g := by
  have h1 := mget_menc g l k
  have h2 := mget_menc g l' k
  unfold menc at h1 h2
  rw [← h1, ← h2, h]
end more

/-- What of a channel never changes. -/
def Chan.shape (c : Chan) : ByteArray × ByteArray × ByteArray × Int := (c.name, c.a, c.b, c.cap)
def Same (l l' : List (ByteArray × Chan)) : Prop := l'.map (fun p => (p.1, p.2.shape)) = l.map fun p => (p.1, p.2.shape)
theorem Same.refl (l : List (ByteArray × Chan)) : Same l l := rfl
theorem Same.trans {l l' l'' : List (ByteArray × Chan)} (h : Same l l') (h' : Same l' l'') : Same l l'' := Eq.trans h' h
theorem Same.length {l l' : List (ByteArray × Chan)} (h : Same l l') : l'.length = l.length := by
  have := congrArg List.length h
  simpa using this
theorem Same.keys {l l' : List (ByteArray × Chan)} (h : Same l l') : l'.map (·.1) = l.map (·.1) := by
  have := congrArg (List.map fun x : ByteArray × ByteArray × ByteArray × ByteArray × Int => x.1) h
  simpa [List.map_map, Function.comp_def] using this
theorem Same.caps {l l' : List (ByteArray × Chan)} (h : Same l l') : asum Chan.cap l' = asum Chan.cap l := by
  have := congrArg (fun z => (List.map (fun x : ByteArray × ByteArray × ByteArray × ByteArray × Int => x.2.2.2.2) z).sum) h
  simpa [List.map_map, Function.comp_def, Chan.shape, asum] using this
theorem Same.get {l l' : List (ByteArray × Chan)} (h : Same l l') {k : ByteArray} {c : Chan} (hc : mget l k = some c) : ∃ c', mget l' k = some c' ∧ c'.shape = c.shape := by
  have h1 := shape_get Chan.shape h k
  rw [hc] at h1
  cases h2 : mget l' k with
  | none => rw [h2] at h1; cases h1
  | some c' => rw [h2] at h1; exact ⟨c', rfl, by simpa using h1⟩

structure ChanOk (coins : List (ByteArray × Int)) (hf : ByteArray → Int) (k : ByteArray) (c : Chan) : Prop where
  name : c.name = k
  cap : 1 ≤ c.cap
  a0 : 0 ≤ c.hasA
  b0 : 0 ≤ c.hasB
  ne : c.a ≠ c.b
  ina : (mget coins c.a).isSome = true
  inb : (mget coins c.b).isSome = true
  sum : c.hasA + c.hasB + hf k = c.cap * 1000
def ChInv (coins : List (ByteArray × Int)) (hf : ByteArray → Int) (l : List (ByteArray × Chan)) : Prop := ∀ k c, mget l k = some c → ChanOk coins hf k c
structure LegOk (l : List (ByteArray × Chan)) (x : Leg) : Prop where
  lo : 1 ≤ x.amt
  hi : x.amt ≤ maxMoney
  on : ∃ c, mget l x.ch = some c ∧ (x.src = c.a ∨ x.src = c.b)
theorem LegOk.same {l l' : List (ByteArray × Chan)} {x : Leg} (h : LegOk l x) (hs : Same l l') : LegOk l' x := by
  obtain ⟨c, hc, hx⟩ := h.on
  obtain ⟨c', hc', hsh⟩ := hs.get hc
  refine ⟨h.lo, h.hi, c', hc', ?_⟩
  unfold Chan.shape at hsh
  simp only [Prod.mk.injEq] at hsh
  rw [hsh.2.1, hsh.2.2.1]
  exact hx
theorem ChInv.congr {coins : List (ByteArray × Int)} {hf hf' : ByteArray → Int} {l : List (ByteArray × Chan)} (h : ChInv coins hf l) (he : ∀ k, hf k = hf' k) : ChInv coins hf' l := by
  have : hf = hf' := funext he
  rw [← this]; exact h
theorem Chan.put_shape (c : Chan) (x : ByteArray) (n : Int) : (c.put x n).shape = c.shape := by
  unfold Chan.put
  split <;> rfl
/-- One leg's amount is taken out of a side, or put into one. -/
theorem ChInv.move {coins : List (ByteArray × Int)} {hf : ByteArray → Int} {l : List (ByteArray × Chan)} (h : ChInv coins hf l) {ch x : ByteArray} {c : Chan} {n d : Int} (hc : mget l ch = some c) (hn : c.has x = some n) (h0 : 0 ≤ n + d) :
    ChInv coins (fun k => hf k - if ch = k then d else 0) (mset l ch (c.put x (n + d))) ∧ Same l (mset l ch (c.put x (n + d))) := by
  refine ⟨fun k c' hk => ?_, mset_shape Chan.shape hc (Chan.put_shape _ _ _)⟩
  by_cases e : k = ch
  · subst e
    rw [mget_mset_same] at hk
    injection hk with hk
    subst hk
    have ho := h k c hc
    have hs := ho.sum
    have e0 : (if k = k then d else 0) = d := if_pos rfl
    unfold Chan.has at hn
    unfold Chan.put
    split at hn
    · rename_i hx
      injection hn with hn
      rw [if_pos hx]
      exact ⟨ho.name, ho.cap, h0, ho.b0, ho.ne, ho.ina, ho.inb, by show n + d + c.hasB + (hf k - if k = k then d else 0) = c.cap * 1000; rw [e0]; omega⟩
    · rename_i hx
      rw [if_neg hx]
      split at hn
      · injection hn with hn
        exact ⟨ho.name, ho.cap, ho.a0, h0, ho.ne, ho.ina, ho.inb, by show c.hasA + (n + d) + (hf k - if k = k then d else 0) = c.cap * 1000; rw [e0]; omega⟩
      · cases hn
  · rw [mget_mset_other _ _ e] at hk
    have ho := h k c' hk
    have e0 : (if ch = k then d else 0) = 0 := if_neg (Ne.symm e)
    exact ⟨ho.name, ho.cap, ho.a0, ho.b0, ho.ne, ho.ina, ho.inb, by show c'.hasA + c'.hasB + (hf k - if ch = k then d else 0) = _; rw [e0]; have := ho.sum; omega⟩
theorem take1_ok {coins : List (ByteArray × Int)} {hf : ByteArray → Int} {l : List (ByteArray × Chan)} (h : ChInv coins hf l) {x : Leg} (he : (take1 l x).1 = 0) :
    ChInv coins (fun k => hf k + if x.ch = k then x.amt else 0) (take1 l x).2 ∧ Same l (take1 l x).2 ∧ LegOk l x := by
  unfold take1 at he ⊢
  split at he
  · cases he
  · rename_i c hc
    split at he
    · cases he
    · rename_i n hn
      split at he
      · cases he
      · rename_i ham
        split at he
        · cases he
        · rename_i hna
          rw [if_neg ham, if_neg hna]
          have hm := h.move (d := -x.amt) hc hn (by omega)
          refine ⟨?_, ?_, by omega, by omega, c, hc, ?_⟩
          · have := hm.1
            rw [show n + -x.amt = n - x.amt by omega] at this
            refine this.congr fun k => ?_
            by_cases e : x.ch = k
            · rw [if_pos e, if_pos e]; omega
            · rw [if_neg e, if_neg e]; omega
          · have := hm.2
            rw [show n + -x.amt = n - x.amt by omega] at this
            exact this
          · unfold Chan.has at hn
            split at hn
            · exact .inl ‹_›
            · split at hn
              · exact .inr ‹_›
              · cases hn
theorem legSum_nil (p : Leg → Bool) : legSum p [] = 0 := rfl
theorem legSum_cons (p : Leg → Bool) (x : Leg) (l : List Leg) : legSum p (x :: l) = (if p x then x.amt else 0) + legSum p l := by simp [legSum]
theorem ch_beq (a b : ByteArray) : (a == b) = true ↔ a = b := MapKept.bytes_beq a b
theorem ch_if (a b : ByteArray) (n : Int) : (if (a == b) = true then n else 0) = if a = b then n else 0 := by
  by_cases h : a = b
  · rw [if_pos h, if_pos ((ch_beq a b).2 h)]
  · rw [if_neg h, if_neg (fun e => h ((ch_beq a b).1 e))]
theorem takeAll_ok {coins : List (ByteArray × Int)} : ∀ {legs : List Leg} {hf : ByteArray → Int} {l : List (ByteArray × Chan)}, ChInv coins hf l → (takeAll l legs).1 = 0 →
    ChInv coins (fun k => hf k + legSum (fun x => x.ch == k) legs) (takeAll l legs).2 ∧ Same l (takeAll l legs).2 ∧ ∀ x ∈ legs, LegOk l x
  | [], hf, l, h, _ => ⟨h.congr fun k => by rw [legSum_nil, Int.add_zero], Same.refl _, fun x hx => by cases hx⟩
  | x :: r, hf, l, h, he => by
    unfold takeAll at he ⊢
    by_cases h0 : (take1 l x).1 = 0
    · rw [if_pos h0] at he ⊢
      obtain ⟨h1, h2, h3⟩ := take1_ok h h0
      obtain ⟨g1, g2, g3⟩ := takeAll_ok h1 he
      refine ⟨g1.congr fun k => ?_, h2.trans g2, fun y hy => ?_⟩
      · rw [legSum_cons, ch_if]; omega
      · rcases List.mem_cons.1 hy with rfl | hy
        · exact h3
        · have := g3 y hy
          refine LegOk.same this (Eq.symm h2)
    · rw [if_neg h0] at he
      exact absurd he h0
theorem legOk_has {l : List (ByteArray × Chan)} {x : Leg} {c : Chan} (h : LegOk l x) (hc : mget l x.ch = some c) (settled : Bool) : ∃ n, c.has (if settled then c.other x.src else x.src) = some n := by
  obtain ⟨c', hc', hx⟩ := h.on
  rw [hc] at hc'
  injection hc' with hc'
  subst hc'
  unfold Chan.has Chan.other
  cases settled
  · simp only [Bool.false_eq_true, if_false]
    by_cases e : x.src = c.a
    · rw [if_pos e]; exact ⟨_, rfl⟩
    · rw [if_neg e, if_pos (hx.resolve_left e)]; exact ⟨_, rfl⟩
  · simp only [if_true]
    by_cases e : x.src = c.a
    · rw [if_pos e]
      by_cases e2 : c.b = c.a
      · rw [if_pos e2]; exact ⟨_, rfl⟩
      · rw [if_neg e2, if_pos rfl]; exact ⟨_, rfl⟩
    · rw [if_neg e, if_pos rfl]; exact ⟨_, rfl⟩
theorem has_nonneg {coins : List (ByteArray × Int)} {hf : ByteArray → Int} {k : ByteArray} {c : Chan} (h : ChanOk coins hf k c) {x : ByteArray} {n : Int} (hn : c.has x = some n) : 0 ≤ n := by
  unfold Chan.has at hn
  have h1 := h.a0
  have h2 := h.b0
  split at hn
  · injection hn; omega
  · split at hn
    · injection hn; omega
    · cases hn
theorem give1_ok {coins : List (ByteArray × Int)} {hf : ByteArray → Int} {l : List (ByteArray × Chan)} (settled : Bool) (h : ChInv coins hf l) {x : Leg} (hx : LegOk l x) :
    ChInv coins (fun k => hf k - if x.ch = k then x.amt else 0) (give1 settled l x) ∧ Same l (give1 settled l x) := by
  obtain ⟨c, hc, -⟩ := hx.on
  obtain ⟨n, hn⟩ := legOk_has hx hc settled
  have h0 := has_nonneg (h _ _ hc) hn
  have h1 := hx.lo
  unfold give1
  rw [hc]
  simp only [hn, Option.getD_some]
  exact h.move hc hn (by omega)
theorem giveAll_ok {coins : List (ByteArray × Int)} (settled : Bool) : ∀ {legs : List Leg} {hf : ByteArray → Int} {l : List (ByteArray × Chan)}, ChInv coins hf l → (∀ x ∈ legs, LegOk l x) →
    ChInv coins (fun k => hf k - legSum (fun x => x.ch == k) legs) (giveAll settled l legs) ∧ Same l (giveAll settled l legs)
  | [], hf, l, h, _ => ⟨h.congr fun k => by rw [legSum_nil, Int.sub_zero], Same.refl _⟩
  | x :: r, hf, l, h, hx => by
    obtain ⟨h1, h2⟩ := give1_ok settled h (hx x (List.mem_cons_self ..))
    obtain ⟨g1, g2⟩ := giveAll_ok settled h1 fun y hy => (hx y (List.mem_cons_of_mem _ hy)).same h2
    refine ⟨g1.congr fun k => ?_, h2.trans g2⟩
    rw [legSum_cons, ch_if]; omega

def heldF (l : List HoldR) (k : ByteArray) : Int := holdSum (fun x => x.ch == k) l
structure Inv (s : Led) : Prop where
  nk : (s.coins.map (·.1)).Nodup
  nc : (s.chans.map (·.1)).Nodup
  pos : ∀ k v, mget s.coins k = some v → 0 ≤ v
  tot : total s ≤ maxCoin
  lk : s.coins.length ≤ 64
  lc : s.chans.length ≤ 256
  lh : s.holds.length ≤ 256
  ch : ChInv s.coins (heldF s.holds) s.chans
  hs : ∀ h ∈ s.holds, ∀ x ∈ h.legs, LegOk s.chans x
  hl : ∀ h ∈ s.holds, h.legs.length ≤ 20
  ids : ∀ h ∈ s.holds, 0 < h.id ∧ h.id ≤ s.last
  inc : s.holds.Pairwise fun x y => x.id < y.id
  l0 : 0 ≤ s.last
def led0 : Led := ⟨[], [], [], 0⟩
theorem Inv.led0 : Inv led0 := by
  have e : Proofs.Ytmlcojhanimnpaa.led0 = ⟨[], [], [], 0⟩ := rfl
  rw [e]
  constructor
  · exact List.nodup_nil
  · exact List.nodup_nil
  · intro k v h; cases h
  · decide
  · decide
  · decide
  · decide
  · intro k c h; cases h
  · intro h hh; cases hh
  · intro h hh; cases hh
  · intro h hh; cases hh
  · exact List.Pairwise.nil
  · exact Int.le_refl _
theorem mem_pos {s : Led} (h : Inv s) : ∀ p ∈ s.coins, 0 ≤ p.2 := fun p hp => by
  obtain ⟨j, hj⟩ := List.getElem?_of_mem hp
  exact h.pos _ _ (mget_at h.nk hj)
theorem mem_ch {s : Led} (h : Inv s) : ∀ p ∈ s.chans, ChanOk s.coins (heldF s.holds) p.1 p.2 := fun p hp => by
  obtain ⟨j, hj⟩ := List.getElem?_of_mem hp
  exact h.ch _ _ (mget_at h.nc hj)
theorem sum_coins {s : Led} (h : Inv s) : 0 ≤ asum id s.coins := asum_nonneg id s.coins (mem_pos h)
theorem sum_caps {s : Led} (h : Inv s) : 0 ≤ asum Chan.cap s.chans := asum_nonneg Chan.cap s.chans fun p hp => by have := (mem_ch h p hp).cap; omega
theorem coin_le {s : Led} (h : Inv s) {k : ByteArray} {v : Int} (hk : mget s.coins k = some v) : 0 ≤ v ∧ v ≤ maxCoin := by
  have h1 := asum_ge id s.coins (mem_pos h) hk
  have h2 := sum_caps h
  have h3 := h.tot
  have h4 := h.pos k v hk
  unfold total at h3
  simp only [id] at h1
  omega
theorem cap_le {s : Led} (h : Inv s) {k : ByteArray} {c : Chan} (hk : mget s.chans k = some c) : c.cap ≤ maxCoin := by
  have h1 := asum_ge Chan.cap s.chans (fun p hp => by have := (mem_ch h p hp).cap; omega) hk
  have h2 := sum_coins h
  have h3 := h.tot
  unfold total at h3
  omega
theorem ChInv.coins {coins coins' : List (ByteArray × Int)} {hf : ByteArray → Int} {l : List (ByteArray × Chan)} (h : ChInv coins hf l) (hk : ∀ k, (mget coins k).isSome = true → (mget coins' k).isSome = true) : ChInv coins' hf l := fun k c hc => by
  have ho := h k c hc
  exact ⟨ho.name, ho.cap, ho.a0, ho.b0, ho.ne, hk _ ho.ina, hk _ ho.inb, ho.sum⟩
theorem some_getD {α : Type} {o : Option α} (h : o.isSome = true) (d : α) : o = some (o.getD d) := by
  cases o with
  | none => cases h
  | some v => rfl
theorem getD_map_id (o : Option Int) : (o.map id).getD 0 = o.getD 0 := by cases o <;> rfl
theorem pos_mset {l : List (ByteArray × Int)} (h : ∀ k v, mget l k = some v → 0 ≤ v) {k : ByteArray} {n : Int} (hn : 0 ≤ n) : ∀ k' v, mget (mset l k n) k' = some v → 0 ≤ v := by
  intro k' v hv
  by_cases e : k' = k
  · subst e; rw [mget_mset_same] at hv; injection hv; omega
  · rw [mget_mset_other _ _ e] at hv; exact h _ _ hv
theorem getD_pos {l : List (ByteArray × Int)} (h : ∀ k v, mget l k = some v → 0 ≤ v) (k : ByteArray) : 0 ≤ (mget l k).getD 0 := by
  cases hk : mget l k with
  | none => simp
  | some v => exact h k v hk
theorem okCoin_iff {n : Int} : okCoin n = true ↔ 0 ≤ n ∧ n ≤ maxCoin := by unfold okCoin; simp
theorem Inv.mint {s : Led} (h : Inv s) (name : ByteArray) (n : Int) : Inv (mint s name n).2 ∧ total (mint s name n).2 = total s + (if (mint s name n).1 = 0 then n else 0) := by
  unfold Proofs.Ytmlcojhanimnpaa.mint
  split
  · exact ⟨h, by simp⟩
  · split
    · exact ⟨h, by simp⟩
    · rename_i hok
      split
      · exact ⟨h, by simp⟩
      · rename_i hl
        have hok' : okCoin n = true ∧ okCoin (total s + n) = true := by simpa using hok
        rw [okCoin_iff, okCoin_iff] at hok'
        have ht : asum id (mset s.coins name ((mget s.coins name).getD 0 + n)) = asum id s.coins + n := by
          rw [asum_mset, getD_map_id]; simp only [id]; omega
        refine ⟨⟨mset_nodup h.nk _ _, h.nc, pos_mset h.pos (by have := getD_pos h.pos name; omega), ?_, ?_, h.lc, h.lh, h.ch.coins fun k hk => mset_isSome _ _ _ _ hk, h.hs, h.hl, h.ids, h.inc, h.l0⟩, ?_⟩
        · have := hok'.2.2
          unfold total at this ⊢
          simp only [ht]
          omega
        · show (mset s.coins name _).length ≤ 64
          rw [mset_length]
          have := h.lk
          split
          · exact this
          · rename_i hs
            have : ¬ 64 ≤ s.coins.length := fun h64 => hl ⟨by simpa using hs, h64⟩
            omega
        · unfold total
          simp only [ht, if_true]
          omega
theorem Inv.pay {s : Led} (h : Inv s) (src dst : ByteArray) (n c : Int) : Inv (pay s src dst n c).2 ∧ total (pay s src dst n c).2 = total s - (if (pay s src dst n c).1 = 0 then c else 0) ∧ ((pay s src dst n c).1 = 0 → 0 ≤ c) := by
  unfold Proofs.Ytmlcojhanimnpaa.pay
  split
  · exact ⟨h, by simp, by simp⟩
  · rename_i hb
    split
    · exact ⟨h, by simp, by simp⟩
    · rename_i hne
      split
      · exact ⟨h, by simp, by simp⟩
      · rename_i hok
        split
        · exact ⟨h, by simp, by simp⟩
        · rename_i hf
          have hok' : okCoin n = true ∧ okCoin c = true := by simpa using hok
          rw [okCoin_iff, okCoin_iff] at hok'
          have hb' : (mget s.coins src).isSome = true ∧ (mget s.coins dst).isSome = true := by unfold both at hb; rw [Bool.not_eq_false, Bool.and_eq_true] at hb; exact hb
          have hd : (mget (mset s.coins src ((mget s.coins src).getD 0 - (n + c))) dst).getD 0 = (mget s.coins dst).getD 0 := by rw [mget_mset_other _ _ (Ne.symm hne)]
          have ht : asum id (payTo s src dst n c) = asum id s.coins - c := by
            unfold payTo
            rw [asum_mset, getD_map_id, asum_mset, getD_map_id]
            simp only [id]
            omega
          have hp1 : ∀ k v, mget (mset s.coins src ((mget s.coins src).getD 0 - (n + c))) k = some v → 0 ≤ v := pos_mset h.pos (by omega)
          have htot : total { s with coins := payTo s src dst n c } = total s - c := by
            unfold total
            simp only [ht]
            omega
          refine ⟨⟨mset_nodup (mset_nodup h.nk _ _) _ _, h.nc, pos_mset hp1 (by have := getD_pos hp1 dst; omega), ?_, ?_, h.lc, h.lh, h.ch.coins fun k hk => mset_isSome _ _ _ _ (mset_isSome _ _ _ _ hk), h.hs, h.hl, h.ids, h.inc, h.l0⟩, ?_, fun _ => hok'.2.1⟩
          · rw [htot]; have := h.tot; omega
          · show (payTo s src dst n c).length ≤ 64
            unfold payTo
            rw [mset_length, if_pos (mset_isSome _ _ _ _ hb'.2), mset_length, if_pos hb'.1]
            exact h.lk
          · simp only [htot, if_true]
theorem mset_fresh_length {α : Type} {l : List (ByteArray × α)} {k : ByteArray} {v : α} (h : (mget l k).isSome = false) : (mset l k v).length = l.length + 1 := by rw [mset_length, h]; rfl
theorem chInv_new {coins : List (ByteArray × Int)} {hf : ByteArray → Int} {l : List (ByteArray × Chan)} (h : ChInv coins hf l) {k : ByteArray} {c : Chan} (hc : ChanOk coins hf k c) : ChInv coins hf (mset l k c) := fun k' c' hk => by
  by_cases e : k' = k
  · subst e; rw [mget_mset_same] at hk; injection hk with hk; subst hk; exact hc
  · rw [mget_mset_other _ _ e] at hk; exact h _ _ hk
theorem LegOk.keep {l l' : List (ByteArray × Chan)} {x : Leg} (h : LegOk l x) (hk : mget l' x.ch = mget l x.ch) : LegOk l' x := by
  obtain ⟨c, hc, hx⟩ := h.on
  exact ⟨h.lo, h.hi, c, hk.trans hc, hx⟩
theorem holdSum_nil (p : Leg → Bool) : holdSum p [] = 0 := rfl
theorem holdSum_cons (p : Leg → Bool) (h : HoldR) (l : List HoldR) : holdSum p (h :: l) = legSum p h.legs + holdSum p l := by simp [holdSum]
theorem holdSum_append (p : Leg → Bool) (l r : List HoldR) : holdSum p (l ++ r) = holdSum p l + holdSum p r := by simp [holdSum]
theorem holdSum_zero {p : Leg → Bool} {l : List HoldR} (h : ∀ x ∈ l, ∀ y ∈ x.legs, p y = false) : holdSum p l = 0 := by
  induction l with
  | nil => rfl
  | cons x r ih =>
    rw [holdSum_cons, ih fun z hz => h z (List.mem_cons_of_mem _ hz)]
    have : ∀ l : List Leg, (∀ y ∈ l, p y = false) → legSum p l = 0 := by
      intro l hl
      induction l with
      | nil => rfl
      | cons y r ih2 =>
        rw [legSum_cons, hl y (List.mem_cons_self ..), ih2 fun z hz => hl z (List.mem_cons_of_mem _ hz)]; rfl
    rw [this _ (h x (List.mem_cons_self ..))]; rfl
theorem holdSum_erase (p : Leg → Bool) : ∀ (l : List HoldR) (i : Nat) (h : HoldR), l[i]? = some h → holdSum p (l.eraseIdx i) = holdSum p l - legSum p h.legs
  | [], i, h, hi => by simp at hi
  | x :: r, 0, h, hi => by simp at hi; subst hi; rw [List.eraseIdx_cons_zero, holdSum_cons]; omega
  | x :: r, i + 1, h, hi => by
    rw [List.getElem?_cons_succ] at hi
    rw [List.eraseIdx_cons_succ, holdSum_cons, holdSum_cons, holdSum_erase p r i h hi]; omega
theorem Inv.openCh {s : Led} (h : Inv s) (name a b : ByteArray) (cap push c : Int) :
    Inv (openCh s name a b cap push c).2 ∧ total (openCh s name a b cap push c).2 = total s - (if (openCh s name a b cap push c).1 = 0 then c else 0) ∧ ((openCh s name a b cap push c).1 = 0 → 0 ≤ c) := by
  unfold Proofs.Ytmlcojhanimnpaa.openCh
  split
  · exact ⟨h, by simp, by simp⟩
  rename_i h1
  split
  · exact ⟨h, by simp, by simp⟩
  rename_i h2
  split
  · exact ⟨h, by simp, by simp⟩
  rename_i h3
  split
  · exact ⟨h, by simp, by simp⟩
  rename_i h4
  split
  · exact ⟨h, by simp, by simp⟩
  rename_i h5
  split
  · exact ⟨h, by simp, by simp⟩
  rename_i h6
  have h4' := Decidable.not_not.1 h4
  obtain ⟨c1, c2, c3, c4, c5⟩ := h4'
  rw [okCoin_iff] at c3
  have hab : a ≠ b := fun e => h1 (.inr e)
  have hb' : (mget s.coins a).isSome = true ∧ (mget s.coins b).isSome = true := by unfold both at h2; rw [Bool.not_eq_false, Bool.and_eq_true] at h2; exact h2
  have h3' : (mget s.chans name).isSome = false := by simpa using h3
  have hno : mget s.chans name = none := by cases hm : mget s.chans name with
    | none => rfl
    | some v => rw [hm] at h3'; cases h3'
  have hfree : ∀ x ∈ s.holds, ∀ y ∈ x.legs, (y.ch == name) = false := by
    intro x hx y hy
    obtain ⟨c', hc', -⟩ := (h.hs x hx y hy).on
    cases hq : (y.ch == name) with
    | false => rfl
    | true =>
      rw [(ch_beq _ _).1 hq, hno] at hc'
      cases hc'
  have hz : heldF s.holds name = 0 := holdSum_zero hfree
  have htc : asum id (mset s.coins a ((mget s.coins a).getD 0 - (cap + c))) = asum id s.coins - (cap + c) := by
    rw [asum_mset, getD_map_id]; simp only [id]; omega
  have hth : asum Chan.cap (mset s.chans name ⟨name, a, b, cap, cap * 1000 - push, push⟩) = asum Chan.cap s.chans + cap := by
    rw [asum_mset, hno]; simp
  have htot : total { s with coins := mset s.coins a ((mget s.coins a).getD 0 - (cap + c)), chans := mset s.chans name ⟨name, a, b, cap, cap * 1000 - push, push⟩ } = total s - c := by
    unfold total
    simp only [htc, hth]
    omega
  refine ⟨⟨mset_nodup h.nk _ _, mset_nodup h.nc _ _, pos_mset h.pos (by omega), ?_, ?_, ?_, h.lh, ?_, ?_, h.hl, h.ids, h.inc, h.l0⟩, ?_, fun _ => c3.1⟩
  · rw [htot]; have := h.tot; omega
  · show (mset s.coins a _).length ≤ 64
    rw [mset_length, if_pos hb'.1]; exact h.lk
  · show (mset s.chans name _).length ≤ 256
    rw [mset_fresh_length h3']; omega
  · refine chInv_new (h.ch.coins fun k hk => mset_isSome _ _ _ _ hk) ⟨rfl, c1, ?_, c4, hab, mset_isSome _ _ _ _ hb'.1, mset_isSome _ _ _ _ hb'.2, ?_⟩
    · show 0 ≤ cap * 1000 - push; omega
    · show cap * 1000 - push + push + heldF s.holds name = cap * 1000
      rw [hz]; omega
  · intro x hx y hy
    have hq := hfree x hx y hy
    refine (h.hs x hx y hy).keep (mget_mset_other _ _ fun e => ?_)
    rw [(ch_beq _ _).2 e] at hq; cases hq
  · simp only [htot, if_true]
theorem total_same {s : Led} {l : List (ByteArray × Chan)} {hs : List HoldR} {n : Int} (h : Same s.chans l) : total { s with chans := l, holds := hs, last := n } = total s := by
  unfold total
  simp only [h.caps]
theorem Inv.hold {s : Led} (h : Inv s) (legs : List Leg) : Inv (hold s legs).2.2 ∧ total (hold s legs).2.2 = total s := by
  unfold Proofs.Ytmlcojhanimnpaa.hold
  split
  · exact ⟨h, rfl⟩
  rename_i h1
  split
  · exact ⟨h, rfl⟩
  rename_i h2
  split
  · exact ⟨h, rfl⟩
  rename_i h3
  have h2' := Decidable.not_not.1 h2
  obtain ⟨g1, g2, g3⟩ := takeAll_ok h.ch h2'
  refine ⟨⟨h.nk, by show ((takeAll s.chans legs).2.map (·.1)).Nodup; rw [g2.keys]; exact h.nc, h.pos, ?_, h.lk, by show (takeAll s.chans legs).2.length ≤ 256; rw [g2.length]; exact h.lc, ?_, ?_, ?_, ?_, ?_, ?_, ?_⟩, total_same g2⟩
  · rw [total_same g2]; exact h.tot
  · show (s.holds ++ [_]).length ≤ 256
    rw [List.length_append]; simp; omega
  · refine g1.congr fun k => ?_
    unfold heldF
    rw [holdSum_append, holdSum_cons, holdSum_nil]
    show _ + legSum _ legs = _ + (legSum _ legs + 0)
    omega
  · intro x hx y hy
    rcases List.mem_append.1 hx with hx | hx
    · exact (h.hs x hx y hy).same g2
    · rw [List.mem_singleton.1 hx] at hy
      exact (g3 y hy).same g2
  · intro x hx
    rcases List.mem_append.1 hx with hx | hx
    · exact h.hl x hx
    · rw [List.mem_singleton.1 hx]; show legs.length ≤ 20; omega
  · intro x hx
    show 0 < x.id ∧ x.id ≤ s.last + 1
    rcases List.mem_append.1 hx with hx | hx
    · have := h.ids x hx; omega
    · rw [List.mem_singleton.1 hx]; have := h.l0; show 0 < s.last + 1 ∧ s.last + 1 ≤ s.last + 1; omega
  · rw [List.pairwise_append]
    refine ⟨h.inc, List.pairwise_singleton .., fun x hx y hy => ?_⟩
    rw [List.mem_singleton.1 hy]
    have := h.ids x hx
    show x.id < s.last + 1
    omega
  · have := h.l0; show 0 ≤ s.last + 1; omega
theorem Inv.endH {s : Led} (h : Inv s) (settled : Bool) (id : Int) : Inv (endH settled s id).2 ∧ total (endH settled s id).2 = total s := by
  unfold Proofs.Ytmlcojhanimnpaa.endH
  split
  · exact ⟨h, rfl⟩
  rename_i i hi
  have hlt : i < s.holds.length := by
    unfold placeOf at hi
    exact (List.findIdx?_eq_some_iff_findIdx_eq.1 hi).1
  have hat : s.holds[i]? = some s.holds[i] := List.getElem?_eq_getElem hlt
  rw [hat]
  simp only [Option.map_some, Option.getD_some]
  obtain ⟨g1, g2⟩ := giveAll_ok settled (legs := s.holds[i].legs) h.ch (h.hs _ (List.getElem_mem hlt))
  have hsub : (s.holds.eraseIdx i).Sublist s.holds := List.eraseIdx_sublist ..
  refine ⟨⟨h.nk, by show ((giveAll settled s.chans s.holds[i].legs).map (·.1)).Nodup; rw [g2.keys]; exact h.nc, h.pos, ?_, h.lk, by show (giveAll settled s.chans s.holds[i].legs).length ≤ 256; rw [g2.length]; exact h.lc, Nat.le_trans hsub.length_le h.lh, ?_, fun x hx y hy => (h.hs x (hsub.subset hx) y hy).same g2, fun x hx => h.hl x (hsub.subset hx), fun x hx => h.ids x (hsub.subset hx), h.inc.sublist hsub, h.l0⟩, total_same (s := s) (n := s.last) g2⟩
  · have := total_same (s := s) (hs := s.holds.eraseIdx i) (n := s.last) g2
    have h2 := h.tot
    rw [← this] at h2
    exact h2
  · refine g1.congr fun k => ?_
    unfold heldF
    rw [holdSum_erase _ _ _ _ hat]
theorem Inv.closeCh {s : Led} (h : Inv s) (name : ByteArray) (cost : Int) :
    Inv (closeCh s name cost).2 ∧ total (closeCh s name cost).2 ≤ total s ∧ total s - (if (closeCh s name cost).1 = 0 then cost + 1 else 0) ≤ total (closeCh s name cost).2 ∧ ((closeCh s name cost).1 = 0 → 0 ≤ cost ∧ cost ≤ maxCoin) := by
  unfold Proofs.Ytmlcojhanimnpaa.closeCh
  split
  · exact ⟨h, Int.le_refl _, by simp, by simp⟩
  rename_i c hc
  split
  · exact ⟨h, Int.le_refl _, by simp, by simp⟩
  rename_i h1
  split
  · exact ⟨h, Int.le_refl _, by simp, by simp⟩
  rename_i h2
  split
  · exact ⟨h, Int.le_refl _, by simp, by simp⟩
  rename_i h3
  have h1' : okCoin cost = true := by simpa using h1
  rw [okCoin_iff] at h1'
  have ho := h.ch _ _ hc
  have hfree : ∀ x ∈ s.holds, ∀ y ∈ x.legs, (y.ch == name) = false := by
    intro x hx y hy
    cases hq : (y.ch == name) with
    | false => rfl
    | true => exact absurd (List.any_eq_true.2 ⟨x, hx, List.any_eq_true.2 ⟨y, hy, hq⟩⟩) h2
  have hz : heldF s.holds name = 0 := holdSum_zero hfree
  have hsum := ho.sum
  rw [hz] at hsum
  have ha0 := ho.a0
  have hb0 := ho.b0
  have hp1 : ∀ k v, mget (mset s.coins c.a ((mget s.coins c.a).getD 0 + (c.hasA / 1000 - cost))) k = some v → 0 ≤ v := pos_mset h.pos (by have := getD_pos h.pos c.a; omega)
  have htc : asum id (closeTo s c cost) = asum id s.coins + (c.hasA / 1000 - cost) + c.hasB / 1000 := by
    unfold closeTo
    rw [asum_mset, getD_map_id, asum_mset, getD_map_id]
    simp only [id]
    omega
  have hth : asum Chan.cap (mdel s.chans name) = asum Chan.cap s.chans - c.cap := by rw [asum_mdel, hc]; rfl
  have htot : total { s with coins := closeTo s c cost, chans := mdel s.chans name } = total s - c.cap + c.hasA / 1000 + c.hasB / 1000 - cost := by
    unfold total
    simp only [htc, hth]
    omega
  have hle : total { s with coins := closeTo s c cost, chans := mdel s.chans name } ≤ total s := by rw [htot]; omega
  refine ⟨⟨mset_nodup (mset_nodup h.nk _ _) _ _, h.nc.sublist (List.Sublist.map _ (mdel_sub _ _)), pos_mset hp1 (by have := getD_pos hp1 c.b; omega), ?_, ?_, Nat.le_trans (mdel_sub _ _).length_le h.lc, h.lh, ?_, ?_, h.hl, h.ids, h.inc, h.l0⟩, hle, ?_, fun _ => h1'⟩
  · exact Int.le_trans hle h.tot
  · show (closeTo s c cost).length ≤ 64
    unfold closeTo
    rw [mset_length, if_pos (mset_isSome _ _ _ _ ho.inb), mset_length, if_pos ho.ina]
    exact h.lk
  · intro k c' hk
    have hne : k ≠ name := by rintro rfl; rw [mget_mdel_same h.nc] at hk; cases hk
    rw [mget_mdel_other _ hne] at hk
    exact h.ch.coins (fun k hk => mset_isSome _ _ _ _ (mset_isSome _ _ _ _ hk)) k c' hk
  · intro x hx y hy
    have hq := hfree x hx y hy
    refine (h.hs x hx y hy).keep (mget_mdel_other _ fun e => ?_)
    rw [(ch_beq _ _).2 e] at hq; cases hq
  · simp only [htot, if_true]; omega
end Go.Proofs.Ytmlcojhanimnpaa
