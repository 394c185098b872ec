/- Every name that a ledger holds is one that may be. -/
import Derived.Test.YtmlcojhanimnpaaIdealI
namespace Go.Proofs.Ytmlcojhanimnpaa

structure Named (s : Led) : Prop where
  coins : ∀ p ∈ s.coins, namedB p.1 = true
  chans : ∀ p ∈ s.chans, namedB p.1 = true
theorem named_mset {α : Type} {l : List (ByteArray × α)} (h : ∀ p ∈ l, namedB p.1 = true) {k : ByteArray} (hk : namedB k = true) (v : α) : ∀ p ∈ mset l k v, namedB p.1 = true := fun p hp => by
  rcases mset_mem hp with h1 | rfl
  · exact h p h1
  · exact hk
theorem named_of_get {α : Type} {l : List (ByteArray × α)} (h : ∀ p ∈ l, namedB p.1 = true) {k : ByteArray} {v : α} (hk : mget l k = some v) : namedB k = true := h _ (mget_mem hk)
theorem named_of_some {α : Type} {l : List (ByteArray × α)} (h : ∀ p ∈ l, namedB p.1 = true) {k : ByteArray} (hk : (mget l k).isSome = true) : namedB k = true := by
  cases hm : mget l k with
  | none => rw [hm] at hk; cases hk
  | some v => exact named_of_get h hm
theorem named_keys {α : Type} {l l' : List (ByteArray × α)} (h : ∀ p ∈ l, namedB p.1 = true) (hk : l'.map (·.1) = l.map (·.1)) : ∀ p ∈ l', namedB p.1 = true := fun p hp => by
  have h1 : p.1 ∈ l'.map (·.1) := List.mem_map_of_mem hp
  rw [hk, List.mem_map] at h1
  obtain ⟨q, hq, e⟩ := h1
  rw [← e]; exact h q hq
theorem Named.led0 : Named led0 := ⟨(fun p hp => by cases hp), (fun p hp => by cases hp)⟩
theorem Named.mint {s : Led} (h : Named s) (name : ByteArray) (n : Int) : Named (mint s name n).2 := by
  unfold Proofs.Ytmlcojhanimnpaa.mint
  split
  · exact h
  rename_i hn
  split
  · exact h
  split
  · exact h
  exact ⟨named_mset h.coins (by cases hq : namedB name with | true => rfl | false => exact absurd hq hn) _, h.chans⟩
theorem Named.pay {s : Led} (h : Named s) (src dst : ByteArray) (n c : Int) : Named (pay s src dst n c).2 := by
  unfold Proofs.Ytmlcojhanimnpaa.pay
  split
  · exact h
  rename_i hb
  have hb' : both s src dst = true := by cases hq : both s src dst with | true => rfl | false => exact absurd hq hb
  unfold both at hb'
  simp only [Bool.and_eq_true] at hb'
  split
  · exact h
  split
  · exact h
  split
  · exact h
  refine ⟨?_, h.chans⟩
  show ∀ p ∈ payTo s src dst n c, namedB p.1 = true
  unfold payTo
  exact named_mset (named_mset h.coins (named_of_some h.coins hb'.1) _) (named_of_some h.coins hb'.2) _
theorem Named.openCh {s : Led} (h : Named s) (name a b : ByteArray) (cap push c : Int) : Named (openCh s name a b cap push c).2 := by
  unfold Proofs.Ytmlcojhanimnpaa.openCh
  split
  · exact h
  rename_i hn
  split
  · exact h
  rename_i hb
  have hb' : both s a b = true := by cases hq : both s a b with | true => rfl | false => exact absurd hq hb
  unfold both at hb'
  simp only [Bool.and_eq_true] at hb'
  split
  · exact h
  split
  · exact h
  split
  · exact h
  split
  · exact h
  exact ⟨named_mset h.coins (named_of_some h.coins hb'.1) _, named_mset h.chans (by cases hq : namedB name with | true => rfl | false => exact absurd (.inl hq) hn) _⟩
theorem Named.hold {s : Led} (hi : Inv s) (h : Named s) (legs : List Leg) : Named (hold s legs).2.2 := by
  unfold Proofs.Ytmlcojhanimnpaa.hold
  split
  · exact h
  split
  · exact h
  rename_i h2
  split
  · exact h
  exact ⟨h.coins, named_keys h.chans (takeAll_ok hi.ch (Decidable.not_not.1 h2)).2.1.keys⟩
theorem Named.endH {s : Led} (hi : Inv s) (h : Named s) (settled : Bool) (id : Int) : Named (endH settled s id).2 := by
  unfold Proofs.Ytmlcojhanimnpaa.endH
  split
  · exact h
  rename_i i hi'
  refine ⟨h.coins, named_keys h.chans (giveAll_ok settled hi.ch ?_).2.keys⟩
  have hlt : i < s.holds.length := by
    unfold placeOf at hi'
    exact (List.findIdx?_eq_some_iff_getElem.1 hi').1
  rw [List.getElem?_eq_getElem hlt]
  exact hi.hs _ (List.getElem_mem hlt)
theorem Named.closeCh {s : Led} (hi : Inv s) (h : Named s) (name : ByteArray) (cost : Int) : Named (closeCh s name cost).2 := by
  unfold Proofs.Ytmlcojhanimnpaa.closeCh
  split
  · exact h
  rename_i c hc
  have ho := hi.ch _ _ hc
  split
  · exact h
  split
  · exact h
  split
  · exact h
  refine ⟨?_, fun p hp => h.chans p ((mdel_sub s.chans name).subset hp)⟩
  show ∀ p ∈ closeTo s c cost, namedB p.1 = true
  unfold closeTo
  exact named_mset (named_mset h.coins (named_of_some h.coins ho.ina) _) (named_of_some h.coins ho.inb) _
end Go.Proofs.Ytmlcojhanimnpaa
