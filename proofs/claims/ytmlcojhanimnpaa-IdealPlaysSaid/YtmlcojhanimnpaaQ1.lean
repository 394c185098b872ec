/- Sorted names: what a store of a new name, of an old one, and a delete do to what is told (plain). · The document's ledger in memory; its small readers. · The document's ledger: a store into a row; Total, Worth. · The document's Total, Mint and Pay. -/
import Derived.Test.YtmlcojhanimnpaaTold
import Derived.Sort.Walk0
import Derived.Test.YtmlcojhanimnpaaJ3
import Derived.Laws.OwnMore
import Derived.Test.YtmlcojhanimnpaaJ6
import Derived.RegionTactic
import Derived.BigRegion
import Derived.BigQuiet
import Derived.Deep.DeepMust
namespace Go.Proofs.Ytmlcojhanimnpaa
open Go.Sort Go.RowKit

def bLe (a b : ByteArray) : Prop := a.data.toList ≤ b.data.toList
def bLt (a b : ByteArray) : Prop := a.data.toList < b.data.toList
theorem byte_ext {a b : ByteArray} (h : a.data.toList = b.data.toList) : a = b := tl_inj (by rw [Go.ByteArray.toList_eq, Go.ByteArray.toList_eq]; exact h)
theorem bLe_antisymm {a b : ByteArray} (h1 : bLe a b) (h2 : bLe b a) : a = b := byte_ext (List.le_antisymm h1 h2)
theorem bLe_trans {a b c : ByteArray} (h1 : bLe a b) (h2 : bLe b c) : bLe a c := List.le_trans h1 h2
theorem bLt_le {a b : ByteArray} (h : bLt a b) : bLe a b := List.le_of_lt h
theorem bLt_ne {a b : ByteArray} (h : bLt a b) : a ≠ b := fun e => by subst e; exact List.lt_irrefl _ h
theorem bLt_or {a b : ByteArray} (h : a ≠ b) : bLt a b ∨ bLt b a := by
  rcases List.le_total a.data.toList b.data.toList with h1 | h1
  · left
    rcases Classical.em (bLt a b) with h2 | h2
    · exact h2
    · exact absurd (byte_ext (List.le_antisymm h1 (List.not_lt.1 h2))) h
  · right
    rcases Classical.em (bLt b a) with h2 | h2
    · exact h2
    · exact absurd (byte_ext (List.le_antisymm (List.not_lt.1 h2) h1)) h
theorem bLe_lt {a b c : ByteArray} (h1 : bLe a b) (h2 : bLt b c) : bLt a c := by
  rcases Classical.em (bLt a c) with h | h
  · exact h
  · have h3 : bLe c a := List.not_lt.1 h
    have : b = c := bLe_antisymm (bLt_le h2) (bLe_trans h3 h1)
    exact absurd this (bLt_ne h2)
theorem bLt_not {a b : ByteArray} (h : bLt a b) : ¬ bLt b a := fun h2 => bLt_ne h (bLe_antisymm (bLt_le h) (bLt_le h2))
theorem less_t {a b : ByteArray} (h : bLt a b) : Op.bytesLess a.toList b.toList = true := by
  rw [bytesLess_eq, Go.ByteArray.toList_eq, Go.ByteArray.toList_eq]; exact decide_eq_true h
theorem less_f {a b : ByteArray} (h : ¬ bLt a b) : Op.bytesLess a.toList b.toList = false := by
  rw [bytesLess_eq, Go.ByteArray.toList_eq, Go.ByteArray.toList_eq]; exact decide_eq_false h
theorem skeys_sorted {α : Type} (l : List (ByteArray × α)) : (skeys l).Pairwise bLe := by
  have tr : ∀ a b c : List UInt8, leB a b = true → leB b c = true → leB a c = true := fun a b c h1 h2 => by simp only [leB, decide_eq_true_eq] at *; exact List.le_trans h1 h2
  have tot : ∀ a b : List UInt8, (leB a b || leB b a) = true := fun a b => by simp only [leB, Bool.or_eq_true, decide_eq_true_eq]; exact List.le_total a b
  unfold skeys
  refine List.pairwise_map.2 ((List.pairwise_mergeSort tr tot _).imp fun {a b} h => ?_)
  show a ≤ b
  simpa [leB] using h
theorem skeys_nodup {α : Type} {l : List (ByteArray × α)} (h : (l.map (·.1)).Nodup) : (skeys l).Nodup := (skeys_perm l).nodup_iff.2 h
theorem skeys_eq {α : Type} {l : List (ByteArray × α)} {ks : List ByteArray} (hp : ks.Perm (l.map (·.1))) (hs : ks.Pairwise bLe) : skeys l = ks :=
  List.Perm.eq_of_pairwise (le := bLe) (fun _ _ _ _ h1 h2 => bLe_antisymm h1 h2) (skeys_sorted l) hs ((skeys_perm l).trans hp.symm)
theorem skeys_lt {α : Type} {l : List (ByteArray × α)} {i j : Nat} (hij : i ≤ j) (hj : j < (skeys l).length) : bLe ((skeys l)[i]'(by omega)) (skeys l)[j] := by
  rcases Nat.lt_or_ge i j with h | h
  · exact List.pairwise_iff_getElem.1 (skeys_sorted l) i j (by omega) hj h
  · obtain rfl : i = j := by omega
    exact List.le_refl _
/-- What is told of a map: for each name, in order. -/
def told {α β : Type} (g : ByteArray → α → β) (d : α) (l : List (ByteArray × α)) : List β := (skeys l).map fun k => g k ((mget l k).getD d)
theorem accs_told (s : Led) : accs s = told (fun k v => (k, v)) 0 s.coins := rfl
theorem chs_told (s : Led) : chs s = told (fun _ c => c) chan0 s.chans := rfl
section
variable {α β : Type} {g : ByteArray → α → β} {d : α} {l : List (ByteArray × α)} {k : ByteArray} {v : α}
theorem told_set (hn : (l.map (·.1)).Nodup) {i : Nat} (hi : i < (skeys l).length) (hk : (skeys l)[i] = k) (hm : (mget l k).isSome = true) : told g d (mset l k v) = (told g d l).set i (g k v) := by
  have hs : skeys (mset l k v) = skeys l := skeys_same (by rw [mset_keys, if_pos hm])
  unfold told
  rw [hs]
  refine List.ext_getElem (by simp) fun j h1 h2 => ?_
  rw [List.getElem_map]
  by_cases e : i = j
  · subst e
    rw [List.getElem_set_self, hk, mget_mset_same]; rfl
  · rw [List.getElem_set_ne e, List.getElem_map, mget_mset_other]
    intro e2
    refine e ?_
    have hnd := skeys_nodup hn
    have hj : j < (skeys l).length := by simpa using h1
    exact (List.getElem_inj hnd (h₀ := hi) (h₁ := hj)).1 (by rw [hk, e2])
theorem skeys_ins {at_ : Nat} (hm : mget l k = none) (h1 : ∀ j (hj : j < (skeys l).length), j < at_ → bLt (skeys l)[j] k) (h2 : ∀ j (hj : j < (skeys l).length), at_ ≤ j → bLt k (skeys l)[j]) :
    skeys (mset l k v) = (skeys l).take at_ ++ k :: (skeys l).drop at_ := by
  have a1 : ∀ x ∈ (skeys l).take at_, bLt x k := fun x hx => by
    obtain ⟨j, hj, rfl⟩ := List.getElem_of_mem hx
    rw [List.length_take] at hj
    rw [List.getElem_take]
    exact h1 j (by omega) (by omega)
  have a2 : ∀ x ∈ (skeys l).drop at_, bLt k x := fun x hx => by
    obtain ⟨j, hj, rfl⟩ := List.getElem_of_mem hx
    rw [List.length_drop] at hj
    rw [List.getElem_drop]
    exact h2 _ (by omega) (by omega)
  refine skeys_eq ?_ ?_
  · rw [mset_keys, if_neg (by rw [hm]; simp)]
    refine List.perm_middle.trans ?_
    rw [List.take_append_drop]
    exact ((skeys_perm l).cons k).trans (List.perm_append_comm (l₁ := [k]))
  · rw [List.pairwise_append]
    refine ⟨(skeys_sorted l).sublist (List.take_sublist _ _), List.pairwise_cons.2 ⟨fun x hx => bLt_le (a2 x hx), (skeys_sorted l).sublist (List.drop_sublist _ _)⟩, fun x hx y hy => ?_⟩
    rcases List.mem_cons.1 hy with rfl | hy
    · exact bLt_le (a1 x hx)
    · exact bLe_trans (bLt_le (a1 x hx)) (bLt_le (a2 y hy))
theorem told_ins {at_ : Nat} (hm : mget l k = none) (h1 : ∀ j (hj : j < (skeys l).length), j < at_ → bLt (skeys l)[j] k) (h2 : ∀ j (hj : j < (skeys l).length), at_ ≤ j → bLt k (skeys l)[j]) :
    told g d (mset l k v) = (told g d l).take at_ ++ g k v :: (told g d l).drop at_ := by
  unfold told
  rw [skeys_ins hm h1 h2, List.map_append, List.map_cons, mget_mset_same]
  have hne : ∀ x ∈ skeys l, x ≠ k := fun x hx e => by
    subst e
    have := (mget_isSome (l := l)).2 ((skeys_perm l).mem_iff.1 hx)
    rw [hm] at this; cases this
  have e1 : ∀ ks : List ByteArray, (∀ x ∈ ks, x ≠ k) → ks.map (fun x => g x ((mget (mset l k v) x).getD d)) = ks.map fun x => g x ((mget l x).getD d) := fun ks hks =>
    List.map_congr_left fun x hx => by rw [mget_mset_other _ _ (hks x hx)]
  rw [e1 _ fun x hx => hne x (List.mem_of_mem_take hx), e1 _ fun x hx => hne x (List.mem_of_mem_drop hx), List.map_take, List.map_drop]
  rfl
theorem erase_fst {γ δ : Type} (f : γ → δ) : ∀ (l : List γ) (i : Nat), (l.eraseIdx i).map f = (l.map f).eraseIdx i
  | [], i => by simp
  | x :: r, 0 => by simp
  | x :: r, i + 1 => by simp [erase_fst f r i]
theorem erase_perm {γ : Type} : ∀ (l : List γ) (i : Nat) (h : i < l.length), (l[i] :: l.eraseIdx i).Perm l
  | [], i, h => absurd h (by simp)
  | x :: r, 0, _ => List.Perm.refl _
  | x :: r, i + 1, h => by
    have := erase_perm r i (by simpa using h)
    rw [List.eraseIdx_cons_succ]
    exact (List.Perm.swap ..).trans (this.cons x)
theorem told_del (hn : (l.map (·.1)).Nodup) {i : Nat} (hi : i < (skeys l).length) (hk : (skeys l)[i] = k) (hm : (mget l k).isSome = true) : told g d (mdel l k) = (told g d l).eraseIdx i := by
  have hnd := skeys_nodup hn
  have p1 := erase_perm (skeys l) i hi
  rw [hk] at p1
  have hks : skeys (mdel l k) = (skeys l).eraseIdx i := by
    refine skeys_eq ?_ ((skeys_sorted l).sublist (List.eraseIdx_sublist _ _))
    have hmem : k ∈ l.map (·.1) := (mget_isSome (l := l)).1 hm
    obtain ⟨j, hj, hjk⟩ := List.getElem_of_mem hmem
    have hj' : j < l.length := by simpa using hj
    have hp : l[j]? = some l[j] := List.getElem?_eq_getElem hj'
    have hk2 : l[j].1 = k := by rw [List.getElem_map] at hjk; exact hjk
    have hd : mdel l k = l.eraseIdx j := by rw [← hk2]; exact mdel_at hn hp
    rw [hd, erase_fst]
    have p2 := erase_perm (l.map (·.1)) j hj
    rw [hjk] at p2
    exact List.Perm.cons_inv (p1.trans ((skeys_perm l).trans p2.symm))
  unfold told
  rw [hks, ← erase_fst]
  have hnk : k ∉ (skeys l).eraseIdx i := (List.nodup_cons.1 (p1.nodup_iff.2 hnd)).1
  refine List.map_congr_left fun x hx => ?_
  rw [mget_mdel_other _ (fun e => hnk (by rw [← e]; exact hx))]
end
/-- The place of a name. -/
theorem skeys_find {α : Type} {l : List (ByteArray × α)} {k : ByteArray} (h : (mget l k).isSome = true) : ∃ i, ∃ hi : i < (skeys l).length, (skeys l)[i] = k := List.getElem_of_mem ((skeys_perm l).mem_iff.2 ((mget_isSome (l := l)).1 h))
theorem skeys_none {α : Type} {l : List (ByteArray × α)} {k : ByteArray} (h : mget l k = none) : ∀ x ∈ skeys l, x ≠ k := fun x hx e => by
  subst e
  have := (mget_isSome (l := l)).2 ((skeys_perm l).mem_iff.1 hx)
  rw [h] at this; cases this
end Go.Proofs.Ytmlcojhanimnpaa

namespace Go.Proofs.Ytmlcojhanimnpaa
open Go.RowKit

/-- The cells of a row of holds: each hold's number, and a slice of the program's own that holds its legs. -/
def RHoldVs (w : World) : List HoldR → List Value → Prop
  | [], vs => vs = []
  | h :: r, vs => ∃ A c rest, vs = .int .i64 h.id :: .slice A h.legs.length c :: rest ∧ w.ownsRow 0 119 3 (.slice A h.legs.length c) h.legs.length (legsC h.legs) ∧ RHoldVs w r rest
theorem RHoldVs.len {w : World} : ∀ {l : List HoldR} {vs : List Value}, RHoldVs w l vs → vs.length = l.length * 2
  | [], vs, h => by
    have h' : vs = [] := h
    rw [h']; rfl
  | x :: r, vs, h => by
    obtain ⟨A, c, rest, rfl, -, hr⟩ := h
    have := RHoldVs.len hr
    simp; omega
theorem RHoldVs.one {w : World} : ∀ {l : List HoldR} {vs : List Value}, RHoldVs w l vs → ∀ u ∈ vs, u.oneCell' = true
  | [], vs, h => by
    have h' : vs = [] := h
    rw [h']; intro u hu; cases hu
  | x :: r, vs, h => by
    obtain ⟨A, c, rest, rfl, -, hr⟩ := h
    intro u hu
    rcases List.mem_cons.1 hu with rfl | hu
    · rfl
    · rcases List.mem_cons.1 hu with rfl | hu
      · rfl
      · exact RHoldVs.one hr u hu
/-- The holds stay what they are where no block of legs is written to. -/
theorem RHoldVs.kept {w w' : World} (hk : ∀ (g : Nat) (cur : Array Value), w.heap[g]? = some (Obj.cells cur 119) → w'.heap[g]? = w.heap[g]?) : ∀ {l : List HoldR} {vs : List Value}, RHoldVs w l vs → RHoldVs w' l vs
  | [], vs, h => h
  | x :: r, vs, h => by
    obtain ⟨A, c, rest, rfl, ho, hr⟩ := h
    refine ⟨A, c, rest, rfl, ⟨ho.1, ?_⟩, RHoldVs.kept hk hr⟩
    rcases ho.2 with h0 | ⟨g, cap, cur, hv, hg, hh, rest2⟩
    · exact .inl h0
    · exact .inr ⟨g, cap, cur, hv, hg, (hk g cur hh).trans hh, rest2⟩
theorem RHoldVs.at_ {w : World} : ∀ {l : List HoldR} {vs : List Value}, RHoldVs w l vs → ∀ (k : Nat) (hk : k < l.length), ∃ A c, vs[k * 2]? = some (.int .i64 l[k].id) ∧ vs[k * 2 + 1]? = some (.slice A l[k].legs.length c) ∧ w.ownsRow 0 119 3 (.slice A l[k].legs.length c) l[k].legs.length (legsC l[k].legs)
  | [], vs, h => fun k hk => by simp at hk
  | x :: r, vs, h => fun k hk => by
    obtain ⟨A, c, rest, rfl, ho, hr⟩ := h
    cases k with
    | zero => exact ⟨A, c, rfl, rfl, ho⟩
    | succ k =>
      obtain ⟨A', c', h1, h2, h3⟩ := RHoldVs.at_ hr k (by simpa using hk)
      refine ⟨A', c', ?_, ?_, h3⟩
      · rw [show (k + 1) * 2 = k * 2 + 2 by omega]; exact h1
      · rw [show (k + 1) * 2 + 1 = k * 2 + 1 + 2 by omega]; exact h2
theorem RHoldVs.append {w : World} : ∀ {l r : List HoldR} {vs us : List Value}, RHoldVs w l vs → RHoldVs w r us → RHoldVs w (l ++ r) (vs ++ us)
  | [], r, vs, us, h, h' => by
    have h0 : vs = [] := h
    rw [h0]; exact h'
  | x :: l, r, vs, us, h, h' => by
    obtain ⟨A, c, rest, rfl, ho, hr⟩ := h
    exact ⟨A, c, rest ++ us, rfl, ho, RHoldVs.append hr h'⟩
theorem RHoldVs.drop {w : World} : ∀ {l : List HoldR} {vs : List Value}, RHoldVs w l vs → ∀ k, RHoldVs w (l.drop k) (vs.drop (k * 2))
  | l, vs, h, 0 => by simpa using h
  | [], vs, h, k + 1 => by
    have h0 : vs = [] := h
    rw [h0]; simp; exact rfl
  | x :: r, vs, h, k + 1 => by
    obtain ⟨A, c, rest, rfl, ho, hr⟩ := h
    have := RHoldVs.drop hr k
    rw [show (k + 1) * 2 = k * 2 + 2 by omega]
    exact this
theorem RHoldVs.take {w : World} : ∀ {l : List HoldR} {vs : List Value}, RHoldVs w l vs → ∀ k, RHoldVs w (l.take k) (vs.take (k * 2))
  | l, vs, h, 0 => by simp; exact rfl
  | [], vs, h, k + 1 => by
    have h0 : vs = [] := h
    rw [h0]; simp; exact rfl
  | x :: r, vs, h, k + 1 => by
    obtain ⟨A, c, rest, rfl, ho, hr⟩ := h
    rw [show (k + 1) * 2 = k * 2 + 2 by omega]
    exact ⟨A, c, rest.take (k * 2), rfl, ho, RHoldVs.take hr k⟩

/-- The document's ledger in block p: three rows and a number. -/
structure RAt (w : World) (p : Nat) (va vc vh : Value) (vs : List Value) (A : List (ByteArray × Int)) (C : List Chan) (H : List HoldR) (n : Int) : Prop where
  blk : w.heap[p]? = some (.cells #[va, vc, vh, .int .i64 n] 55)
  oa : w.ownsRow 0 94 2 va A.length (A.flatMap accC)
  oc : w.ownsRow 0 95 6 vc C.length (C.flatMap chC)
  oh : w.ownsRow 0 97 2 vh H.length vs
  hv : RHoldVs w H vs
def fpR (p : Nat) (va vc vh : Value) : List Nat := p :: (va.ownBlock.toList ++ (vc.ownBlock.toList ++ vh.ownBlock.toList))
theorem RAt.cell {w : World} {p : Nat} {va vc vh : Value} {vs : List Value} {A : List (ByteArray × Int)} {C : List Chan} {H : List HoldR} {n : Int} (h : RAt w p va vc vh vs A C H n) :
    w.cell? ⟨p, 0, none⟩ = some va ∧ w.cell? ⟨p, 1, none⟩ = some vc ∧ w.cell? ⟨p, 2, none⟩ = some vh ∧ w.cell? ⟨p, 3, none⟩ = some (.int .i64 n) := by
  have h1 := h.blk
  refine ⟨?_, ?_, ?_, ?_⟩ <;> simp [World.cell?, h1]
theorem RAt.free {w : World} {p : Nat} {va vc vh : Value} {vs : List Value} {A : List (ByteArray × Int)} {C : List Chan} {H : List HoldR} {n : Int} (h : RAt w p va vc vh vs A C H n) (j : Nat) : w.frozen? ⟨p, j, none⟩ = false := by
  have h1 := h.blk
  simp [World.frozen?, h1]
theorem RAt.lts {w : World} {p : Nat} {va vc vh : Value} {vs : List Value} {A : List (ByteArray × Int)} {C : List Chan} {H : List HoldR} {n : Int} (h : RAt w p va vc vh vs A C H n) : ∀ i ∈ fpR p va vc vh, i < w.heap.size := by
  intro i hi
  simp only [fpR, List.mem_cons, List.mem_append] at hi
  rcases hi with rfl | hi | hi | hi
  · exact lt_of_block h.blk
  · exact (World.ownsRow.lt h.oa i (by simpa using hi)).2
  · exact (World.ownsRow.lt h.oc i (by simpa using hi)).2
  · exact (World.ownsRow.lt h.oh i (by simpa using hi)).2
theorem RAt.kept {w w' : World} {p : Nat} {va vc vh : Value} {vs : List Value} {A : List (ByteArray × Int)} {C : List Chan} {H : List HoldR} {n : Int} (h : RAt w p va vc vh vs A C H n) (hb : ∀ i ∈ fpR p va vc vh, w'.heap[i]? = w.heap[i]?)
    (hk : ∀ (g : Nat) (cur : Array Value), w.heap[g]? = some (Obj.cells cur 119) → w'.heap[g]? = w.heap[g]?) : RAt w' p va vc vh vs A C H n :=
  ⟨(hb p (by simp [fpR])).trans h.blk, ownsRow_block h.oa fun g hg => hb g (by simp [fpR, hg]), ownsRow_block h.oc fun g hg => hb g (by simp [fpR, hg]), ownsRow_block h.oh fun g hg => hb g (by simp [fpR, hg]), h.hv.kept hk⟩
theorem RAt.below {w w' : World} {p : Nat} {va vc vh : Value} {vs : List Value} {A : List (ByteArray × Int)} {C : List Chan} {H : List HoldR} {n : Int} (h : RAt w p va vc vh vs A C H n) (hb : Below w.heap.size w w') : RAt w' p va vc vh vs A C H n :=
  h.kept (fun i hi => hb.block i (h.lts i hi)) (fun g _ hg => hb.block g (lt_of_block hg))
theorem row_kind {w : World} {base : Nat} {E : TypeId} {k : Nat} {v : Value} {n : Nat} {xs : List Value} (h : w.ownsRow base E k v n xs) {g : Nat} (hg : v.ownBlock = some g) : ∃ cur, w.heap[g]? = some (.cells cur E) := by
  rcases h.2 with ⟨hv, -⟩ | ⟨g', cap, cur, hv, -, hh, -⟩
  · rw [hv] at hg; cases hg
  · rw [hv] at hg
    injection hg with hg
    have hg' : g' = g := hg
    subst hg'
    exact ⟨cur, hh⟩
theorem RAt.not_leg {w : World} {p : Nat} {va vc vh : Value} {vs : List Value} {A : List (ByteArray × Int)} {C : List Chan} {H : List HoldR} {n : Int} (h : RAt w p va vc vh vs A C H n) : ∀ i ∈ fpR p va vc vh, ∀ cur, w.heap[i]? ≠ some (.cells cur 119) := by
  intro i hi cur he
  simp only [fpR, List.mem_cons, List.mem_append] at hi
  rcases hi with rfl | hi | hi | hi
  · rw [h.blk] at he; cases he
  · obtain ⟨c, hc⟩ := row_kind h.oa (by simpa using hi); rw [hc] at he; cases he
  · obtain ⟨c, hc⟩ := row_kind h.oc (by simpa using hi); rw [hc] at he; cases he
  · obtain ⟨c, hc⟩ := row_kind h.oh (by simpa using hi); rw [hc] at he; cases he
/-- Beside a ledger that is written to. -/
theorem RAt.apart {w w' : World} {p p2 : Nat} {va vc vh va2 vc2 vh2 : Value} {vs vs2 : List Value} {A A2 : List (ByteArray × Int)} {C C2 : List Chan} {H H2 : List HoldR} {n n2 : Int} (h2 : RAt w p2 va2 vc2 vh2 vs2 A2 C2 H2 n2) (h1 : RAt w p va vc vh vs A C H n) (hf : Fr (fpR p va vc vh) w w') (hd : ∀ i ∈ fpR p va vc vh, i ∉ fpR p2 va2 vc2 vh2) : RAt w' p2 va2 vc2 vh2 vs2 A2 C2 H2 n2 :=
  h2.kept (fun i hi => hf.block i (h2.lts i hi) fun hm => hd i hm hi) (fun g cur hg => hf.block g (lt_of_block hg) fun hm => h1.not_leg g hm cur hg)
theorem RAt.of_heap {w w' : World} {p : Nat} {va vc vh : Value} {vs : List Value} {A : List (ByteArray × Int)} {C : List Chan} {H : List HoldR} {n : Int} (h : RAt w p va vc vh vs A C H n) (hh : w'.heap = w.heap) : RAt w' p va vc vh vs A C H n :=
  h.kept (fun i _ => by rw [hh]) (fun g _ _ => by rw [hh])
/-- A row that is read. -/
theorem RAt.accs {w : World} {p : Nat} {va vc vh : Value} {vs : List Value} {A : List (ByteArray × Int)} {C : List Chan} {H : List HoldR} {n : Int} (h : RAt w p va vc vh vs A C H n) : ∃ Aa ca, va = .slice Aa A.length ca ∧ A.length ≤ ca ∧ Cells w Aa (A.flatMap accC) := own_shape h.oa
theorem RAt.chs {w : World} {p : Nat} {va vc vh : Value} {vs : List Value} {A : List (ByteArray × Int)} {C : List Chan} {H : List HoldR} {n : Int} (h : RAt w p va vc vh vs A C H n) : ∃ Ac cc, vc = .slice Ac C.length cc ∧ C.length ≤ cc ∧ Cells w Ac (C.flatMap chC) := own_shape h.oc
/-- The document's ledger that tells what s does. -/
def RLed (w : World) (p : Nat) (va vc vh : Value) (vs : List Value) (s : Led) : Prop := RAt w p va vc vh vs (accs s) (chs s) s.holds s.last
/-- What a call of the document's ledger leaves. -/
def ROp (w : World) (p : Nat) (va vc vh : Value) (err : Int) (s' : Led) (e : Ending) (w' : World) : Prop :=
  e = .returned (.int .i64 err) ∧ ∃ va' vc' vh' vs', RLed w' p va' vc' vh' vs' s' ∧ Fr (fpR p va vc vh) w w' ∧ ∀ i ∈ fpR p va' vc' vh', i ∈ fpR p va vc vh ∨ w.heap.size ≤ i
theorem ROp.same {w w' : World} {p : Nat} {va vc vh : Value} {vs : List Value} {s : Led} {err : Int} (h : RLed w p va vc vh vs s) (hb : Below w.heap.size w w') : ROp w p va vc vh err s (.returned (.int .i64 err)) w' :=
  ⟨rfl, va, vc, vh, vs, RAt.below h hb, Fr.below hb, fun _ hi => .inl hi⟩
theorem ROp.after {w w1 w' : World} {p : Nat} {va vc vh : Value} {err : Int} {s' : Led} {e : Ending} (hb : Below w.heap.size w w1) (h : ROp w1 p va vc vh err s' e w') : ROp w p va vc vh err s' e w' := by
  obtain ⟨he, a, b, c, d, h1, h2, h3⟩ := h
  exact ⟨he, a, b, c, d, h1, (Fr.below hb).trans h2 fun i hi _ => hi, fun i hi => (h3 i hi).imp id fun h => Nat.le_trans hb.size h⟩
theorem rnamed_any (s : ByteArray) (hs : s.size ≤ reachBytes) (w : World) : Calls Try.prog 79 #[.string s] w fun e w' => e = .returned (.bool (namedB s)) ∧ w = w' := by
  unfold reachBytes at hs
  by_cases h1 : 1 ≤ s.size
  · by_cases h2 : s.size ≤ 100
    · have hb : namedB s = true := by unfold namedB; simp [h1, h2]
      rw [hb]
      go_enter Try.func79, Try.ntmps79
      go_wp2
      go_ret
      exact ⟨ret_bool (by first | (simp; omega) | simp), rfl⟩
    · have hb : namedB s = false := by unfold namedB; simp [h1, h2]
      rw [hb]
      go_enter Try.func79, Try.ntmps79
      go_wp2
      go_ret
      exact ⟨ret_bool (by first | (simp; omega) | simp), rfl⟩
  · have hb : namedB s = false := by unfold namedB; simp [h1]
    rw [hb]
    go_enter Try.func79, Try.ntmps79
    go_wp2
    go_ret
    exact ⟨ret_bool (by first | (simp; omega) | simp), rfl⟩
theorem rcoins_any (n : Int) (w : World) : Calls Try.prog 80 #[.int .i64 n] w fun e w' => e = .returned (.bool (okCoin n)) ∧ w = w' := by
  by_cases h0 : 0 ≤ n
  · by_cases h1 : n ≤ 2100000000000000
    · have hb : okCoin n = true := okCoin_iff.2 ⟨h0, h1⟩
      rw [hb]
      go_enter Try.func80, Try.ntmps80
      go_wp2
      go_ret
      exact ⟨ret_bool (by first | (simp; omega) | simp), rfl⟩
    · have hb : okCoin n = false := by rw [ok_dec, decide_eq_false h1]; simp
      rw [hb]
      go_enter Try.func80, Try.ntmps80
      go_wp2
      go_ret
      exact ⟨ret_bool (by first | (simp; omega) | simp), rfl⟩
  · have hb : okCoin n = false := by rw [ok_dec, decide_eq_false h0]; rfl
    rw [hb]
    go_enter Try.func80, Try.ntmps80
    go_wp2
    go_ret
    exact ⟨rfl, rfl⟩
set_option maxRecDepth 100000 in
set_option maxHeartbeats 2000000 in
theorem racc_any (p : Nat) (va vc vh : Value) (vs : List Value) (A : List (ByteArray × Int)) (C : List Chan) (H : List HoldR) (n : Int) (name : ByteArray) (r : Int) (w : World) (h : RAt w p va vc vh vs A C H n) (hl : A.length ≤ 1000)
    (hr : (∃ i, ∃ hi : i < A.length, A[i].1 = name ∧ r = i ∧ ∀ j (hj : j < A.length), j < i → A[j].1 ≠ name) ∨ (r = -1 ∧ ∀ j (hj : j < A.length), A[j].1 ≠ name)) :
    Calls Try.prog 78 #[.pointer (some ⟨p, 0, none⟩), .string name] w fun e w' => e = .returned (.int .i64 r) ∧ w = w' := by
  obtain ⟨e0, e1, e2, e3⟩ := h.cell
  obtain ⟨Aa, ca, rfl, -, hca⟩ := h.accs
  have HCA := Lib.hid hca
  have HR := Lib.hid hr
  clear h hca hr e1 e2 e3
  go_enter Try.func78, Try.ntmps78
  go_wp2_with fail
  go_loop [5] (fun i => ∃ k : Nat, k ≤ A.length ∧ i = .int .i64 k ∧ ∀ j (hj : j < A.length), j < k → A[j].1 ≠ name) (fun i => A.length - (intOf i).toNat)
  case atStart => exact ⟨0, Nat.zero_le _, rfl, fun j _ h => by omega⟩
  case round =>
    obtain ⟨k, hk, rfl, hall⟩ := hrel
    have HALL := Lib.hid hall
    clear hall
    by_cases hlt : k < A.length
    · obtain ⟨ad, rfl, c0, -⟩ := acc_look HCA.out hlt
      by_cases hq : A[k].1 = name
      · have hrk : r = k := by
          rcases HR.out with ⟨i, hi, h1, h2, h3⟩ | ⟨-, h2⟩
          · rcases Nat.lt_trichotomy i k with h4 | h4 | h4
            · exact absurd h1 (HALL.out i hi h4)
            · rw [h2, h4]
            · exact absurd hq (h3 k hlt h4)
          · exact absurd hq (h2 k hlt)
        subst hrk
        have he := tl_t hq
        obtain ⟨P, hP⟩ : ∃ P, A[k].1 = P := ⟨_, rfl⟩
        rw [hP] at c0 he
        clear hq hP
        go_wp2_with fail
        go_ret
        exact ⟨rfl, rfl⟩
      · have he := tl_f hq
        have HQ := Lib.hid hq
        obtain ⟨P, hP⟩ : ∃ P, A[k].1 = P := ⟨_, rfl⟩
        rw [hP] at c0 he
        clear hq hP
        go_wp2_with fail
        go_round
        case rel =>
          refine ⟨k + 1, by omega, by go_num, fun j hj hjk => ?_⟩
          rcases Nat.lt_or_ge j k with h | h
          · exact HALL.out j hj h
          · obtain rfl : j = k := by omega
            exact HQ.out
        case measure => simp [intOf]; omega
    · have hrk : r = -1 := by
        rcases HR.out with ⟨i, hi, h1, -⟩ | ⟨h1, -⟩
        · exact absurd h1 (HALL.out i hi (by omega))
        · exact h1
      subst hrk
      go_wp2_with fail
      go_ret
      exact ⟨rfl, rfl⟩
set_option maxRecDepth 100000 in
set_option maxHeartbeats 2000000 in
theorem rch_any (p : Nat) (va vc vh : Value) (vs : List Value) (A : List (ByteArray × Int)) (C : List Chan) (H : List HoldR) (n : Int) (name : ByteArray) (r : Int) (w : World) (h : RAt w p va vc vh vs A C H n) (hl : C.length ≤ 1000)
    (hr : (∃ i, ∃ hi : i < C.length, C[i].name = name ∧ r = i ∧ ∀ j (hj : j < C.length), j < i → C[j].name ≠ name) ∨ (r = -1 ∧ ∀ j (hj : j < C.length), C[j].name ≠ name)) :
    Calls Try.prog 81 #[.pointer (some ⟨p, 0, none⟩), .string name] w fun e w' => e = .returned (.int .i64 r) ∧ w = w' := by
  obtain ⟨e0, e1, e2, e3⟩ := h.cell
  obtain ⟨Aa, ca, rfl, -, hca⟩ := h.chs
  have HCA := Lib.hid hca
  have HR := Lib.hid hr
  clear h hca hr e0 e2 e3
  go_enter Try.func81, Try.ntmps81
  go_wp2_with fail
  go_loop [5] (fun i => ∃ k : Nat, k ≤ C.length ∧ i = .int .i64 k ∧ ∀ j (hj : j < C.length), j < k → C[j].name ≠ name) (fun i => C.length - (intOf i).toNat)
  case atStart => exact ⟨0, Nat.zero_le _, rfl, fun j _ h => by omega⟩
  case round =>
    obtain ⟨k, hk, rfl, hall⟩ := hrel
    have HALL := Lib.hid hall
    clear hall
    by_cases hlt : k < C.length
    · obtain ⟨ad, rfl, c0, -⟩ := ch_look HCA.out hlt
      by_cases hq : C[k].name = name
      · have hrk : r = k := by
          rcases HR.out with ⟨i, hi, h1, h2, h3⟩ | ⟨-, h2⟩
          · rcases Nat.lt_trichotomy i k with h4 | h4 | h4
            · exact absurd h1 (HALL.out i hi h4)
            · rw [h2, h4]
            · exact absurd hq (h3 k hlt h4)
          · exact absurd hq (h2 k hlt)
        subst hrk
        have he := tl_t hq
        obtain ⟨P, hP⟩ : ∃ P, C[k].name = P := ⟨_, rfl⟩
        rw [hP] at c0 he
        clear hq hP
        go_wp2_with fail
        go_ret
        exact ⟨rfl, rfl⟩
      · have he := tl_f hq
        have HQ := Lib.hid hq
        obtain ⟨P, hP⟩ : ∃ P, C[k].name = P := ⟨_, rfl⟩
        rw [hP] at c0 he
        clear hq hP
        go_wp2_with fail
        go_round
        case rel =>
          refine ⟨k + 1, by omega, by go_num, fun j hj hjk => ?_⟩
          rcases Nat.lt_or_ge j k with h | h
          · exact HALL.out j hj h
          · obtain rfl : j = k := by omega
            exact HQ.out
        case measure => simp [intOf]; omega
    · have hrk : r = -1 := by
        rcases HR.out with ⟨i, hi, h1, -⟩ | ⟨h1, -⟩
        · exact absurd h1 (HALL.out i hi (by omega))
        · exact h1
      subst hrk
      go_wp2_with fail
      go_ret
      exact ⟨rfl, rfl⟩
end Go.Proofs.Ytmlcojhanimnpaa

namespace Go.Proofs.Ytmlcojhanimnpaa
open Go.RowKit

theorem flat_set {α : Type} (f : α → List Value) (m : Nat) (hf : ∀ x, (f x).length = m) {x' : α} {u : Value} {j : Nat} (hj : j < m) : ∀ (l : List α) (i : Nat) (hi : i < l.length), f x' = (f l[i]).set j u → (l.flatMap f).set (i * m + j) u = (l.set i x').flatMap f
  | [], i, hi, _ => absurd hi (by simp)
  | x :: r, 0, _, h => by
    have h' : f x' = (f x).set j u := h
    rw [List.flatMap_cons, List.set_cons_zero, List.flatMap_cons, Nat.zero_mul, Nat.zero_add, List.set_append_left _ _ (by rw [hf]; exact hj), h']
  | x :: r, i + 1, hi, h => by
    rw [List.flatMap_cons, List.set_cons_succ, List.flatMap_cons, List.set_append_right _ _ (by rw [hf, Nat.add_mul]; omega), hf, show (i + 1) * m + j - m = i * m + j by rw [Nat.add_mul]; omega]
    congr 1
    exact flat_set f m hf hj r i (by simpa using hi) h
/-- What a store into one block leaves alone. -/
theorem put_other (w : World) (k g j : Nat) (u : Value) : ∀ i, i ≠ g → ((w.drewN k).setCell ⟨g, j, none⟩ u).heap[i]? = w.heap[i]? := fun i hi => Below.heap_setCell (w.drewN k) ⟨g, j, none⟩ u i (fun e => hi e)
theorem put_fr (w : World) (k g j : Nat) (u : Value) {F : List Nat} (hg : g ∈ F) : Fr F w ((w.drewN k).setCell ⟨g, j, none⟩ u) :=
  ⟨rfl, rfl, rfl, by simp [World.setCell], fun i _ hn => put_other w k g j u i (fun e => hn (by rw [e]; exact hg))⟩
theorem field_addr (g m j : Nat) (hj : 0 < j) : (⟨((⟨g, 0, none⟩ : Addr).add m).block, ((⟨g, 0, none⟩ : Addr).add m).off + j, none⟩ : Addr) = ⟨g, m + j, none⟩ := by
  rw [next_add _ _ _ hj, Go.WideShapes.add_plain, Nat.zero_add]
theorem own_drewN {w : World} {base : Nat} {E : TypeId} {k : Nat} {v : Value} {n : Nat} {xs : List Value} (h : w.ownsRow base E k v n xs) (m : Nat) : (w.drewN m).ownsRow base E k v n xs := h
/-- A store of an account's coins. -/
theorem RAt.acc_put {w : World} {p : Nat} {Aa : Option Addr} {na ca : Nat} {vc vh : Value} {vs : List Value} {A : List (ByteArray × Int)} {C : List Chan} {H : List HoldR} {n : Int} (h : RAt w p (.slice Aa na ca) vc vh vs A C H n) {i : Nat} (hi : i < A.length) :
    ∃ ad, Aa = some ad ∧ w.cell? (ad.add (i * 2)) = some (.string A[i].1) ∧ w.cell? ⟨(ad.add (i * 2)).block, (ad.add (i * 2)).off + 1, none⟩ = some (.int .i64 A[i].2) ∧ w.frozen? ⟨(ad.add (i * 2)).block, (ad.add (i * 2)).off + 1, none⟩ = false ∧
      (∀ (k : Nat) (m : Int), RAt ((w.drewN k).setCell ⟨(ad.add (i * 2)).block, (ad.add (i * 2)).off + 1, none⟩ (.int .i64 m)) p (.slice Aa na ca) vc vh vs (A.set i (A[i].1, m)) C H n ∧ Fr (fpR p (.slice Aa na ca) vc vh) w ((w.drewN k).setCell ⟨(ad.add (i * 2)).block, (ad.add (i * 2)).off + 1, none⟩ (.int .i64 m))) := by
  have ho := h.oa
  rcases h.oa.2 with ⟨hv, hn⟩ | ⟨g, cap, cur, hv, -, hh, -⟩
  · rw [hn] at hi; cases hi
  · injection hv with hv1 hv2 hv3
    subst hv1; subst hv2; subst hv3
    refine ⟨⟨g, 0, none⟩, rfl, ?_, ?_, ?_, ?_⟩
    · rw [Go.WideShapes.add_plain, Nat.zero_add, ho.cellAt _ (by omega)]
      exact flat_at accC 2 (fun _ => rfl) A i hi 0 (by decide)
    · rw [field_addr _ _ _ (by decide), ho.cellAt _ (by omega)]
      exact flat_at accC 2 (fun _ => rfl) A i hi 1 (by decide)
    · rw [field_addr _ _ _ (by decide)]
      exact ho.frozenAt _
    · intro k m
      rw [field_addr _ _ _ (by decide)]
      have hk : ∀ (i' : Nat) (cs : Array Value) (T : TypeId), w.heap[i']? = some (.cells cs T) → T ≠ 94 → i' ≠ g := fun i' cs T h1 h2 e => by
        subst e
        rw [hh] at h1
        injection h1 with h1
        injection h1 with h1 h3
        exact h2 h3.symm
      refine ⟨⟨(put_other w k g _ _ p (hk p _ _ h.blk (by decide))).trans h.blk, ?_, ?_, ?_, ?_⟩, put_fr w k g _ _ (by simp [fpR, Value.ownBlock])⟩
      · have h1 := (World.ownsRow.stored (w := w.drewN k) (own_drewN ho k) (i * 2 + 1) (.int .i64 m)).1
        rw [flat_set accC 2 (fun _ => rfl) (x' := (A[i].1, m)) (by decide) A i hi rfl] at h1
        rw [List.length_set]
        exact h1
      · exact ownsRow_block h.oc fun g' hg' => by obtain ⟨c, hc⟩ := row_kind h.oc hg'; exact put_other w k g _ _ g' (hk g' _ _ hc (by decide))
      · exact ownsRow_block h.oh fun g' hg' => by obtain ⟨c, hc⟩ := row_kind h.oh hg'; exact put_other w k g _ _ g' (hk g' _ _ hc (by decide))
      · exact h.hv.kept fun g' cur hc => put_other w k g _ _ g' (hk g' _ _ hc (by decide))
def putF (c : Chan) (j : Nat) (m : Int) : Chan := if j = 4 then { c with hasA := m } else { c with hasB := m }
/-- A store of what a channel's side has. -/
theorem RAt.ch_put {w : World} {p : Nat} {Ac : Option Addr} {nc cc : Nat} {va vh : Value} {vs : List Value} {A : List (ByteArray × Int)} {C : List Chan} {H : List HoldR} {n : Int} (h : RAt w p va (.slice Ac nc cc) vh vs A C H n) {i : Nat} (hi : i < C.length) :
    ∃ ad, Ac = some ad ∧ w.cell? (ad.add (i * 6)) = some (.string C[i].name) ∧ w.cell? ⟨(ad.add (i * 6)).block, (ad.add (i * 6)).off + 1, none⟩ = some (.string C[i].a) ∧ w.cell? ⟨(ad.add (i * 6)).block, (ad.add (i * 6)).off + 2, none⟩ = some (.string C[i].b) ∧ w.cell? ⟨(ad.add (i * 6)).block, (ad.add (i * 6)).off + 3, none⟩ = some (.int .i64 C[i].cap) ∧
      w.cell? ⟨(ad.add (i * 6)).block, (ad.add (i * 6)).off + 4, none⟩ = some (.int .i64 C[i].hasA) ∧ w.cell? ⟨(ad.add (i * 6)).block, (ad.add (i * 6)).off + 5, none⟩ = some (.int .i64 C[i].hasB) ∧
      (∀ j, 0 < j → w.frozen? ⟨(ad.add (i * 6)).block, (ad.add (i * 6)).off + j, none⟩ = false) ∧
      (∀ (k : Nat) (j : Nat) (m : Int), j = 4 ∨ j = 5 → RAt ((w.drewN k).setCell ⟨(ad.add (i * 6)).block, (ad.add (i * 6)).off + j, none⟩ (.int .i64 m)) p va (.slice Ac nc cc) vh vs A (C.set i (putF C[i] j m)) H n ∧ Fr (fpR p va (.slice Ac nc cc) vh) w ((w.drewN k).setCell ⟨(ad.add (i * 6)).block, (ad.add (i * 6)).off + j, none⟩ (.int .i64 m))) := by
  have ho := h.oc
  rcases h.oc.2 with ⟨hv, hn⟩ | ⟨g, cap, cur, hv, -, hh, -⟩
  · rw [hn] at hi; cases hi
  · injection hv with hv1 hv2 hv3
    subst hv1; subst hv2; subst hv3
    refine ⟨⟨g, 0, none⟩, rfl, ?_, ?_, ?_, ?_, ?_, ?_, ?_, ?_⟩
    · rw [Go.WideShapes.add_plain, Nat.zero_add, ho.cellAt _ (by omega)]
      exact flat_at chC 6 (fun _ => rfl) C i hi 0 (by decide)
    · rw [field_addr _ _ _ (by decide), ho.cellAt _ (by omega)]
      exact flat_at chC 6 (fun _ => rfl) C i hi 1 (by decide)
    · rw [field_addr _ _ _ (by decide), ho.cellAt _ (by omega)]
      exact flat_at chC 6 (fun _ => rfl) C i hi 2 (by decide)
    · rw [field_addr _ _ _ (by decide), ho.cellAt _ (by omega)]
      exact flat_at chC 6 (fun _ => rfl) C i hi 3 (by decide)
    · rw [field_addr _ _ _ (by decide), ho.cellAt _ (by omega)]
      exact flat_at chC 6 (fun _ => rfl) C i hi 4 (by decide)
    · rw [field_addr _ _ _ (by decide), ho.cellAt _ (by omega)]
      exact flat_at chC 6 (fun _ => rfl) C i hi 5 (by decide)
    · intro j hj
      rw [field_addr _ _ _ hj]
      exact ho.frozenAt _
    · intro k j m hj
      rw [field_addr _ _ _ (by omega)]
      have hk : ∀ (i' : Nat) (cs : Array Value) (T : TypeId), w.heap[i']? = some (.cells cs T) → T ≠ 95 → i' ≠ g := fun i' cs T h1 h2 e => by
        subst e
        rw [hh] at h1
        injection h1 with h1
        injection h1 with h1 h3
        exact h2 h3.symm
      refine ⟨⟨(put_other w k g _ _ p (hk p _ _ h.blk (by decide))).trans h.blk, ?_, ?_, ?_, ?_⟩, put_fr w k g _ _ (by simp [fpR, Value.ownBlock])⟩
      · exact ownsRow_block h.oa fun g' hg' => by obtain ⟨c, hc⟩ := row_kind h.oa hg'; exact put_other w k g _ _ g' (hk g' _ _ hc (by decide))
      · have h1 := (World.ownsRow.stored (w := w.drewN k) (own_drewN ho k) (i * 6 + j) (.int .i64 m)).1
        rw [flat_set chC 6 (fun _ => rfl) (x' := putF C[i] j m) (by omega) C i hi (by rcases hj with rfl | rfl <;> rfl)] at h1
        rw [List.length_set]
        exact h1
      · exact ownsRow_block h.oh fun g' hg' => by obtain ⟨c, hc⟩ := row_kind h.oh hg'; exact put_other w k g _ _ g' (hk g' _ _ hc (by decide))
      · exact h.hv.kept fun g' cur hc => put_other w k g _ _ g' (hk g' _ _ hc (by decide))
end Go.Proofs.Ytmlcojhanimnpaa

namespace Go.Proofs.Ytmlcojhanimnpaa
open Go.RowKit

def cq (s : Led) (q : ByteArray) : Int := (mget s.coins q).getD 0
theorem cq_pos {s : Led} (h : Inv s) (q : ByteArray) : 0 ≤ cq s q := getD_pos h.pos q
theorem ksum_cq {s : Led} (h : Inv s) : ksum (cq s) (accs s) = asum id s.coins := by
  rw [ksum_keys (cq s) (r := s.coins) (by rw [accs_keys]; exact skeys_perm _)]
  have : ∀ l : List (ByteArray × Int), (∀ p ∈ l, mget s.coins p.1 = some p.2) → ksum (cq s) l = asum id l := by
    intro l
    induction l with
    | nil => intro _; rfl
    | cons p r ih =>
      intro hp
      rw [ksum_cons, asum_cons, ih fun q hq => hp q (List.mem_cons_of_mem _ hq)]
      unfold cq
      rw [hp p (List.mem_cons_self ..)]
      rfl
  exact this s.coins fun p hp => by
    obtain ⟨j, hj, rfl⟩ := List.getElem_of_mem hp
    exact mget_at h.nk (List.getElem?_eq_getElem hj)
theorem accs_cq {s : Led} {k : Nat} (hk : k < (accs s).length) : (accs s)[k].2 = cq s (accs s)[k].1 := by
  have := accs_some s (List.getElem_mem hk)
  unfold cq
  rw [this]; rfl
theorem chs_perm {s : Led} (h : Inv s) : (chs s).Perm (s.chans.map (·.2)) := by
  unfold chs
  refine ((skeys_perm s.chans).map _).trans ?_
  rw [List.map_map]
  have : s.chans.map ((fun k => (mget s.chans k).getD chan0) ∘ fun p => p.1) = s.chans.map (·.2) := List.map_congr_left fun p hp => by
    obtain ⟨j, hj, rfl⟩ := List.getElem_of_mem hp
    simp only [Function.comp, mget_at h.nc (List.getElem?_eq_getElem hj)]
    rfl
  rw [this]
def csum (f : Chan → Int) (l : List Chan) : Int := (l.map f).sum
theorem csum_chs {s : Led} (h : Inv s) (f : Chan → Int) : csum f (chs s) = asum f s.chans := by
  unfold csum asum
  have := perm_sum ((chs_perm h).map f)
  rw [List.map_map] at this
  exact this
theorem csum_step (f : Chan → Int) (l : List Chan) {k : Nat} (hk : k < l.length) : csum f (l.take (k + 1)) = csum f (l.take k) + f l[k] := by
  unfold csum
  rw [List.take_succ_eq_append_getElem hk, List.map_append, List.sum_append]
  simp
theorem csum_take (f : Chan → Int) (l : List Chan) (h : ∀ x ∈ l, 0 ≤ f x) (k : Nat) : 0 ≤ csum f (l.take k) ∧ csum f (l.take k) ≤ csum f l := by
  have h0 : ∀ l : List Chan, (∀ x ∈ l, 0 ≤ f x) → 0 ≤ csum f l := by
    intro l
    induction l with
    | nil => intro _; exact Int.le_refl _
    | cons x r ih =>
      intro hl
      have h1 := ih fun y hy => hl y (List.mem_cons_of_mem _ hy)
      have h2 := hl x (List.mem_cons_self ..)
      have h3 : csum f (x :: r) = f x + csum f r := by simp [csum]
      omega
  have h1 : csum f (l.take k ++ l.drop k) = csum f (l.take k) + csum f (l.drop k) := by unfold csum; rw [List.map_append, List.sum_append]
  rw [List.take_append_drop] at h1
  have h2 := h0 (l.take k) fun x hx => h x (List.mem_of_mem_take hx)
  have h3 := h0 (l.drop k) fun x hx => h x (List.mem_of_mem_drop hx)
  omega
set_option maxRecDepth 100000 in
set_option maxHeartbeats 4000000 in
theorem rtot_any (p : Nat) (va vc vh : Value) (vs : List Value) (s : Led) (w : World) (hs : Inv s) (h : RLed w p va vc vh vs s) :
    Calls Try.prog 56 #[.pointer (some ⟨p, 0, none⟩)] w fun e w' => e = .returned (.int .i64 (total s)) ∧ w = w' := by
  obtain ⟨e0, e1, -, -⟩ := RAt.cell h
  obtain ⟨Aa, ca, rfl, -, hca⟩ := RAt.accs h
  obtain ⟨Ac, cc, rfl, -, hcc⟩ := RAt.chs h
  have hla := accs_len s
  have hlc := chs_len s
  have hk1 := hs.lk
  have hk2 := hs.lc
  have hA1 : (accs s).length ≤ 64 := by omega
  have hC1 : (chs s).length ≤ 256 := by omega
  have hkc := ksum_cq hs
  have hcs := csum_chs hs Chan.cap
  have htb := total_bounds hs
  have hsc := sum_coins hs
  have hsp := sum_caps hs
  have hcp : ∀ x ∈ chs s, 0 ≤ x.cap := fun x hx => by have := (chan_sum hs hx).2.2.2.1; omega
  obtain ⟨D1, hD1⟩ : ∃ D, asum id s.coins = D := ⟨_, rfl⟩
  obtain ⟨D2, hD2⟩ : ∃ D, asum Chan.cap s.chans = D := ⟨_, rfl⟩
  have ht : total s = D1 + D2 := by unfold total; rw [hD1, hD2]
  rw [ht] at htb ⊢
  rw [hD1] at hkc hsc
  rw [hD2] at hcs hsp
  have HS := Lib.hid hs
  have HCA := Lib.hid hca
  have HCC := Lib.hid hcc
  have HKC := Lib.hid hkc
  have HCS := Lib.hid hcs
  have HCP := Lib.hid hcp
  clear h hs hca hcc hla hlc hk1 hk2 hkc hcs hcp hD1 hD2 ht
  go_enter Try.func56, Try.ntmps56
  go_wp2_with fail
  go_loop [3, 4] (fun n i => ∃ k : Nat, k ≤ (accs s).length ∧ i = .int .i64 k ∧ n = .int .i64 (ksum (cq s) ((accs s).take k))) (fun _ i => (accs s).length - (intOf i).toNat)
  case atStart => exact ⟨0, Nat.zero_le _, rfl, rfl⟩
  case round =>
    obtain ⟨k, hk, rfl, hn⟩ := hrel
    by_cases hlt : k < (accs s).length
    · obtain ⟨ad, rfl, -, c1⟩ := acc_look HCA.out hlt
      have u1 := ksum_take (cq s) (cq_pos HS.out) (accs s) (k + 1)
      have u2 := ksum_step (cq s) (accs s) hlt
      have u3 := ksum_take (cq s) (cq_pos HS.out) (accs s) k
      have u4 := accs_cq hlt
      have u5 := cq_pos HS.out (accs s)[k].1
      rw [HKC.out] at u1
      rw [← u4] at u2 u5
      obtain ⟨P, hP⟩ : ∃ P, (accs s)[k].2 = P := ⟨_, rfl⟩
      obtain ⟨S, hS⟩ : ∃ S, ksum (cq s) ((accs s).take k) = S := ⟨_, rfl⟩
      rw [hP] at c1 u2 u5
      rw [hS] at u2 u3 hn
      subst hn
      have g1 : 0 ≤ S + P := by omega
      have g2 : S + P ≤ 2100000000000000 := by omega
      have g3 : 0 ≤ S := by omega
      have g4 : S ≤ 2100000000000000 := by omega
      have HU := Lib.hid u2
      clear u1 u2 u3 u4 hP hS
      go_wp2_with fail
      go_round
      case rel => exact ⟨k + 1, by omega, by go_num, by rw [HU.out]⟩
      case measure => simp [intOf]; omega
    · have hte : (accs s).take k = accs s := List.take_of_length_le (by omega)
      rw [hte, HKC.out] at hn
      subst hn
      clear hte
      go_wp2_with fail
      go_loop [3, 5] (fun n i => ∃ k : Nat, k ≤ (chs s).length ∧ i = .int .i64 k ∧ n = .int .i64 (D1 + csum Chan.cap ((chs s).take k))) (fun _ i => (chs s).length - (intOf i).toNat)
      case atStart => exact ⟨0, Nat.zero_le _, rfl, by simp [csum]⟩
      case round =>
        obtain ⟨k, hk, rfl, hn⟩ := hrel
        by_cases hlt : k < (chs s).length
        · obtain ⟨ad, rfl, -, -, -, c3, -, -⟩ := ch_look HCC.out hlt
          have u1 := csum_take Chan.cap (chs s) HCP.out (k + 1)
          have u2 := csum_step Chan.cap (chs s) hlt
          have u3 := csum_take Chan.cap (chs s) HCP.out k
          have u5 := HCP.out _ (List.getElem_mem hlt)
          rw [HCS.out] at u1
          obtain ⟨P, hP⟩ : ∃ P, (chs s)[k].cap = P := ⟨_, rfl⟩
          obtain ⟨S, hS⟩ : ∃ S, csum Chan.cap ((chs s).take k) = S := ⟨_, rfl⟩
          rw [hP] at c3 u2 u5
          rw [hS] at u2 u3 hn
          subst hn
          have g1 : 0 ≤ D1 + S + P := by omega
          have g2 : D1 + S + P ≤ 2100000000000000 := by omega
          have g3 : 0 ≤ D1 + S := by omega
          have g4 : D1 + S ≤ 2100000000000000 := by omega
          have HU := Lib.hid u2
          clear u1 u2 u3 hP hS
          go_wp2_with fail
          go_round
          case rel => exact ⟨k + 1, by omega, by go_num, by rw [HU.out]; congr 1; omega⟩
          case measure => simp [intOf]; omega
        · have hte : (chs s).take k = chs s := List.take_of_length_le (by omega)
          rw [hte, HCS.out] at hn
          subst hn
          clear hte
          go_wp2_with fail
          go_ret
          exact ⟨rfl, rfl⟩
/-- Where an account stands, or does not. -/
theorem acc_place {s : Led} (hn : (s.coins.map (·.1)).Nodup) {name : ByteArray} (h : (mget s.coins name).isSome = true) : ∃ i, ∃ hi : i < (accs s).length, (accs s)[i] = (name, cq s name) ∧ (∃ hi2 : i < (skeys s.coins).length, (skeys s.coins)[i] = name) ∧ ∀ j (hj : j < (accs s).length), j < i → (accs s)[j].1 ≠ name := by
  obtain ⟨i, hi, hk⟩ := skeys_find h
  have hi2 : i < (accs s).length := by rw [accs_len, ← skeys_len]; exact hi
  refine ⟨i, hi2, ?_, ⟨hi, hk⟩, fun j hj hji e => ?_⟩
  · rw [accs_at s hi2 hi, hk]; rfl
  · have hj2 : j < (skeys s.coins).length := by omega
    rw [accs_at s hj hj2] at e
    have := (List.getElem_inj (skeys_nodup hn) (h₀ := hj2) (h₁ := hi)).1 (by rw [hk]; exact e)
    omega
theorem acc_noplace {s : Led} {name : ByteArray} (h : mget s.coins name = none) : ∀ j (hj : j < (accs s).length), (accs s)[j].1 ≠ name := fun j hj e => by
  have := accs_some s (List.getElem_mem hj)
  rw [e, h] at this; cases this
theorem rfind_some {s : Led} {w : World} {p : Nat} {va vc vh : Value} {vs : List Value} (hs : Inv s) (h : RLed w p va vc vh vs s) {i : Nat} {name : ByteArray} (hi : i < (accs s).length) (h1 : (accs s)[i] = (name, cq s name)) (h2 : ∀ j (hj : j < (accs s).length), j < i → (accs s)[j].1 ≠ name) :
    Calls Try.prog 78 #[.pointer (some ⟨p, 0, none⟩), .string name] w fun e w' => e = .returned (.int .i64 i) ∧ w = w' :=
  racc_any p va vc vh vs _ _ _ _ name i w h (by rw [accs_len]; have := hs.lk; omega) (.inl ⟨i, hi, by rw [h1], rfl, h2⟩)
theorem rfind_none {s : Led} {w : World} {p : Nat} {va vc vh : Value} {vs : List Value} (hs : Inv s) (h : RLed w p va vc vh vs s) {name : ByteArray} (hm : mget s.coins name = none) :
    Calls Try.prog 78 #[.pointer (some ⟨p, 0, none⟩), .string name] w fun e w' => e = .returned (.int .i64 (-1)) ∧ w = w' :=
  racc_any p va vc vh vs _ _ _ _ name (-1) w h (by rw [accs_len]; have := hs.lk; omega) (.inr ⟨rfl, acc_noplace hm⟩)
theorem accs_set {s : Led} (hn : (s.coins.map (·.1)).Nodup) {i : Nat} {name : ByteArray} (hm : (mget s.coins name).isSome = true) (hi : i < (skeys s.coins).length) (hk : (skeys s.coins)[i] = name) (m : Int) : accs { s with coins := mset s.coins name m } = (accs s).set i (name, m) :=
  told_set (g := fun k v => (k, v)) (d := 0) hn hi hk hm
/-- A store of coins in place. -/
theorem rput_coins {s : Led} {w : World} {p : Nat} {ad : Addr} {na ca : Nat} {vc vh : Value} {vs : List Value} (hn : (s.coins.map (·.1)).Nodup) (h : RLed w p (.slice (some ad) na ca) vc vh vs s) {i : Nat} {name : ByteArray} (hi : i < (accs s).length) (h1 : (accs s)[i] = (name, cq s name)) :
    w.cell? ⟨(ad.add (i * 2)).block, (ad.add (i * 2)).off + 1, none⟩ = some (.int .i64 (cq s name)) ∧ w.frozen? ⟨(ad.add (i * 2)).block, (ad.add (i * 2)).off + 1, none⟩ = false ∧
      ∀ (m : Int) (w' : World), w'.heap = (w.setCell ⟨(ad.add (i * 2)).block, (ad.add (i * 2)).off + 1, none⟩ (.int .i64 m)).heap → w'.os = w.os → w'.tape = w.tape → w'.output = w.output → RLed w' p (.slice (some ad) na ca) vc vh vs { s with coins := mset s.coins name m } ∧ Fr (fpR p (.slice (some ad) na ca) vc vh) w w' := by
  obtain ⟨ad', hA, -, c1, fz, hput⟩ := RAt.acc_put h hi
  injection hA with hA
  subst hA
  rw [h1] at c1
  have hi2 : i < (skeys s.coins).length := by rw [skeys_len, ← accs_len]; exact hi
  have hk : (skeys s.coins)[i] = name := by
    have := accs_at s hi hi2
    rw [h1] at this
    injection this with h3 h4
    exact h3.symm
  have hm : (mget s.coins name).isSome = true := by
    have := accs_some s (List.getElem_mem hi)
    rw [h1] at this
    rw [this]; rfl
  refine ⟨c1, fz, fun m w' hh ho ht hu => ?_⟩
  obtain ⟨g1, g2⟩ := hput 0 m
  rw [h1] at g1
  refine ⟨?_, ⟨ho, ht, hu, by rw [hh]; exact g2.size, fun j hj hjn => by rw [hh]; exact g2.block j hj hjn⟩⟩
  show RAt _ _ _ _ _ _ (accs { s with coins := mset s.coins name m }) _ _ _
  rw [accs_set hn hm hi2 hk]
  exact RAt.of_heap g1 (by rw [hh]; rfl)
/-- The place of an account is its name's. -/
theorem acc_same {s s' : Led} (hn : (s.coins.map (·.1)).Nodup) (hk : skeys s'.coins = skeys s.coins) {i j : Nat} {name : ByteArray} (hi : i < (accs s).length) (h1 : (accs s)[i].1 = name) (hj : j < (accs s').length) (h2 : (accs s')[j].1 = name) : i = j := by
  have hi2 : i < (skeys s.coins).length := by rw [skeys_len, ← accs_len]; exact hi
  have hj2 : j < (skeys s'.coins).length := by rw [skeys_len, ← accs_len]; exact hj
  have e1 := accs_at s hi hi2
  have e2 := accs_at s' hj hj2
  rw [e1] at h1
  rw [e2] at h2
  have hj3 : j < (skeys s.coins).length := by rw [← hk]; exact hj2
  refine (List.getElem_inj (skeys_nodup hn) (h₀ := hi2) (h₁ := hj3)).1 ?_
  have e3 : (skeys s'.coins)[j] = (skeys s.coins)[j] := by congr 1
  rw [← e3]
  exact h1.trans h2.symm
theorem rop_of {w w' : World} {p : Nat} {va vc vh : Value} {vs : List Value} {s' : Led} {err : Int} (h : RLed w' p va vc vh vs s') (hf : Fr (fpR p va vc vh) w w') : ROp w p va vc vh err s' (.returned (.int .i64 err)) w' := ⟨rfl, va, vc, vh, vs, h, hf, fun _ hi => .inl hi⟩
set_option maxRecDepth 100000 in
set_option maxHeartbeats 4000000 in
theorem rpay_any (p : Nat) (va vc vh : Value) (vs : List Value) (s : Led) (src dst : ByteArray) (n k : Int) (w : World) (hs : Inv s) (h : RLed w p va vc vh vs s) :
    Calls Try.prog 48 #[.pointer (some ⟨p, 0, none⟩), .string src, .string dst, .int .i64 n, .int .i64 k] w (ROp w p va vc vh (pay s src dst n k).1 (pay s src dst n k).2) := by
  obtain ⟨e0, -, -, -⟩ := RAt.cell h
  obtain ⟨Aa, ca, rfl, -, -⟩ := RAt.accs h
  have H := Lib.hid h
  have HS := Lib.hid hs
  have hal : (accs s).length ≤ 64 := by rw [accs_len]; exact hs.lk
  cases hm1 : mget s.coins src with
  | none =>
    have hr : pay s src dst n k = (5, s) := by unfold pay; rw [if_pos (by unfold both; rw [hm1]; rfl)]
    rw [hr]
    have HF := Lib.hid (rfind_none hs h hm1)
    cases hm2 : mget s.coins dst with
    | none =>
      have HF2 := Lib.hid (rfind_none hs h hm2)
      clear h hs hr hm1 hm2
      go_enter Try.func48, Try.ntmps48
      go_wp2_with fail
      refine HF.out.mono ?_
      rintro e w1 ⟨rfl, rfl⟩
      go_wp2_with fail
      refine HF2.out.mono ?_
      rintro e w1 ⟨rfl, rfl⟩
      go_wp2_with fail
      go_ret
      exact ROp.same H.out (Below.refl _ _)
    | some v2 =>
      obtain ⟨i2, hi2, g1, -, g2⟩ := acc_place hs.nk (name := dst) (by rw [hm2]; rfl)
      have HF2 := Lib.hid (rfind_some hs h hi2 g1 g2)
      clear h hs hr hm1 hm2 g1 g2
      go_enter Try.func48, Try.ntmps48
      go_wp2_with fail
      refine HF.out.mono ?_
      rintro e w1 ⟨rfl, rfl⟩
      go_wp2_with fail
      refine HF2.out.mono ?_
      rintro e w1 ⟨rfl, rfl⟩
      go_wp2_with fail
      go_ret
      exact ROp.same H.out (Below.refl _ _)
  | some v1 =>
    obtain ⟨i1, hi1, hg1, -, g1⟩ := acc_place hs.nk (name := src) (by rw [hm1]; rfl)
    have hAs : ∃ ad, Aa = some ad := by
      obtain ⟨ad, hA, -⟩ := RAt.acc_put h hi1
      exact ⟨ad, hA⟩
    obtain ⟨ad, rfl⟩ := hAs
    obtain ⟨c1, fz1, hput1⟩ := rput_coins hs.nk h hi1 hg1
    have HF := Lib.hid (rfind_some hs h hi1 hg1 g1)
    cases hm2 : mget s.coins dst with
    | none =>
      have hr : pay s src dst n k = (5, s) := by unfold pay; rw [if_pos (by unfold both; rw [hm2]; simp)]
      rw [hr]
      have HF2 := Lib.hid (rfind_none hs h hm2)
      clear h hs hr hm1 hm2 hput1 hg1 g1 c1 fz1
      go_enter Try.func48, Try.ntmps48
      go_wp2_with fail
      refine HF.out.mono ?_
      rintro e w1 ⟨rfl, rfl⟩
      go_wp2_with fail
      refine HF2.out.mono ?_
      rintro e w1 ⟨rfl, rfl⟩
      go_wp2_with fail
      go_ret
      exact ROp.same H.out (Below.refl _ _)
    | some v2 =>
      have hboth : both s src dst = true := by unfold both; rw [hm1, hm2]; rfl
      obtain ⟨i2, hi2, hg2, -, g2⟩ := acc_place hs.nk (name := dst) (by rw [hm2]; rfl)
      have HF2 := Lib.hid (rfind_some hs h hi2 hg2 g2)
      by_cases hsd : src = dst
      · have hr : pay s src dst n k = (2, s) := by unfold pay; rw [if_neg (by rw [hboth]; simp), if_pos hsd]
        rw [hr]
        have hii : i1 = i2 := by
          rcases Nat.lt_trichotomy i1 i2 with h4 | h4 | h4
          · exact absurd (by rw [hg1, hsd]) (g2 i1 hi1 h4)
          · exact h4
          · exact absurd (by rw [hg2, hsd]) (g1 i2 hi2 h4)
        subst hii
        clear h hs hr hm1 hm2 hput1 hg1 hg2 g1 g2 c1 fz1 hboth hsd
        go_enter Try.func48, Try.ntmps48
        go_wp2_with fail
        refine HF.out.mono ?_
        rintro e w1 ⟨rfl, rfl⟩
        go_wp2_with fail
        refine HF2.out.mono ?_
        rintro e w1 ⟨rfl, rfl⟩
        go_wp2_with fail
        go_ret
        exact ROp.same H.out (Below.refl _ _)
      · have hii : ¬ (i1 : Int) = (i2 : Int) := by
          intro e
          have e2 : i1 = i2 := by omega
          subst e2
          rw [hg1] at hg2
          injection hg2 with hx
          exact hsd hx
        cases ho1 : okCoin n with
        | false =>
          have hr : pay s src dst n k = (40, s) := by unfold pay; rw [if_neg (by rw [hboth]; simp), if_neg hsd, if_pos (by rw [ho1]; rfl)]
          rw [hr]
          have HO := Lib.hid ho1
          clear h hs hr hm1 hm2 hput1 hg1 hg2 g1 g2 c1 fz1 hboth hsd ho1
          go_enter Try.func48, Try.ntmps48
          go_wp2_with fail
          refine HF.out.mono ?_
          rintro e w1 ⟨rfl, rfl⟩
          go_wp2_with fail
          refine HF2.out.mono ?_
          rintro e w1 ⟨rfl, rfl⟩
          go_wp2_with fail
          refine (rcoins_any n _).mono ?_
          rw [HO.out]
          rintro e w1 ⟨rfl, rfl⟩
          go_wp2_with fail
          go_ret
          exact ROp.same H.out (Below.refl _ _)
        | true =>
          have HO := Lib.hid ho1
          have hon := okCoin_iff.1 ho1
          unfold maxCoin at hon
          cases ho2 : okCoin k with
          | false =>
            have hr : pay s src dst n k = (40, s) := by unfold pay; rw [if_neg (by rw [hboth]; simp), if_neg hsd, if_pos (by rw [ho2, Bool.and_false])]
            rw [hr]
            have HO2 := Lib.hid ho2
            clear h hs hr hm1 hm2 hput1 hg1 hg2 g1 g2 c1 fz1 hboth hsd ho1 ho2 hon
            go_enter Try.func48, Try.ntmps48
            go_wp2_with fail
            refine HF.out.mono ?_
            rintro e w1 ⟨rfl, rfl⟩
            go_wp2_with fail
            refine HF2.out.mono ?_
            rintro e w1 ⟨rfl, rfl⟩
            go_wp2_with fail
            refine (rcoins_any n _).mono ?_
            rw [HO.out]
            rintro e w1 ⟨rfl, rfl⟩
            go_wp2_with fail
            refine (rcoins_any k _).mono ?_
            rw [HO2.out]
            rintro e w1 ⟨rfl, rfl⟩
            go_wp2_with fail
            go_ret
            exact ROp.same H.out (Below.refl _ _)
          | true =>
            have HO2 := Lib.hid ho2
            have hok := okCoin_iff.1 ho2
            unfold maxCoin at hok
            obtain ⟨n0, n1⟩ := hon
            obtain ⟨k0, k1⟩ := hok
            have hq0 := cq_pos hs src
            have hq1 : cq s src ≤ 2100000000000000 := by
              unfold cq; rw [hm1]; have := (coin_le hs hm1).2; unfold maxCoin at this; simpa using this
            obtain ⟨Q, hQ⟩ : ∃ Q, cq s src = Q := ⟨_, rfl⟩
            have hQ2 : (mget s.coins src).getD 0 = Q := hQ
            rw [hQ] at c1 hq0 hq1
            have n1' : ¬ 2100000000000000 < n := by omega
            have k1' : ¬ 2100000000000000 < k := by omega
            have hq1' : ¬ 2100000000000000 < Q := by omega
            have hnk0 : 0 ≤ n + k := by omega
            have hnk1 : n + k ≤ 4200000000000000 := by omega
            clear n1 k1 hq1
            by_cases hf : Q < n + k
            · have hr : pay s src dst n k = (170, s) := by unfold pay; rw [if_neg (by rw [hboth]; simp), if_neg hsd, if_neg (by rw [ho1, ho2]; simp), if_pos (by rw [hQ2]; exact hf)]
              rw [hr]
              clear h hs hr hm1 hm2 hput1 hg1 hg2 g1 g2 fz1 hboth hsd ho1 ho2 hQ hQ2
              go_enter Try.func48, Try.ntmps48
              go_wp2_with fail
              refine HF.out.mono ?_
              rintro e w1 ⟨rfl, rfl⟩
              go_wp2_with fail
              refine HF2.out.mono ?_
              rintro e w1 ⟨rfl, rfl⟩
              go_wp2_with fail
              refine (rcoins_any n _).mono ?_
              rw [HO.out]
              rintro e w1 ⟨rfl, rfl⟩
              go_wp2_with fail
              refine (rcoins_any k _).mono ?_
              rw [HO2.out]
              rintro e w1 ⟨rfl, rfl⟩
              go_wp2_with fail
              go_ret
              exact ROp.same H.out (Below.refl _ _)
            · have hr : pay s src dst n k = (0, { s with coins := payTo s src dst n k }) := by unfold pay; rw [if_neg (by rw [hboth]; simp), if_neg hsd, if_neg (by rw [ho1, ho2]; simp), if_neg (by rw [hQ2]; exact hf)]
              rw [hr]
              have HPUT := Lib.hid hput1
              have HM2 := Lib.hid hm2
              have HM1 := Lib.hid hm1
              have HG2 := Lib.hid hg2
              have hqq : Q - (n + k) = Q - n - k := by omega
              have HQ2 := Lib.hid hQ2
              have HQQ := Lib.hid hqq
              have HSD := Lib.hid hsd
              have hf2 : 0 ≤ Q - n - k := by omega
              have hf3 : 0 ≤ Q - n := by omega
              clear h hr hg1 hg2 g1 g2 hQ hput1 hm1 hm2 ho1 ho2 hboth hs hqq hsd hQ2
              go_enter Try.func48, Try.ntmps48
              go_wp2_with fail
              refine HF.out.mono ?_
              rintro e w1 ⟨rfl, rfl⟩
              go_wp2_with fail
              refine HF2.out.mono ?_
              rintro e w1 ⟨rfl, rfl⟩
              go_wp2_with fail
              refine (rcoins_any n _).mono ?_
              rw [HO.out]
              rintro e w1 ⟨rfl, rfl⟩
              go_wp2_with fail
              refine (rcoins_any k _).mono ?_
              rw [HO2.out]
              rintro e w1 ⟨rfl, rfl⟩
              go_wp2_with fail
              go_region
              obtain ⟨w1, hw1⟩ : ∃ w1 : World, w1 = (w.setCell ⟨(ad.add (i1 * 2)).block, (ad.add (i1 * 2)).off + 1, none⟩ (.int .i64 (Q - n - k))).drew := ⟨_, rfl⟩
              obtain ⟨hL1, hF1⟩ := HPUT.out (Q - n - k) w1 (by rw [hw1]; rfl) (by rw [hw1]; rfl) (by rw [hw1]; rfl) (by rw [hw1]; rfl)
              rw [← hw1]
              obtain ⟨s1, hs1⟩ : ∃ s1 : Led, s1 = { s with coins := mset s.coins src (Q - n - k) } := ⟨_, rfl⟩
              rw [← hs1] at hL1
              have hn1 : (s1.coins.map (·.1)).Nodup := by rw [hs1]; exact mset_nodup HS.out.nk _ _
              have hk1 : skeys s1.coins = skeys s.coins := by rw [hs1]; exact skeys_same (by rw [mset_keys, if_pos (by rw [HM1.out]; rfl)])
              have hd1 : mget s1.coins dst = some v2 := by rw [hs1]; show mget (mset s.coins src _) dst = _; rw [mget_mset_other _ _ (fun e => HSD.out e.symm)]; exact HM2.out
              obtain ⟨i3, hi3, hg3, -, -⟩ := acc_place hn1 (name := dst) (by rw [hd1]; rfl)
              have hii2 : i2 = i3 := acc_same HS.out.nk hk1 hi2 (by rw [HG2.out]) hi3 (by rw [hg3])
              subst hii2
              obtain ⟨d1, fz2, hput2⟩ := rput_coins hn1 hL1 hi3 hg3
              have hq2 : cq s1 dst = v2 := by unfold cq; rw [hd1]; rfl
              rw [hq2] at d1
              have hv20 := HS.out.pos _ _ HM2.out
              have hv21 := (coin_le HS.out HM2.out).2
              unfold maxCoin at hv21
              have hv22 : ¬ 2100000000000000 < v2 := by omega
              obtain ⟨e0', -, -, -⟩ := RAt.cell hL1
              have hlen1 : (accs s1).length = (accs s).length := by rw [accs_len, accs_len, hs1]; show (mset s.coins src _).length = _; rw [mset_length, HM1.out]; rfl
              have HPUT2 := Lib.hid hput2
              have HF1 := Lib.hid hF1
              have HS1 := Lib.hid hs1
              clear hw1 hL1 hF1 hs1 hn1 hk1 hd1 hg3 hput2 hq2 hv21 e0 c1 fz1 hlen1 hi3
              go_wp2_with fail
              go_region
              go_wp2_with fail
              go_ret
              obtain ⟨hL2, hF2⟩ := HPUT2.out (v2 + n) ((w1.setCell ⟨(ad.add (i2 * 2)).block, (ad.add (i2 * 2)).off + 1, none⟩ (.int .i64 (v2 + n))).drew) rfl rfl rfl rfl
              have hfin : ({ s with coins := payTo s src dst n k } : Led) = { s1 with coins := mset s1.coins dst (v2 + n) } := by
                rw [HS1.out]
                unfold payTo
                simp only [HQ2.out, HQQ.out]
                rw [mget_mset_other _ _ (fun e => HSD.out e.symm), HM2.out]
                rfl
              rw [hfin]
              exact rop_of hL2 (HF1.out.trans hF2 fun i hi _ => hi)
end Go.Proofs.Ytmlcojhanimnpaa
