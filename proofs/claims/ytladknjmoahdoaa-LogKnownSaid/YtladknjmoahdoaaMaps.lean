/- Maps with string keys, by their entries: what a look-up, a store, a delete, len, a range and its steps do. -/
import Derived.WalkKit
import Derived.WalkSpells
import Derived.WalkLawsBesides
import Derived.Lib.Hide
import Derived.Maps.OwnSet
import Derived.Maps.RangeWalk
import Derived.Below
set_option linter.all false
namespace Go.Proofs.Ytladknjmoahdoaa
open Go.RowKit Go.MapKept
open Go.ChangeMaps (setBlock)

section lists
variable {α β : Type}
def mget : List (ByteArray × α) → ByteArray → Option α
  | [], _ => none
  | p :: r, k => if p.1 = k then some p.2 else mget r k
def mset : List (ByteArray × α) → ByteArray → α → List (ByteArray × α)
  | [], k, v => [(k, v)]
  | p :: r, k, v => if p.1 = k then (k, v) :: r else p :: mset r k v
def mdel : List (ByteArray × α) → ByteArray → List (ByteArray × α)
  | [], _ => []
  | p :: r, k => if p.1 = k then r else p :: mdel r k
def menc (f : α → β) (l : List (ByteArray × α)) : List (ByteArray × β) := l.map fun p => (p.1, f p.2)
theorem mget_menc (f : α → β) (l : List (ByteArray × α)) (k : ByteArray) : mget (menc f l) k = (mget l k).map f := by
  induction l with
  | nil => rfl
  | cons p r ih =>
    unfold menc at ih ⊢
    simp only [List.map_cons, mget]
    by_cases h : p.1 = k
    · rw [if_pos h, if_pos h]; rfl
    · rw [if_neg h, if_neg h]; exact ih
theorem mset_menc (f : α → β) (l : List (ByteArray × α)) (k : ByteArray) (v : α) : mset (menc f l) k (f v) = menc f (mset l k v) := by
  induction l with
  | nil => rfl
  | cons p r ih =>
    unfold menc at ih ⊢
    simp only [List.map_cons, mset]
    by_cases h : p.1 = k
    · rw [if_pos h, if_pos h]; rfl
    · rw [if_neg h, if_neg h, ih]; rfl
theorem mdel_menc (f : α → β) (l : List (ByteArray × α)) (k : ByteArray) : mdel (menc f l) k = menc f (mdel l k) := by
  induction l with
  | nil => rfl
  | cons p r ih =>
    unfold menc at ih ⊢
    simp only [List.map_cons, mdel]
    by_cases h : p.1 = k
    · rw [if_pos h, if_pos h]
    · rw [if_neg h, if_neg h, ih]; rfl
theorem mget_none {l : List (ByteArray × α)} {k : ByteArray} (h : ∀ p ∈ l, p.1 ≠ k) : mget l k = none := by
  induction l with
  | nil => rfl
  | cons p r ih => unfold mget; rw [if_neg (h p (List.mem_cons_self ..))]; exact ih fun q hq => h q (List.mem_cons_of_mem _ hq)
theorem mget_isSome {l : List (ByteArray × α)} {k : ByteArray} : (mget l k).isSome = true ↔ k ∈ l.map (·.1) := by
  induction l with
  | nil => simp [mget]
  | cons p r ih =>
    unfold mget
    by_cases h : p.1 = k
    · simp [h]
    · rw [if_neg h, ih]; simp; exact fun e => absurd e.symm h
theorem mget_mem {l : List (ByteArray × α)} {k : ByteArray} {v : α} (h : mget l k = some v) : (k, v) ∈ l := by
  induction l with
  | nil => cases h
  | cons p r ih =>
    unfold mget at h
    split at h
    · rename_i e; injection h with h; subst h; subst e; exact List.mem_cons_self ..
    · exact List.mem_cons_of_mem _ (ih h)
theorem mget_at {l : List (ByteArray × α)} (hn : (l.map (·.1)).Nodup) {j : Nat} {p : ByteArray × α} (h : l[j]? = some p) : mget l p.1 = some p.2 := by
  induction l generalizing j with
  | nil => simp at h
  | cons q r ih =>
    rw [List.map_cons, List.nodup_cons] at hn
    match j, h with
    | 0, h => simp at h; subst h; unfold mget; rw [if_pos rfl]
    | j + 1, h =>
      rw [List.getElem?_cons_succ] at h
      unfold mget
      rw [if_neg, ih hn.2 h]
      intro e
      exact hn.1 (by rw [e]; exact List.mem_map.2 ⟨p, List.mem_of_getElem? h, rfl⟩)
theorem mset_new {l : List (ByteArray × α)} {k : ByteArray} {v : α} (h : ∀ p ∈ l, p.1 ≠ k) : mset l k v = l ++ [(k, v)] := by
  induction l with
  | nil => rfl
  | cons p r ih => unfold mset; rw [if_neg (h p (List.mem_cons_self ..)), ih fun q hq => h q (List.mem_cons_of_mem _ hq)]; rfl
theorem mset_at {l : List (ByteArray × α)} (hn : (l.map (·.1)).Nodup) {j : Nat} {p : ByteArray × α} {v : α} (h : l[j]? = some p) : mset l p.1 v = l.set j (p.1, v) := by
  induction l generalizing j with
  | nil => simp at h
  | cons q r ih =>
    rw [List.map_cons, List.nodup_cons] at hn
    match j, h with
    | 0, h => simp at h; subst h; unfold mset; rw [if_pos rfl]; rfl
    | j + 1, h =>
      rw [List.getElem?_cons_succ] at h
      unfold mset
      rw [if_neg, ih hn.2 h]; rfl
      intro e
      exact hn.1 (by rw [e]; exact List.mem_map.2 ⟨p, List.mem_of_getElem? h, rfl⟩)
theorem mdel_at {l : List (ByteArray × α)} (hn : (l.map (·.1)).Nodup) {j : Nat} {p : ByteArray × α} (h : l[j]? = some p) : mdel l p.1 = l.eraseIdx j := by
  induction l generalizing j with
  | nil => simp at h
  | cons q r ih =>
    rw [List.map_cons, List.nodup_cons] at hn
    match j, h with
    | 0, h => simp at h; subst h; unfold mdel; rw [if_pos rfl]; rfl
    | j + 1, h =>
      rw [List.getElem?_cons_succ] at h
      unfold mdel
      rw [if_neg, ih hn.2 h]; rfl
      intro e
      exact hn.1 (by rw [e]; exact List.mem_map.2 ⟨p, List.mem_of_getElem? h, rfl⟩)
theorem mdel_none {l : List (ByteArray × α)} {k : ByteArray} (h : ∀ p ∈ l, p.1 ≠ k) : mdel l k = l := by
  induction l with
  | nil => rfl
  | cons p r ih => unfold mdel; rw [if_neg (h p (List.mem_cons_self ..)), ih fun q hq => h q (List.mem_cons_of_mem _ hq)]
theorem mset_keys (l : List (ByteArray × α)) (k : ByteArray) (v : α) : (mset l k v).map (·.1) = if (mget l k).isSome then l.map (·.1) else l.map (·.1) ++ [k] := by
  induction l with
  | nil => rfl
  | cons p r ih =>
    unfold mset mget
    by_cases h : p.1 = k
    · rw [if_pos h, if_pos h]; simp [h]
    · rw [if_neg h, if_neg h, List.map_cons, ih]
      split <;> rfl
theorem mset_nodup {l : List (ByteArray × α)} (h : (l.map (·.1)).Nodup) (k : ByteArray) (v : α) : ((mset l k v).map (·.1)).Nodup := by
  rw [mset_keys]
  split
  · exact h
  · rename_i hk
    rw [mget_isSome] at hk
    rw [List.nodup_append]
    refine ⟨h, by simp, ?_⟩
    rintro a ha b hb rfl
    simp at hb
    subst hb
    exact hk ha
theorem mget_mset_same (l : List (ByteArray × α)) (k : ByteArray) (v : α) : mget (mset l k v) k = some v := by
  induction l with
  | nil => simp [mset, mget]
  | cons p r ih =>
    unfold mset
    by_cases h : p.1 = k
    · rw [if_pos h]; simp [mget]
    · rw [if_neg h]; unfold mget; rw [if_neg h, ih]
theorem mget_mset_other (l : List (ByteArray × α)) {k k' : ByteArray} (v : α) (h : k' ≠ k) : mget (mset l k v) k' = mget l k' := by
  induction l with
  | nil => simp [mset, mget, Ne.symm h]
  | cons p r ih =>
    unfold mset
    by_cases hp : p.1 = k
    · rw [if_pos hp]; unfold mget; rw [if_neg (Ne.symm h), if_neg (by rw [hp]; exact Ne.symm h)]
    · rw [if_neg hp]; unfold mget; rw [ih]
theorem erase_map (f : α → β) (l : List α) (j : Nat) : (l.eraseIdx j).map f = (l.map f).eraseIdx j := by
  induction l generalizing j with
  | nil => rfl
  | cons x r ih =>
    cases j with
    | zero => rfl
    | succ j => simp only [List.eraseIdx_cons_succ, List.map_cons, ih]
end lists

/-- The entries of a map with string keys, in their order. -/
def Entries (es : Array MapEntry) (clock : Nat) (l : List (ByteArray × Value)) : Prop :=
  es.toList.map (fun e => (e.key, e.val)) = l.map (fun p => (Value.string p.1, p.2)) ∧ Stamped es clock
def SMap (w : World) (b : Nat) (l : List (ByteArray × Value)) : Prop := ∃ es clock, w.heap[b]? = some (.map es clock) ∧ Entries es clock l

theorem Entries.length {es : Array MapEntry} {clock : Nat} {l : List (ByteArray × Value)} (h : Entries es clock l) : es.size = l.length := by
  have := congrArg List.length h.1
  simpa using this
theorem Entries.at_ {es : Array MapEntry} {clock : Nat} {l : List (ByteArray × Value)} (h : Entries es clock l) {j : Nat} {e : MapEntry} (he : es.toList[j]? = some e) : ∃ p, l[j]? = some p ∧ e.key = .string p.1 ∧ e.val = p.2 := by
  have h1 := congrArg (fun x => x[j]?) h.1
  simp only [List.getElem?_map, he, Option.map_some] at h1
  cases hp : l[j]? with
  | none => rw [hp] at h1; cases h1
  | some p =>
    rw [hp] at h1
    simp at h1
    exact ⟨p, rfl, h1.1, h1.2⟩
theorem Entries.keys {es : Array MapEntry} {clock : Nat} {l : List (ByteArray × Value)} (h : Entries es clock l) : es.toList.map (·.key) = l.map (fun p => Value.string p.1) := by
  have h1 := congrArg (fun x => x.map (fun q : Value × Value => q.1)) h.1
  simpa [List.map_map, Function.comp_def] using h1
theorem Entries.isKey {es : Array MapEntry} {clock : Nat} {l : List (ByteArray × Value)} (h : Entries es clock l) : ∀ x ∈ es.toList, IsKey .string x.key := by
  intro x hx
  obtain ⟨j, hj⟩ := List.getElem?_of_mem hx
  obtain ⟨p, -, hk, -⟩ := h.at_ hj
  rw [hk]; trivial
theorem Entries.nodup {es : Array MapEntry} {clock : Nat} {l : List (ByteArray × Value)} (h : Entries es clock l) : (l.map (·.1)).Nodup := by
  have h1 := h.2.2.2
  rw [h.keys] at h1
  have h2 : l.map (fun p => Value.string p.1) = (l.map (·.1)).map Value.string := by rw [List.map_map]; rfl
  rw [h2] at h1
  exact List.Pairwise.of_map Value.string (fun a b hne e => hne (by rw [e])) h1
theorem Entries.none {es : Array MapEntry} {clock : Nat} {l : List (ByteArray × Value)} (h : Entries es clock l) {key : ByteArray} (hn : ∀ x ∈ es.toList, x.key ≠ .string key) : ∀ p ∈ l, p.1 ≠ key := by
  rintro p hp rfl
  have : Value.string p.1 ∈ es.toList.map (·.key) := by rw [h.keys]; exact List.mem_map.2 ⟨p, hp, rfl⟩
  obtain ⟨x, hx, he⟩ := List.mem_map.1 this
  exact hn x hx he
theorem SMap.nodup {w : World} {b : Nat} {l : List (ByteArray × Value)} (h : SMap w b l) : (l.map (·.1)).Nodup := by
  obtain ⟨es, clock, -, he⟩ := h
  exact he.nodup
theorem SMap.lt {w : World} {b : Nat} {l : List (ByteArray × Value)} (h : SMap w b l) : b < w.heap.size := by
  obtain ⟨es, clock, hb, -⟩ := h
  exact (Array.getElem?_eq_some_iff.1 hb).1
theorem SMap.block {w w' : World} {b : Nat} {l : List (ByteArray × Value)} (h : SMap w b l) (hb : w'.heap[b]? = w.heap[b]?) : SMap w' b l := by
  obtain ⟨es, clock, h1, he⟩ := h
  exact ⟨es, clock, hb.trans h1, he⟩
theorem SMap.made (w : World) : SMap (w.alloc (.map #[] 0)) w.heap.size [] := ⟨#[], 0, (MapKept.heap_alloc w _).1, rfl, stamped_empty 0⟩

section runs
variable {P : Program} {w : World} {b : Nat} {l : List (ByteArray × Value)} {t k e : TypeId}
theorem SMap.look (h : SMap w b l) (ht : P.underlying t = some (.map k e)) (hk : P.underlying k = some .string) {z : Value} (hz : (zeroValue e).run P w = .ok z w) (key : ByteArray) (ok : Bool) :
    (Instr.lookup t (.map (some b)) (.string key) ok).run P w = .ok (if ok then .tuple #[(mget l key).getD z, .bool (mget l key).isSome] else (mget l key).getD z) w := by
  obtain ⟨es, clock, hb, he⟩ := h
  simp only [Instr.lookup, Sem.run_bind, run_underlying ht, Result.andThen, MapKept.run_getObj_map hb, Sem.run_pure]
  rw [MapKept.run_checkKey (n := 9999) hk (show IsKey .string (.string key) from trivial)]
  rcases findNow_spec (show IsKey .string (.string key) from trivial) es.toList 0 he.isKey with ⟨h1, h2⟩ | ⟨j, e', h1, h2, h3⟩
  · rw [mget_none (he.none h2)]
    simp only [MapKept.run_findKey hk h1]
    cases ok <;> simp [hz, Result.andThen, go_sem]
  · simp only [MapKept.run_findKey hk h1]
    obtain ⟨p, hp, hpk, hpv⟩ := he.at_ h2
    rw [h3] at hpk
    injection hpk with hpk
    have hg := mget_at he.nodup hp
    rw [← hpk] at hg
    rw [hg, ← hpv]
    cases ok <;> simp [go_sem]
theorem SMap.len (h : SMap w b l) (ht : P.underlying t = some (.map k e)) (ty : TypeId) : (Builtin.len_ #[t] ty #[.map (some b)]).run P w = .ok (.int .i64 l.length) w := by
  obtain ⟨es, clock, hb, he⟩ := h
  have hl := he.length
  simp [Builtin.len_, run_underlying ht, MapKept.run_getObj_map hb, Result.andThen, go_sem, hl]
theorem SMap.upd (h : SMap w b l) (ht : P.underlying t = some (.map k e)) (hk : P.underlying k = some .string) (key : ByteArray) (v : Value) :
    ∃ w', (Instr.mapUpdate t (.map (some b)) (.string key) v).run P w = .ok () w' ∧ SMap w' b (mset l key v) ∧ w.grownBy w' (some b) := by
  obtain ⟨es, clock, hb, he⟩ := h
  have hgr : ∀ o, w.grownBy (setBlock w b o) (some b) := fun o => ⟨rfl, rfl, rfl, by simp [setBlock], fun i _ hi => ChangeMaps.heap_setBlock_other hb _ (fun e => hi (by rw [e]))⟩
  rcases findNow_spec (show IsKey .string (.string key) from trivial) es.toList 0 he.isKey with ⟨h1, h2⟩ | ⟨j, e', h1, h2, h3⟩
  · refine ⟨setBlock w b (.map (es.push { key := .string key, val := v, born := clock }) (clock + 1)), ?_, ⟨_, _, ChangeMaps.heap_setBlock_same hb _, ?_, stamped_push he.2 h2⟩, hgr _⟩
    · simp only [Instr.mapUpdate, Sem.run_bind, run_underlying ht, Result.andThen, MapKept.run_getObj_map hb]
      rw [MapKept.run_checkKey (n := 9999) hk (show IsKey .string (.string key) from trivial)]
      simp only [MapKept.run_findKey hk h1, MapKept.run_setObj_map _ hb]
      rfl
    · rw [mset_new (he.none h2), Array.toList_push, List.map_append, List.map_append, he.1]
      rfl
  · obtain ⟨p, hp, hpk, hpv⟩ := he.at_ h2
    rw [h3] at hpk
    injection hpk with hpk
    have hje : es[j]? = some e' := by simpa using h2
    refine ⟨setBlock w b (.map (es.modify j fun e => { e with key := .string key, val := v }) clock), ?_, ⟨_, _, ChangeMaps.heap_setBlock_same hb _, ?_, ?_⟩, hgr _⟩
    · simp only [Instr.mapUpdate, Sem.run_bind, run_underlying ht, Result.andThen, MapKept.run_getObj_map hb]
      rw [MapKept.run_checkKey (n := 9999) hk (show IsKey .string (.string key) from trivial)]
      simp only [MapKept.run_findKey hk h1, Nat.zero_add, hje, Option.map_some, Option.getD_some, h3]
      have hs : (Instr.keyThatStays (.string key) (.string key)).run P w = .ok (.string key) w := by
        have hkk : (key == key) = true := by rw [MapKept.bytes_beq]
        simp [Instr.keyThatStays, Instr.sameBits, go_sem, hkk]
      simp only [Sem.run_bind, hs, Result.andThen, MapKept.run_setObj_map _ hb]
      rfl
    · have hset := mset_at (v := v) he.nodup hp
      rw [← hpk] at hset
      rw [hset]
      apply List.ext_getElem?
      intro i
      have h4 := congrArg (fun x => x[i]?) he.1
      simp only [List.getElem?_map, Array.getElem?_toList] at h4
      simp only [List.getElem?_map, Array.getElem?_toList, Array.getElem?_modify, List.getElem?_set]
      by_cases hij : j = i
      · subst hij
        have hlt : j < l.length := (List.getElem?_eq_some_iff.1 hp).1
        simp [hje, hlt]
      · simp only [hij, if_false]
        exact h4
    · refine stamped_modify he.2 j _ (fun _ _ => rfl) ?_
      intro x hx hx2
      rw [hje] at hx2
      injection hx2 with hx2
      subst hx2
      exact h3.symm
theorem SMap.del (h : SMap w b l) (ht : P.underlying t = some (.map k e)) (hk : P.underlying k = some .string) (key : ByteArray) (ty : TypeId) :
    ∃ w', (Builtin.delete_ #[t, k] ty #[.map (some b), .string key]).run P w = .ok (.tuple #[]) w' ∧ SMap w' b (mdel l key) ∧ w.grownBy w' (some b) := by
  obtain ⟨es, clock, hb, he⟩ := h
  have hgr : ∀ o, w.grownBy (setBlock w b o) (some b) := fun o => ⟨rfl, rfl, rfl, by simp [setBlock], fun i _ hi => ChangeMaps.heap_setBlock_other hb _ (fun e => hi (by rw [e]))⟩
  rcases findNow_spec (show IsKey .string (.string key) from trivial) es.toList 0 he.isKey with ⟨h1, h2⟩ | ⟨j, e', h1, h2, h3⟩
  · refine ⟨setBlock w b (.map es clock), ?_, ⟨_, _, ChangeMaps.heap_setBlock_same hb _, ?_, he.2⟩, hgr _⟩
    · simp [Builtin.delete_, run_underlying ht, Result.andThen, MapKept.run_getObj_map hb, MapKept.run_checkKey (n := 9999) hk (show IsKey .string (.string key) from trivial), MapKept.run_findKey hk h1, MapKept.run_setObj_map _ hb, go_sem]
      rfl
    · rw [mdel_none (he.none h2)]; exact he.1
  · obtain ⟨p, hp, hpk, hpv⟩ := he.at_ h2
    rw [h3] at hpk
    injection hpk with hpk
    refine ⟨setBlock w b (.map (es.eraseIdxIfInBounds j) clock), ?_, ⟨_, _, ChangeMaps.heap_setBlock_same hb _, ?_, stamped_erase he.2 j⟩, hgr _⟩
    · rw [Nat.zero_add] at h1
      simp [Builtin.delete_, run_underlying ht, Result.andThen, MapKept.run_getObj_map hb, MapKept.run_checkKey (n := 9999) hk (show IsKey .string (.string key) from trivial), MapKept.run_findKey hk h1, MapKept.run_setObj_map _ hb, go_sem]
      rfl
    · have hd := mdel_at he.nodup hp
      rw [← hpk] at hd
      rw [hd]
      have hlt : j < es.size := by
        have := (List.getElem?_eq_some_iff.1 h2).1
        simpa using this
      have e1 : (es.eraseIdxIfInBounds j).toList = es.toList.eraseIdx j := by
        rw [Array.eraseIdxIfInBounds, dif_pos hlt]
        simp
      rw [e1, erase_map, erase_map, he.1]
end runs

/-- What a key's value holds. -/
def keyStr : Value → ByteArray
  | .string s => s
  | _ => ⟨#[]⟩
def pairOf (e : MapEntry) : ByteArray × Value := (keyStr e.key, e.val)
theorem Entries.eq {es : Array MapEntry} {clock : Nat} {l : List (ByteArray × Value)} (h : Entries es clock l) : es.toList.map pairOf = l := by
  have h1 := congrArg (fun x => x.map (fun q : Value × Value => (keyStr q.1, q.2))) h.1
  simp only [List.map_map] at h1
  have e1 : (fun q : Value × Value => (keyStr q.1, q.2)) ∘ (fun e : MapEntry => (e.key, e.val)) = pairOf := rfl
  have e2 : (fun q : Value × Value => (keyStr q.1, q.2)) ∘ (fun p : ByteArray × Value => (Value.string p.1, p.2)) = id := by funext p; rfl
  rw [e1, e2, List.map_id] at h1
  exact h1
theorem perm_pick {α β : Type} [BEq β] [LawfulBEq β] (f : α → β) {L : List α} (hn : (L.map f).Nodup) {e : α} (he : e ∈ L) : L.Perm (e :: L.filter fun x => !(f x == f e)) := by
  induction L with
  | nil => cases he
  | cons y r ih =>
    rw [List.map_cons, List.nodup_cons] at hn
    rcases List.mem_cons.1 he with rfl | he
    · have h1 : r.filter (fun x => !(f x == f e)) = r := List.filter_eq_self.2 fun x hx => by
        simp only [Bool.not_eq_true', beq_eq_false_iff_ne]
        intro h2
        exact hn.1 (by rw [← h2]; exact List.mem_map.2 ⟨x, hx, rfl⟩)
      rw [List.filter_cons_of_neg (by simp), h1]
    · have hne : f y ≠ f e := fun h2 => hn.1 (by rw [h2]; exact List.mem_map.2 ⟨e, he, rfl⟩)
      rw [List.filter_cons_of_pos (by simpa using hne)]
      exact ((ih hn.2 he).cons y).trans (List.Perm.swap ..)
/-- Block r is an iterator over the map in block b, to which the entries todo are still to come. -/
def SRange (w : World) (b r : Nat) (l todo : List (ByteArray × Value)) : Prop :=
  ∃ es clock since seen c0, w.heap[b]? = some (.map es clock) ∧ w.heap[r]? = some (.mapIter (some b) since seen c0) ∧ Entries es clock l ∧ (∀ x ∈ es.toList, x.born < since) ∧ since ≤ c0 ∧ since ≤ clock ∧ r ≠ b ∧ (leftOf es seen).toList.map pairOf = todo
theorem SRange.map {w : World} {b r : Nat} {l todo : List (ByteArray × Value)} (h : SRange w b r l todo) : SMap w b l := by
  obtain ⟨es, clock, since, seen, c0, hb, -, he, -⟩ := h
  exact ⟨es, clock, hb, he⟩
theorem SRange.lt {w : World} {b r : Nat} {l todo : List (ByteArray × Value)} (h : SRange w b r l todo) : r < w.heap.size := by
  obtain ⟨es, clock, since, seen, c0, -, hr, -⟩ := h
  exact (Array.getElem?_eq_some_iff.1 hr).1
theorem SRange.kept {w w' : World} {b r : Nat} {l todo : List (ByteArray × Value)} (h : SRange w b r l todo) (hb : w'.heap[b]? = w.heap[b]?) (hr : w'.heap[r]? = w.heap[r]?) : SRange w' b r l todo := by
  obtain ⟨es, clock, since, seen, c0, h1, h2, rest⟩ := h
  exact ⟨es, clock, since, seen, c0, hb.trans h1, hr.trans h2, rest⟩
theorem SMap.range {P : Program} {w : World} {b : Nat} {l : List (ByteArray × Value)} {t k e : TypeId} (h : SMap w b l) (ht : P.underlying t = some (.map k e)) :
    ∃ w', (Instr.range t (.map (some b))).run P w = .ok (.pointer (some ⟨w.heap.size, 0, none⟩)) w' ∧ SRange w' b w.heap.size l l ∧ w.grownBy w' none ∧ w'.heap.size = w.heap.size + 1 := by
  have hlt := h.lt
  obtain ⟨es, clock, hb, he⟩ := h
  refine ⟨w.alloc (.mapIter (some b) clock #[] clock), ?_, ⟨es, clock, clock, #[], clock, (Go.heap_alloc_old w _ hlt).trans hb, Go.heap_alloc_new w _, he, he.2.1, Nat.le_refl _, Nat.le_refl _, by omega, ?_⟩, World.grownBy_alloc w _ none, by simp⟩
  · simp [Instr.range, run_underlying ht, Result.andThen, MapKept.run_getObj_map hb, go_sem]
  · have : leftOf es #[] = es := by unfold leftOf; exact Array.filter_eq_self.2 (by simp)
    rw [this, he.eq]
theorem SRange.next {P : Program} {w : World} {b r : Nat} {l todo : List (ByteArray × Value)} (h : SRange w b r l todo) (ty : TypeId) :
    (todo = [] ∧ (Instr.next (.pointer (some ⟨r, 0, none⟩)) false ty).run P w = .ok (.tuple #[.bool false]) w) ∨
    ∃ k v todo' w', todo.Perm ((k, v) :: todo') ∧ (Instr.next (.pointer (some ⟨r, 0, none⟩)) false ty).run P w = .ok (.tuple #[.bool true, .string k, v]) w' ∧ SRange w' b r l todo' ∧ w.grownBy w' (some r) ∧ w'.heap.size = w.heap.size ∧
      (Instr.entry (.pointer (some ⟨r, 0, none⟩))).run P w' = .ok (.tuple #[.string k, v]) w' := by
  obtain ⟨es, clock, since, seen, c0, hb, hr, he, hold, hsc, hsk, hne, htd⟩ := h
  rcases run_next_at (P := P) w ty r b since c0 seen es clock hr hb hold hsc with ⟨h0, hrun⟩ | ⟨e, hme, w1, hw1, hrun⟩
  · left
    refine ⟨?_, hrun⟩
    rw [← htd, Array.eq_empty_of_size_eq_zero h0]; rfl
  · right
    have hmes : e ∈ es.toList := by
      unfold leftOf at hme
      simp at hme ⊢
      exact hme.1
    obtain ⟨j, hj⟩ := List.getElem?_of_mem hmes
    obtain ⟨p, -, hk, -⟩ := he.at_ hj
    have hks : e.key = .string (keyStr e.key) := by rw [hk]; rfl
    have h1 : w1.heap = w.heap := by rcases hw1 with rfl | rfl <;> rfl
    have hr1 : w1.heap[r]? = some (.mapIter (some b) since seen c0) := by rw [h1]; exact hr
    have hb1 : (setBlock w1 r (.mapIter (some b) since (seen.push e.born) clock)).heap[b]? = some (.map es clock) := ((MapKept.heap_set hr1).2 b (fun h => hne h.symm)).trans (by rw [h1]; exact hb)
    have hr2 : (setBlock w1 r (.mapIter (some b) since (seen.push e.born) clock)).heap[r]? = some (.mapIter (some b) since (seen.push e.born) clock) := (MapKept.heap_set hr1).1
    refine ⟨keyStr e.key, e.val, (leftOf es (seen.push e.born)).toList.map pairOf, _, ?_, by rw [hrun, ← hks], ⟨es, clock, since, _, clock, hb1, hr2, he, hold, hsk, hsk, hne, rfl⟩, ?_, ?_, ?_⟩
    · rw [← htd]
      have hnb : ((leftOf es seen).toList.map (·.born)).Nodup := by
        unfold leftOf
        rw [Array.toList_filter]
        exact he.2.2.1.sublist (List.Sublist.map _ (List.filter_sublist ..))
      have hp := perm_pick (·.born) hnb hme
      have e2 : (leftOf es seen).toList.filter (fun x => !(x.born == e.born)) = (leftOf es (seen.push e.born)).toList := by
        unfold leftOf
        rw [Array.toList_filter, Array.toList_filter, List.filter_filter]
        congr 1
        funext x
        simp [Bool.and_comm]
        congr 1
      rw [e2] at hp
      exact hp.map pairOf
    · exact ⟨by rcases hw1 with rfl | rfl <;> rfl, by rcases hw1 with rfl | rfl <;> rfl, by rcases hw1 with rfl | rfl <;> rfl, by simp [setBlock, h1], fun i _ hi => ((MapKept.heap_set hr1).2 i (fun e => hi (by rw [e]))).trans (by rw [h1])⟩
    · simp [setBlock, h1]
    · have := run_entry_at (P := P) _ r b since seen es clock e hr2 hb1 hmes he.2.2.1
      rw [this, ← hks]
/-- A list that permutes one whose elements are all of one form is of that form, and permutes its names. -/
theorem perm_menc {α β : Type} (f : α → β) (hf : ∀ x y, f x = f y → x = y) {td : List (ByteArray × α)} {k : ByteArray} {v : β} {todo' : List (ByteArray × β)} (h : (menc f td).Perm ((k, v) :: todo')) :
    ∃ x td', v = f x ∧ todo' = menc f td' ∧ td.Perm ((k, x) :: td') := by
  have hall : ∀ p ∈ (k, v) :: todo', ∃ x, p.2 = f x := by
    intro p hp
    have := h.mem_iff.2 hp
    unfold menc at this
    obtain ⟨q, -, rfl⟩ := List.mem_map.1 this
    exact ⟨q.2, rfl⟩
  have hex : ∀ l : List (ByteArray × β), (∀ p ∈ l, ∃ x, p.2 = f x) → ∃ r : List (ByteArray × α), l = menc f r := by
    intro l
    induction l with
    | nil => exact fun _ => ⟨[], rfl⟩
    | cons p l ih =>
      intro hl
      obtain ⟨x, hx⟩ := hl p (List.mem_cons_self ..)
      obtain ⟨r, rfl⟩ := ih fun q hq => hl q (List.mem_cons_of_mem _ hq)
      exact ⟨(p.1, x) :: r, by unfold menc; simp [← hx]⟩
  obtain ⟨x, hx⟩ := hall (k, v) (List.mem_cons_self ..)
  obtain ⟨td', rfl⟩ := hex todo' fun p hp => hall p (List.mem_cons_of_mem _ hp)
  have hx' : v = f x := hx
  subst hx'
  refine ⟨x, td', rfl, rfl, ?_⟩
  have h2 : (menc f td).Perm (menc f ((k, x) :: td')) := h
  have hinv : ∀ l r : List (ByteArray × α), (menc f l).Perm (menc f r) → l.Perm r := by
    classical
    intro l r hp
    have hg : ∀ l : List (ByteArray × α), (menc f l).filterMap (fun p => if hx : ∃ x, p.2 = f x then some (p.1, hx.choose) else none) = l := by
      intro l
      induction l with
      | nil => rfl
      | cons p l ih =>
        have hpx : ∃ x, f p.2 = f x := ⟨p.2, rfl⟩
        have hc : hpx.choose = p.2 := (hf _ _ hpx.choose_spec).symm
        show List.filterMap _ ((p.1, f p.2) :: menc f l) = p :: l
        rw [List.filterMap_cons_some (b := p), ih]
        rw [dif_pos hpx]
        show some (p.1, hpx.choose) = some p
        rw [hc]
    have := hp.filterMap (fun p => if hx : ∃ x, p.2 = f x then some (p.1, hx.choose) else none)
    rwa [hg, hg] at this
  exact hinv _ _ h2

section walk
variable {P : Program} (w : World) {ops : Array Oper} {rest : List Oper} {o : Oper} {a : Act} {Q : Exit → Act → World → Prop}
theorem wpList_srange (hg : o.guard = none) (m : Operand) (t : TypeId) (hop : o.op = Op.range t m) (k e : TypeId) (ht : P.underlying t = some (.map k e)) (b : Nat) (l : List (ByteArray × Value)) (hm : a.eval m = .map (some b)) (h : SMap w b l)
    (hK : ∀ w', SRange w' b w.heap.size l l → w.grownBy w' none → w'.heap.size = w.heap.size + 1 → wpList P ops Q rest (a.put o.dst (.pointer (some ⟨w.heap.size, 0, none⟩))) w') :
    wpList P ops Q (o :: rest) a w := by
  refine wpList_plain hg fun K' hK' => ?_
  obtain ⟨w', hrun, r1, r2, r3⟩ := h.range ht
  unfold Oper.wp
  simp [execOp, hop, hm, hrun, Result.andThen]
  exact hK' _ _ (hK w' r1 r2 r3)
theorem wpList_snext {α : Type} (f : α → Value) (hf : ∀ x y, f x = f y → x = y) (hg : o.guard = none) (it : Operand) (hop : o.op = Op.next it false) (b r : Nat) (l : List (ByteArray × Value)) (td : List (ByteArray × α))
    (hit : a.eval it = .pointer (some ⟨r, 0, none⟩)) (h : SRange w b r l (menc f td))
    (hDone : td = [] → wpList P ops Q rest (a.put o.dst (.tuple #[.bool false])) w)
    (hMore : ∀ k x td' w', td.Perm ((k, x) :: td') → SRange w' b r l (menc f td') → w.grownBy w' (some r) → w'.heap.size = w.heap.size → (Instr.entry (.pointer (some ⟨r, 0, none⟩))).run P w' = .ok (.tuple #[.string k, f x]) w' →
      wpList P ops Q rest (a.put o.dst (.tuple #[.bool true, .string k, f x])) w') :
    wpList P ops Q (o :: rest) a w := by
  refine wpList_plain hg fun K' hK' => ?_
  unfold Oper.wp
  rcases SRange.next (P := P) h o.type with ⟨h0, hrun⟩ | ⟨k, v, todo', w', hp, hrun, hrg, hgr, hsz, hen⟩
  · have : td = [] := by
      unfold menc at h0
      exact List.map_eq_nil_iff.1 h0
    simp [execOp, hop, hit, hrun, Result.andThen]
    exact hK' _ _ (hDone this)
  · obtain ⟨x, td', rfl, rfl, hp'⟩ := perm_menc f hf hp
    simp [execOp, hop, hit, hrun, Result.andThen]
    exact hK' _ _ (hMore k x td' w' hp' hrg hgr hsz hen)
theorem wpList_supd (hg : o.guard = none) (m x v : Operand) (t : TypeId) (hop : o.op = Op.mapUpdate t m x v) (k e : TypeId) (ht : P.underlying t = some (.map k e)) (hk : P.underlying k = some .string) (b : Nat) (l : List (ByteArray × Value))
    (hm : a.eval m = .map (some b)) (h : SMap w b l) (key : ByteArray) (val : Value) (hx : a.eval x = .string key) (hv : a.eval v = val)
    (hK : ∀ w', SMap w' b (mset l key val) → w.grownBy w' (some b) → wpList P ops Q rest (a.put o.dst undef) w') :
    wpList P ops Q (o :: rest) a w := by
  refine wpList_plain hg fun K' hK' => ?_
  obtain ⟨w', hrun, r1, r2⟩ := h.upd ht hk key val
  unfold Oper.wp
  simp [execOp, hop, hm, hx, hv, hrun, Result.andThen]
  exact hK' _ _ (hK w' r1 r2)
end walk
end Go.Proofs.Ytladknjmoahdoaa
