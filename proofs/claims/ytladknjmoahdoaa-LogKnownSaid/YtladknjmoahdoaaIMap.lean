/- Maps with int keys, by their entries. -/
import Derived.Test.YtladknjmoahdoaaMaps
import Derived.WalkKit
import Derived.WalkSpells
import Derived.WalkLawsBesides
import Derived.Lib.Hide
import Derived.Maps.OwnSet
import Derived.Maps.RangeWalk
import Derived.Below
set_option linter.all false
namespace Go.Proofs.Ytladknjmoahdoaa
open Go.RowKit Go.MapKept
open Go.ChangeMaps (setBlock)

section lists
variable {α β : Type}
def imget : List (Int × α) → Int → Option α
  | [], _ => none
  | p :: r, k => if p.1 = k then some p.2 else imget r k
def imset : List (Int × α) → Int → α → List (Int × α)
  | [], k, v => [(k, v)]
  | p :: r, k, v => if p.1 = k then (k, v) :: r else p :: imset r k v
theorem imget_none {l : List (Int × α)} {k : Int} (h : ∀ p ∈ l, p.1 ≠ k) : imget l k = none := by
  induction l with
  | nil => rfl
  | cons p r ih => unfold imget; rw [if_neg (h p (List.mem_cons_self ..))]; exact ih fun q hq => h q (List.mem_cons_of_mem _ hq)
theorem imget_mem {l : List (Int × α)} {k : Int} {v : α} (h : imget l k = some v) : (k, v) ∈ l := by
  induction l with
  | nil => cases h
  | cons p r ih =>
    unfold imget at h
    split at h
    · rename_i e; injection h with h; subst h; subst e; exact List.mem_cons_self ..
    · exact List.mem_cons_of_mem _ (ih h)
theorem imget_at {l : List (Int × α)} (hn : (l.map (·.1)).Nodup) {j : Nat} {p : Int × α} (h : l[j]? = some p) : imget l p.1 = some p.2 := by
  induction l generalizing j with
  | nil => simp at h
  | cons q r ih =>
    rw [List.map_cons, List.nodup_cons] at hn
    match j, h with
    | 0, h => simp at h; subst h; unfold imget; rw [if_pos rfl]
    | j + 1, h =>
      rw [List.getElem?_cons_succ] at h
      unfold imget
      rw [if_neg, ih hn.2 h]
      intro e
      exact hn.1 (by rw [e]; exact List.mem_map.2 ⟨p, List.mem_of_getElem? h, rfl⟩)
theorem imset_new {l : List (Int × α)} {k : Int} {v : α} (h : ∀ p ∈ l, p.1 ≠ k) : imset l k v = l ++ [(k, v)] := by
  induction l with
  | nil => rfl
  | cons p r ih => unfold imset; rw [if_neg (h p (List.mem_cons_self ..)), ih fun q hq => h q (List.mem_cons_of_mem _ hq)]; rfl
theorem imset_at {l : List (Int × α)} (hn : (l.map (·.1)).Nodup) {j : Nat} {p : Int × α} {v : α} (h : l[j]? = some p) : imset l p.1 v = l.set j (p.1, v) := by
  induction l generalizing j with
  | nil => simp at h
  | cons q r ih =>
    rw [List.map_cons, List.nodup_cons] at hn
    match j, h with
    | 0, h => simp at h; subst h; unfold imset; rw [if_pos rfl]; rfl
    | j + 1, h =>
      rw [List.getElem?_cons_succ] at h
      unfold imset
      rw [if_neg, ih hn.2 h]; rfl
      intro e
      exact hn.1 (by rw [e]; exact List.mem_map.2 ⟨p, List.mem_of_getElem? h, rfl⟩)
theorem imget_mset_same (l : List (Int × α)) (k : Int) (v : α) : imget (imset l k v) k = some v := by
  induction l with
  | nil => simp [imset, imget]
  | cons p r ih =>
    unfold imset
    by_cases h : p.1 = k
    · rw [if_pos h]; simp [imget]
    · rw [if_neg h]; unfold imget; rw [if_neg h, ih]
theorem imget_mset_other (l : List (Int × α)) {k k' : Int} (v : α) (h : k' ≠ k) : imget (imset l k v) k' = imget l k' := by
  induction l with
  | nil => simp [imset, imget, Ne.symm h]
  | cons p r ih =>
    unfold imset
    by_cases hp : p.1 = k
    · rw [if_pos hp]; unfold imget; rw [if_neg (Ne.symm h), if_neg (by rw [hp]; exact Ne.symm h)]
    · rw [if_neg hp]; unfold imget; rw [ih]
end lists

def ikey (n : Int) : Value := .int .i64 n
theorem ikey_inj {a b : Int} (h : ikey a = ikey b) : a = b := by injection h
/-- The entries of a map with int keys, in their order. -/
def IEntries (es : Array MapEntry) (clock : Nat) (l : List (Int × Value)) : Prop :=
  es.toList.map (fun e => (e.key, e.val)) = l.map (fun p => (ikey p.1, p.2)) ∧ Stamped es clock
def IMap (w : World) (b : Nat) (l : List (Int × Value)) : Prop := ∃ es clock, w.heap[b]? = some (.map es clock) ∧ IEntries es clock l

theorem IEntries.length {es : Array MapEntry} {clock : Nat} {l : List (Int × Value)} (h : IEntries es clock l) : es.size = l.length := by
  have := congrArg List.length h.1
  simpa using this
theorem IEntries.at_ {es : Array MapEntry} {clock : Nat} {l : List (Int × Value)} (h : IEntries es clock l) {j : Nat} {e : MapEntry} (he : es.toList[j]? = some e) : ∃ p, l[j]? = some p ∧ e.key = ikey p.1 ∧ e.val = p.2 := by
  have h1 := congrArg (fun x => x[j]?) h.1
  simp only [List.getElem?_map, he, Option.map_some] at h1
  cases hp : l[j]? with
  | none => rw [hp] at h1; cases h1
  | some p =>
    rw [hp] at h1
    simp at h1
    exact ⟨p, rfl, h1.1, h1.2⟩
theorem IEntries.keys {es : Array MapEntry} {clock : Nat} {l : List (Int × Value)} (h : IEntries es clock l) : es.toList.map (·.key) = l.map (fun p => ikey p.1) := by
  have h1 := congrArg (fun x => x.map (fun q : Value × Value => q.1)) h.1
  simpa [List.map_map, Function.comp_def] using h1
theorem IEntries.isKey {es : Array MapEntry} {clock : Nat} {l : List (Int × Value)} (h : IEntries es clock l) : ∀ x ∈ es.toList, IsKey (.int .i64) x.key := by
  intro x hx
  obtain ⟨j, hj⟩ := List.getElem?_of_mem hx
  obtain ⟨p, -, hk, -⟩ := h.at_ hj
  rw [hk]; rfl
theorem IEntries.nodup {es : Array MapEntry} {clock : Nat} {l : List (Int × Value)} (h : IEntries es clock l) : (l.map (·.1)).Nodup := by
  have h1 := h.2.2.2
  rw [h.keys] at h1
  have h2 : l.map (fun p => ikey p.1) = (l.map (·.1)).map ikey := by rw [List.map_map]; rfl
  rw [h2] at h1
  exact List.Pairwise.of_map ikey (fun a b hne e => hne (by rw [e])) h1
theorem IEntries.none {es : Array MapEntry} {clock : Nat} {l : List (Int × Value)} (h : IEntries es clock l) {key : Int} (hn : ∀ x ∈ es.toList, x.key ≠ ikey key) : ∀ p ∈ l, p.1 ≠ key := by
  rintro p hp rfl
  have : ikey p.1 ∈ es.toList.map (·.key) := by rw [h.keys]; exact List.mem_map.2 ⟨p, hp, rfl⟩
  obtain ⟨x, hx, he⟩ := List.mem_map.1 this
  exact hn x hx he
theorem IMap.nodup {w : World} {b : Nat} {l : List (Int × Value)} (h : IMap w b l) : (l.map (·.1)).Nodup := by
  obtain ⟨es, clock, -, he⟩ := h
  exact he.nodup
theorem IMap.lt {w : World} {b : Nat} {l : List (Int × Value)} (h : IMap w b l) : b < w.heap.size := by
  obtain ⟨es, clock, hb, -⟩ := h
  exact (Array.getElem?_eq_some_iff.1 hb).1
theorem IMap.block {w w' : World} {b : Nat} {l : List (Int × Value)} (h : IMap w b l) (hb : w'.heap[b]? = w.heap[b]?) : IMap w' b l := by
  obtain ⟨es, clock, h1, he⟩ := h
  exact ⟨es, clock, hb.trans h1, he⟩
theorem IMap.made (w : World) : IMap (w.alloc (.map #[] 0)) w.heap.size [] := ⟨#[], 0, (MapKept.heap_alloc w _).1, rfl, stamped_empty 0⟩

section runs
variable {P : Program} {w : World} {b : Nat} {l : List (Int × Value)} {t k e : TypeId}
theorem IMap.look (h : IMap w b l) (ht : P.underlying t = some (.map k e)) (hk : P.underlying k = some (.int .i64)) {z : Value} (hz : (zeroValue e).run P w = .ok z w) (key : Int) (ok : Bool) :
    (Instr.lookup t (.map (some b)) (ikey key) ok).run P w = .ok (if ok then .tuple #[(imget l key).getD z, .bool (imget l key).isSome] else (imget l key).getD z) w := by
  obtain ⟨es, clock, hb, he⟩ := h
  simp only [Instr.lookup, Sem.run_bind, run_underlying ht, Result.andThen, MapKept.run_getObj_map hb, Sem.run_pure]
  rw [MapKept.run_checkKey (n := 9999) hk (show IsKey (.int .i64) (ikey key) from rfl)]
  rcases findNow_spec (show IsKey (.int .i64) (ikey key) from rfl) es.toList 0 he.isKey with ⟨h1, h2⟩ | ⟨j, e', h1, h2, h3⟩
  · rw [imget_none (he.none h2)]
    simp only [MapKept.run_findKey hk h1]
    cases ok <;> simp [hz, Result.andThen, go_sem]
  · simp only [MapKept.run_findKey hk h1]
    obtain ⟨p, hp, hpk, hpv⟩ := he.at_ h2
    rw [h3] at hpk
    have hpk := ikey_inj hpk
    have hg := imget_at he.nodup hp
    rw [← hpk] at hg
    rw [hg, ← hpv]
    cases ok <;> simp [go_sem]
theorem IMap.len (h : IMap w b l) (ht : P.underlying t = some (.map k e)) (ty : TypeId) : (Builtin.len_ #[t] ty #[.map (some b)]).run P w = .ok (.int .i64 l.length) w := by
  obtain ⟨es, clock, hb, he⟩ := h
  have hl := he.length
  simp [Builtin.len_, run_underlying ht, MapKept.run_getObj_map hb, Result.andThen, go_sem, hl]
theorem IMap.upd (h : IMap w b l) (ht : P.underlying t = some (.map k e)) (hk : P.underlying k = some (.int .i64)) (key : Int) (v : Value) :
    ∃ w', (Instr.mapUpdate t (.map (some b)) (ikey key) v).run P w = .ok () w' ∧ IMap w' b (imset l key v) ∧ w.grownBy w' (some b) := by
  obtain ⟨es, clock, hb, he⟩ := h
  have hgr : ∀ o, w.grownBy (setBlock w b o) (some b) := fun o => ⟨rfl, rfl, rfl, by simp [setBlock], fun i _ hi => ChangeMaps.heap_setBlock_other hb _ (fun e => hi (by rw [e]))⟩
  rcases findNow_spec (show IsKey (.int .i64) (ikey key) from rfl) es.toList 0 he.isKey with ⟨h1, h2⟩ | ⟨j, e', h1, h2, h3⟩
  · refine ⟨setBlock w b (.map (es.push { key := ikey key, val := v, born := clock }) (clock + 1)), ?_, ⟨_, _, ChangeMaps.heap_setBlock_same hb _, ?_, stamped_push he.2 h2⟩, hgr _⟩
    · simp only [Instr.mapUpdate, Sem.run_bind, run_underlying ht, Result.andThen, MapKept.run_getObj_map hb]
      rw [MapKept.run_checkKey (n := 9999) hk (show IsKey (.int .i64) (ikey key) from rfl)]
      simp only [MapKept.run_findKey hk h1, MapKept.run_setObj_map _ hb]
      rfl
    · rw [imset_new (he.none h2), Array.toList_push, List.map_append, List.map_append, he.1]
      rfl
  · obtain ⟨p, hp, hpk, hpv⟩ := he.at_ h2
    rw [h3] at hpk
    have hpk := ikey_inj hpk
    have hje : es[j]? = some e' := by simpa using h2
    refine ⟨setBlock w b (.map (es.modify j fun e => { e with key := ikey key, val := v }) clock), ?_, ⟨_, _, ChangeMaps.heap_setBlock_same hb _, ?_, ?_⟩, hgr _⟩
    · simp only [Instr.mapUpdate, Sem.run_bind, run_underlying ht, Result.andThen, MapKept.run_getObj_map hb]
      rw [MapKept.run_checkKey (n := 9999) hk (show IsKey (.int .i64) (ikey key) from rfl)]
      simp only [MapKept.run_findKey hk h1, Nat.zero_add, hje, Option.map_some, Option.getD_some, h3]
      have hs : (Instr.keyThatStays (ikey key) (ikey key)).run P w = .ok (ikey key) w := by
        have hkk : (key == key) = true := by simp
        simp [Instr.keyThatStays, Instr.sameBits, ikey, go_sem]
      simp only [Sem.run_bind, hs, Result.andThen, MapKept.run_setObj_map _ hb]
      rfl
    · have hset := imset_at (v := v) he.nodup hp
      rw [← hpk] at hset
      rw [hset]
      apply List.ext_getElem?
      intro i
      have h4 := congrArg (fun x => x[i]?) he.1
      simp only [List.getElem?_map, Array.getElem?_toList] at h4
      simp only [List.getElem?_map, Array.getElem?_toList, Array.getElem?_modify, List.getElem?_set]
      by_cases hij : j = i
      · subst hij
        have hlt : j < l.length := (List.getElem?_eq_some_iff.1 hp).1
        simp [hje, hlt]
      · simp only [hij, if_false]
        exact h4
    · refine stamped_modify he.2 j _ (fun _ _ => rfl) ?_
      intro x hx hx2
      rw [hje] at hx2
      injection hx2 with hx2
      subst hx2
      exact h3.symm
end runs
end Go.Proofs.Ytladknjmoahdoaa
