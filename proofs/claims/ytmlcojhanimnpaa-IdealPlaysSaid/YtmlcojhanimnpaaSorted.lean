/- slices.Sorted(maps.Keys(m)) at both maps. -/
import Derived.Test.YtmlcojhanimnpaaKeys
import Derived.Test.YtmlcojhanimnpaaShelf
import Derived.Test.YtmlcojhanimnpaaI11
namespace Go.Proofs.Ytmlcojhanimnpaa
open Go.RowKit Go.Maps Go.Sort Go.Shelf Go.MapKept

/-- The keys of a map, in order. -/
def skeys {α : Type} (l : List (ByteArray × α)) : List ByteArray := ((l.map fun p => p.1.data.toList).mergeSort leB).map fun x => ⟨x.toArray⟩
theorem skeys_perm {α : Type} (l : List (ByteArray × α)) : (skeys l).Perm (l.map (·.1)) := by
  unfold skeys
  refine ((List.mergeSort_perm _ _).map _).trans ?_
  rw [List.map_map]
  have : (l.map ((fun x : List UInt8 => (⟨x.toArray⟩ : ByteArray)) ∘ fun p => p.1.data.toList)) = l.map (·.1) := List.map_congr_left fun p _ => rfl
  rw [this]
theorem skeys_len {α : Type} (l : List (ByteArray × α)) : (skeys l).length = l.length := by rw [(skeys_perm l).length_eq, List.length_map]
theorem skeys_menc {α β : Type} (f : α → β) (l : List (ByteArray × α)) : skeys (menc f l) = skeys l := by
  unfold skeys menc
  rw [List.map_map]
  rfl
theorem skeys_same {α β : Type} {l : List (ByteArray × α)} {r : List (ByteArray × β)} (h : l.map (·.1) = r.map (·.1)) : skeys l = skeys r := by
  have h1 : (l.map fun p => p.1.data.toList) = r.map fun p => p.1.data.toList := by
    have := congrArg (List.map fun x : ByteArray => x.data.toList) h
    rw [List.map_map, List.map_map] at this
    exact this
  unfold skeys
  rw [h1]
theorem sorts_any (m : Nat) : AnyZ.SortsIn Try.prog Try.sorted41_ren Fence.wide m :=
  ⟨fun blk off cap ss W hH hblk hsz => callsIn_wide.2 (AnyM.slices_Sort_string Try.sort75 blk off cap ss W hH hblk hsz),
   fun p cap W => callsIn_wide.2 (AnyM.slices_Sort_string_none Try.sort75 p cap W)⟩
/-- The result of sorting a map's keys. -/
def KeysP (W : World) (ks : List ByteArray) (e : Ending) (w' : World) : Prop :=
  ∃ v, e = .returned v ∧ w'.ownsRow W.heap.size 9 1 v ks.length (ks.map .string) ∧ Below W.heap.size W w'
theorem keysC (mb : Option Nat) (W : World) : Calls Try.prog 42 #[.map mb] W fun e w' => e = .returned (.func (.func 76) #[] #[.pointer (some ⟨W.heap.size, 0, none⟩)]) ∧ W.alloc (.cells #[.map mb] 64) = w' :=
  ((callsIn_wide (n := 5)).1 (AnyZ.keys_in Try.keys42 Fence.wide 5 trivial rfl mb W)).mono fun _ _ h => ⟨h.1, h.2.symm⟩
set_option maxHeartbeats 1000000 in
theorem sortedC (b : Nat) (l : List (ByteArray × Value)) (w : World) (h : SMap w b l) (hk : ∀ p ∈ l, p.1.size ≤ 1000) (hl : l.length ≤ 1000) :
    Calls Try.prog 41 #[.func (.func 76) #[] #[.pointer (some ⟨w.heap.size, 0, none⟩)]] (w.alloc (.cells #[.map (some b)] 64)) (KeysP (w.alloc (.cells #[.map (some b)] 64)) (skeys l)) := by
  obtain ⟨D0, hown, hperm, hsize⟩ := h.owns (fun p hp => by have := hk p hp; unfold maxLen; omega) (by unfold maxLen; omega)
  have hbl := hown.lt
  have hseq : SeqGives Fence.wide 2 Try.prog 76 #[.pointer (some ⟨w.heap.size, 0, none⟩)] encStr (fun ss => ss.Perm (strKeys D0)) (Maps.size D0) (w.alloc (.cells #[.map (some b)] 64)) :=
    AnyZ.keys_gives (ρ := Try.keys42_ren) { Try.keys42 with } Fence.wide _ trivial rfl (by omega) w.heap.size b l.length D0 _ (by simp) (by simp) (by
      obtain ⟨es, clock, hb, Ft, hs, hD⟩ := hown
      exact ⟨es, clock, (Below.heap_alloc _ _ b hbl).trans hb, Ft, hs, hD⟩)
  refine ((callsIn_wide (n := 5)).1 (AnyZ.sorted_in Try.sorted41 Fence.wide 5 trivial trivial trivial trivial rfl (by omega) (sorts_any _) (enters_of Try.func75 (by kernel_rfl) rfl) 76 #[.pointer (some ⟨w.heap.size, 0, none⟩)] trivial (enters_of Try.func76 (by kernel_rfl) rfl) _ _ (by rw [hsize]; unfold maxLen; omega) (by rw [hsize]; omega) _ hseq)).mono ?_
  rintro e w' ⟨v, ss, rfl, hS, hrow, -, hb⟩
  refine ⟨v, rfl, ?_, hb⟩
  have h1 : ss.mergeSort leB = (l.map fun p => p.1.data.toList).mergeSort leB := mergeSort_of_perm (hS.trans hperm)
  have h2 : ss.length = (skeys l).length := by rw [skeys_len, hS.length_eq, hperm.length_eq, List.length_map]
  have h3 : (ss.mergeSort (fun x y => decide (x ≤ y))).map encStr = (skeys l).map Value.string := by
    show (ss.mergeSort leB).map encStr = _
    rw [h1]
    unfold skeys
    rw [List.map_map]
    rfl
  rw [h2, h3] at hrow
  exact hrow
theorem keysD (mb : Option Nat) (W : World) : Calls Try.prog 43 #[.map mb] W fun e w' => e = .returned (.func (.func 77) #[] #[.pointer (some ⟨W.heap.size, 0, none⟩)]) ∧ W.alloc (.cells #[.map mb] 65) = w' :=
  ((callsIn_wide (n := 5)).1 (AnyZ.keys_in Try.keys43 Fence.wide 5 trivial rfl mb W)).mono fun _ _ h => ⟨h.1, h.2.symm⟩
set_option maxHeartbeats 1000000 in
theorem sortedD (b : Nat) (l : List (ByteArray × Value)) (w : World) (h : SMap w b l) (hk : ∀ p ∈ l, p.1.size ≤ 1000) (hl : l.length ≤ 1000) :
    Calls Try.prog 41 #[.func (.func 77) #[] #[.pointer (some ⟨w.heap.size, 0, none⟩)]] (w.alloc (.cells #[.map (some b)] 65)) (KeysP (w.alloc (.cells #[.map (some b)] 65)) (skeys l)) := by
  obtain ⟨D0, hown, hperm, hsize⟩ := h.owns (fun p hp => by have := hk p hp; unfold maxLen; omega) (by unfold maxLen; omega)
  have hbl := hown.lt
  have hseq : SeqGives Fence.wide 2 Try.prog 77 #[.pointer (some ⟨w.heap.size, 0, none⟩)] encStr (fun ss => ss.Perm (strKeys D0)) (Maps.size D0) (w.alloc (.cells #[.map (some b)] 65)) :=
    AnyZ.keys_gives (ρ := Try.keys43_ren) { Try.keys43 with } Fence.wide _ trivial rfl (by omega) w.heap.size b l.length D0 _ (by simp) (by simp) (by
      obtain ⟨es, clock, hb, Ft, hs, hD⟩ := hown
      exact ⟨es, clock, (Below.heap_alloc _ _ b hbl).trans hb, Ft, hs, hD⟩)
  refine ((callsIn_wide (n := 5)).1 (AnyZ.sorted_in Try.sorted41 Fence.wide 5 trivial trivial trivial trivial rfl (by omega) (sorts_any _) (enters_of Try.func75 (by kernel_rfl) rfl) 77 #[.pointer (some ⟨w.heap.size, 0, none⟩)] trivial (enters_of Try.func77 (by kernel_rfl) rfl) _ _ (by rw [hsize]; unfold maxLen; omega) (by rw [hsize]; omega) _ hseq)).mono ?_
  rintro e w' ⟨v, ss, rfl, hS, hrow, -, hb⟩
  refine ⟨v, rfl, ?_, hb⟩
  have h1 : ss.mergeSort leB = (l.map fun p => p.1.data.toList).mergeSort leB := mergeSort_of_perm (hS.trans hperm)
  have h2 : ss.length = (skeys l).length := by rw [skeys_len, hS.length_eq, hperm.length_eq, List.length_map]
  have h3 : (ss.mergeSort (fun x y => decide (x ≤ y))).map encStr = (skeys l).map Value.string := by
    show (ss.mergeSort leB).map encStr = _
    rw [h1]
    unfold skeys
    rw [List.map_map]
    rfl
  rw [h2, h3] at hrow
  exact hrow
end Go.Proofs.Ytmlcojhanimnpaa
