/- slices.Sorted(maps.Keys(m)). Names. -/
import Derived.Test.YtladknjmoahdoaaKeys
import Derived.Test.YtladknjmoahdoaaShelf
set_option linter.all false
namespace Go.Proofs.Ytladknjmoahdoaa
open Go.RowKit Go.Maps Go.Sort Go.Shelf Go.MapKept

/-- The keys of a map, in order. -/
def skeys {α : Type} (l : List (ByteArray × α)) : List ByteArray := ((l.map fun p => p.1.data.toList).mergeSort leB).map fun x => ⟨x.toArray⟩
theorem skeys_perm {α : Type} (l : List (ByteArray × α)) : (skeys l).Perm (l.map (·.1)) := by
  unfold skeys
  refine ((List.mergeSort_perm _ _).map _).trans ?_
  rw [List.map_map]
  have : (l.map ((fun x : List UInt8 => (⟨x.toArray⟩ : ByteArray)) ∘ fun p => p.1.data.toList)) = l.map (·.1) := List.map_congr_left fun p _ => rfl
  rw [this]
theorem skeys_len {α : Type} (l : List (ByteArray × α)) : (skeys l).length = l.length := by rw [(skeys_perm l).length_eq, List.length_map]
theorem skeys_menc {α β : Type} (f : α → β) (l : List (ByteArray × α)) : skeys (menc f l) = skeys l := by
  unfold skeys menc
  rw [List.map_map]
  rfl
theorem skeys_same {α β : Type} {l : List (ByteArray × α)} {r : List (ByteArray × β)} (h : l.map (·.1) = r.map (·.1)) : skeys l = skeys r := by
  have h1 : (l.map fun p => p.1.data.toList) = r.map fun p => p.1.data.toList := by
    have := congrArg (List.map fun x : ByteArray => x.data.toList) h
    rw [List.map_map, List.map_map] at this
    exact this
  unfold skeys
  rw [h1]
/-- The result of sorting a map's keys. -/
def KeysP (W : World) (ks : List ByteArray) (e : Ending) (w' : World) : Prop :=
  ∃ v, e = .returned v ∧ w'.ownsRow W.heap.size 9 1 v ks.length (ks.map .string) ∧ Below W.heap.size W w'
/-- The names of a disk's files, in order. -/
def namesD (d : DiskT) : List ByteArray := if d.off = true then [] else skeys d.files
end Go.Proofs.Ytladknjmoahdoaa
