/- A map with string keys, as the kit's shelf of sorted keys wants it. -/
import Derived.Test.YtladknjmoahdoaaK15
import Derived.Test.YtladknjmoahdoaaChecked
import Derived.Maps.Own
import Derived.Sort.KeysCollected
set_option linter.all false
namespace Go.Proofs.Ytladknjmoahdoaa
open Go.RowKit Go.Maps Go.WideElems Go.Sort Go.MapKept

/-- Every value is read, as nothing. -/
def rAll : Value → Option (DataW Unit × List MemPlace) := fun _ => some (.lit (.bool true), [])
theorem key_str {s : ByteArray} (h : s.size ≤ maxLen) : keyOf Try.prog 9 (.string s) = some (.string s.data.toList) := by
  simp [keyOf, mapKey, Try.underlying9, h]
theorem SMap.owns {w : World} {b : Nat} {l : List (ByteArray × Value)} (h : SMap w b l) (hk : ∀ p ∈ l, p.1.size ≤ maxLen) (hl : l.length ≤ maxLen) :
    ∃ D0 : DataW Unit, w.ownsMap Try.prog 9 rAll b l.length D0 ∧ (strKeys D0).Perm (l.map fun p => p.1.data.toList) ∧ Maps.size D0 = l.length := by
  obtain ⟨es, clock, hb, he⟩ := h
  have hsz := he.length
  have hrd : ∀ x ∈ es.toList, ∃ s : ByteArray, x.key = .string s ∧ rd Try.prog 9 rAll x = some (.string s.data.toList, .lit (.bool true)) := by
    intro x hx
    obtain ⟨j, hj, rfl⟩ := List.getElem_of_mem hx
    obtain ⟨p, hp, hkey, -⟩ := he.at_ (List.getElem?_eq_getElem hj)
    have hpm : p ∈ l := List.mem_of_getElem? hp
    refine ⟨p.1, hkey, ?_⟩
    unfold rd
    rw [hkey, key_str (hk p hpm)]
    rfl
  refine ⟨.map ((es.toList.map (rg Try.prog 9 rAll)).foldr DataW.insert []), ⟨es, clock, hb, ⟨by omega, he.2, fun x hx => ?_⟩, by omega, rfl⟩, ?_, ?_⟩
  · obtain ⟨s, -, h2⟩ := hrd x hx
    exact ⟨_, h2⟩
  · show (((es.toList.map (rg Try.prog 9 rAll)).foldr DataW.insert []).map fun p => strOf p.1).Perm _
    refine ((WideShapes.sorted_perm _).map _).trans ?_
    rw [List.map_map]
    have h1 : es.toList.map ((fun p : Lit × DataW Unit => strOf p.1) ∘ rg Try.prog 9 rAll) = es.toList.map (fun e => match e.key with | .string s => s.data.toList | _ => []) := by
      refine List.map_congr_left fun x hx => ?_
      obtain ⟨s, h1, h2⟩ := hrd x hx
      simp only [Function.comp, rg, h2, Option.getD_some, h1, strOf]
    have h2 : es.toList.map (fun e => match e.key with | .string s => s.data.toList | _ => []) = l.map fun p => p.1.data.toList := by
      have h3 := congrArg (List.map fun (x : Value × Value) => (match x.1 with | .string s => s.data.toList | _ => [] : List UInt8)) he.1
      rw [List.map_map, List.map_map] at h3
      exact h3
    rw [h1, h2]
  · show ((es.toList.map (rg Try.prog 9 rAll)).foldr DataW.insert []).length = l.length
    rw [(WideShapes.sorted_perm _).length_eq, List.length_map, Array.length_toList, hsz]
end Go.Proofs.Ytladknjmoahdoaa
