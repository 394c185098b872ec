/- Copies of maps and of the books. -/
import Derived.Test.YtmlcojhanimnpaaI2
namespace Go.Proofs.Ytmlcojhanimnpaa
open Go.RowKit

set_option maxRecDepth 100000 in
theorem cloneI_any (b : Nat) (es : Array MapEntry) (clock : Nat) (w : World) (hb : w.heap[b]? = some (.map es clock)) :
    Calls Try.prog 68 #[.map (some b)] w fun e w' => e = .returned (.map (some w.heap.size)) ∧ w' = w.alloc (.map es clock) := by
  have hq := fun w => run_eql_map_nil_sl (P := Try.prog) w 64 _ _ (some b) Try.underlying64
  go_enter Try.func68, Try.ntmps68
  go_wp2
  rw [run_callFunc_extern Try.func89 (by kernel_rfl) (by kernel_rfl) (by kernel_rfl) (e := Extern.MapsClone.clone) (by kernel_rfl), run_maps_clone_sl w 64 hb]
  simp only [Result.andThen]
  rw [Oper.upon_value]
  go_wp2
  rw [run_typeAssert_map_sl _ 64 _ _ _ _ Try.underlying64]
  simp only [Result.andThen]
  rw [Oper.upon_value]
  go_wp2
  go_ret
  exact ⟨rfl, rfl⟩
set_option maxRecDepth 100000 in
theorem cloneC_any (b : Nat) (es : Array MapEntry) (clock : Nat) (w : World) (hb : w.heap[b]? = some (.map es clock)) :
    Calls Try.prog 69 #[.map (some b)] w fun e w' => e = .returned (.map (some w.heap.size)) ∧ w' = w.alloc (.map es clock) := by
  have hq := fun w => run_eql_map_nil_sl (P := Try.prog) w 65 _ _ (some b) Try.underlying65
  go_enter Try.func69, Try.ntmps69
  go_wp2
  rw [run_callFunc_extern Try.func89 (by kernel_rfl) (by kernel_rfl) (by kernel_rfl) (e := Extern.MapsClone.clone) (by kernel_rfl), run_maps_clone_sl w 65 hb]
  simp only [Result.andThen]
  rw [Oper.upon_value]
  go_wp2
  rw [run_typeAssert_map_sl _ 65 _ _ _ _ Try.underlying65]
  simp only [Result.andThen]
  rw [Oper.upon_value]
  go_wp2
  go_ret
  exact ⟨rfl, rfl⟩
/-- The clone of a map: another block that holds the same. -/
def CloneP (w : World) (l : List (ByteArray × Value)) (e : Ending) (w' : World) : Prop := e = .returned (.map (some w.heap.size)) ∧ SMap w' w.heap.size l ∧ w'.heap.size = w.heap.size + 1 ∧ Below w.heap.size w w'
theorem cloneP_of {w : World} {b : Nat} {l : List (ByteArray × Value)} (h : SMap w b l) : ∃ es clock, w.heap[b]? = some (.map es clock) ∧ CloneP w l (.returned (.map (some w.heap.size))) (w.alloc (.map es clock)) := by
  obtain ⟨es, clock, hb, he⟩ := h
  exact ⟨es, clock, hb, rfl, ⟨es, clock, Go.heap_alloc_new w _, he⟩, by simp, (Below.refl _ _).alloc (Nat.le_refl _) _⟩
theorem cloneI {w : World} {b : Nat} {l : List (ByteArray × Value)} (h : SMap w b l) : Calls Try.prog 68 #[.map (some b)] w (CloneP w l) := by
  obtain ⟨es, clock, hb, hp⟩ := cloneP_of h
  refine (cloneI_any b es clock w hb).mono ?_
  rintro e w' ⟨rfl, rfl⟩
  exact hp
theorem cloneC {w : World} {b : Nat} {l : List (ByteArray × Value)} (h : SMap w b l) : Calls Try.prog 69 #[.map (some b)] w (CloneP w l) := by
  obtain ⟨es, clock, hb, hp⟩ := cloneP_of h
  refine (cloneC_any b es clock w hb).mono ?_
  rintro e w' ⟨rfl, rfl⟩
  exact hp
theorem SMap.drew {w : World} {b : Nat} {l : List (ByteArray × Value)} (h : SMap w b l) : SMap w.drew b l := h
theorem SMap.below {w w' : World} {b : Nat} {l : List (ByteArray × Value)} (h : SMap w b l) (hb : Below w.heap.size w w') : SMap w' b l := h.block (hb.block b h.lt)
end Go.Proofs.Ytmlcojhanimnpaa
