/- Copies of pages and of writes. -/
import Derived.Test.YtladknjmoahdoaaK2
set_option linter.all false
namespace Go.Proofs.Ytladknjmoahdoaa
open Go.RowKit

theorem slWrite : SlTyK Try.prog 66 77 (.agg (wrC ⟨0, 0, zeroP⟩)) 258 272 := ⟨Try.underlying66, by kernel_rfl, wrC_size _, by decide⟩
theorem own_empty (w : World) (E : TypeId) (k : Nat) : (w.alloc (.cells #[] E)).ownsRow w.heap.size E k (.slice (some ⟨w.heap.size, 0, none⟩) 0 0) 0 [] :=
  ⟨by simp, .inr ⟨w.heap.size, 0, #[], rfl, Nat.le_refl _, Go.heap_alloc_new w _, Nat.le_refl _, by decide, by simp, by simp⟩⟩
theorem pagesC_one (l : List PageT) : ∀ u ∈ pagesC l, u.oneCell' = true := flat_one pgL_one l
theorem wrsC_one (l : List WrT) : ∀ u ∈ wrsC l, u.oneCell' = true := flat_one wrL_one l
/-- A copy of a row: one of the call's own. -/
structure CopyP (w : World) (E : TypeId) (k n : Nat) (xs : List Value) (v : Value) (w' : World) : Prop where
  own : w'.ownsRow w.heap.size E k v n xs
  nil : n = 0 → v = .slice none 0 0
  below : Below w.heap.size w w'
set_option maxRecDepth 100000 in
set_option maxHeartbeats 1000000 in
theorem clone_pages (l : List PageT) (v : Value) (w : World) (hl : l.length ≤ 4000000000) (hn : w.ownsRow 0 75 256 v l.length (pagesC l)) (hz : l.length = 0 → v = .slice none 0 0) :
    Calls Try.prog 33 #[v] w fun e w' => ∃ v', e = .returned v' ∧ CopyP w 75 256 l.length (pagesC l) v' w' := by
  by_cases h0 : l.length = 0
  · have hv := hz h0
    subst hv
    have hl0 : l = [] := List.eq_nil_of_length_eq_zero h0
    subst hl0
    clear hz h0 hn hl
    have hfin : CopyP w 75 256 ([] : List PageT).length (pagesC []) (.slice none 0 0) w := ⟨World.ownsRow_nil _ _ _ _, fun _ => rfl, Below.refl _ _⟩
    have HF := Lib.hid hfin
    clear hfin
    have hq := fun (w : World) (a : Option Addr) (l c : Nat) => Go.run_eql_slice_nil (P := Try.prog) w 69 75 a l c Try.underlying69
    go_enter Try.func33, Try.ntmps33
    go_wp2
    go_ret
    exact ⟨_, rfl, HF.out⟩
  · obtain ⟨g, c, hv, -⟩ := own_nil hn (by omega)
    subst hv
    have h1 := own_empty w 75 256
    have HL := Lib.hid (pagesC_len l)
    have H1 := Lib.hid (pagesC_one l)
    have hA : Cells w (some ⟨g, 0, none⟩) (pagesC l) := by
      obtain ⟨A, c', he, -, hc⟩ := own_shape hn
      injection he with he _ _
      rw [he]; exact hc
    have HA := Lib.hid (Cells.alloc hA (.cells #[] 75))
    have H0 := Lib.hid h0
    clear hA hn hz h0
    generalize hn : l.length = n at *
    have HN := Lib.hid hn; clear hn
    have hsz : w.heap.size ≤ (w.alloc (.cells #[] 75)).heap.size := by simp
    have HSZ := Lib.hid hsz; clear hsz
    have hq := fun (w : World) (a : Option Addr) (l c : Nat) => Go.run_eql_slice_nil (P := Try.prog) w 69 75 a l c Try.underlying69
    go_enter Try.func33, Try.ntmps33
    go_wp2_with (at_builtin; refine wpList_appk slPage rfl _ _ rfl w.heap.size _ 0 [] rfl h1 (some ⟨g, 0, none⟩) n c (pagesC l) rfl HL.out HA.out H1.out (by omega) (by omega) HSZ.out ?_; intro v' w1 hown hg hb hat)
    go_ret
    rw [Nat.zero_add, List.nil_append] at hown
    exact ⟨v', rfl, hown, fun h => absurd h H0.out, ((Below.refl _ _).alloc (Nat.le_refl _) _).trans hb⟩
end Go.Proofs.Ytladknjmoahdoaa
