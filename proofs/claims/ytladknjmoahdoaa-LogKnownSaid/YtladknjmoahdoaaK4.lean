/- What is done once a step happens: Create, Remove. -/
import Derived.Test.YtladknjmoahdoaaK3
set_option linter.all false
namespace Go.Proofs.Ytladknjmoahdoaa
open Go.RowKit

theorem newFile_at {w' : World} {bl : Nat} (h : w'.heap[bl]? = some (.cells #[.slice none 0 0, .slice none 0 0, .slice none 0 0] 73)) : FileAt w' ⟨bl, .slice none 0 0, .slice none 0 0, .slice none 0 0, file0⟩ :=
  ⟨h, World.ownsRow_nil _ _ _ _, World.ownsRow_nil _ _ _ _, World.ownsRow_nil _ _ _ _, fun _ => rfl, fun _ => rfl, fun _ => rfl, by simp [FileM.fp, Value.ownBlock]⟩
/-- A new file in the map. -/
theorem DiskAt.created {w w' : World} {p m bl : Nat} {sb : Option Nat} {es : List (ByteArray × FileM)} {d : DiskT} (h : DiskAt w p m sb es d) (name : ByteArray) (hno : mget es name = none) (hbl : w.heap.size ≤ bl)
    (hf : Fr [m] w w') (hm : SMap w' m (mset (menc encF es) name (.pointer (some ⟨bl, 0, none⟩)))) (hb : w'.heap[bl]? = some (.cells #[.slice none 0 0, .slice none 0 0, .slice none 0 0] 73)) :
    ∃ es', OpL w p m sb es { d with files := mset d.files name file0 } sb es' w' := by
  have hpm : p ∉ [m] := by
    have := h.apart
    simp only [fpD, List.cons_append, List.nodup_cons, List.mem_cons, not_or] at this
    simpa using this.1.1
  have h1 : es.Perm ([] ++ es) := by simp
  have h2 : (mset es name ⟨bl, .slice none 0 0, .slice none 0 0, .slice none 0 0, file0⟩).Perm ([(name, ⟨bl, .slice none 0 0, .slice none 0 0, .slice none 0 0, file0⟩)] ++ es) := by
    have := perm_set es name (⟨bl, .slice none 0 0, .slice none 0 0, .slice none 0 0, file0⟩ : FileM)
    rwa [mdel_of_none hno] at this
  have hfp : ∀ i ∈ fpF [(name, (⟨bl, .slice none 0 0, .slice none 0 0, .slice none 0 0, file0⟩ : FileM))], i ∈ fpF [] ∨ w.heap.size ≤ i := by
    intro i hi
    simp [fpF, FileM.fp, Value.ownBlock] at hi
    exact .inr (by omega)
  refine ⟨_, h.swap h1 h2 ?_ (by simp [fpF, FileM.fp, Value.ownBlock]) hfp hf (fun i hi => .inr (.inl (by simpa using hi))) (hf.kept hpm h.blk) ?_ ?_ rfl, hf.mono fun i hi _ => ?_, newFp_swap h1 h2 hfp⟩
  · intro e he
    simp at he
    subst he
    exact newFile_at hb
  · rw [← mset_menc]; exact hm
  · show mset d.files name file0 = _
    rw [h.eq, ← mset_menc]
  · simp at hi; subst hi; exact mem_m
/-- The boxes of a closure. -/
def BoxP (w : World) (b p : Nat) : Prop := w.heap[b]? = some (.cells #[.pointer (some ⟨p, 0, none⟩)] 22)
def BoxS (w : World) (b : Nat) (s : ByteArray) : Prop := w.heap[b]? = some (.cells #[.string s] 9)
def UnitP (R : World → Prop) (e : Ending) (w' : World) : Prop := e = .returned (.tuple #[]) ∧ R w'
set_option maxRecDepth 100000 in
set_option maxHeartbeats 4000000 in
theorem create1_any (p m bd bn : Nat) (sb : Option Nat) (es : List (ByteArray × FileM)) (d : DiskT) (name : ByteArray) (w : World) (h : DiskAt w p m sb es d) (hno : mget es name = none) (hd : BoxP w bd p) (hn : BoxS w bn name) :
    Calls Try.prog 39 #[.pointer (some ⟨bd, 0, none⟩), .pointer (some ⟨bn, 0, none⟩)] w (UnitP fun w' => ∃ es', OpL w p m sb es { d with files := mset d.files name file0 } sb es' w') := by
  have c1 : w.cell? ⟨bd, 0, none⟩ = some (.pointer (some ⟨p, 0, none⟩)) := cell_of (j := 0) hd rfl
  have c2 : w.cell? ⟨bn, 0, none⟩ = some (.string name) := cell_of (j := 0) hn rfl
  obtain ⟨c0, -⟩ := h.cell
  have a0 := fun o => (h.alloc o).cell.1
  have a1 := fun o => cell_below ((Below.refl w.heap.size w).alloc (Nat.le_refl _) o) c1
  have a2 := fun o => cell_below ((Below.refl w.heap.size w).alloc (Nat.le_refl _) o) c2
  have hb0 : Below w.heap.size w ((w.alloc (.cells #[.slice none 0 0, .slice none 0 0, .slice none 0 0] 73)).drew) := ((Below.refl _ _).alloc (Nat.le_refl _) _).drew
  have hbn : ((w.alloc (.cells #[.slice none 0 0, .slice none 0 0, .slice none 0 0] 73)).drew).heap[w.heap.size]? = some (.cells #[.slice none 0 0, .slice none 0 0, .slice none 0 0] 73) := Go.heap_alloc_new w _
  obtain ⟨w2, hup, hm2, hg2⟩ := SMap.upd (P := Try.prog) (h.below hb0).map Try.underlying45 Try.underlying9 name (.pointer (some ⟨w.heap.size, 0, none⟩))
  have hmn : m < w.heap.size := h.map.lt
  have hfin : ∃ es', OpL w p m sb es { d with files := mset d.files name file0 } sb es' w2 :=
    h.created name hno (Nat.le_refl _) ((Fr.below hb0).trans (G := [m]) (Fr.grown hg2 fun k hk _ => by injection hk with hk; simp [hk]) fun i hi _ => hi) hm2 ((hg2.block _ (lt_of_block hbn) (fun e => by injection e with e; omega)).trans hbn)
  have HF := Lib.hid hfin
  clear hfin hg2 hm2 hb0 hbn h hd hn hno hmn
  go_enter Try.func39, Try.ntmps39
  go_wp2_with fail
  go_region
  all_goals
    go_wp2_with fail
    go_end0
    exact ⟨rfl, HF.out⟩
end Go.Proofs.Ytladknjmoahdoaa
