/- A copy of the books. -/
import Derived.Test.YtmlcojhanimnpaaI3
namespace Go.Proofs.Ytmlcojhanimnpaa
open Go.RowKit

def CopyP (w : World) (s : Led) (e : Ending) (w' : World) : Prop :=
  ∃ c d, e = .returned (.agg #[.map (some c), .map (some d)]) ∧ SMap w' c (menc encI s.coins) ∧ SMap w' d (menc encC s.chans) ∧ w.heap.size ≤ c ∧ w.heap.size ≤ d ∧ c ≠ d ∧ Below w.heap.size w w'
theorem alloc2_old (w : World) (o1 o2 : Obj) : ((w.alloc o1).alloc o2).heap[w.heap.size]? = some o1 := by
  rw [Go.heap_alloc_old _ _ (by simp)]; exact Go.heap_alloc_new w _
theorem alloc2_new (w : World) (o1 o2 : Obj) : ((w.alloc o1).alloc o2).heap[w.heap.size + 1]? = some o2 := by
  have h := Go.heap_alloc_new (w.alloc o1) o2
  have e : (w.alloc o1).heap.size = w.heap.size + 1 := by simp
  rw [e] at h; exact h
theorem alloc2_size (w : World) (o1 o2 : Obj) : ((w.alloc o1).alloc o2).drew.heap.size = w.heap.size + 2 := by simp
theorem SMap.setCell {w : World} {b : Nat} {l : List (ByteArray × Value)} (h : SMap w b l) (p : Addr) (hne : b ≠ p.block) (u : Value) : SMap (w.setCell p u) b l := h.block (Below.heap_setCell w p u b hne)
structure CopyAt (w : World) (c d : Nat) (w1 : World) : Prop where
  box : w1.heap[w.heap.size]? = some (.cells #[.map (some c), .map (some d)] 67)
  res : w1.heap[w.heap.size + 1]? = some (.cells #[.map none, .map none] 67)
theorem copy_end {w w2 : World} {c d : Nat} (h : CopyAt w c d w2) (x y : Value) : ((w2.setCell ⟨w.heap.size + 1, 0, none⟩ x).setCell ⟨w.heap.size + 1, 1, none⟩ y).heap[w.heap.size + 1]? = some (.cells #[x, y] 67) := by
  have h1 := setCell_cells h.res 0 x
  have h2 := setCell_cells h1 1 y
  simpa using h2
theorem CopyAt.cell {w w1 : World} {c d : Nat} (h : CopyAt w c d w1) : w1.cell? ⟨w.heap.size, 0, none⟩ = some (.map (some c)) ∧ w1.cell? ⟨w.heap.size, 1, none⟩ = some (.map (some d)) ∧ w1.cell? ⟨w.heap.size + 1, 0, none⟩ = some (.map none) ∧ w1.cell? ⟨w.heap.size + 1, 1, none⟩ = some (.map none) ∧ w1.frozen? ⟨w.heap.size + 1, 0, none⟩ = false ∧ w1.frozen? ⟨w.heap.size + 1, 1, none⟩ = false := by
  have h1 := h.box
  have h2 := h.res
  refine ⟨?_, ?_, ?_, ?_, ?_, ?_⟩ <;> simp [World.cell?, World.frozen?, h1, h2]
theorem CopyAt.below {w w1 w2 : World} {c d : Nat} (h : CopyAt w c d w1) (hb : Below w1.heap.size w1 w2) : CopyAt w c d w2 :=
  ⟨(hb.block _ (lt_of_block h.box)).trans h.box, (hb.block _ (lt_of_block h.res)).trans h.res⟩
theorem copyAt0 (w : World) (c d : Nat) : CopyAt w c d ((w.alloc (.cells #[.map (some c), .map (some d)] 67)).alloc (.cells #[.map none, .map none] 67)).drew :=
  ⟨alloc2_old w _ _, alloc2_new w _ _⟩
set_option maxHeartbeats 1000000 in
theorem copy_any (c d : Nat) (s : Led) (w : World) (hc : SMap w c (menc encI s.coins)) (hd : SMap w d (menc encC s.chans)) :
    Calls Try.prog 34 #[.agg #[.map (some c), .map (some d)]] w (CopyP w s) := by
  have h0 := copyAt0 w c d
  have hc0 : SMap ((w.alloc (.cells #[.map (some c), .map (some d)] 67)).alloc (.cells #[.map none, .map none] 67)).drew c (menc encI s.coins) := (hc.alloc _).alloc _
  have hd0 : SMap ((w.alloc (.cells #[.map (some c), .map (some d)] 67)).alloc (.cells #[.map none, .map none] 67)).drew d (menc encC s.chans) := (hd.alloc _).alloc _
  have hb0 : Below w.heap.size w ((w.alloc (.cells #[.map (some c), .map (some d)] 67)).alloc (.cells #[.map none, .map none] 67)).drew := below_drewN (((Below.refl _ _).alloc (Nat.le_refl _) _).alloc (by simp) _) 1
  have HC := Lib.hid hc0
  have HD := Lib.hid hd0
  have HB := Lib.hid hb0
  have H0 := Lib.hid h0
  clear h0 hc0 hd0 hb0
  go_enter Try.func34, Try.ntmps34
  go_wp2_with fail
  go_region_with (first
    | (go_at_call 68; refine (cloneI HC.out).mono ?_; rintro e w1 ⟨rfl, hm1, hs1, hb1⟩; have A1 := H0.out.below hb1; have C1 := A1.cell; have D1 := HD.out.below hb1; have B1 := HB.out.trans (hb1.mono HB.out.size))
    | (go_at_call 69; refine (cloneC D1).mono ?_; rintro e w2 ⟨rfl, hm2, hs2, hb2⟩; have A2 := A1.below hb2; have C2 := A2.cell; have M2 := hm1.below hb2; have B2 := B1.trans (hb2.mono B1.size)))
  all_goals
    clear hm1 hb1 hb2 C1 A1 D1 B1 HC HD HB H0
    go_wp2
    have hr := copy_end A2 (.map (some (w.heap.size + 1 + 1))) (.map (some (w.heap.size + 1 + 1 + 1)))
    have e1 := alloc2_size w (.cells #[.map (some c), .map (some d)] 67) (.cells #[.map none, .map none] 67)
    rw [e1] at hs1 M2
    have hfin : CopyP w s (.returned (.agg #[.map (some (w.heap.size + 1 + 1)), .map (some (w.heap.size + 1 + 1 + 1))])) ((w2.setCell ⟨w.heap.size + 1, 0, none⟩ (.map (some (w.heap.size + 1 + 1)))).setCell ⟨w.heap.size + 1, 1, none⟩ (.map (some (w.heap.size + 1 + 1 + 1)))) := by
      refine ⟨_, _, rfl, ?_, ?_, by omega, by omega, by omega, (B2.setCell (by simp) _).setCell (by simp) _⟩
      · exact (SMap.setCell M2 _ (by simp) _).setCell _ (by simp) _
      · rw [hs1] at hm2
        exact (SMap.setCell hm2 _ (by simp) _).setCell _ (by simp) _
    have r0 : ((w2.setCell ⟨w.heap.size + 1, 0, none⟩ (.map (some (w.heap.size + 1 + 1)))).setCell ⟨w.heap.size + 1, 1, none⟩ (.map (some (w.heap.size + 1 + 1 + 1)))).cell? ⟨w.heap.size + 1, 0, none⟩ = some (.map (some (w.heap.size + 1 + 1))) := by simp [World.cell?, hr]
    have r1 : ((w2.setCell ⟨w.heap.size + 1, 0, none⟩ (.map (some (w.heap.size + 1 + 1)))).setCell ⟨w.heap.size + 1, 1, none⟩ (.map (some (w.heap.size + 1 + 1 + 1)))).cell? ⟨w.heap.size + 1, 1, none⟩ = some (.map (some (w.heap.size + 1 + 1 + 1))) := by simp [World.cell?, hr]
    exact bodyPost_ret (v := .agg #[.map (some (w.heap.size + 1 + 1)), .map (some (w.heap.size + 1 + 1 + 1))]) (by simp [results, Try.results34, go_sem, r0, r1]) rfl hfin
end Go.Proofs.Ytmlcojhanimnpaa
