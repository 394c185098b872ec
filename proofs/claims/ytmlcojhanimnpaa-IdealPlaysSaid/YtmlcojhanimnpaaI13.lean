/- slices.Grow of nothing and slices.Concat of two, at holds. -/
import Derived.Test.YtmlcojhanimnpaaI12
import Derived.Lib.AppendZerosOnto
namespace Go.Proofs.Ytmlcojhanimnpaa
open Go.RowKit

set_option maxRecDepth 100000 in
set_option maxHeartbeats 1000000 in
theorem grow_any (n : Nat) (w : World) (hn : n ≤ 2000) :
    Calls Try.prog 90 #[.slice none 0 0, .int .i64 n] w fun e w' => ∃ v, e = .returned v ∧ w'.ownsRow w.heap.size 74 2 v 0 [] ∧ Below w.heap.size w w' := by
  rcases Nat.eq_zero_or_pos n with h0 | h0
  · subst h0
    have hfin : ∃ v, Ending.returned (.slice none 0 0) = .returned v ∧ w.ownsRow w.heap.size 74 2 v 0 [] ∧ Below w.heap.size w w := ⟨_, rfl, World.ownsRow_nil _ _ _ _, Below.refl _ _⟩
    have HF := Lib.hid hfin; clear hfin
    go_enter Try.func90, Try.ntmps90
    go_wp2
    go_ret
    exact HF.out
  · obtain ⟨i, hi, hz0, hz1, hz2⟩ := info_parts slHold.info
    have hold : (Builtin.firstCells i.size 0 (.slice none 0 0)).run Try.prog w.drew = .ok ([] : List Value).toArray w.drew := run_firstCells_none w.drew i.size 0 0 0
    have hrz := fun ty => Lib.run_append_grow_zeros (P := Try.prog) w 68 3 ty 74 i _ .i64 .i64 slHold.ul Try.underlying3 hi hz0 none 0 0 [] hold n h0 (by rw [hz1]; decide) (by omega) (by omega) (by rw [hz2]; omega) (by rw [hz2]; exact growslice_fits (by omega) (by omega))
    simp only [Nat.zero_add] at hrz
    have hge : n ≤ grownCap w n 0 74 := grownCap_ge w _ _ _
    have hle := grownCap_le_maxLen w n 0 74 (by unfold maxLen; omega)
    generalize grownCap w n 0 74 = G at *
    have hfin : ∀ cs : Array Value, cs.size = G * 2 → (w.alloc (.cells cs 74)).drew.ownsRow w.heap.size 74 2 (.slice (some ⟨w.heap.size, 0, none⟩) 0 G) 0 [] ∧ Below w.heap.size w (w.alloc (.cells cs 74)).drew :=
      fun cs hcs => ⟨⟨by simp, .inr ⟨w.heap.size, G, cs, rfl, Nat.le_refl _, Go.heap_alloc_new w _, Nat.zero_le _, hle, hcs, by simp⟩⟩, below_drewN ((Below.refl _ _).alloc (Nat.le_refl _) _) 1⟩
    have HF := Lib.hid hfin; clear hfin
    have hG : G ≤ 9223372036854775807 := by unfold maxLen at hle; omega
    clear hold hi hz0 hz1 hz2 hle
    go_enter Try.func90, Try.ntmps90
    go_wp2_with (at_builtin; refine Lib.wpList_append_run _ rfl _ _ _ _ rfl _ _ rfl rfl _ _ (hrz _) ?_)
    go_ret
    exact ⟨_, rfl, HF.out _ (by simp only [Array.size_append, size_zeroCells]; simp; omega)⟩
set_option maxRecDepth 100000 in
set_option maxHeartbeats 2000000 in
/-- Concat of two readable slices, named by a block of two. -/
theorem concat_any (vs us : List Value) (n m : Nat) (A B : Option Addr) (c e : Nat) (g : Nat) (w : World) (hn : n ≤ 1000) (hm : m ≤ 1000) (hvl : vs.length = n * 2) (hul : us.length = m * 2)
    (h1 : ∀ u ∈ vs, u.oneCell' = true) (h2 : ∀ u ∈ us, u.oneCell' = true) (hA : Cells w A vs) (hB : Cells w B us)
    (hg : w.heap[g]? = some (.cells #[.slice A n c, .slice B m e] 68)) :
    Calls Try.prog 73 #[.slice (some ⟨g, 0, none⟩) 2 2] w fun e w' => ∃ v, e = .returned v ∧ w'.ownsRow w.heap.size 74 2 v (n + m) (vs ++ us) ∧ Below w.heap.size w w' := by
  have c0 : w.cell? ⟨g, 0, none⟩ = some (.slice A n c) := by simp [World.cell?, hg]
  have c1 : w.cell? ⟨g, 1, none⟩ = some (.slice B m e) := by simp [World.cell?, hg]
  have HA := Lib.hid hA
  have HB := Lib.hid hB
  have HG := Lib.hid hg
  have HVL := Lib.hid hvl
  have HUL := Lib.hid hul
  have H1 := Lib.hid h1
  have H2 := Lib.hid h2
  clear hA hB hg hvl hul h1 h2
  go_enter Try.func73, Try.ntmps73
  go_wp2_with fail
  go_loop [3, 11] (fun s i => (s = .int .i64 0 ∧ i = .int .i64 0) ∨ (s = .int .i64 n ∧ i = .int .i64 1) ∨ (s = .int .i64 ((n + m : Nat) : Int) ∧ i = .int .i64 2)) (fun _ i => 2 - (intOf i).toNat)
  case atStart => exact .inl ⟨rfl, rfl⟩
  case round =>
    rcases hrel with ⟨rfl, rfl⟩ | ⟨rfl, rfl⟩ | ⟨rfl, rfl⟩
    · go_wp2_with fail
      go_round
      case rel => exact .inr (.inl ⟨by go_num, rfl⟩)
      case measure => simp [intOf]
    · go_wp2_with fail
      go_round
      case rel => exact .inr (.inr ⟨by go_num, rfl⟩)
      case measure => simp [intOf]
    · go_wp2_with fail
      refine (grow_any (n + m) w (by omega)).mono ?_
      rintro _ w1 ⟨v0, rfl, hown0, hb0⟩
      have HO0 := Lib.hid hown0
      have HB0 := Lib.hid hb0
      clear hown0 hb0
      go_wp2_with fail
      go_loopw [6, 27] (fun v i wr => Below w.heap.size w wr ∧ ((i = .int .i64 0 ∧ wr.ownsRow w.heap.size 74 2 v 0 []) ∨ (i = .int .i64 1 ∧ wr.ownsRow w.heap.size 74 2 v n vs) ∨ (i = .int .i64 2 ∧ wr.ownsRow w.heap.size 74 2 v (n + m) (vs ++ us)))) (fun _ i _ => 2 - (intOf i).toNat)
      case atStart => exact ⟨HB0.out, .inl ⟨rfl, HO0.out⟩⟩
      case round =>
        obtain ⟨hb, hcase⟩ := hrel
        have HBB := Lib.hid hb
        have d0 : wr.cell? ⟨g, 0, none⟩ = some (.slice A n c) := cell_below hb c0
        have d1 : wr.cell? ⟨g, 1, none⟩ = some (.slice B m e) := cell_below hb c1
        clear hb
        rcases hcase with ⟨rfl, hown⟩ | ⟨rfl, hown⟩ | ⟨rfl, hown⟩
        · have HO := Lib.hid hown; clear hown
          go_wp2_with (at_builtin; refine wpList_appk slHold rfl _ _ rfl w.heap.size _ 0 [] rfl HO.out A n c vs rfl HVL.out (Cells.below HA.out HBB.out) H1.out (by omega) (by omega) HBB.out.size ?_; intro v' w2 hown2 hg2 hb2 hat2)
          go_roundw
          case rel => exact ⟨HBB.out.trans hb2, .inr (.inl ⟨by go_num, by simpa using hown2⟩)⟩
          case measure => simp [intOf]
        · have HO := Lib.hid hown; clear hown
          go_wp2_with (at_builtin; refine wpList_appk slHold rfl _ _ rfl w.heap.size _ n vs rfl HO.out B m e us rfl HUL.out (Cells.below HB.out HBB.out) H2.out (by omega) (by omega) HBB.out.size ?_; intro v' w2 hown2 hg2 hb2 hat2)
          go_roundw
          case rel => exact ⟨HBB.out.trans hb2, .inr (.inr ⟨by go_num, hown2⟩)⟩
          case measure => simp [intOf]
        · have HO := Lib.hid hown; clear hown
          go_wp2_with fail
          go_ret
          exact ⟨_, rfl, HO.out, HBB.out⟩
end Go.Proofs.Ytmlcojhanimnpaa
