/- read: a right term, its parts. -/
import Derived.Test.YtncniomiplnaaaaGreatDoorQ7
namespace Go.Proofs.YtncniomiplnaaaaGreatDoor
open Go.RowKit

theorem Fr.toBelow {w w' : World} (h : Fr [] w w') : Below w.heap.size w w' := ⟨h.os, h.tape, h.output, h.size, fun i hi => h.block i hi (by simp)⟩
/-- What read tells. -/
def ReadP (s : ByteArray) (w : World) (e : Ending) (w' : World) : Prop :=
  match right s.data.toList with
  | some x => (∃ A cap, e = .returned (.tuple #[shapeV (byte s.data.toList 0).toNat x.num (textOf s (byte s.data.toList 0) x) (.slice A (pieces s x.kids).length cap) x.deep, .bool true]) ∧ w'.ownsRow 0 24 1 (.slice A (pieces s x.kids).length cap) (pieces s x.kids).length (strs (pieces s x.kids))) ∧ Below w.heap.size w w'
  | none => e = .returned (.tuple #[shapeV 0 0 ⟨#[]⟩ (.slice none 0 0) 0, .bool false]) ∧ Below w.heap.size w w'
set_option maxRecDepth 100000 in
set_option maxHeartbeats 8000000 in
theorem read_any (s : ByteArray) (w : World) (hs : s.size ≤ 1000000) (hv : VarsOk w) : Calls Tryz.prog 122 #[.string s] w (ReadP s w) := by
  have hlen : s.data.toList.length = s.size := rfl
  have hbA : Below w.heap.size w (w.alloc (.cells #[.int .u8 0, .int .i64 0, .string ⟨#[]⟩, .slice none 0 0, .int .i64 0] 162)) := (Below.refl _ _).alloc (Nat.le_refl _) _
  have hzA : ShapeAt (w.alloc (.cells #[.int .u8 0, .int .i64 0, .string ⟨#[]⟩, .slice none 0 0, .int .i64 0] 162)) w.heap.size 0 0 ⟨#[]⟩ (.slice none 0 0) 0 := Go.heap_alloc_new w _
  by_cases hlim : 16384 < s.size
  · have hR : right s.data.toList = none := by unfold right; rw [if_neg (by omega)]
    have hli : (16384 : Int) < (s.size : Int) := by omega
    have HR := Lib.hid hR
    have HZ := Lib.hid hzA
    have HB := Lib.hid hbA
    clear hR hlim hzA hbA hv hlen
    go_enter Tryz.func122, Tryz.ntmps122
    go_wp2_with fail
    obtain ⟨r0, r1, r2, r3, r4, -⟩ := HZ.out.cells
    refine bodyPost_ret (v := .tuple #[shapeV 0 0 ⟨#[]⟩ (.slice none 0 0) 0, .bool false]) (by simp [results, Tryz.results122, go_sem, r0, r1, r2, r3, r4, shapeV]) rfl ?_
    unfold ReadP
    rw [HR.out]
    exact ⟨rfl, HB.out⟩
  · have hli : ¬ ((16384 : Int) < (s.size : Int)) := by omega
    obtain ⟨W0, hW0⟩ : ∃ W0, (w.alloc (.cells #[.int .u8 0, .int .i64 0, .string ⟨#[]⟩, .slice none 0 0, .int .i64 0] 162)).alloc (.cells #[.string s, .int .i64 0] 176) = W0 := ⟨_, rfl⟩
    have hb0 : Below w.heap.size w W0 := by rw [← hW0]; exact hbA.alloc (by simp) _
    have hr0 : RdrAt W0 (w.heap.size + 1) s 0 := by
      have h := Go.heap_alloc_new (w.alloc (.cells #[.int .u8 0, .int .i64 0, .string ⟨#[]⟩, .slice none 0 0, .int .i64 0] 162)) (.cells #[.string s, .int .i64 0] 176)
      rw [hW0, show (w.alloc (.cells #[.int .u8 0, .int .i64 0, .string ⟨#[]⟩, .slice none 0 0, .int .i64 0] 162)).heap.size = w.heap.size + 1 by simp] at h
      exact h
    have hz0 : ShapeAt W0 w.heap.size 0 0 ⟨#[]⟩ (.slice none 0 0) 0 := by
      rw [← hW0]
      exact hzA.fr (Fr.below (F := []) ((Below.refl _ _).alloc (Nat.le_refl _) _)) (by simp)
    have hv0 := hv.below hb0
    have hT := term_any (w.heap.size + 1) s hs 64 (by omega) 0 W0 hr0 (Nat.zero_le _) hv0
    unfold TermP at hT
    obtain ⟨R, hR⟩ : ∃ R, rd s.data.toList 64 0 = R := ⟨_, rfl⟩
    rw [hR] at hT
    have HT := Lib.hid hT
    have HRR := Lib.hid hR
    have HZ0 := Lib.hid hz0
    have HB0 := Lib.hid hb0
    have hW1 := hW0
    clear hT hR hz0 hb0 hv0 hr0 hzA hbA hv
    cases R with
    | none =>
      have hRn : right s.data.toList = none := by unfold right; rw [HRR.out]; split <;> rfl
      have HRn := Lib.hid hRn
      unfold shapeV at HT
      clear hRn
      go_enter Tryz.func122, Tryz.ntmps122
      go_wp2_with fail
      refine HT.out.mono ?_
      rintro e W1 ⟨rfl, hf1⟩
      have hz1 := HZ0.out.fr hf1 (by simp)
      have HZ1 := Lib.hid (hz1.fr (Fr.below (F := []) ((Below.refl _ _).alloc (Nat.le_refl _) (.cells #[.int .u8 0, .int .i64 0, .string ⟨#[]⟩, .slice none 0 0, .int .i64 0] 162))) (by simp))
      have HF1 := Lib.hid (((Fr.below (F := []) HB0.out).trans hf1 (fun i hi hlt => absurd (show i = w.heap.size + 1 by simpa using hi) (by omega))).trans (Fr.below (F := []) ((Below.refl _ _).alloc (Nat.le_refl _) (.cells #[.int .u8 0, .int .i64 0, .string ⟨#[]⟩, .slice none 0 0, .int .i64 0] 162))) (fun i hi _ => by cases hi))
      clear hz1 hf1 hW0 hW1
      have hz9 := HZ1.out
      obtain ⟨z0, z1, z2, z3, z4, zf⟩ := hz9.cells
      have zf0 := zf 0
      have zf1 := zf 1
      have zf2 := zf 2
      have zf3 := zf 3
      have zf4 := zf 4
      have hA := put5_at (show (W1.alloc (.cells #[.int .u8 0, .int .i64 0, .string ⟨#[]⟩, .slice none 0 0, .int .i64 0] 162)).heap[w.heap.size]? = some (.cells #[.int .u8 0, .int .i64 0, .string ⟨#[]⟩, .slice none 0 0, .int .i64 0] 162 (0, 0)) from hz9) (.int .u8 0) (.int .i64 0) (.string ⟨#[]⟩) (.slice none 0 0) (.int .i64 0)
      have hF := (HF1.out).trans (put5_fr (W1.alloc (.cells #[.int .u8 0, .int .i64 0, .string ⟨#[]⟩, .slice none 0 0, .int .i64 0] 162)) w.heap.size (.int .u8 0) (.int .i64 0) (.string ⟨#[]⟩) (.slice none 0 0) (.int .i64 0) (F := [w.heap.size]) (by simp)) (fun i hi hlt => absurd (show i = w.heap.size by simpa using hi) (by omega))
      have HA := Lib.hid hA
      have HF := Lib.hid hF
      clear hA hF hz9 zf
      go_wp2_with fail
      change bodyPost _ _ _ _ _ (put5 (W1.alloc (.cells #[.int .u8 0, .int .i64 0, .string ⟨#[]⟩, .slice none 0 0, .int .i64 0] 162)) w.heap.size (.int .u8 0) (.int .i64 0) (.string ⟨#[]⟩) (.slice none 0 0) (.int .i64 0))
      clear z0 z1 z2 z3 z4 zf0 zf1 zf2 zf3 zf4
      generalize put5 (W1.alloc (.cells #[.int .u8 0, .int .i64 0, .string ⟨#[]⟩, .slice none 0 0, .int .i64 0] 162)) w.heap.size (.int .u8 0) (.int .i64 0) (.string ⟨#[]⟩) (.slice none 0 0) (.int .i64 0) = Wf at HA HF ⊢
      obtain ⟨r0, r1, r2, r3, r4, -⟩ := ShapeAt.cells (show ShapeAt Wf w.heap.size 0 0 ⟨#[]⟩ (.slice none 0 0) 0 from HA.out)
      refine bodyPost_ret (v := .tuple #[shapeV 0 0 ⟨#[]⟩ (.slice none 0 0) 0, .bool false]) (by simp [results, Tryz.results122, go_sem, r0, r1, r2, r3, r4, shapeV]) rfl ?_
      unfold ReadP; rw [HRn.out]; exact ⟨rfl, HF.out.toBelow⟩
    | some x =>
      unfold shapeV at HT
      have HLEN := Lib.hid hlen
      clear hlen
      by_cases hfin : x.fin = s.size
      · have hRs : right s.data.toList = some x := right_of (by rw [HLEN.out]; omega) HRR.out (by rw [HLEN.out]; exact hfin)
        have HRs := Lib.hid hRs
        have HFI := Lib.hid hfin
        clear hRs
        go_enter Tryz.func122, Tryz.ntmps122
        go_wp2_with fail
        refine HT.out.mono ?_
        rintro e W1 ⟨A, cap, rfl, hr1, hc1, hf1⟩
        have hal : ∀ o, Below W1.heap.size W1 (W1.alloc o) := fun o => (Below.refl _ _).alloc (Nat.le_refl _) o
        have hd1 := (hr1.fr (Fr.below (F := []) (hal (.cells #[.int .u8 ((byte s.data.toList 0).toNat : Int), .int .i64 (x.num : Int), .string (textOf s (byte s.data.toList 0) x), .slice A (pieces s x.kids).length cap, .int .i64 (x.deep : Int)] 162))) (by simp)).cells.2.1
        rw [hfin] at hd1
        have hy : ShapeAt (W1.alloc (.cells #[.int .u8 ((byte s.data.toList 0).toNat : Int), .int .i64 (x.num : Int), .string (textOf s (byte s.data.toList 0) x), .slice A (pieces s x.kids).length cap, .int .i64 (x.deep : Int)] 162)) W1.heap.size ((byte s.data.toList 0).toNat : Int) (x.num : Int) (textOf s (byte s.data.toList 0) x) (.slice A (pieces s x.kids).length cap) (x.deep : Int) := Go.heap_alloc_new W1 _
        obtain ⟨y0, y1, y2, y3, y4, -⟩ := hy.cells
        have hz1 := (HZ0.out.fr hf1 (by simp)).fr (Fr.below (F := []) (hal (.cells #[.int .u8 ((byte s.data.toList 0).toNat : Int), .int .i64 (x.num : Int), .string (textOf s (byte s.data.toList 0) x), .slice A (pieces s x.kids).length cap, .int .i64 (x.deep : Int)] 162))) (by simp)
        obtain ⟨z0, z1, z2, z3, z4, zf⟩ := hz1.cells
        have zf0 := zf 0
        have zf1 := zf 1
        have zf2 := zf 2
        have zf3 := zf 3
        have zf4 := zf 4
        have hF1 := ((Fr.below (F := []) HB0.out).trans hf1 (fun i hi hlt => absurd (show i = w.heap.size + 1 by simpa using hi) (by omega))).trans (Fr.below (F := []) (hal (.cells #[.int .u8 ((byte s.data.toList 0).toNat : Int), .int .i64 (x.num : Int), .string (textOf s (byte s.data.toList 0) x), .slice A (pieces s x.kids).length cap, .int .i64 (x.deep : Int)] 162))) (fun i hi _ => by cases hi)
        have hA := put5_at (show (W1.alloc (.cells #[.int .u8 ((byte s.data.toList 0).toNat : Int), .int .i64 (x.num : Int), .string (textOf s (byte s.data.toList 0) x), .slice A (pieces s x.kids).length cap, .int .i64 (x.deep : Int)] 162)).heap[w.heap.size]? = some (.cells #[.int .u8 0, .int .i64 0, .string ⟨#[]⟩, .slice none 0 0, .int .i64 0] 162 (0, 0)) from hz1) (.int .u8 ((byte s.data.toList 0).toNat : Int)) (.int .i64 (x.num : Int)) (.string (textOf s (byte s.data.toList 0) x)) (.slice A (pieces s x.kids).length cap) (.int .i64 (x.deep : Int))
        have hF := hF1.trans (put5_fr (W1.alloc (.cells #[.int .u8 ((byte s.data.toList 0).toNat : Int), .int .i64 (x.num : Int), .string (textOf s (byte s.data.toList 0) x), .slice A (pieces s x.kids).length cap, .int .i64 (x.deep : Int)] 162)) w.heap.size (.int .u8 ((byte s.data.toList 0).toNat : Int)) (.int .i64 (x.num : Int)) (.string (textOf s (byte s.data.toList 0) x)) (.slice A (pieces s x.kids).length cap) (.int .i64 (x.deep : Int)) (F := [w.heap.size]) (by simp)) (fun i hi hlt => absurd (show i = w.heap.size by simpa using hi) (by omega))
        have hcW := own_below hc1 (hal (.cells #[.int .u8 ((byte s.data.toList 0).toNat : Int), .int .i64 (x.num : Int), .string (textOf s (byte s.data.toList 0) x), .slice A (pieces s x.kids).length cap, .int .i64 (x.deep : Int)] 162))
        have hcF := own_fr hcW (put5_fr (W1.alloc (.cells #[.int .u8 ((byte s.data.toList 0).toNat : Int), .int .i64 (x.num : Int), .string (textOf s (byte s.data.toList 0) x), .slice A (pieces s x.kids).length cap, .int .i64 (x.deep : Int)] 162)) w.heap.size (.int .u8 ((byte s.data.toList 0).toNat : Int)) (.int .i64 (x.num : Int)) (.string (textOf s (byte s.data.toList 0) x)) (.slice A (pieces s x.kids).length cap) (.int .i64 (x.deep : Int)) (F := [w.heap.size]) (by simp)) (fun g hg => by simpa using own_ne_shape hcW (by decide) hz1 g hg)
        have HA := Lib.hid hA
        have HF := Lib.hid hF
        have HC1 := Lib.hid hcF
        clear hA hF hF1 hz1 zf hy hal hr1 hc1 hf1 hW0 hW1 hcW hcF
        go_wp2_with fail
        change bodyPost _ _ _ _ _ (put5 (W1.alloc (.cells #[.int .u8 ((byte s.data.toList 0).toNat : Int), .int .i64 (x.num : Int), .string (textOf s (byte s.data.toList 0) x), .slice A (pieces s x.kids).length cap, .int .i64 (x.deep : Int)] 162)) w.heap.size (.int .u8 ((byte s.data.toList 0).toNat : Int)) (.int .i64 (x.num : Int)) (.string (textOf s (byte s.data.toList 0) x)) (.slice A (pieces s x.kids).length cap) (.int .i64 (x.deep : Int)))
        clear z0 z1 z2 z3 z4 zf0 zf1 zf2 zf3 zf4 y0 y1 y2 y3 y4 hd1
        generalize put5 (W1.alloc (.cells #[.int .u8 ((byte s.data.toList 0).toNat : Int), .int .i64 (x.num : Int), .string (textOf s (byte s.data.toList 0) x), .slice A (pieces s x.kids).length cap, .int .i64 (x.deep : Int)] 162)) w.heap.size (.int .u8 ((byte s.data.toList 0).toNat : Int)) (.int .i64 (x.num : Int)) (.string (textOf s (byte s.data.toList 0) x)) (.slice A (pieces s x.kids).length cap) (.int .i64 (x.deep : Int)) = Wf at HA HF HC1 ⊢
        obtain ⟨r0, r1, r2, r3, r4, -⟩ := ShapeAt.cells (show ShapeAt Wf w.heap.size ((byte s.data.toList 0).toNat : Int) (x.num : Int) (textOf s (byte s.data.toList 0) x) (.slice A (pieces s x.kids).length cap) (x.deep : Int) from HA.out)
        refine bodyPost_ret (v := .tuple #[shapeV (byte s.data.toList 0).toNat x.num (textOf s (byte s.data.toList 0) x) (.slice A (pieces s x.kids).length cap) x.deep, .bool true]) (by simp [results, Tryz.results122, go_sem, r0, r1, r2, r3, r4, shapeV]) rfl ?_
        unfold ReadP
        rw [HRs.out]
        exact ⟨⟨A, cap, rfl, HC1.out⟩, HF.out.toBelow⟩
      · have hRn : right s.data.toList = none := by unfold right; rw [HRR.out]; split <;> (try simp only) <;> (try rw [if_neg (by rw [HLEN.out]; exact hfin)]) <;> rfl
        have HRn := Lib.hid hRn
        have hfne : ((x.fin : Int) == (s.size : Int)) = false := beq_false_of_ne (by omega)
        have hfne2 : ¬ (x.fin = s.size) := hfin
        clear hRn
        go_enter Tryz.func122, Tryz.ntmps122
        go_wp2_with fail
        refine HT.out.mono ?_
        rintro e W1 ⟨A, cap, rfl, hr1, hc1, hf1⟩
        have hal : ∀ o, Below W1.heap.size W1 (W1.alloc o) := fun o => (Below.refl _ _).alloc (Nat.le_refl _) o
        have hd1 := (hr1.fr (Fr.below (F := []) (hal (.cells #[.int .u8 ((byte s.data.toList 0).toNat : Int), .int .i64 (x.num : Int), .string (textOf s (byte s.data.toList 0) x), .slice A (pieces s x.kids).length cap, .int .i64 (x.deep : Int)] 162))) (by simp)).cells.2.1
        have HZ1 := Lib.hid ((HZ0.out.fr hf1 (by simp)).fr (Fr.below (F := []) (hal (.cells #[.int .u8 ((byte s.data.toList 0).toNat : Int), .int .i64 (x.num : Int), .string (textOf s (byte s.data.toList 0) x), .slice A (pieces s x.kids).length cap, .int .i64 (x.deep : Int)] 162))) (by simp))
        have HF1 := Lib.hid (((Fr.below (F := []) HB0.out).trans hf1 (fun i hi hlt => absurd (show i = w.heap.size + 1 by simpa using hi) (by omega))).trans (Fr.below (F := []) (hal (.cells #[.int .u8 ((byte s.data.toList 0).toNat : Int), .int .i64 (x.num : Int), .string (textOf s (byte s.data.toList 0) x), .slice A (pieces s x.kids).length cap, .int .i64 (x.deep : Int)] 162))) (fun i hi _ => by cases hi))
        clear hal hr1 hc1 hf1 hW0 hW1
        have hz9 := HZ1.out
        obtain ⟨z0, z1, z2, z3, z4, zf⟩ := hz9.cells
        have zf0 := zf 0
        have zf1 := zf 1
        have zf2 := zf 2
        have zf3 := zf 3
        have zf4 := zf 4
        have hA := put5_at (show (W1.alloc (.cells #[.int .u8 ((byte s.data.toList 0).toNat : Int), .int .i64 (x.num : Int), .string (textOf s (byte s.data.toList 0) x), .slice A (pieces s x.kids).length cap, .int .i64 (x.deep : Int)] 162)).heap[w.heap.size]? = some (.cells #[.int .u8 0, .int .i64 0, .string ⟨#[]⟩, .slice none 0 0, .int .i64 0] 162 (0, 0)) from hz9) (.int .u8 0) (.int .i64 0) (.string ⟨#[]⟩) (.slice none 0 0) (.int .i64 0)
        have hF := (HF1.out).trans (put5_fr (W1.alloc (.cells #[.int .u8 ((byte s.data.toList 0).toNat : Int), .int .i64 (x.num : Int), .string (textOf s (byte s.data.toList 0) x), .slice A (pieces s x.kids).length cap, .int .i64 (x.deep : Int)] 162)) w.heap.size (.int .u8 0) (.int .i64 0) (.string ⟨#[]⟩) (.slice none 0 0) (.int .i64 0) (F := [w.heap.size]) (by simp)) (fun i hi hlt => absurd (show i = w.heap.size by simpa using hi) (by omega))
        have HA := Lib.hid hA
        have HF := Lib.hid hF
        clear hA hF hz9 zf
        go_wp2_with fail
        change bodyPost _ _ _ _ _ (put5 (W1.alloc (.cells #[.int .u8 ((byte s.data.toList 0).toNat : Int), .int .i64 (x.num : Int), .string (textOf s (byte s.data.toList 0) x), .slice A (pieces s x.kids).length cap, .int .i64 (x.deep : Int)] 162)) w.heap.size (.int .u8 0) (.int .i64 0) (.string ⟨#[]⟩) (.slice none 0 0) (.int .i64 0))
        clear z0 z1 z2 z3 z4 zf0 zf1 zf2 zf3 zf4
        generalize put5 (W1.alloc (.cells #[.int .u8 ((byte s.data.toList 0).toNat : Int), .int .i64 (x.num : Int), .string (textOf s (byte s.data.toList 0) x), .slice A (pieces s x.kids).length cap, .int .i64 (x.deep : Int)] 162)) w.heap.size (.int .u8 0) (.int .i64 0) (.string ⟨#[]⟩) (.slice none 0 0) (.int .i64 0) = Wf at HA HF ⊢
        obtain ⟨r0, r1, r2, r3, r4, -⟩ := ShapeAt.cells (show ShapeAt Wf w.heap.size 0 0 ⟨#[]⟩ (.slice none 0 0) 0 from HA.out)
        refine bodyPost_ret (v := .tuple #[shapeV 0 0 ⟨#[]⟩ (.slice none 0 0) 0, .bool false]) (by simp [results, Tryz.results122, go_sem, r0, r1, r2, r3, r4, shapeV]) rfl ?_
        unfold ReadP; rw [HRn.out]; exact ⟨rfl, HF.out.toBelow⟩
end Go.Proofs.YtncniomiplnaaaaGreatDoor
