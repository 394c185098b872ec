/- works: a page that is synced stays. -/
import Derived.Test.YtikbphafpmdpeaaO2
set_option linter.all false
namespace Go.Proofs.Ytikbphafpmdpeaa
open Go.RowKit

def fB : ByteArray := { data := #[102] }
def wk1 : DiskT := (createD (newD 2) fB).2
def wk2 : DiskT := (writeD wk1 fB 0 [1, 2]).2
def wk3 : DiskT := (syncD wk2 fB).2
def wk4 : DiskT := (writeD wk3 fB 0 [3]).2
def wk5 : DiskT := failD wk4 0 0
def wk6 : DiskT := (removeD wk5 fB).2
def wk7 : DiskT := onD wk6
theorem wk_facts : (createD (newD 2) fB).1 = 0 ∧ (writeD wk1 fB 0 [1, 2]).1 = 0 ∧ (syncD wk2 fB).1 = 0 ∧ (writeD wk3 fB 0 [3]).1 = 0 ∧ (removeD wk5 fB).1 = 7 ∧ readD wk7 fB 0 = (0, some (padP [1, 2])) ∧ wk1.steps = 1 ∧ wk2.steps = 2 ∧ wk3.steps = 3 ∧ wk5.steps = 4 ∧ wk6.steps = 4 ∧ (pgC (padP [1, 2]))[0]? = some (.int .u8 1) ∧ (pgC (padP [1, 2]))[1]? = some (.int .u8 2) ∧ (pgC (padP [1, 2]))[2]? = some (.int .u8 0) := by
  refine ⟨?_, ?_, ?_, ?_, ?_, ?_, ?_, ?_, ?_, ?_, ?_, ?_, ?_, ?_⟩ <;> kernel_rfl
theorem cells_new (w : World) (l : List UInt8) (T : TypeId) : Cells (w.alloc (.cells (bv l).toArray T)) (some ⟨w.heap.size, 0, none⟩) (bv l) := fun _ => ⟨_, rfl, fun j u hj => by
  have h1 := cell_of (j := j) (Go.heap_alloc_new w (.cells (bv l).toArray T)) (by simpa using hj)
  have e : Addr.add ⟨w.heap.size, 0, none⟩ j = ⟨w.heap.size, j, none⟩ := by cases j <;> simp [Addr.add]
  rw [e]
  exact h1⟩
set_option maxRecDepth 100000 in
set_option maxHeartbeats 4000000 in
theorem works_any (w : World) : Calls Try.prog 7 #[] w fun e w' => e = .returned (.bool true) ∧ Below w.heap.size w w' := by
  obtain ⟨f1, f2, f3, f4, f5, f6, s1, s2, s3, s5, s6, p0, p1, p2⟩ := wk_facts
  have F1 := Lib.hid f1
  have F2 := Lib.hid f2
  have F3 := Lib.hid f3
  have F4 := Lib.hid f4
  have F5 := Lib.hid f5
  have F6 := Lib.hid f6
  have S := Lib.hid (And.intro s1 (And.intro s2 (And.intro s3 (And.intro s5 s6))))
  have PP := Lib.hid (And.intro p0 (And.intro p1 p2))
  clear f1 f2 f3 f4 f5 f6 s1 s2 s3 s5 s6 p0 p1 p2
  have t1 : True := trivial
  go_enter Try.func7, Try.ntmps7
  go_wp2_with (first
    | (go_at_call 8; refine (new_o 2 _).mono ?_; rintro e w1 ⟨p, F0, rfl, h1, hb1, hlo⟩; have HB1 := Lib.hid hb1; have HLO := Lib.hid hlo; have HD0 := Lib.hid h1; clear h1 hb1 hlo)
    | (go_at_call 13; refine (DkO.create HD0.out (by decide) fB).mono ?_; rintro e w2 ⟨rfl, F2', hL⟩; rw [F1.out]; have HL2 := Lib.hid hL; clear hL)
    | (have _t := t1; go_at_call 14; refine (DkO.write (d := wk1) (HL2.out.at_.below (one_below _ _)) (by rw [S.out.1]; decide) fB 0 [1, 2] _ 2 2 (cells_new _ [1, 2] _) rfl).mono ?_; rintro e w3 ⟨rfl, F3', hL⟩; rw [F2.out]; have HL3 := Lib.hid (HL2.out.trans (LeftO.start (one_below _ _) hL)); clear hL t1 _t)
    | (go_at_call 16; refine (DkO.sync (d := wk2) HL3.out.at_ (by rw [S.out.2.1]; decide) fB).mono ?_; rintro e w4 ⟨rfl, F4', hL⟩; rw [F3.out]; have HL4 := Lib.hid (HL3.out.trans hL); clear hL)
    | (go_at_call 14; refine (DkO.write (d := wk3) (HL4.out.at_.below (one_below _ _)) (by rw [S.out.2.2.1]; decide) fB 0 [3] _ 1 1 (cells_new _ [3] _) rfl).mono ?_; rintro e w5 ⟨rfl, F5', hL⟩; rw [F4.out]; have HL5 := Lib.hid (HL4.out.trans (LeftO.start (one_below _ _) hL)); clear hL)
    | (go_at_call 12; refine (DkO.fail (d := wk4) (n := 0) (k := 0) HL5.out.at_ (by decide) (by decide)).mono ?_; rintro e w6 ⟨rfl, F6', hL⟩; have HL6 := Lib.hid (HL5.out.trans hL); clear hL)
    | (go_at_call 27; refine (DkO.remove (d := wk5) HL6.out.at_ (by rw [S.out.2.2.2.1]; decide) fB).mono ?_; rintro e w7 ⟨rfl, F7', hL⟩; rw [F5.out]; have HL7 := Lib.hid (HL6.out.trans hL); clear hL)
    | (go_at_call 11; refine (DkO.on (d := wk6) HL7.out.at_ (by rw [S.out.2.2.2.2]; decide)).mono ?_; rintro e w8 ⟨rfl, F8', hL⟩; have HL8 := Lib.hid (HL7.out.trans hL); clear hL)
    | (go_at_call 15; refine (DkO.read (d := wk7) HL8.out.at_ fB 0).mono ?_; rintro e w9 ⟨v, rfl, hR⟩; rw [F6.out] at hR ⊢; obtain ⟨g, rfl, hg, -, hb9⟩ := hR; have c0 := cell_of (j := 0) hg PP.out.1; have c1 := cell_of (j := 1) hg PP.out.2.1; have c2 := cell_of (j := 2) hg PP.out.2.2; have HB9 := Lib.hid hb9; clear hg hb9))
  have hfin : Below w.heap.size w w9 := (HB1.out.trans (HL8.out.fr.toBelowOf HB1.out.size HLO.out)).trans (HB9.out.mono (Nat.le_trans HB1.out.size HL8.out.fr.size))
  clear c0 c1 c2
  go_ret
  exact ⟨rfl, hfin⟩
end Go.Proofs.Ytikbphafpmdpeaa
