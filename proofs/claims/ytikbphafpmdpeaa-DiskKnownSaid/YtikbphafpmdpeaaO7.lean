/- Known: the examples of the chapter. -/
import Derived.Test.YtikbphafpmdpeaaO6
import Derived.Test.YtikbphafpmdpeaaO8
import Derived.Test.YtikbphafpmdpeaaAnyG
set_option linter.all false
namespace Go.Proofs.Ytikbphafpmdpeaa
open Go.RowKit

def gB : ByteArray := { data := #[103] }
def hB : ByteArray := { data := #[104] }
def oB : ByteArray := { data := #[] }
def mB : ByteArray := { data := #[109, 111, 114, 101] }
def aB : ByteArray := ⟨(List.replicate 101 97).toArray⟩
theorem conv_pg {w : World} {g : Nat} {T : TypeId} (p : PageT) (c : Nat) (h : w.heap[g]? = some (.cells (pgC p) T)) : (convert 23 9 (.slice (some ⟨g, 0, none⟩) 256 c)).run Try.prog w = .ok (.string ⟨p.b.toArray⟩) w := by
  have h1 := conv_str (P := Try.prog) (w := w) (A := some ⟨g, 0, none⟩) (l := p.b) (fun _ => ⟨_, rfl, fun j u hj => by
    have h2 : (pgC p)[j]? = some u := by unfold pgC; simpa using hj
    rw [Go.WideShapes.add_plain, Nat.zero_add]
    exact cell_of h h2⟩) c 23 9 5 Try.underlying23 Try.underlying5 Try.underlying9
  rw [p.len] at h1
  exact h1
theorem bytes_conv (n : Nat) (b : UInt8) (w : World) (hn : n ≤ 100000) : Calls Try.prog 26 #[.int .i64 n, .int .u8 (b.toNat : Int)] w fun e w' => ∃ g, e = .returned (.slice (some ⟨g, 0, none⟩) n n) ∧
    (convert 23 9 (.slice (some ⟨g, 0, none⟩) n n)).run Try.prog w' = .ok (.string ⟨(List.replicate n b).toArray⟩) w' ∧ Below w.heap.size w w' := by
  refine (bytes_any n b w hn).mono ?_
  rintro e w' ⟨g, rfl, hr, hb⟩
  obtain ⟨A, c, hv, -, hcl⟩ := hr.shape
  rw [bv_length, List.length_replicate] at hv
  injection hv with hv1 hv2 hv3
  subst hv1
  subst hv3
  have h1 := conv_str hcl n 23 9 5 Try.underlying23 Try.underlying5 Try.underlying9
  rw [List.length_replicate] at h1
  exact ⟨g, rfl, h1, hb⟩
def kd0 : DiskT := newD 2
def kd1 : DiskT := (createD kd0 fB).2
def kd2 : DiskT := (writeD kd1 fB 0 (List.replicate 256 1)).2
def kd3 : DiskT := (writeD kd2 fB 1 (List.replicate 256 2)).2
theorem kd_s0 : kd0.steps = 0 := by kernel_rfl
theorem kd_s1 : kd1.steps = 1 := by kernel_rfl
theorem kd_s2 : kd2.steps = 2 := by kernel_rfl
theorem kd_s3 : kd3.steps = 3 := by kernel_rfl
theorem kd_u3 : kd3.used = 2 := by kernel_rfl
def kdE : List Int := [0, 90, 2, 0, 92, 0, 93, 2, 91, 91, 91, 91, 2, 2]
theorem kdE_at (j : Nat) (hj : j < 14) : ∃ x, (#[Value.int .i64 0, Value.int .i64 90, Value.int .i64 2, Value.int .i64 0, Value.int .i64 92, Value.int .i64 0, Value.int .i64 93, Value.int .i64 2, Value.int .i64 91, Value.int .i64 91, Value.int .i64 91, Value.int .i64 91, Value.int .i64 2, Value.int .i64 2] : Array Value)[j]? = some (.int .i64 x) := ⟨kdE[j]'hj, by
  show ((kdE.map fun x => Value.int .i64 x).toArray)[j]? = _
  have h2 : kdE[j]? = some (kdE[j]'hj) := List.getElem?_eq_getElem hj
  simp [h2]⟩
def ke0 : DiskT := newD 9
def ke1 : DiskT := (createD ke0 fB).2
def ke2 : DiskT := (writeD ke1 fB 0 (List.replicate 256 1)).2
def ke3 : DiskT := (writeD ke2 fB 1 (List.replicate 256 2)).2
def ke4 : DiskT := failD ke3 0 2
def ke5 : DiskT := (syncD ke4 fB).2
def ke6 : DiskT := onD ke5
def ke7 : DiskT := (renameD ke6 fB gB).2
def ke8 : DiskT := (renameD ke7 gB gB).2
theorem ke_s0 : ke0.steps = 0 := by kernel_rfl
theorem ke_s1 : ke1.steps = 1 := by kernel_rfl
theorem ke_s2 : ke2.steps = 2 := by kernel_rfl
theorem ke_s4 : ke4.steps = 3 := by kernel_rfl
theorem ke_s5 : ke5.steps = 3 := by kernel_rfl
theorem ke_s6 : ke6.steps = 3 := by kernel_rfl
theorem ke_s7 : ke7.steps = 4 := by kernel_rfl
theorem ke_s8 : ke8.steps = 5 := by kernel_rfl
theorem ke_f1 : createD ke0 fB = (0, ke1) := by kernel_rfl
theorem ke_f2 : writeD ke1 fB 0 (List.replicate 256 1) = (0, ke2) := by kernel_rfl
theorem ke_f3 : writeD ke2 fB 1 (List.replicate 256 2) = (0, ke3) := by kernel_rfl
theorem ke_f5 : syncD ke4 fB = (7, ke5) := by kernel_rfl
theorem ke_off : ke5.off = true := by kernel_rfl
theorem ke_r5 : readD ke5 fB 0 = (7, none) := by kernel_rfl
theorem ke_n5 : namesD ke5 = [] := by kernel_rfl
theorem ke_l6 : lenD ke6 fB = (0, 2) := by kernel_rfl
theorem ke_p0 : readD ke6 fB 0 = (0, some zeroP) := by kernel_rfl
theorem ke_p1 : readD ke6 fB 1 = (0, some (padP (List.replicate 256 2))) := by kernel_rfl
theorem ke_f7 : renameD ke6 fB gB = (0, ke7) := by kernel_rfl
theorem ke_f8 : renameD ke7 fB gB = (91, ke7) := by kernel_rfl
theorem ke_f9 : renameD ke7 gB gB = (0, ke8) := by kernel_rfl
theorem ke_n8 : namesD ke8 = [gB] := by kernel_rfl
theorem LeftO.keeps {w w' : World} {p g : Nat} {F F' : List Nat} {d : DiskT} {o : Obj} (h : LeftO w p F d F' w') (hg : w.heap[g]? = some o ∧ g ∉ F) : w'.heap[g]? = some o ∧ g ∉ F' :=
  ⟨h.fr.kept hg.2 hg.1, fun hi => by
    rcases h.new g hi with h1 | h1
    · exact hg.2 h1
    · have := lt_of_block hg.1; omega⟩
theorem keeps_below {w w' : World} {g : Nat} {F : List Nat} {o : Obj} (hb : Below w.heap.size w w') (hg : w.heap[g]? = some o ∧ g ∉ F) : w'.heap[g]? = some o ∧ g ∉ F := ⟨(hb.block g (lt_of_block hg.1)).trans hg.1, hg.2⟩
theorem kf0 : createD kd0 fB = (0, kd1) := by kernel_rfl
theorem kf1 : createD kd1 fB = (90, kd1) := by kernel_rfl
theorem kf2 : createD kd1 oB = (2, kd1) := by kernel_rfl
theorem kf3 : writeD kd1 fB 0 (List.replicate 256 1) = (0, kd2) := by kernel_rfl
theorem kf4 : writeD kd2 fB 2 (List.replicate 256 1) = (92, kd2) := by kernel_rfl
theorem kf5 : writeD kd2 fB 1 (List.replicate 256 2) = (0, kd3) := by kernel_rfl
theorem kf6 : writeD kd3 fB 2 (List.replicate 256 1) = (93, kd3) := by kernel_rfl
theorem kf7 : writeD kd3 fB 0 (List.replicate 257 1) = (2, kd3) := by kernel_rfl
theorem kf8 : writeD kd3 gB 0 [] = (91, kd3) := by kernel_rfl
theorem kf9 : syncD kd3 gB = (91, kd3) := by kernel_rfl
theorem kf10 : removeD kd3 gB = (91, kd3) := by kernel_rfl
theorem kf11 : renameD kd3 gB hB = (91, kd3) := by kernel_rfl
theorem kf12 : renameD kd3 fB oB = (2, kd3) := by kernel_rfl
theorem kf13 : createD kd3 aB = (2, kd3) := by kernel_rfl
set_option maxRecDepth 100000 in
set_option maxHeartbeats 40000000 in
theorem known_walk (W : World) : Calls Try.prog 6 #[] W fun e w' => e = .returned (.bool true) ∧ Below W.heap.size W w' := by
  go_enter Try.func6, Try.ntmps6
  go_wp2_with fail
  refine (new_o 2 _).mono ?_
  rintro e w0 ⟨p, F0, rfl, h1, hb1, hlo⟩
  have HB := Lib.hid hb1
  have HLO := Lib.hid hlo
  have HL := Lib.hid (LeftO.here (show DkO w0 p F0 kd0 from h1))
  clear h1 hb1 hlo
  go_wp2_with fail
  refine (DkO.create (d := kd0) HL.out.at_ (by rw [kd_s0]; decide) fB).mono ?_
  rw [kf0]
  rintro e w1 ⟨rfl, F1, hL⟩
  have HL := Lib.hid (HL.out.trans hL)
  clear hL
  go_wp2_with fail
  refine (DkO.create (d := kd1) HL.out.at_ (by rw [kd_s1]; decide) fB).mono ?_
  rw [kf1]
  rintro e w2 ⟨rfl, F2, hL⟩
  have HL := Lib.hid (HL.out.trans hL)
  clear hL
  go_wp2_with fail
  refine (DkO.create (d := kd1) HL.out.at_ (by rw [kd_s1]; decide) oB).mono ?_
  rw [kf2]
  rintro e w3 ⟨rfl, F3, hL⟩
  have HL := Lib.hid (HL.out.trans hL)
  clear hL
  go_wp2_with fail
  refine (bytes_any 256 1 _ (by decide)).mono ?_
  rintro e w4 ⟨g4, rfl, hr, hb⟩
  have HL := Lib.hid (HL.out.below hb)
  obtain ⟨A4, c4, hv, -, hcl⟩ := hr.shape
  rw [bv_length, List.length_replicate] at hv
  injection hv with hv1 hv2 hv3
  subst hv1
  subst hv3
  have HCL := Lib.hid hcl
  clear hr hb hv2 hcl
  go_wp2_with fail
  refine (DkO.write (d := kd1) HL.out.at_ (by rw [kd_s1]; decide) fB 0 (List.replicate 256 1) _ 256 256 HCL.out (List.length_replicate ..)).mono ?_
  rw [kf3]
  rintro e w5 ⟨rfl, F5, hL⟩
  have HL := Lib.hid (HL.out.trans hL)
  clear hL
  go_wp2_with fail
  refine (bytes_any 256 1 _ (by decide)).mono ?_
  rintro e w6 ⟨g6, rfl, hr, hb⟩
  have HL := Lib.hid (HL.out.below hb)
  obtain ⟨A6, c6, hv, -, hcl⟩ := hr.shape
  rw [bv_length, List.length_replicate] at hv
  injection hv with hv1 hv2 hv3
  subst hv1
  subst hv3
  have HCL := Lib.hid hcl
  clear hr hb hv2 hcl
  go_wp2_with fail
  refine (DkO.write (d := kd2) HL.out.at_ (by rw [kd_s2]; decide) fB 2 (List.replicate 256 1) _ 256 256 HCL.out (List.length_replicate ..)).mono ?_
  rw [kf4]
  rintro e w7 ⟨rfl, F7, hL⟩
  have HL := Lib.hid (HL.out.trans hL)
  clear hL
  go_wp2_with fail
  refine (bytes_any 256 2 _ (by decide)).mono ?_
  rintro e w8 ⟨g8, rfl, hr, hb⟩
  have HL := Lib.hid (HL.out.below hb)
  obtain ⟨A8, c8, hv, -, hcl⟩ := hr.shape
  rw [bv_length, List.length_replicate] at hv
  injection hv with hv1 hv2 hv3
  subst hv1
  subst hv3
  have HCL := Lib.hid hcl
  clear hr hb hv2 hcl
  go_wp2_with fail
  refine (DkO.write (d := kd2) HL.out.at_ (by rw [kd_s2]; decide) fB 1 (List.replicate 256 2) _ 256 256 HCL.out (List.length_replicate ..)).mono ?_
  rw [kf5]
  rintro e w9 ⟨rfl, F9, hL⟩
  have HL := Lib.hid (HL.out.trans hL)
  clear hL
  go_wp2_with fail
  refine (bytes_any 256 1 _ (by decide)).mono ?_
  rintro e w10 ⟨g10, rfl, hr, hb⟩
  have HL := Lib.hid (HL.out.below hb)
  obtain ⟨A10, c10, hv, -, hcl⟩ := hr.shape
  rw [bv_length, List.length_replicate] at hv
  injection hv with hv1 hv2 hv3
  subst hv1
  subst hv3
  have HCL := Lib.hid hcl
  clear hr hb hv2 hcl
  go_wp2_with fail
  refine (DkO.write (d := kd3) HL.out.at_ (by rw [kd_s3]; decide) fB 2 (List.replicate 256 1) _ 256 256 HCL.out (List.length_replicate ..)).mono ?_
  rw [kf6]
  rintro e w11 ⟨rfl, F11, hL⟩
  have HL := Lib.hid (HL.out.trans hL)
  clear hL
  go_wp2_with fail
  refine (bytes_any 257 1 _ (by decide)).mono ?_
  rintro e w12 ⟨g12, rfl, hr, hb⟩
  have HL := Lib.hid (HL.out.below hb)
  obtain ⟨A12, c12, hv, -, hcl⟩ := hr.shape
  rw [bv_length, List.length_replicate] at hv
  injection hv with hv1 hv2 hv3
  subst hv1
  subst hv3
  have HCL := Lib.hid hcl
  clear hr hb hv2 hcl
  go_wp2_with fail
  refine (DkO.write (d := kd3) HL.out.at_ (by rw [kd_s3]; decide) fB 0 (List.replicate 257 1) _ 257 257 HCL.out (List.length_replicate ..)).mono ?_
  rw [kf7]
  rintro e w13 ⟨rfl, F13, hL⟩
  have HL := Lib.hid (HL.out.trans hL)
  clear hL
  go_wp2_with fail
  refine (DkO.write (d := kd3) HL.out.at_ (by rw [kd_s3]; decide) gB 0 [] none 0 0 (fun h => absurd h (by decide)) rfl).mono ?_
  rw [kf8]
  rintro e w14 ⟨rfl, F14, hL⟩
  have HL := Lib.hid (HL.out.trans hL)
  clear hL
  go_wp2_with fail
  refine (DkO.sync (d := kd3) HL.out.at_ (by rw [kd_s3]; decide) gB).mono ?_
  rw [kf9]
  rintro e w15 ⟨rfl, F15, hL⟩
  have HL := Lib.hid (HL.out.trans hL)
  clear hL
  go_wp2_with fail
  refine (DkO.remove (d := kd3) HL.out.at_ (by rw [kd_s3]; decide) gB).mono ?_
  rw [kf10]
  rintro e w16 ⟨rfl, F16, hL⟩
  have HL := Lib.hid (HL.out.trans hL)
  clear hL
  go_wp2_with fail
  refine (DkO.rename (d := kd3) HL.out.at_ (by rw [kd_s3]; decide) gB hB).mono ?_
  rw [kf11]
  rintro e w17 ⟨rfl, F17, hL⟩
  have HL := Lib.hid (HL.out.trans hL)
  clear hL
  go_wp2_with fail
  refine (DkO.rename (d := kd3) HL.out.at_ (by rw [kd_s3]; decide) fB oB).mono ?_
  rw [kf12]
  rintro e w18 ⟨rfl, F18, hL⟩
  have HL := Lib.hid (HL.out.trans hL)
  clear hL
  go_wp2_with fail
  refine (bytes_any 101 97 _ (by decide)).mono ?_
  rintro e w19 ⟨g19, rfl, hr, hb⟩
  have HL := Lib.hid (HL.out.below hb)
  obtain ⟨A19, c19, hv, -, hcl⟩ := hr.shape
  rw [bv_length, List.length_replicate] at hv
  injection hv with hv1 hv2 hv3
  subst hv1
  subst hv3
  have HCL := Lib.hid hcl
  clear hr hb hv2 hcl
  have hcv := conv_str HCL.out 101 23 9 5 Try.underlying23 Try.underlying5 Try.underlying9
  rw [List.length_replicate] at hcv
  go_wp2_with fail
  refine (DkO.create (d := kd3) HL.out.at_ (by rw [kd_s3]; decide) aB).mono ?_
  rw [kf13]
  rintro e w20 ⟨rfl, F20, hL⟩
  have HL := Lib.hid (HL.out.trans hL)
  clear hL
  clear hcv
  have HZ := Lib.hid (show Below w20.heap.size w20 w20 from Below.refl _ _)
  go_wp2_with fail
  obtain ⟨GA, hGA, hGAt⟩ : ∃ GA : Array Value, #[Value.int .i64 0, Value.int .i64 90, Value.int .i64 2, Value.int .i64 0, Value.int .i64 92, Value.int .i64 0, Value.int .i64 93, Value.int .i64 2, Value.int .i64 91, Value.int .i64 91, Value.int .i64 91, Value.int .i64 91, Value.int .i64 2, Value.int .i64 2] = GA ∧ ∀ j < 14, ∃ x, GA[j]? = some (.int .i64 x) := ⟨_, rfl, kdE_at⟩
  rw [hGA]
  have G1 := Lib.hid (first_of_two w20 (.cells GA 35) (.cells GA 35))
  have G2 := Lib.hid (second_of_two w20 (.cells GA 35) (.cells GA 35))
  have HGA := Lib.hid hGAt
  have HL := Lib.hid (HL.out.below (two_below w20 (.cells GA 35) (.cells GA 35)))
  clear hGA hGAt HZ
  generalize (w20.alloc (.cells GA 35)).alloc (.cells GA 35) = wA at G1 G2 HL ⊢
  generalize w20.heap.size = gN at *
  go_loopw [4] (fun i wr => ∃ j : Nat, j ≤ 14 ∧ i = .int .i64 j ∧ Below wA.heap.size wA wr) (fun i _ => 14 - (intOf i).toNat)
  case atStart => exact ⟨0, Nat.zero_le _, rfl, Below.refl _ _⟩
  case round =>
    obtain ⟨j, hj, rfl, hbr⟩ := hrel
    have HBR := Lib.hid hbr
    clear hbr
    by_cases hlt : j < 14
    · obtain ⟨x, hx⟩ := HGA.out j hlt
      have a2 := fun q => ((Fr.below (F := []) HBR.out).drewN q).cellKept (by simp) (cell_of (j := j) G1.out hx)
      have b2 := fun q => ((Fr.below (F := []) HBR.out).drewN q).cellKept (by simp) (cell_of (j := j) G2.out hx)
      have gI : ((j : Int) < 14) := by omega
      clear hx
      go_wp2_with fail
      go_quiet (fail)
      go_wp2_with fail
      go_roundw
      case rel => exact ⟨j + 1, hlt, by go_num, HBR.out.trans (((Fr.refl [] wr).drewN _).toBelow.mono HBR.out.size)⟩
      case measure => simp [intOf]; omega
    · have gI : ¬ ((j : Int) < 14) := by omega
      have HL := Lib.hid (HL.out.below HBR.out)
      go_wp2_with fail
      refine (DkO.used HL.out.at_).mono ?_
      rintro e wu ⟨rfl, rfl⟩
      rw [kd_u3]
      go_wp2_with fail
      refine (DkO.steps HL.out.at_).mono ?_
      rintro e wu ⟨rfl, rfl⟩
      rw [kd_s3]
      clear HCL hj hlt HGA G1 G2
      go_wp2_with fail
      refine (new_o 9 _).mono ?_
      rintro e we ⟨pe, E0, rfl, h1, hb1, hlo⟩
      have hsz := Nat.le_trans HB.out.size HL.out.fr.size
      have HB := Lib.hid ((HB.out.trans (HL.out.fr.toBelowOf HB.out.size HLO.out)).trans (hb1.mono hsz))
      have HLO := Lib.hid (fun i (hi : i ∈ E0) => Nat.le_trans hsz (hlo i hi))
      have HL := Lib.hid (LeftO.here (show DkO we pe E0 ke0 from h1))
      clear h1 hb1 hlo hsz
      go_wp2_with fail
      refine (DkO.create (d := ke0) HL.out.at_ (by rw [ke_s0]; decide) fB).mono ?_
      rw [ke_f1]
      rintro e w21 ⟨rfl, F21, hL⟩
      have HL := Lib.hid (HL.out.trans hL)
      clear hL
      go_wp2_with fail
      refine (bytes_any 256 1 _ (by decide)).mono ?_
      rintro e w22 ⟨g22, rfl, hr, hb⟩
      have HL := Lib.hid (HL.out.below hb)
      obtain ⟨A22, c22, hv, -, hcl⟩ := hr.shape
      rw [bv_length, List.length_replicate] at hv
      injection hv with hv1 hv2 hv3
      subst hv1
      subst hv3
      have HCL := Lib.hid hcl
      clear hr hb hv2 hcl
      go_wp2_with fail
      refine (DkO.write (d := ke1) HL.out.at_ (by rw [ke_s1]; decide) fB 0 (List.replicate 256 1) _ 256 256 HCL.out (List.length_replicate ..)).mono ?_
      rw [ke_f2]
      rintro e w23 ⟨rfl, F23, hL⟩
      have HL := Lib.hid (HL.out.trans hL)
      clear hL
      go_wp2_with fail
      refine (bytes_any 256 2 _ (by decide)).mono ?_
      rintro e w24 ⟨g24, rfl, hr, hb⟩
      have HL := Lib.hid (HL.out.below hb)
      obtain ⟨A24, c24, hv, -, hcl⟩ := hr.shape
      rw [bv_length, List.length_replicate] at hv
      injection hv with hv1 hv2 hv3
      subst hv1
      subst hv3
      have HCL := Lib.hid hcl
      clear hr hb hv2 hcl
      go_wp2_with fail
      refine (DkO.write (d := ke2) HL.out.at_ (by rw [ke_s2]; decide) fB 1 (List.replicate 256 2) _ 256 256 HCL.out (List.length_replicate ..)).mono ?_
      rw [ke_f3]
      rintro e w25 ⟨rfl, F25, hL⟩
      have HL := Lib.hid (HL.out.trans hL)
      clear hL
      go_wp2_with fail
      have G3 := Lib.hid (And.intro (Go.heap_alloc_new w25 (.cells #[Value.int .i64 0, Value.int .i64 0, Value.int .i64 0] 35)) (show ¬ (_ ∈ F25) from fun hi => absurd (HL.out.at_.lt _ hi) (Nat.lt_irrefl _)))
      refine (DkO.fail (d := ke3) (n := 0) (k := 2) (HL.out.below (one_below _ _)).at_ (by decide) (by decide)).mono ?_
      rintro e wf ⟨rfl, Ff, hL⟩
      have G3 := Lib.hid (hL.keeps G3.out)
      have HL4 := Lib.hid (show LeftO we pe E0 ke4 Ff wf from (HL.out.below (one_below _ _)).trans hL)
      have HL := HL4
      clear hL HL4
      generalize w25.heap.size = g3 at *
      go_wp2_with fail
      refine (DkO.sync (d := ke4) HL.out.at_ (by rw [ke_s4]; decide) fB).mono ?_
      rw [ke_f5]
      rintro e w26 ⟨rfl, F26, hL⟩
      have HL := Lib.hid (HL.out.trans hL)
      have G3 := Lib.hid (hL.keeps G3.out)
      clear hL
      go_wp2_with fail
      refine (DkO.off HL.out.at_).mono ?_
      rintro e wu ⟨rfl, rfl⟩
      rw [ke_off]
      go_wp2_with fail
      refine (DkO.read HL.out.at_ fB 0).mono ?_
      rw [ke_r5]
      rintro e wu ⟨v, rfl, rfl, rfl⟩
      go_wp2_with fail
      refine (DkO.names HL.out.at_).mono ?_
      rw [ke_n5]
      rintro e wn ⟨v, rfl, ho, hb⟩
      have G3 := Lib.hid (keeps_below hb G3.out)
      have HL := Lib.hid (HL.out.below hb)
      obtain ⟨Av, cv, hv, -, -⟩ := own_shape ho
      subst hv
      clear ho hb
      go_wp2_with fail
      refine (DkO.on (d := ke5) HL.out.at_ (by rw [ke_s5]; decide)).mono ?_
      rintro e wo ⟨rfl, Fo, hL⟩
      have G3 := Lib.hid (hL.keeps G3.out)
      have HLo := Lib.hid (show LeftO we pe E0 ke6 Fo wo from HL.out.trans hL)
      have HL := HLo
      clear hL HLo
      go_wp2_with fail
      refine (DkO.len HL.out.at_ fB).mono ?_
      rw [ke_l6]
      rintro e wu ⟨rfl, rfl⟩
      go_wp2_with fail
      refine (DkO.read HL.out.at_ fB 0).mono ?_
      rw [ke_p0]
      rintro e wp ⟨v, rfl, g4, rfl, hg4, hlt4, hb⟩
      have G3 := Lib.hid (keeps_below hb G3.out)
      have HL := Lib.hid (HL.out.below hb)
      have G4 := Lib.hid hg4
      clear hb hg4 hlt4
      go_wp2_with fail
      refine (DkO.read HL.out.at_ fB 1).mono ?_
      rw [ke_p1]
      rintro e wq ⟨v, rfl, g5, rfl, hg5, hlt5, hb⟩
      have G3 := Lib.hid (keeps_below hb G3.out)
      have HL := Lib.hid (HL.out.below hb)
      have G4 := Lib.hid ((hb.block g4 (lt_of_block G4.out)).trans G4.out)
      have G5 := Lib.hid hg5
      clear hb hg5 hlt5
      go_wp2_with fail
      obtain ⟨zs, hzs⟩ : ∃ zs : ByteArray, (⟨(List.replicate 256 (0 : UInt8)).toArray⟩ : ByteArray) = zs := ⟨_, rfl⟩
      obtain ⟨ts, hts⟩ : ∃ ts : ByteArray, (⟨(List.replicate 256 (2 : UInt8)).toArray⟩ : ByteArray) = ts := ⟨_, rfl⟩
      have hsc : ∀ V : World, Below wq.heap.size wq V → V.cell? ⟨g3, 0, none⟩ = some (.int .i64 0) ∧ V.cell? ⟨g3, 1, none⟩ = some (.int .i64 0) ∧ V.cell? ⟨g3, 2, none⟩ = some (.int .i64 0) ∧
          (convert 23 9 (.slice (some ⟨g4, 0, none⟩) 256 256)).run Try.prog V = .ok (.string zs) V ∧ (convert 23 9 (.slice (some ⟨g5, 0, none⟩) 256 256)).run Try.prog V = .ok (.string ts) V := fun V hV => by
        have k3 := (hV.block g3 (lt_of_block G3.out.1)).trans G3.out.1
        have k4 := conv_pg zeroP 256 ((hV.block g4 (lt_of_block G4.out)).trans G4.out)
        have k5 := conv_pg (padP (List.replicate 256 2)) 256 ((hV.block g5 (lt_of_block G5.out)).trans G5.out)
        rw [show (⟨zeroP.b.toArray⟩ : ByteArray) = zs from hzs] at k4
        rw [show (padP (List.replicate 256 2)).b = List.replicate 256 2 from by kernel_rfl, hts] at k5
        exact ⟨cell_of (j := 0) k3 rfl, cell_of (j := 1) k3 rfl, cell_of (j := 2) k3 rfl, k4, k5⟩
      have SC := Lib.hid hsc
      clear hsc
      refine wp_region_noPanic ?_
      refine wp_region_any (by kernel_rfl) (anyG_any (S := fun V : World => Below wq.heap.size wq V) (n := 60) _ _ _ _ ?_)
      have hS : Below wq.heap.size wq wq.drew := (Below.refl _ _).drew
      change AnyG _ _ _ _ _ _ 61 (Array.replicate 61 false) _ wq.drew
      refine anyG_take (i := 0) (oi := ⟨_, _, _, _, _, _⟩) (v := ?_) rfl rfl (by kernel_rfl) (by kernel_rfl) (by kernel_rfl) (by kernel_rfl) (by kernel_rfl) (fun _ _ _ h => h) (Or.inl ⟨by rfl, ?_⟩) hS ?_
      rotate_left
      · (intro w' hSw; skip; go_simp; (try with_reducible rfl))
      try simp only [Act.put, List.setIfInBounds_toArray, List.set_cons_zero, List.set_cons_succ]
      refine anyG_take (i := 1) (oi := ⟨_, _, _, _, _, _⟩) (v := ?_) rfl rfl (by kernel_rfl) (by kernel_rfl) (by kernel_rfl) (by kernel_rfl) (by kernel_rfl) (fun _ _ _ h => h) (Or.inl ⟨by rfl, ?_⟩) hS ?_
      rotate_left
      · (intro w' hSw; skip; go_simp; (try with_reducible rfl))
      try simp only [Act.put, List.setIfInBounds_toArray, List.set_cons_zero, List.set_cons_succ]
      refine anyG_take (i := 2) (oi := ⟨_, _, _, _, _, _⟩) (v := ?_) rfl rfl (by kernel_rfl) (by kernel_rfl) (by kernel_rfl) (by kernel_rfl) (by kernel_rfl) (fun _ _ _ h => h) (Or.inl ⟨by rfl, ?_⟩) hS ?_
      rotate_left
      · (intro w' hSw; obtain ⟨s1, s2, s3, s4, s5⟩ := SC.out _ hSw; go_simp; (try with_reducible rfl))
      try simp only [Act.put, List.setIfInBounds_toArray, List.set_cons_zero, List.set_cons_succ]
      refine anyG_take (i := 3) (oi := ⟨_, _, _, _, _, _⟩) (v := ?_) rfl rfl (by kernel_rfl) (by kernel_rfl) (by kernel_rfl) (by kernel_rfl) (by kernel_rfl) (fun _ _ _ h => h) (Or.inl ⟨by rfl, ?_⟩) hS ?_
      rotate_left
      · (intro w' hSw; skip; go_simp; (try with_reducible rfl))
      try simp only [Act.put, List.setIfInBounds_toArray, List.set_cons_zero, List.set_cons_succ]
      refine anyG_take (i := 4) (oi := ⟨_, _, _, _, _, _⟩) (v := ?_) rfl rfl (by kernel_rfl) (by kernel_rfl) (by kernel_rfl) (by kernel_rfl) (by kernel_rfl) (fun _ _ _ h => h) (Or.inl ⟨by rfl, ?_⟩) hS ?_
      rotate_left
      · (intro w' hSw; skip; go_simp; (try with_reducible rfl))
      try simp only [Act.put, List.setIfInBounds_toArray, List.set_cons_zero, List.set_cons_succ]
      refine anyG_take (i := 5) (oi := ⟨_, _, _, _, _, _⟩) (v := ?_) rfl rfl (by kernel_rfl) (by kernel_rfl) (by kernel_rfl) (by kernel_rfl) (by kernel_rfl) (fun _ _ _ h => h) (Or.inl ⟨by rfl, ?_⟩) hS ?_
      rotate_left
      · (intro w' hSw; skip; go_simp; (try with_reducible rfl))
      try simp only [Act.put, List.setIfInBounds_toArray, List.set_cons_zero, List.set_cons_succ]
      refine anyG_take (i := 6) (oi := ⟨_, _, _, _, _, _⟩) (v := ?_) rfl rfl (by kernel_rfl) (by kernel_rfl) (by kernel_rfl) (by kernel_rfl) (by kernel_rfl) (fun _ _ _ h => h) (Or.inl ⟨by rfl, ?_⟩) hS ?_
      rotate_left
      · (intro w' hSw; skip; go_simp; (try with_reducible rfl))
      try simp only [Act.put, List.setIfInBounds_toArray, List.set_cons_zero, List.set_cons_succ]
      refine anyG_take (i := 7) (oi := ⟨_, _, _, _, _, _⟩) (v := ?_) rfl rfl (by kernel_rfl) (by kernel_rfl) (by kernel_rfl) (by kernel_rfl) (by kernel_rfl) (fun _ _ _ h => h) (Or.inl ⟨by rfl, ?_⟩) hS ?_
      rotate_left
      · (intro w' hSw; obtain ⟨s1, s2, s3, s4, s5⟩ := SC.out _ hSw; go_simp; (try with_reducible rfl))
      try simp only [Act.put, List.setIfInBounds_toArray, List.set_cons_zero, List.set_cons_succ]
      refine anyG_take (i := 8) (oi := ⟨_, _, _, _, _, _⟩) (v := ?_) rfl rfl (by kernel_rfl) (by kernel_rfl) (by kernel_rfl) (by kernel_rfl) (by kernel_rfl) (fun _ _ _ h => h) (Or.inl ⟨by rfl, ?_⟩) hS ?_
      rotate_left
      · (intro w' hSw; skip; go_simp; (try with_reducible rfl))
      try simp only [Act.put, List.setIfInBounds_toArray, List.set_cons_zero, List.set_cons_succ]
      refine anyG_take (i := 9) (oi := ⟨_, _, _, _, _, _⟩) (v := ?_) rfl rfl (by kernel_rfl) (by kernel_rfl) (by kernel_rfl) (by kernel_rfl) (by kernel_rfl) (fun _ _ _ h => h) (Or.inl ⟨by rfl, ?_⟩) hS ?_
      rotate_left
      · (intro w' hSw; skip; go_simp; (try with_reducible rfl))
      try simp only [Act.put, List.setIfInBounds_toArray, List.set_cons_zero, List.set_cons_succ]
      refine anyG_take (i := 10) (oi := ⟨_, _, _, _, _, _⟩) (v := ?_) rfl rfl (by kernel_rfl) (by kernel_rfl) (by kernel_rfl) (by kernel_rfl) (by kernel_rfl) (fun _ _ _ h => h) (Or.inl ⟨by rfl, ?_⟩) hS ?_
      rotate_left
      · (intro w' hSw; skip; go_simp; (try with_reducible rfl))
      try simp only [Act.put, List.setIfInBounds_toArray, List.set_cons_zero, List.set_cons_succ]
      refine anyG_take (i := 11) (oi := ⟨_, _, _, _, _, _⟩) (v := ?_) rfl rfl (by kernel_rfl) (by kernel_rfl) (by kernel_rfl) (by kernel_rfl) (by kernel_rfl) (fun _ _ _ h => h) (Or.inl ⟨by rfl, ?_⟩) hS ?_
      rotate_left
      · (intro w' hSw; skip; go_simp; (try with_reducible rfl))
      try simp only [Act.put, List.setIfInBounds_toArray, List.set_cons_zero, List.set_cons_succ]
      refine anyG_take (i := 12) (oi := ⟨_, _, _, _, _, _⟩) (v := ?_) rfl rfl (by kernel_rfl) (by kernel_rfl) (by kernel_rfl) (by kernel_rfl) (by kernel_rfl) (fun _ _ _ h => h) (Or.inl ⟨by rfl, ?_⟩) hS ?_
      rotate_left
      · (intro w' hSw; skip; go_simp; (try with_reducible rfl))
      try simp only [Act.put, List.setIfInBounds_toArray, List.set_cons_zero, List.set_cons_succ]
      refine anyG_take (i := 13) (oi := ⟨_, _, _, _, _, _⟩) (v := ?_) rfl rfl (by kernel_rfl) (by kernel_rfl) (by kernel_rfl) (by kernel_rfl) (by kernel_rfl) (fun _ _ _ h => h) (Or.inl ⟨by rfl, ?_⟩) hS ?_
      rotate_left
      · (intro w' hSw; obtain ⟨s1, s2, s3, s4, s5⟩ := SC.out _ hSw; go_simp; (try with_reducible rfl))
      try simp only [Act.put, List.setIfInBounds_toArray, List.set_cons_zero, List.set_cons_succ]
      refine anyG_take (i := 14) (oi := ⟨_, _, _, _, _, _⟩) (v := ?_) rfl rfl (by kernel_rfl) (by kernel_rfl) (by kernel_rfl) (by kernel_rfl) (by kernel_rfl) (fun _ _ _ h => h) (Or.inl ⟨by rfl, ?_⟩) hS ?_
      rotate_left
      · (intro w' hSw; skip; go_simp; (try with_reducible rfl))
      try simp only [Act.put, List.setIfInBounds_toArray, List.set_cons_zero, List.set_cons_succ]
      refine anyG_take (i := 15) (oi := ⟨_, _, _, _, _, _⟩) (v := ?_) rfl rfl (by kernel_rfl) (by kernel_rfl) (by kernel_rfl) (by kernel_rfl) (by kernel_rfl) (fun _ _ _ h => h) (Or.inl ⟨by rfl, ?_⟩) hS ?_
      rotate_left
      · (intro w' hSw; skip; go_simp; (try with_reducible rfl))
      try simp only [Act.put, List.setIfInBounds_toArray, List.set_cons_zero, List.set_cons_succ]
      refine anyG_take (i := 16) (oi := ⟨_, _, _, _, _, _⟩) (v := ?_) rfl rfl (by kernel_rfl) (by kernel_rfl) (by kernel_rfl) (by kernel_rfl) (by kernel_rfl) (fun _ _ _ h => h) (Or.inl ⟨by rfl, ?_⟩) hS ?_
      rotate_left
      · (intro w' hSw; skip; go_simp; (try with_reducible rfl))
      try simp only [Act.put, List.setIfInBounds_toArray, List.set_cons_zero, List.set_cons_succ]
      refine anyG_take (i := 17) (oi := ⟨_, _, _, _, _, _⟩) (v := ?_) rfl rfl (by kernel_rfl) (by kernel_rfl) (by kernel_rfl) (by kernel_rfl) (by kernel_rfl) (fun _ _ _ h => h) (Or.inl ⟨by rfl, ?_⟩) hS ?_
      rotate_left
      · (intro w' hSw; skip; go_simp; (try with_reducible rfl))
      try simp only [Act.put, List.setIfInBounds_toArray, List.set_cons_zero, List.set_cons_succ]
      refine anyG_take (i := 18) (oi := ⟨_, _, _, _, _, _⟩) (v := ?_) rfl rfl (by kernel_rfl) (by kernel_rfl) (by kernel_rfl) (by kernel_rfl) (by kernel_rfl) (fun _ _ _ h => h) (Or.inl ⟨by rfl, ?_⟩) hS ?_
      rotate_left
      · (intro w' hSw; skip; go_simp; (try with_reducible rfl))
      try simp only [Act.put, List.setIfInBounds_toArray, List.set_cons_zero, List.set_cons_succ]
      refine anyG_take (i := 19) (oi := ⟨_, _, _, _, _, _⟩) (v := ?_) rfl rfl (by kernel_rfl) (by kernel_rfl) (by kernel_rfl) (by kernel_rfl) (by kernel_rfl) (fun _ _ _ h => h) (Or.inl ⟨by rfl, ?_⟩) hS ?_
      rotate_left
      · (intro w' hSw; skip; go_simp; (try with_reducible rfl))
      try simp only [Act.put, List.setIfInBounds_toArray, List.set_cons_zero, List.set_cons_succ]
      refine anyG_take (i := 20) (oi := ⟨_, _, _, _, _, _⟩) (v := ?_) rfl rfl (by kernel_rfl) (by kernel_rfl) (by kernel_rfl) (by kernel_rfl) (by kernel_rfl) (fun _ _ _ h => h) (Or.inl ⟨by rfl, ?_⟩) hS ?_
      rotate_left
      · (intro w' hSw; skip; go_simp; (try with_reducible rfl))
      try simp only [Act.put, List.setIfInBounds_toArray, List.set_cons_zero, List.set_cons_succ]
      refine anyG_take (i := 21) (oi := ⟨_, _, _, _, _, _⟩) (v := ?_) rfl rfl (by kernel_rfl) (by kernel_rfl) (by kernel_rfl) (by kernel_rfl) (by kernel_rfl) (fun _ _ _ h => h) (Or.inl ⟨by rfl, ?_⟩) hS ?_
      rotate_left
      · (intro w' hSw; skip; go_simp; (try with_reducible rfl))
      try simp only [Act.put, List.setIfInBounds_toArray, List.set_cons_zero, List.set_cons_succ]
      refine anyG_take (i := 22) (oi := ⟨_, _, _, _, _, _⟩) (v := ?_) rfl rfl (by kernel_rfl) (by kernel_rfl) (by kernel_rfl) (by kernel_rfl) (by kernel_rfl) (fun _ _ _ h => h) (Or.inl ⟨by rfl, ?_⟩) hS ?_
      rotate_left
      · (intro w' hSw; skip; go_simp; (try with_reducible rfl))
      try simp only [Act.put, List.setIfInBounds_toArray, List.set_cons_zero, List.set_cons_succ]
      refine anyG_take (i := 23) (oi := ⟨_, _, _, _, _, _⟩) (v := ?_) rfl rfl (by kernel_rfl) (by kernel_rfl) (by kernel_rfl) (by kernel_rfl) (by kernel_rfl) (fun _ _ _ h => h) (Or.inl ⟨by rfl, ?_⟩) hS ?_
      rotate_left
      · (intro w' hSw; skip; go_simp; (try with_reducible rfl))
      try simp only [Act.put, List.setIfInBounds_toArray, List.set_cons_zero, List.set_cons_succ]
      refine anyG_take (i := 24) (oi := ⟨_, _, _, _, _, _⟩) (v := ?_) rfl rfl (by kernel_rfl) (by kernel_rfl) (by kernel_rfl) (by kernel_rfl) (by kernel_rfl) (fun _ _ _ h => h) (Or.inl ⟨by rfl, ?_⟩) hS ?_
      rotate_left
      · (intro w' hSw; skip; go_simp; (try with_reducible rfl))
      try simp only [Act.put, List.setIfInBounds_toArray, List.set_cons_zero, List.set_cons_succ]
      refine anyG_take (i := 25) (oi := ⟨_, _, _, _, _, _⟩) (v := ?_) rfl rfl (by kernel_rfl) (by kernel_rfl) (by kernel_rfl) (by kernel_rfl) (by kernel_rfl) (fun _ _ _ h => h) (Or.inl ⟨by rfl, ?_⟩) hS ?_
      rotate_left
      · (intro w' hSw; skip; go_simp; (try with_reducible rfl))
      try simp only [Act.put, List.setIfInBounds_toArray, List.set_cons_zero, List.set_cons_succ]
      refine anyG_take (i := 26) (oi := ⟨_, _, _, _, _, _⟩) (v := ?_) rfl rfl (by kernel_rfl) (by kernel_rfl) (by kernel_rfl) (by kernel_rfl) (by kernel_rfl) (fun _ _ _ h => h) (Or.inl ⟨by rfl, ?_⟩) hS ?_
      rotate_left
      · (intro w' hSw; skip; go_simp; (try with_reducible rfl))
      try simp only [Act.put, List.setIfInBounds_toArray, List.set_cons_zero, List.set_cons_succ]
      refine anyG_take (i := 27) (oi := ⟨_, _, _, _, _, _⟩) (v := ?_) rfl rfl (by kernel_rfl) (by kernel_rfl) (by kernel_rfl) (by kernel_rfl) (by kernel_rfl) (fun _ _ _ h => h) (Or.inl ⟨by rfl, ?_⟩) hS ?_
      rotate_left
      · (intro w' hSw; skip; go_simp; (try with_reducible rfl))
      try simp only [Act.put, List.setIfInBounds_toArray, List.set_cons_zero, List.set_cons_succ]
      refine anyG_take (i := 28) (oi := ⟨_, _, _, _, _, _⟩) (v := ?_) rfl rfl (by kernel_rfl) (by kernel_rfl) (by kernel_rfl) (by kernel_rfl) (by kernel_rfl) (fun _ _ _ h => h) (Or.inl ⟨by rfl, ?_⟩) hS ?_
      rotate_left
      · (intro w' hSw; skip; go_simp; (try with_reducible rfl))
      try simp only [Act.put, List.setIfInBounds_toArray, List.set_cons_zero, List.set_cons_succ]
      refine anyG_take (i := 29) (oi := ⟨_, _, _, _, _, _⟩) (v := ?_) rfl rfl (by kernel_rfl) (by kernel_rfl) (by kernel_rfl) (by kernel_rfl) (by kernel_rfl) (fun _ _ _ h => h) (Or.inl ⟨by rfl, ?_⟩) hS ?_
      rotate_left
      · (intro w' hSw; skip; go_simp; (try with_reducible rfl))
      try simp only [Act.put, List.setIfInBounds_toArray, List.set_cons_zero, List.set_cons_succ]
      refine anyG_take (i := 30) (oi := ⟨_, _, _, _, _, _⟩) (v := ?_) rfl rfl (by kernel_rfl) (by kernel_rfl) (by kernel_rfl) (by kernel_rfl) (by kernel_rfl) (fun _ _ _ h => h) (Or.inl ⟨by rfl, ?_⟩) hS ?_
      rotate_left
      · (intro w' hSw; skip; go_simp; (try with_reducible rfl))
      try simp only [Act.put, List.setIfInBounds_toArray, List.set_cons_zero, List.set_cons_succ]
      refine anyG_take (i := 31) (oi := ⟨_, _, _, _, _, _⟩) (v := ?_) rfl rfl (by kernel_rfl) (by kernel_rfl) (by kernel_rfl) (by kernel_rfl) (by kernel_rfl) (fun _ _ _ h => h) (Or.inl ⟨by rfl, ?_⟩) hS ?_
      rotate_left
      · (intro w' hSw; skip; go_simp; (try with_reducible rfl))
      try simp only [Act.put, List.setIfInBounds_toArray, List.set_cons_zero, List.set_cons_succ]
      refine anyG_take (i := 32) (oi := ⟨_, _, _, _, _, _⟩) (v := ?_) rfl rfl (by kernel_rfl) (by kernel_rfl) (by kernel_rfl) (by kernel_rfl) (by kernel_rfl) (fun _ _ _ h => h) (Or.inl ⟨by rfl, ?_⟩) hS ?_
      rotate_left
      · (intro w' hSw; skip; go_simp; (try with_reducible rfl))
      try simp only [Act.put, List.setIfInBounds_toArray, List.set_cons_zero, List.set_cons_succ]
      refine anyG_take (i := 33) (oi := ⟨_, _, _, _, _, _⟩) (v := ?_) rfl rfl (by kernel_rfl) (by kernel_rfl) (by kernel_rfl) (by kernel_rfl) (by kernel_rfl) (fun _ _ _ h => h) (Or.inl ⟨by rfl, ?_⟩) hS ?_
      rotate_left
      · (intro w' hSw; skip; go_simp; (try with_reducible rfl))
      try simp only [Act.put, List.setIfInBounds_toArray, List.set_cons_zero, List.set_cons_succ]
      refine anyG_take (i := 34) (oi := ⟨_, _, _, _, _, _⟩) (v := ?_) rfl rfl (by kernel_rfl) (by kernel_rfl) (by kernel_rfl) (by kernel_rfl) (by kernel_rfl) (fun _ _ _ h => h) (Or.inl ⟨by rfl, ?_⟩) hS ?_
      rotate_left
      · (intro w' hSw; skip; go_simp; (try with_reducible rfl))
      try simp only [Act.put, List.setIfInBounds_toArray, List.set_cons_zero, List.set_cons_succ]
      refine anyG_take (i := 35) (oi := ⟨_, _, _, _, _, _⟩) (v := ?_) rfl rfl (by kernel_rfl) (by kernel_rfl) (by kernel_rfl) (by kernel_rfl) (by kernel_rfl) (fun _ _ _ h => h) (Or.inl ⟨by rfl, ?_⟩) hS ?_
      rotate_left
      · (intro w' hSw; skip; go_simp; (try with_reducible rfl))
      try simp only [Act.put, List.setIfInBounds_toArray, List.set_cons_zero, List.set_cons_succ]
      refine anyG_take (i := 36) (oi := ⟨_, _, _, _, _, _⟩) (v := ?_) rfl rfl (by kernel_rfl) (by kernel_rfl) (by kernel_rfl) (by kernel_rfl) (by kernel_rfl) (fun _ _ _ h => h) (Or.inl ⟨by rfl, ?_⟩) hS ?_
      rotate_left
      · (intro w' hSw; skip; go_simp; (try with_reducible rfl))
      try simp only [Act.put, List.setIfInBounds_toArray, List.set_cons_zero, List.set_cons_succ]
      refine anyG_take (i := 37) (oi := ⟨_, _, _, _, _, _⟩) (v := ?_) rfl rfl (by kernel_rfl) (by kernel_rfl) (by kernel_rfl) (by kernel_rfl) (by kernel_rfl) (fun _ _ _ h => h) (Or.inl ⟨by rfl, ?_⟩) hS ?_
      rotate_left
      · (intro w' hSw; skip; go_simp; (try with_reducible rfl))
      try simp only [Act.put, List.setIfInBounds_toArray, List.set_cons_zero, List.set_cons_succ]
      refine anyG_take (i := 38) (oi := ⟨_, _, _, _, _, _⟩) (v := ?_) rfl rfl (by kernel_rfl) (by kernel_rfl) (by kernel_rfl) (by kernel_rfl) (by kernel_rfl) (fun _ _ _ h => h) (Or.inl ⟨by rfl, ?_⟩) hS ?_
      rotate_left
      · (intro w' hSw; skip; go_simp; (try with_reducible rfl))
      try simp only [Act.put, List.setIfInBounds_toArray, List.set_cons_zero, List.set_cons_succ]
      refine anyG_take (i := 39) (oi := ⟨_, _, _, _, _, _⟩) (v := ?_) rfl rfl (by kernel_rfl) (by kernel_rfl) (by kernel_rfl) (by kernel_rfl) (by kernel_rfl) (fun _ _ _ h => h) (Or.inl ⟨by rfl, ?_⟩) hS ?_
      rotate_left
      · (intro w' hSw; skip; go_simp; (try with_reducible rfl))
      try simp only [Act.put, List.setIfInBounds_toArray, List.set_cons_zero, List.set_cons_succ]
      refine anyG_take (i := 40) (oi := ⟨_, _, _, _, _, _⟩) (v := ?_) rfl rfl (by kernel_rfl) (by kernel_rfl) (by kernel_rfl) (by kernel_rfl) (by kernel_rfl) (fun _ _ _ h => h) (Or.inl ⟨by rfl, ?_⟩) hS ?_
      rotate_left
      · (intro w' hSw; skip; go_simp; (try with_reducible rfl))
      try simp only [Act.put, List.setIfInBounds_toArray, List.set_cons_zero, List.set_cons_succ]
      refine anyG_take (i := 41) (oi := ⟨_, _, _, _, _, _⟩) (v := ?_) rfl rfl (by kernel_rfl) (by kernel_rfl) (by kernel_rfl) (by kernel_rfl) (by kernel_rfl) (fun _ _ _ h => h) (Or.inl ⟨by rfl, ?_⟩) hS ?_
      rotate_left
      · (intro w' hSw; skip; go_simp; (try with_reducible rfl))
      try simp only [Act.put, List.setIfInBounds_toArray, List.set_cons_zero, List.set_cons_succ]
      refine anyG_take (i := 42) (oi := ⟨_, _, _, _, _, _⟩) (v := ?_) rfl rfl (by kernel_rfl) (by kernel_rfl) (by kernel_rfl) (by kernel_rfl) (by kernel_rfl) (fun _ _ _ h => h) (Or.inl ⟨by rfl, ?_⟩) hS ?_
      rotate_left
      · (intro w' hSw; skip; go_simp; (try with_reducible rfl))
      try simp only [Act.put, List.setIfInBounds_toArray, List.set_cons_zero, List.set_cons_succ]
      refine anyG_take (i := 43) (oi := ⟨_, _, _, _, _, _⟩) (v := ?_) rfl rfl (by kernel_rfl) (by kernel_rfl) (by kernel_rfl) (by kernel_rfl) (by kernel_rfl) (fun _ _ _ h => h) (Or.inl ⟨by rfl, ?_⟩) hS ?_
      rotate_left
      · (intro w' hSw; skip; go_simp; (try with_reducible rfl))
      try simp only [Act.put, List.setIfInBounds_toArray, List.set_cons_zero, List.set_cons_succ]
      refine anyG_take (i := 44) (oi := ⟨_, _, _, _, _, _⟩) (v := ?_) rfl rfl (by kernel_rfl) (by kernel_rfl) (by kernel_rfl) (by kernel_rfl) (by kernel_rfl) (fun _ _ _ h => h) (Or.inl ⟨by rfl, ?_⟩) hS ?_
      rotate_left
      · (intro w' hSw; obtain ⟨s1, s2, s3, s4, s5⟩ := SC.out _ hSw; go_simp; (try with_reducible rfl))
      try simp only [Act.put, List.setIfInBounds_toArray, List.set_cons_zero, List.set_cons_succ]
      refine anyG_all (rs := [45]) (by kernel_rfl) (by simp) (List.forall_mem_singleton.2 ?_)
      refine wpOp_step (o := ⟨_, _, _, _, _, _⟩) rfl (fun K' hK => ?_)
      have HK := Lib.hid hK
      clear hK
      rw [if_pos (by rfl)]
      go_simp
      refine Calls.mono (bytes_conv 256 0 _ (by decide)) ?_
      rintro e V45 ⟨g45, rfl, hcv, hb⟩
      rw [hzs] at hcv
      have hS := hS.trans (hb.mono hS.size)
      clear hb
      go_wp2_with fail
      refine HK.out _ _ ⟨fun _ => hS, ?_⟩
      clear HK
      try simp only [Act.put, List.setIfInBounds_toArray, List.set_cons_zero, List.set_cons_succ]
      refine anyG_all (rs := [46]) (by kernel_rfl) (by simp) (List.forall_mem_singleton.2 ?_)
      refine wpOp_step (o := ⟨_, _, _, _, _, _⟩) rfl (fun K' hK => ?_)
      have HK := Lib.hid hK
      clear hK
      rw [if_pos (by rfl)]
      go_simp
      refine HK.out _ _ ⟨fun _ => hS, ?_⟩
      clear HK hcv
      try simp only [Act.put, List.setIfInBounds_toArray, List.set_cons_zero, List.set_cons_succ]
      refine anyG_take (i := 47) (oi := ⟨_, _, _, _, _, _⟩) (v := ?_) rfl rfl (by kernel_rfl) (by kernel_rfl) (by kernel_rfl) (by kernel_rfl) (by kernel_rfl) (fun _ _ _ h => h) (Or.inl ⟨by rfl, ?_⟩) hS ?_
      rotate_left
      · (intro w' hSw; skip; go_simp; (try with_reducible rfl))
      try simp only [Act.put, List.setIfInBounds_toArray, List.set_cons_zero, List.set_cons_succ]
      refine anyG_take (i := 48) (oi := ⟨_, _, _, _, _, _⟩) (v := ?_) rfl rfl (by kernel_rfl) (by kernel_rfl) (by kernel_rfl) (by kernel_rfl) (by kernel_rfl) (fun _ _ _ h => h) (Or.inl ⟨by rfl, ?_⟩) hS ?_
      rotate_left
      · (intro w' hSw; skip; go_simp; (try with_reducible rfl))
      try simp only [Act.put, List.setIfInBounds_toArray, List.set_cons_zero, List.set_cons_succ]
      refine anyG_take (i := 49) (oi := ⟨_, _, _, _, _, _⟩) (v := ?_) rfl rfl (by kernel_rfl) (by kernel_rfl) (by kernel_rfl) (by kernel_rfl) (by kernel_rfl) (fun _ _ _ h => h) (Or.inl ⟨by rfl, ?_⟩) hS ?_
      rotate_left
      · (intro w' hSw; skip; go_simp; (try with_reducible rfl))
      try simp only [Act.put, List.setIfInBounds_toArray, List.set_cons_zero, List.set_cons_succ]
      refine anyG_take (i := 50) (oi := ⟨_, _, _, _, _, _⟩) (v := ?_) rfl rfl (by kernel_rfl) (by kernel_rfl) (by kernel_rfl) (by kernel_rfl) (by kernel_rfl) (fun _ _ _ h => h) (Or.inl ⟨by rfl, ?_⟩) hS ?_
      rotate_left
      · (intro w' hSw; skip; go_simp; (try with_reducible rfl))
      try simp only [Act.put, List.setIfInBounds_toArray, List.set_cons_zero, List.set_cons_succ]
      refine anyG_take (i := 51) (oi := ⟨_, _, _, _, _, _⟩) (v := ?_) rfl rfl (by kernel_rfl) (by kernel_rfl) (by kernel_rfl) (by kernel_rfl) (by kernel_rfl) (fun _ _ _ h => h) (Or.inl ⟨by rfl, ?_⟩) hS ?_
      rotate_left
      · (intro w' hSw; skip; go_simp; (try with_reducible rfl))
      try simp only [Act.put, List.setIfInBounds_toArray, List.set_cons_zero, List.set_cons_succ]
      refine anyG_take (i := 52) (oi := ⟨_, _, _, _, _, _⟩) (v := ?_) rfl rfl (by kernel_rfl) (by kernel_rfl) (by kernel_rfl) (by kernel_rfl) (by kernel_rfl) (fun _ _ _ h => h) (Or.inl ⟨by rfl, ?_⟩) hS ?_
      rotate_left
      · (intro w' hSw; skip; go_simp; (try with_reducible rfl))
      try simp only [Act.put, List.setIfInBounds_toArray, List.set_cons_zero, List.set_cons_succ]
      refine anyG_take (i := 53) (oi := ⟨_, _, _, _, _, _⟩) (v := ?_) rfl rfl (by kernel_rfl) (by kernel_rfl) (by kernel_rfl) (by kernel_rfl) (by kernel_rfl) (fun _ _ _ h => h) (Or.inl ⟨by rfl, ?_⟩) hS ?_
      rotate_left
      · (intro w' hSw; skip; go_simp; (try with_reducible rfl))
      try simp only [Act.put, List.setIfInBounds_toArray, List.set_cons_zero, List.set_cons_succ]
      refine anyG_take (i := 54) (oi := ⟨_, _, _, _, _, _⟩) (v := ?_) rfl rfl (by kernel_rfl) (by kernel_rfl) (by kernel_rfl) (by kernel_rfl) (by kernel_rfl) (fun _ _ _ h => h) (Or.inl ⟨by rfl, ?_⟩) hS ?_
      rotate_left
      · (intro w' hSw; skip; go_simp; (try with_reducible rfl))
      try simp only [Act.put, List.setIfInBounds_toArray, List.set_cons_zero, List.set_cons_succ]
      refine anyG_take (i := 55) (oi := ⟨_, _, _, _, _, _⟩) (v := ?_) rfl rfl (by kernel_rfl) (by kernel_rfl) (by kernel_rfl) (by kernel_rfl) (by kernel_rfl) (fun _ _ _ h => h) (Or.inl ⟨by rfl, ?_⟩) hS ?_
      rotate_left
      · (intro w' hSw; obtain ⟨s1, s2, s3, s4, s5⟩ := SC.out _ hSw; go_simp; (try with_reducible rfl))
      try simp only [Act.put, List.setIfInBounds_toArray, List.set_cons_zero, List.set_cons_succ]
      refine anyG_all (rs := [56]) (by kernel_rfl) (by simp) (List.forall_mem_singleton.2 ?_)
      refine wpOp_step (o := ⟨_, _, _, _, _, _⟩) rfl (fun K' hK => ?_)
      have HK := Lib.hid hK
      clear hK
      rw [if_pos (by rfl)]
      go_simp
      refine Calls.mono (bytes_conv 256 2 _ (by decide)) ?_
      rintro e V56 ⟨g56, rfl, hcv, hb⟩
      rw [hts] at hcv
      have hS := hS.trans (hb.mono hS.size)
      clear hb
      go_wp2_with fail
      refine HK.out _ _ ⟨fun _ => hS, ?_⟩
      clear HK
      try simp only [Act.put, List.setIfInBounds_toArray, List.set_cons_zero, List.set_cons_succ]
      refine anyG_all (rs := [57]) (by kernel_rfl) (by simp) (List.forall_mem_singleton.2 ?_)
      refine wpOp_step (o := ⟨_, _, _, _, _, _⟩) rfl (fun K' hK => ?_)
      have HK := Lib.hid hK
      clear hK
      rw [if_pos (by rfl)]
      go_simp
      refine HK.out _ _ ⟨fun _ => hS, ?_⟩
      clear HK hcv
      try simp only [Act.put, List.setIfInBounds_toArray, List.set_cons_zero, List.set_cons_succ]
      refine anyG_take (i := 58) (oi := ⟨_, _, _, _, _, _⟩) (v := ?_) rfl rfl (by kernel_rfl) (by kernel_rfl) (by kernel_rfl) (by kernel_rfl) (by kernel_rfl) (fun _ _ _ h => h) (Or.inl ⟨by rfl, ?_⟩) hS ?_
      rotate_left
      · (intro w' hSw; skip; go_simp; (try with_reducible rfl))
      try simp only [Act.put, List.setIfInBounds_toArray, List.set_cons_zero, List.set_cons_succ]
      refine anyG_take (i := 59) (oi := ⟨_, _, _, _, _, _⟩) (v := ?_) rfl rfl (by kernel_rfl) (by kernel_rfl) (by kernel_rfl) (by kernel_rfl) (by kernel_rfl) (fun _ _ _ h => h) (Or.inl ⟨by rfl, ?_⟩) hS ?_
      rotate_left
      · (intro w' hSw; skip; go_simp; (try with_reducible rfl))
      try simp only [Act.put, List.setIfInBounds_toArray, List.set_cons_zero, List.set_cons_succ]
      refine anyG_all (rs := [60]) (by kernel_rfl) (by simp) (List.forall_mem_singleton.2 ?_)
      refine wpOp_step (o := ⟨_, _, _, _, _, _⟩) rfl (fun K' hK => ?_)
      have HK := Lib.hid hK
      clear hK
      rw [if_pos (by rfl)]
      go_simp
      refine HK.out _ _ ⟨fun h => absurd rfl h, anyG_done (by kernel_rfl) ?_⟩
      clear HK
      refine NoPanic.normal ?_
      clear SC
      have HS := Lib.hid hS
      clear hS
      have HL := Lib.hid (HL.out.below HS.out)
      clear HS
      go_wp2_with fail
      refine (DkO.rename (d := ke6) HL.out.at_ (by rw [ke_s6]; decide) fB gB).mono ?_
      rw [ke_f7]
      rintro e w27 ⟨rfl, F27, hL⟩
      have HL := Lib.hid (HL.out.trans hL)
      clear hL
      go_wp2_with fail
      refine (DkO.rename (d := ke7) HL.out.at_ (by rw [ke_s7]; decide) fB gB).mono ?_
      rw [ke_f8]
      rintro e w28 ⟨rfl, F28, hL⟩
      have HL := Lib.hid (HL.out.trans hL)
      clear hL
      go_wp2_with fail
      refine (DkO.rename (d := ke7) HL.out.at_ (by rw [ke_s7]; decide) gB gB).mono ?_
      rw [ke_f9]
      rintro e w29 ⟨rfl, F29, hL⟩
      have HL := Lib.hid (HL.out.trans hL)
      clear hL
      go_wp2_with fail
      refine (DkO.names HL.out.at_).mono ?_
      rw [ke_n8]
      rintro e wn2 ⟨v, rfl, ho, hb⟩
      obtain ⟨Av2, cv2, hv, -, hcv2⟩ := own_shape ho
      subst hv
      have hb0 := (Below.refl wn2.heap.size wn2).alloc (Nat.le_refl _) (.cells #[.string gB] 9)
      have HC2 := Lib.hid (Cells.below hcv2 hb0)
      have HL := Lib.hid ((HL.out.below hb).below hb0)
      clear ho hb hcv2 hb0
      go_wp2_with fail
      refine (names_eq Av2 (some ⟨wn2.heap.size, 0, none⟩) 1 1 cv2 1 [gB] [gB] _ HC2.out (fresh_cells _ _ _) rfl rfl (by decide)).mono ?_
      rw [decide_eq_true rfl]
      rintro e wn3 ⟨rfl, hb⟩
      have HL := Lib.hid (HL.out.below hb)
      clear HC2 hb
      go_wp2_with fail
      refine (DkO.steps HL.out.at_).mono ?_
      rintro e wu ⟨rfl, rfl⟩
      rw [ke_s8]
      go_wp2_with fail
      refine (new_o 1099511627776 _).mono ?_
      rintro e wm ⟨pm, M0, rfl, h1, hb1, hlo⟩
      have hsz := Nat.le_trans HB.out.size HL.out.fr.size
      have HB := Lib.hid ((HB.out.trans (HL.out.fr.toBelowOf HB.out.size HLO.out)).trans (hb1.mono hsz))
      have HLO := Lib.hid (fun i (hi : i ∈ M0) => Nat.le_trans hsz (hlo i hi))
      have HL := Lib.hid (LeftO.here (show DkO wm pm M0 (manyD 0) from h1))
      clear h1 hb1 hlo hsz
      go_wp2_with fail
      go_loopw [24] (fun i wr => ∃ x : Nat, x ≤ 256 ∧ i = .int .i64 x ∧ ∃ F, LeftO wm pm M0 (manyD x) F wr) (fun i _ => 256 - (intOf i).toNat)
      case atStart => exact ⟨0, Nat.zero_le _, rfl, M0, HL.out⟩
      case round =>
        obtain ⟨x, hx, rfl, FX, hl⟩ := hrel
        have HX := Lib.hid hl
        clear hl
        by_cases hlt : x < 256
        · have h1 : ((UInt8.ofNat (97 + x / 16)).toNat : Int) = 97 + (x : Int) / 16 := by rw [UInt8.toNat_ofNat']; omega
          have h2 : ((UInt8.ofNat (97 + x % 16)).toNat : Int) = 97 + (x : Int) % 16 := by rw [UInt8.toNat_ofNat']; omega
          have hc : Cells (wr.alloc (.cells #[.int .u8 (97 + (x : Int) / 16), .int .u8 (97 + (x : Int) % 16)] 5)) (some ⟨wr.heap.size, 0, none⟩) (bv [UInt8.ofNat (97 + x / 16), UInt8.ofNat (97 + x % 16)]) := fun _ =>
            ⟨_, rfl, fun j u hj => World.news_of_block (cs := #[.int .u8 (97 + (x : Int) / 16), .int .u8 (97 + (x : Int) % 16)]) (Go.heap_alloc_new wr _) j u (by rw [← hj]; unfold bv; rw [List.map_cons, List.map_cons, List.map_nil, h1, h2])⟩
          have hcv : (convert 23 9 (.slice (some ⟨wr.heap.size, 0, none⟩) 2 2)).run Try.prog (wr.alloc (.cells #[.int .u8 (97 + (x : Int) / 16), .int .u8 (97 + (x : Int) % 16)] 5)) = .ok (.string (nmB x)) (wr.alloc (.cells #[.int .u8 (97 + (x : Int) / 16), .int .u8 (97 + (x : Int) % 16)] 5)) :=
            conv_str hc 2 23 9 5 Try.underlying23 Try.underlying5 Try.underlying9
          have HX := Lib.hid (HX.out.below (one_below wr (.cells #[.int .u8 (97 + (x : Int) / 16), .int .u8 (97 + (x : Int) % 16)] 5)))
          clear h1 h2 hc
          go_wp2_with fail
          refine (DkO.create (d := manyD x) HX.out.at_ (by rw [(many_inv x (by omega)).2.2.2.1]; omega) (nmB x)).mono ?_
          rw [many_create x hlt]
          rintro e w2 ⟨rfl, F2, hL⟩
          have HX := Lib.hid (HX.out.trans hL)
          clear hL hcv
          go_wp2_with fail
          go_roundw
          case rel => exact ⟨x + 1, hlt, by go_num, F2, HX.out⟩
          case measure => simp [intOf]; omega
        · obtain rfl : x = 256 := by omega
          go_wp2_with fail
          refine (DkO.create (d := manyD 256) HX.out.at_ (by rw [(many_inv 256 (by omega)).2.2.2.1]; decide) mB).mono ?_
          rw [many_full mB (by decide) (by decide)]
          rintro e w3 ⟨rfl, F3, hL⟩
          have HL := Lib.hid (HX.out.trans hL)
          clear hL
          go_wp2_with fail
          refine (new_o (-5) _).mono ?_
          rintro e w4 ⟨p4, Q0, rfl, h1, hb1, hlo⟩
          have hsz := Nat.le_trans HB.out.size HL.out.fr.size
          have HB := Lib.hid ((HB.out.trans (HL.out.fr.toBelowOf HB.out.size HLO.out)).trans (hb1.mono hsz))
          have H1 := Lib.hid h1
          clear h1 hb1 hlo hsz
          go_wp2_with fail
          refine (DkO.used (d := newD (-5)) H1.out).mono ?_
          rintro e wu ⟨rfl, rfl⟩
          rw [show (newD (-5)).used = 0 from rfl]
          go_wp2_with fail
          refine (nilFail 0 0 _).mono ?_
          rintro e wz ⟨rfl, hb⟩
          have HB := Lib.hid (HB.out.trans (hb.mono HB.out.size))
          clear hb
          go_wp2_with fail
          refine (nilOn _).mono ?_
          rintro e wz ⟨rfl, hb⟩
          have HB := Lib.hid (HB.out.trans (hb.mono HB.out.size))
          clear hb
          go_wp2_with fail
          refine (nilRead fB 0 _).mono ?_
          rintro e wz ⟨rfl, hb⟩
          have HB := Lib.hid (HB.out.trans (hb.mono HB.out.size))
          clear hb
          go_wp2_with fail
          refine (nilLen fB _).mono ?_
          rintro e wz ⟨rfl, hb⟩
          have HB := Lib.hid (HB.out.trans (hb.mono HB.out.size))
          clear hb
          go_wp2_with fail
          refine (nilCreate fB _).mono ?_
          rintro e wz ⟨rfl, hb⟩
          have HB := Lib.hid (HB.out.trans (hb.mono HB.out.size))
          clear hb
          go_wp2_with fail
          refine (nilWrite fB 0 none 0 0 _).mono ?_
          rintro e wz ⟨rfl, hb⟩
          have HB := Lib.hid (HB.out.trans (hb.mono HB.out.size))
          clear hb
          go_wp2_with fail
          refine (nilSync fB _).mono ?_
          rintro e wz ⟨rfl, hb⟩
          have HB := Lib.hid (HB.out.trans (hb.mono HB.out.size))
          clear hb
          go_wp2_with fail
          refine (nilRename fB gB _).mono ?_
          rintro e wz ⟨rfl, hb⟩
          have HB := Lib.hid (HB.out.trans (hb.mono HB.out.size))
          clear hb
          go_wp2_with fail
          refine (nilRemove fB _).mono ?_
          rintro e wz ⟨rfl, hb⟩
          have HB := Lib.hid (HB.out.trans (hb.mono HB.out.size))
          clear hb
          go_wp2_with fail
          refine (nilNames _).mono ?_
          rintro e wz ⟨rfl, hb⟩
          have HB := Lib.hid (HB.out.trans (hb.mono HB.out.size))
          clear hb
          go_wp2_with fail
          refine (nilUsed _).mono ?_
          rintro e wz ⟨rfl, hb⟩
          have HB := Lib.hid (HB.out.trans (hb.mono HB.out.size))
          clear hb
          go_wp2_with fail
          refine (nilSteps _).mono ?_
          rintro e wz ⟨rfl, hb⟩
          have HB := Lib.hid (HB.out.trans (hb.mono HB.out.size))
          clear hb
          go_wp2_with fail
          refine (nilOff _).mono ?_
          rintro e wz ⟨rfl, hb⟩
          have HB := Lib.hid (HB.out.trans (hb.mono HB.out.size))
          clear hb
          go_wp2_with fail
          refine (nilCopy _).mono ?_
          rintro e wz ⟨rfl, hb⟩
          have HB := Lib.hid (HB.out.trans (hb.mono HB.out.size))
          clear hb
          go_wp2_with fail
          refine (works_any _).mono ?_
          rintro e wz ⟨rfl, hb⟩
          have HB := Lib.hid (HB.out.trans (hb.mono HB.out.size))
          clear hb
          go_wp2_with fail
          go_ret
          exact ⟨rfl, HB.out⟩
end Go.Proofs.Ytikbphafpmdpeaa
