/- IdealKnown: its walk, step by step. -/
import Derived.Test.YtmlcojhanimnpaaK2
namespace Go.Proofs.Ytmlcojhanimnpaa
open Go.RowKit

def sE : ByteArray := ⟨#[]⟩
def sC : ByteArray := ⟨#[99]⟩
def sX : ByteArray := ⟨#[120]⟩
def sY : ByteArray := ⟨#[121]⟩
def sZZ : ByteArray := ⟨#[122, 122]⟩
def zero21 : List Leg := List.replicate 21 ⟨sE, sE, 0⟩
def zero63 : Array Value := (legsC zero21).toArray
theorem mk21 (w : World) : (Instr.makeSlice 23 (.int .i64 21) (.int .i64 21)).run Try.prog w = .ok (.slice (some ⟨w.heap.size, 0, none⟩) 21 21) (w.alloc (.cells zero63 45)) := by kernel_rfl
theorem zero_in (w : World) : LegsIn (w.alloc (.cells zero63 45)) (some ⟨w.heap.size, 0, none⟩) zero21 := fun _ =>
  ⟨_, rfl, fun j u hj => World.news_of_block (cs := zero63) (Go.heap_alloc_new w _) j u hj⟩
theorem leg_two (w : World) (x y : Leg) : LegsIn (w.alloc (.cells #[.string x.ch, .string x.src, .int .i64 x.amt, .string y.ch, .string y.src, .int .i64 y.amt] 45)) (some ⟨w.heap.size, 0, none⟩) [x, y] := fun _ =>
  ⟨_, rfl, fun j u hj => World.news_of_block (cs := #[.string x.ch, .string x.src, .int .i64 x.amt, .string y.ch, .string y.src, .int .i64 y.amt]) (Go.heap_alloc_new w _) j u (by simpa [legsC, legC] using hj)⟩
def gotI : List Int := [2, 40, 40, 0, 2, 5, 40, 170, 2, 2, 5, 6, 40, 40, 40, 170, 0, 5, 40, 170, 0]
theorem got_cells {w : World} {a : Addr} (h : ∀ j u, (#[.int .i64 2, .int .i64 40, .int .i64 40, .int .i64 0, .int .i64 2, .int .i64 5, .int .i64 40, .int .i64 170, .int .i64 2, .int .i64 2, .int .i64 5, .int .i64 6, .int .i64 40, .int .i64 40, .int .i64 40, .int .i64 170, .int .i64 0, .int .i64 5, .int .i64 40, .int .i64 170, .int .i64 0] : Array Value).toList[j]? = some u → w.cell? (a.add j) = some u) : Cells w (some a) (ints gotI) := fun _ => ⟨a, rfl, fun j u hj => h j u (by rw [← hj]; rfl)⟩
theorem kf1 : hold begun1 [⟨sAB, sA, 40001⟩] = (0, 170, begun1) := by kernel_rfl
def k1 : Led := ⟨[(sA, 48), (sB, 0)], [(sAB, ⟨sAB, sA, sB, 50, 0, 10000⟩)], [⟨1, [⟨sAB, sA, 40000⟩]⟩], 1⟩
theorem kf2 : hold begun1 [⟨sAB, sA, 40000⟩] = (1, 0, k1) := by kernel_rfl
theorem ki_k1 : Inv k1 := by have := (inv1.hold [⟨sAB, sA, 40000⟩]).1; rw [kf2] at this; exact this
theorem kf3 : hold k1 [⟨sAB, sA, 1⟩] = (0, 170, k1) := by kernel_rfl
theorem kf4 : worth1 k1 sA = 88000 := by kernel_rfl
theorem kf5 : closeCh k1 sAB 1 = (4, k1) := by kernel_rfl
def k2 : Led := ⟨[(sA, 48), (sB, 0)], [(sAB, ⟨sAB, sA, sB, 50, 0, 50000⟩)], [], 1⟩
theorem kf6 : endH true k1 1 = (0, k2) := by kernel_rfl
theorem ki_k2 : Inv k2 := by have := (ki_k1.endH true 1).1; rw [kf6] at this; exact this
theorem kf7 : endH true k2 1 = (5, k2) := by kernel_rfl
theorem kf8 : endH false k2 1 = (5, k2) := by kernel_rfl
theorem kf9 : closeCh k2 sAB 1 = (170, k2) := by kernel_rfl
def k3 : Led := ⟨[(sA, 48), (sB, 50)], [], [], 1⟩
theorem kf10 : closeCh k2 sAB 0 = (0, k3) := by kernel_rfl
theorem ki_k3 : Inv k3 := by have := (ki_k2.closeCh sAB 0).1; rw [kf10] at this; exact this
theorem kf11 : worth1 k3 sA = 48000 := by kernel_rfl
theorem kf12 : worth1 k3 sB = 50000 := by kernel_rfl
theorem kf13 : pay k3 sA sB 40 9 = (170, k3) := by kernel_rfl
def k4 : Led := ⟨[(sA, 0), (sB, 90)], [], [], 1⟩
theorem kf14 : pay k3 sA sB 40 8 = (0, k4) := by kernel_rfl
theorem ki_k4 : Inv k4 := by have := (ki_k3.pay sA sB 40 8).1; rw [kf14] at this; exact this
theorem kf15 : total k4 = 90 := by kernel_rfl
def k5 : Led := ⟨[(sA, 48), (sB, 0)], [(sAB, ⟨sAB, sA, sB, 50, 39999, 9500⟩)], [⟨1, [⟨sAB, sA, 1⟩, ⟨sAB, sB, 500⟩]⟩], 1⟩
theorem kf16 : hold begun1 [⟨sAB, sA, 1⟩, ⟨sAB, sB, 500⟩] = (1, 0, k5) := by kernel_rfl
theorem ki_k5 : Inv k5 := by have := (inv1.hold [⟨sAB, sA, 1⟩, ⟨sAB, sB, 500⟩]).1; rw [kf16] at this; exact this
def k6 : Led := ⟨[(sA, 48), (sB, 0)], [(sAB, ⟨sAB, sA, sB, 50, 40499, 9501⟩)], [], 1⟩
theorem kf17 : endH true k5 1 = (0, k6) := by kernel_rfl
theorem ki_k6 : Inv k6 := by have := (ki_k5.endH true 1).1; rw [kf17] at this; exact this
def k7 : Led := ⟨[(sA, 85), (sB, 9)], [], [], 1⟩
theorem kf18 : closeCh k6 sAB 3 = (0, k7) := by kernel_rfl
theorem ki_k7 : Inv k7 := by have := (ki_k6.closeCh sAB 3).1; rw [kf18] at this; exact this
theorem kf19 : worth1 k7 sA = 85000 := by kernel_rfl
theorem kf20 : worth1 k7 sB = 9000 := by kernel_rfl
theorem kf21 : total k7 = 94 := by kernel_rfl
theorem kf22 : mint begun1 sE 1 = (2, begun1) := by kernel_rfl
theorem kf23 : mint begun1 sA (-1) = (40, begun1) := by kernel_rfl
theorem kf24 : mint begun1 sA 2099999999999903 = (40, begun1) := by kernel_rfl
def k8 : Led := ⟨[(sA, 2099999999999950), (sB, 0)], [(sAB, ⟨sAB, sA, sB, 50, 40000, 10000⟩)], [], 0⟩
theorem kf25 : mint begun1 sA 2099999999999902 = (0, k8) := by kernel_rfl
theorem ki_k8 : Inv k8 := by have := (inv1.mint sA 2099999999999902).1; rw [kf25] at this; exact this
theorem kf26 : pay k8 sA sA 1 0 = (2, k8) := by kernel_rfl
theorem kf27 : pay k8 sA sC 1 0 = (5, k8) := by kernel_rfl
theorem kf28 : pay k8 sA sB (-1) 0 = (40, k8) := by kernel_rfl
theorem kf29 : pay k8 sA sB 2100000000000000 2100000000000000 = (170, k8) := by kernel_rfl
theorem kf30 : openCh k8 sE sA sB 1 0 0 = (2, k8) := by kernel_rfl
theorem kf31 : openCh k8 sX sA sA 1 0 0 = (2, k8) := by kernel_rfl
theorem kf32 : openCh k8 sX sA sC 1 0 0 = (5, k8) := by kernel_rfl
theorem kf33 : openCh k8 sAB sA sB 1 0 0 = (6, k8) := by kernel_rfl
theorem kf34 : openCh k8 sX sA sB 0 0 0 = (40, k8) := by kernel_rfl
theorem kf35 : openCh k8 sX sA sB 1 1001 0 = (40, k8) := by kernel_rfl
theorem kf36 : openCh k8 sX sA sB 1 1000 (-1) = (40, k8) := by kernel_rfl
theorem kf37 : openCh k8 sX sB sA 1 1000 0 = (170, k8) := by kernel_rfl
def k9 : Led := ⟨[(sA, 2099999999999949), (sB, 0)], [(sAB, ⟨sAB, sA, sB, 50, 40000, 10000⟩), (sX, ⟨sX, sA, sB, 1, 0, 1000⟩)], [], 0⟩
theorem kf38 : openCh k8 sX sA sB 1 1000 0 = (0, k9) := by kernel_rfl
theorem ki_k9 : Inv k9 := by have := (ki_k8.openCh sX sA sB 1 1000 0).1; rw [kf38] at this; exact this
theorem kf39 : closeCh k9 sY 0 = (5, k9) := by kernel_rfl
theorem kf40 : closeCh k9 sX (-1) = (40, k9) := by kernel_rfl
theorem kf41 : closeCh k9 sX 1 = (170, k9) := by kernel_rfl
def k10 : Led := ⟨[(sA, 2099999999999949), (sB, 1)], [(sAB, ⟨sAB, sA, sB, 50, 40000, 10000⟩)], [], 0⟩
theorem kf42 : closeCh k9 sX 0 = (0, k10) := by kernel_rfl
theorem ki_k10 : Inv k10 := by have := (ki_k9.closeCh sX 0).1; rw [kf42] at this; exact this
theorem kf43 : hold k10 [] = (0, 2, k10) := by kernel_rfl
theorem kf44 : hold k10 zero21 = (0, 2, k10) := by kernel_rfl
theorem kf45 : hold k10 [⟨sZZ, sA, 1⟩] = (0, 5, k10) := by kernel_rfl
theorem kf46 : hold k10 [⟨sAB, sC, 1⟩] = (0, 5, k10) := by kernel_rfl
theorem kf47 : hold k10 [⟨sAB, sA, 0⟩] = (0, 40, k10) := by kernel_rfl
theorem kf48 : hold k10 [⟨sAB, sA, 30000⟩, ⟨sAB, sA, 10001⟩] = (0, 170, k10) := by kernel_rfl
theorem kf49 : total k10 = 2100000000000000 := by kernel_rfl
set_option maxRecDepth 100000 in
set_option maxHeartbeats 40000000 in
theorem known_walk (W : World) : Calls Try.prog 7 #[] W fun e w' => e = .returned (.bool true) ∧ Below W.heap.size W w' := by
  go_enter Try.func7, Try.ntmps7
  go_wp2_with fail
  refine (begun_any _).mono ?_
  rintro e w1 ⟨p1, rfl, hL, hb⟩
  have HL := Lib.hid hL
  have HB := Lib.hid hb
  clear hL hb
  have HBA := Lib.hid fun o => HB.out.alloc HB.out.size o
  have HLA := Lib.hid fun o => HL.out.below ((Below.refl _ _).alloc (Nat.le_refl _) o)
  go_wp2_with fail
  refine (holdO (legs := [⟨sAB, sA, 40001⟩]) inv1 (HLA.out _) (HBA.out _).size (by decide) (some ⟨_, 0, none⟩) 1 (by decide) (leg_one _ _)).mono ?_
  rw [kf1]
  rintro e w2 ⟨rfl, hL, hb⟩
  have HL := Lib.hid hL
  have HB := Lib.hid ((HBA.out _).trans hb)
  clear hL hb HBA HLA
  have HBA := Lib.hid fun o => HB.out.alloc HB.out.size o
  have HLA := Lib.hid fun o => HL.out.below ((Below.refl _ _).alloc (Nat.le_refl _) o)
  go_wp2_with fail
  refine (holdO (legs := [⟨sAB, sA, 40000⟩]) inv1 (HLA.out _) (HBA.out _).size (by decide) (some ⟨_, 0, none⟩) 1 (by decide) (leg_one _ _)).mono ?_
  rw [kf2]
  rintro e w3 ⟨rfl, hL, hb⟩
  have HL := Lib.hid hL
  have HB := Lib.hid ((HBA.out _).trans hb)
  clear hL hb HBA HLA
  have HBA := Lib.hid fun o => HB.out.alloc HB.out.size o
  have HLA := Lib.hid fun o => HL.out.below ((Below.refl _ _).alloc (Nat.le_refl _) o)
  go_wp2_with fail
  refine (holdO (legs := [⟨sAB, sA, 1⟩]) ki_k1 (HLA.out _) (HBA.out _).size (by decide) (some ⟨_, 0, none⟩) 1 (by decide) (leg_one _ _)).mono ?_
  rw [kf3]
  rintro e w4 ⟨rfl, hL, hb⟩
  have HL := Lib.hid hL
  have HB := Lib.hid ((HBA.out _).trans hb)
  clear hL hb HBA HLA
  go_wp2_with fail
  refine (worthO ki_k1 HL.out sA).mono ?_
  rw [kf4]
  rintro e w5 ⟨rfl, hb⟩
  have HL := Lib.hid (HL.out.below hb)
  have HB := Lib.hid (HB.out.trans (hb.mono HB.out.size))
  clear hb
  go_wp2_with fail
  refine (closeO ki_k1 HL.out HB.out.size sAB 1).mono ?_
  rw [kf5]
  rintro e w6 ⟨rfl, hL, hb⟩
  have HL := Lib.hid hL
  have HB := Lib.hid (HB.out.trans hb)
  clear hL hb
  go_wp2_with fail
  refine (settleO ki_k1 HL.out HB.out.size 1).mono ?_
  rw [kf6]
  rintro e w7 ⟨rfl, hL, hb⟩
  have HL := Lib.hid hL
  have HB := Lib.hid (HB.out.trans hb)
  clear hL hb
  go_wp2_with fail
  refine (settleO ki_k2 HL.out HB.out.size 1).mono ?_
  rw [kf7]
  rintro e w8 ⟨rfl, hL, hb⟩
  have HL := Lib.hid hL
  have HB := Lib.hid (HB.out.trans hb)
  clear hL hb
  go_wp2_with fail
  refine (failO ki_k2 HL.out HB.out.size 1).mono ?_
  rw [kf8]
  rintro e w9 ⟨rfl, hL, hb⟩
  have HL := Lib.hid hL
  have HB := Lib.hid (HB.out.trans hb)
  clear hL hb
  go_wp2_with fail
  refine (closeO ki_k2 HL.out HB.out.size sAB 1).mono ?_
  rw [kf9]
  rintro e w10 ⟨rfl, hL, hb⟩
  have HL := Lib.hid hL
  have HB := Lib.hid (HB.out.trans hb)
  clear hL hb
  go_wp2_with fail
  refine (closeO ki_k2 HL.out HB.out.size sAB 0).mono ?_
  rw [kf10]
  rintro e w11 ⟨rfl, hL, hb⟩
  have HL := Lib.hid hL
  have HB := Lib.hid (HB.out.trans hb)
  clear hL hb
  go_wp2_with fail
  refine (worthO ki_k3 HL.out sA).mono ?_
  rw [kf11]
  rintro e w12 ⟨rfl, hb⟩
  have HL := Lib.hid (HL.out.below hb)
  have HB := Lib.hid (HB.out.trans (hb.mono HB.out.size))
  clear hb
  go_wp2_with fail
  refine (worthO ki_k3 HL.out sB).mono ?_
  rw [kf12]
  rintro e w13 ⟨rfl, hb⟩
  have HL := Lib.hid (HL.out.below hb)
  have HB := Lib.hid (HB.out.trans (hb.mono HB.out.size))
  clear hb
  go_wp2_with fail
  refine (payO ki_k3 HL.out HB.out.size sA sB 40 9).mono ?_
  rw [kf13]
  rintro e w14 ⟨rfl, hL, hb⟩
  have HL := Lib.hid hL
  have HB := Lib.hid (HB.out.trans hb)
  clear hL hb
  go_wp2_with fail
  refine (payO ki_k3 HL.out HB.out.size sA sB 40 8).mono ?_
  rw [kf14]
  rintro e w15 ⟨rfl, hL, hb⟩
  have HL := Lib.hid hL
  have HB := Lib.hid (HB.out.trans hb)
  clear hL hb
  go_wp2_with fail
  refine (totO ki_k4 HL.out).mono ?_
  rw [kf15]
  rintro e w16 ⟨rfl, hb⟩
  have HL := Lib.hid (HL.out.below hb)
  have HB := Lib.hid (HB.out.trans (hb.mono HB.out.size))
  clear hb
  go_wp2_with fail
  refine (begun_any _).mono ?_
  rintro e w17 ⟨p2, rfl, hL, hb⟩
  have HL := Lib.hid (hL.mono HB.out.size)
  have HB := Lib.hid (HB.out.trans (hb.mono HB.out.size))
  clear hL hb
  have HBA := Lib.hid fun o => HB.out.alloc HB.out.size o
  have HLA := Lib.hid fun o => HL.out.below ((Below.refl _ _).alloc (Nat.le_refl _) o)
  go_wp2_with fail
  refine (holdO (legs := [⟨sAB, sA, 1⟩, ⟨sAB, sB, 500⟩]) inv1 (HLA.out _) (HBA.out _).size (by decide) (some ⟨_, 0, none⟩) 2 (by decide) (leg_two _ _ _)).mono ?_
  rw [kf16]
  rintro e w18 ⟨rfl, hL, hb⟩
  have HL := Lib.hid hL
  have HB := Lib.hid ((HBA.out _).trans hb)
  clear hL hb HBA HLA
  go_wp2_with fail
  refine (settleO ki_k5 HL.out HB.out.size 1).mono ?_
  rw [kf17]
  rintro e w19 ⟨rfl, hL, hb⟩
  have HL := Lib.hid hL
  have HB := Lib.hid (HB.out.trans hb)
  clear hL hb
  go_wp2_with fail
  refine (closeO ki_k6 HL.out HB.out.size sAB 3).mono ?_
  rw [kf18]
  rintro e w20 ⟨rfl, hL, hb⟩
  have HL := Lib.hid hL
  have HB := Lib.hid (HB.out.trans hb)
  clear hL hb
  go_wp2_with fail
  refine (worthO ki_k7 HL.out sA).mono ?_
  rw [kf19]
  rintro e w21 ⟨rfl, hb⟩
  have HL := Lib.hid (HL.out.below hb)
  have HB := Lib.hid (HB.out.trans (hb.mono HB.out.size))
  clear hb
  go_wp2_with fail
  refine (worthO ki_k7 HL.out sB).mono ?_
  rw [kf20]
  rintro e w22 ⟨rfl, hb⟩
  have HL := Lib.hid (HL.out.below hb)
  have HB := Lib.hid (HB.out.trans (hb.mono HB.out.size))
  clear hb
  go_wp2_with fail
  refine (totO ki_k7 HL.out).mono ?_
  rw [kf21]
  rintro e w23 ⟨rfl, hb⟩
  have HL := Lib.hid (HL.out.below hb)
  have HB := Lib.hid (HB.out.trans (hb.mono HB.out.size))
  clear hb
  go_wp2_with fail
  refine (begun_any _).mono ?_
  rintro e w24 ⟨p3, rfl, hL, hb⟩
  have HL := Lib.hid (hL.mono HB.out.size)
  have HB := Lib.hid (HB.out.trans (hb.mono HB.out.size))
  clear hL hb
  go_wp2_with fail
  refine (mintO inv1 HL.out HB.out.size sE 1).mono ?_
  rw [kf22]
  rintro e w25 ⟨rfl, hL, hb⟩
  have HL := Lib.hid hL
  have HB := Lib.hid (HB.out.trans hb)
  clear hL hb
  go_wp2_with fail
  refine (mintO inv1 HL.out HB.out.size sA (-1)).mono ?_
  rw [kf23]
  rintro e w26 ⟨rfl, hL, hb⟩
  have HL := Lib.hid hL
  have HB := Lib.hid (HB.out.trans hb)
  clear hL hb
  go_wp2_with fail
  refine (mintO inv1 HL.out HB.out.size sA 2099999999999903).mono ?_
  rw [kf24]
  rintro e w27 ⟨rfl, hL, hb⟩
  have HL := Lib.hid hL
  have HB := Lib.hid (HB.out.trans hb)
  clear hL hb
  go_wp2_with fail
  refine (mintO inv1 HL.out HB.out.size sA 2099999999999902).mono ?_
  rw [kf25]
  rintro e w28 ⟨rfl, hL, hb⟩
  have HL := Lib.hid hL
  have HB := Lib.hid (HB.out.trans hb)
  clear hL hb
  go_wp2_with fail
  refine (payO ki_k8 HL.out HB.out.size sA sA 1 0).mono ?_
  rw [kf26]
  rintro e w29 ⟨rfl, hL, hb⟩
  have HL := Lib.hid hL
  have HB := Lib.hid (HB.out.trans hb)
  clear hL hb
  go_wp2_with fail
  refine (payO ki_k8 HL.out HB.out.size sA sC 1 0).mono ?_
  rw [kf27]
  rintro e w30 ⟨rfl, hL, hb⟩
  have HL := Lib.hid hL
  have HB := Lib.hid (HB.out.trans hb)
  clear hL hb
  go_wp2_with fail
  refine (payO ki_k8 HL.out HB.out.size sA sB (-1) 0).mono ?_
  rw [kf28]
  rintro e w31 ⟨rfl, hL, hb⟩
  have HL := Lib.hid hL
  have HB := Lib.hid (HB.out.trans hb)
  clear hL hb
  go_wp2_with fail
  refine (payO ki_k8 HL.out HB.out.size sA sB 2100000000000000 2100000000000000).mono ?_
  rw [kf29]
  rintro e w32 ⟨rfl, hL, hb⟩
  have HL := Lib.hid hL
  have HB := Lib.hid (HB.out.trans hb)
  clear hL hb
  go_wp2_with fail
  refine (openO ki_k8 HL.out HB.out.size sE sA sB 1 0 0).mono ?_
  rw [kf30]
  rintro e w33 ⟨rfl, hL, hb⟩
  have HL := Lib.hid hL
  have HB := Lib.hid (HB.out.trans hb)
  clear hL hb
  go_wp2_with fail
  refine (openO ki_k8 HL.out HB.out.size sX sA sA 1 0 0).mono ?_
  rw [kf31]
  rintro e w34 ⟨rfl, hL, hb⟩
  have HL := Lib.hid hL
  have HB := Lib.hid (HB.out.trans hb)
  clear hL hb
  go_wp2_with fail
  refine (openO ki_k8 HL.out HB.out.size sX sA sC 1 0 0).mono ?_
  rw [kf32]
  rintro e w35 ⟨rfl, hL, hb⟩
  have HL := Lib.hid hL
  have HB := Lib.hid (HB.out.trans hb)
  clear hL hb
  go_wp2_with fail
  refine (openO ki_k8 HL.out HB.out.size sAB sA sB 1 0 0).mono ?_
  rw [kf33]
  rintro e w36 ⟨rfl, hL, hb⟩
  have HL := Lib.hid hL
  have HB := Lib.hid (HB.out.trans hb)
  clear hL hb
  go_wp2_with fail
  refine (openO ki_k8 HL.out HB.out.size sX sA sB 0 0 0).mono ?_
  rw [kf34]
  rintro e w37 ⟨rfl, hL, hb⟩
  have HL := Lib.hid hL
  have HB := Lib.hid (HB.out.trans hb)
  clear hL hb
  go_wp2_with fail
  refine (openO ki_k8 HL.out HB.out.size sX sA sB 1 1001 0).mono ?_
  rw [kf35]
  rintro e w38 ⟨rfl, hL, hb⟩
  have HL := Lib.hid hL
  have HB := Lib.hid (HB.out.trans hb)
  clear hL hb
  go_wp2_with fail
  refine (openO ki_k8 HL.out HB.out.size sX sA sB 1 1000 (-1)).mono ?_
  rw [kf36]
  rintro e w39 ⟨rfl, hL, hb⟩
  have HL := Lib.hid hL
  have HB := Lib.hid (HB.out.trans hb)
  clear hL hb
  go_wp2_with fail
  refine (openO ki_k8 HL.out HB.out.size sX sB sA 1 1000 0).mono ?_
  rw [kf37]
  rintro e w40 ⟨rfl, hL, hb⟩
  have HL := Lib.hid hL
  have HB := Lib.hid (HB.out.trans hb)
  clear hL hb
  go_wp2_with fail
  refine (openO ki_k8 HL.out HB.out.size sX sA sB 1 1000 0).mono ?_
  rw [kf38]
  rintro e w41 ⟨rfl, hL, hb⟩
  have HL := Lib.hid hL
  have HB := Lib.hid (HB.out.trans hb)
  clear hL hb
  go_wp2_with fail
  refine (closeO ki_k9 HL.out HB.out.size sY 0).mono ?_
  rw [kf39]
  rintro e w42 ⟨rfl, hL, hb⟩
  have HL := Lib.hid hL
  have HB := Lib.hid (HB.out.trans hb)
  clear hL hb
  go_wp2_with fail
  refine (closeO ki_k9 HL.out HB.out.size sX (-1)).mono ?_
  rw [kf40]
  rintro e w43 ⟨rfl, hL, hb⟩
  have HL := Lib.hid hL
  have HB := Lib.hid (HB.out.trans hb)
  clear hL hb
  go_wp2_with fail
  refine (closeO ki_k9 HL.out HB.out.size sX 1).mono ?_
  rw [kf41]
  rintro e w44 ⟨rfl, hL, hb⟩
  have HL := Lib.hid hL
  have HB := Lib.hid (HB.out.trans hb)
  clear hL hb
  go_wp2_with fail
  refine (closeO ki_k9 HL.out HB.out.size sX 0).mono ?_
  rw [kf42]
  rintro e w45 ⟨rfl, hL, hb⟩
  have HL := Lib.hid hL
  have HB := Lib.hid (HB.out.trans hb)
  clear hL hb
  have hc1 : Cells ((w45.alloc (.cells #[.int .i64 2, .int .i64 40, .int .i64 40, .int .i64 0, .int .i64 2, .int .i64 5, .int .i64 40, .int .i64 170, .int .i64 2, .int .i64 2, .int .i64 5, .int .i64 6, .int .i64 40, .int .i64 40, .int .i64 40, .int .i64 170, .int .i64 0, .int .i64 5, .int .i64 40, .int .i64 170, .int .i64 0] 32)).alloc (.cells #[.int .i64 2, .int .i64 40, .int .i64 40, .int .i64 0, .int .i64 2, .int .i64 5, .int .i64 40, .int .i64 170, .int .i64 2, .int .i64 2, .int .i64 5, .int .i64 6, .int .i64 40, .int .i64 40, .int .i64 40, .int .i64 170, .int .i64 0, .int .i64 5, .int .i64 40, .int .i64 170, .int .i64 0] 32)) (some ⟨w45.heap.size, 0, none⟩) (ints gotI) := Cells.alloc (got_cells fun j u hj => World.news_of_block (cs := #[.int .i64 2, .int .i64 40, .int .i64 40, .int .i64 0, .int .i64 2, .int .i64 5, .int .i64 40, .int .i64 170, .int .i64 2, .int .i64 2, .int .i64 5, .int .i64 6, .int .i64 40, .int .i64 40, .int .i64 40, .int .i64 170, .int .i64 0, .int .i64 5, .int .i64 40, .int .i64 170, .int .i64 0]) (Go.heap_alloc_new w45 _) j u hj) _
  have hc2 : Cells ((w45.alloc (.cells #[.int .i64 2, .int .i64 40, .int .i64 40, .int .i64 0, .int .i64 2, .int .i64 5, .int .i64 40, .int .i64 170, .int .i64 2, .int .i64 2, .int .i64 5, .int .i64 6, .int .i64 40, .int .i64 40, .int .i64 40, .int .i64 170, .int .i64 0, .int .i64 5, .int .i64 40, .int .i64 170, .int .i64 0] 32)).alloc (.cells #[.int .i64 2, .int .i64 40, .int .i64 40, .int .i64 0, .int .i64 2, .int .i64 5, .int .i64 40, .int .i64 170, .int .i64 2, .int .i64 2, .int .i64 5, .int .i64 6, .int .i64 40, .int .i64 40, .int .i64 40, .int .i64 170, .int .i64 0, .int .i64 5, .int .i64 40, .int .i64 170, .int .i64 0] 32)) (some ⟨w45.heap.size + 1, 0, none⟩) (ints gotI) := by
    have := got_cells (w := (w45.alloc (.cells #[.int .i64 2, .int .i64 40, .int .i64 40, .int .i64 0, .int .i64 2, .int .i64 5, .int .i64 40, .int .i64 170, .int .i64 2, .int .i64 2, .int .i64 5, .int .i64 6, .int .i64 40, .int .i64 40, .int .i64 40, .int .i64 170, .int .i64 0, .int .i64 5, .int .i64 40, .int .i64 170, .int .i64 0] 32)).alloc (.cells #[.int .i64 2, .int .i64 40, .int .i64 40, .int .i64 0, .int .i64 2, .int .i64 5, .int .i64 40, .int .i64 170, .int .i64 2, .int .i64 2, .int .i64 5, .int .i64 6, .int .i64 40, .int .i64 40, .int .i64 40, .int .i64 170, .int .i64 0, .int .i64 5, .int .i64 40, .int .i64 170, .int .i64 0] 32)) (a := ⟨(w45.alloc (.cells #[.int .i64 2, .int .i64 40, .int .i64 40, .int .i64 0, .int .i64 2, .int .i64 5, .int .i64 40, .int .i64 170, .int .i64 2, .int .i64 2, .int .i64 5, .int .i64 6, .int .i64 40, .int .i64 40, .int .i64 40, .int .i64 170, .int .i64 0, .int .i64 5, .int .i64 40, .int .i64 170, .int .i64 0] 32)).heap.size, 0, none⟩) fun j u hj => World.news_of_block (cs := #[.int .i64 2, .int .i64 40, .int .i64 40, .int .i64 0, .int .i64 2, .int .i64 5, .int .i64 40, .int .i64 170, .int .i64 2, .int .i64 2, .int .i64 5, .int .i64 6, .int .i64 40, .int .i64 40, .int .i64 40, .int .i64 170, .int .i64 0, .int .i64 5, .int .i64 40, .int .i64 170, .int .i64 0]) (Go.heap_alloc_new (w45.alloc (.cells #[.int .i64 2, .int .i64 40, .int .i64 40, .int .i64 0, .int .i64 2, .int .i64 5, .int .i64 40, .int .i64 170, .int .i64 2, .int .i64 2, .int .i64 5, .int .i64 6, .int .i64 40, .int .i64 40, .int .i64 40, .int .i64 170, .int .i64 0, .int .i64 5, .int .i64 40, .int .i64 170, .int .i64 0] 32)) _) j u hj
    simpa using this
  have hbg : Below w45.heap.size w45 ((w45.alloc (.cells #[.int .i64 2, .int .i64 40, .int .i64 40, .int .i64 0, .int .i64 2, .int .i64 5, .int .i64 40, .int .i64 170, .int .i64 2, .int .i64 2, .int .i64 5, .int .i64 6, .int .i64 40, .int .i64 40, .int .i64 40, .int .i64 170, .int .i64 0, .int .i64 5, .int .i64 40, .int .i64 170, .int .i64 0] 32)).alloc (.cells #[.int .i64 2, .int .i64 40, .int .i64 40, .int .i64 0, .int .i64 2, .int .i64 5, .int .i64 40, .int .i64 170, .int .i64 2, .int .i64 2, .int .i64 5, .int .i64 6, .int .i64 40, .int .i64 40, .int .i64 40, .int .i64 170, .int .i64 0, .int .i64 5, .int .i64 40, .int .i64 170, .int .i64 0] 32)) := ((Below.refl _ _).alloc (Nat.le_refl _) _).alloc (by simp) _
  have HBG := Lib.hid hbg
  have HC1 := Lib.hid hc1
  have HC2 := Lib.hid hc2
  clear hc1 hc2 hbg
  go_wp2_with fail
  generalize (w45.alloc (.cells #[.int .i64 2, .int .i64 40, .int .i64 40, .int .i64 0, .int .i64 2, .int .i64 5, .int .i64 40, .int .i64 170, .int .i64 2, .int .i64 2, .int .i64 5, .int .i64 6, .int .i64 40, .int .i64 40, .int .i64 40, .int .i64 170, .int .i64 0, .int .i64 5, .int .i64 40, .int .i64 170, .int .i64 0] 32)).alloc (.cells #[.int .i64 2, .int .i64 40, .int .i64 40, .int .i64 0, .int .i64 2, .int .i64 5, .int .i64 40, .int .i64 170, .int .i64 2, .int .i64 2, .int .i64 5, .int .i64 6, .int .i64 40, .int .i64 40, .int .i64 40, .int .i64 170, .int .i64 0, .int .i64 5, .int .i64 40, .int .i64 170, .int .i64 0] 32) = wg at *
  generalize (⟨w45.heap.size, 0, none⟩ : Addr) = a1 at *
  generalize (⟨w45.heap.size + 1, 0, none⟩ : Addr) = a2 at *
  have HL := Lib.hid (HL.out.below HBG.out)
  have HB := Lib.hid (HB.out.trans (HBG.out.mono HB.out.size))
  go_loopw [12] (fun i wr => ∃ k : Nat, k ≤ 21 ∧ i = .int .i64 k ∧ Below wg.heap.size wg wr) (fun i _ => 21 - (intOf i).toNat)
  case atStart => exact ⟨0, Nat.zero_le _, rfl, Below.refl _ _⟩
  case round =>
    obtain ⟨k, hk, rfl, hb⟩ := hrel
    have HBB := Lib.hid hb
    by_cases hlt : k < 21
    · obtain ⟨ad, he1, c1⟩ := ints_at (HC1.out.below hb) (k := k) hlt
      obtain ⟨ad', he2, c2⟩ := ints_at (HC2.out.below hb) (k := k) hlt
      injection he1 with he1
      injection he2 with he2
      subst he1
      subst he2
      obtain ⟨P, hP⟩ : ∃ P, gotI[k]'hlt = P := ⟨_, rfl⟩
      rw [hP] at c1 c2
      clear hb hP
      go_wp2_with fail
      go_quiet (fail)
      go_wp2_with fail
      go_roundw
      case rel => exact ⟨k + 1, by omega, by go_num, below_drewN HBB.out _⟩
      case measure => simp [intOf]; omega
    · have HL := Lib.hid (HL.out.below hb)
      have HB := Lib.hid (HB.out.trans (hb.mono HB.out.size))
      clear hb
      go_wp2_with fail
      refine (holdO (legs := []) ki_k10 HL.out HB.out.size (by decide) none 0 (by decide) (Cells.nil _ _)).mono ?_
      rw [kf43]
      rintro e w46 ⟨rfl, hL, hb⟩
      have HL := Lib.hid hL
      have HB := Lib.hid (HB.out.trans hb)
      clear hL hb
      have hmk := mk21
      have HBA := Lib.hid fun o => HB.out.alloc HB.out.size o
      have HLA := Lib.hid fun o => HL.out.below ((Below.refl _ _).alloc (Nat.le_refl _) o)
      go_wp2_with fail
      refine (holdO (legs := zero21) ki_k10 (HLA.out _) (HBA.out _).size (by decide) (some ⟨_, 0, none⟩) 21 (by decide) (zero_in _)).mono ?_
      rw [kf44]
      rintro e w47 ⟨rfl, hL, hb⟩
      have HL := Lib.hid hL
      have HB := Lib.hid ((HBA.out _).trans hb)
      clear hL hb HBA HLA hmk
      have HBA := Lib.hid fun o => HB.out.alloc HB.out.size o
      have HLA := Lib.hid fun o => HL.out.below ((Below.refl _ _).alloc (Nat.le_refl _) o)
      go_wp2_with fail
      refine (holdO (legs := [⟨sZZ, sA, 1⟩]) ki_k10 (HLA.out _) (HBA.out _).size (by decide) (some ⟨_, 0, none⟩) 1 (by decide) (leg_one _ _)).mono ?_
      rw [kf45]
      rintro e w48 ⟨rfl, hL, hb⟩
      have HL := Lib.hid hL
      have HB := Lib.hid ((HBA.out _).trans hb)
      clear hL hb HBA HLA
      have HBA := Lib.hid fun o => HB.out.alloc HB.out.size o
      have HLA := Lib.hid fun o => HL.out.below ((Below.refl _ _).alloc (Nat.le_refl _) o)
      go_wp2_with fail
      refine (holdO (legs := [⟨sAB, sC, 1⟩]) ki_k10 (HLA.out _) (HBA.out _).size (by decide) (some ⟨_, 0, none⟩) 1 (by decide) (leg_one _ _)).mono ?_
      rw [kf46]
      rintro e w49 ⟨rfl, hL, hb⟩
      have HL := Lib.hid hL
      have HB := Lib.hid ((HBA.out _).trans hb)
      clear hL hb HBA HLA
      have HBA := Lib.hid fun o => HB.out.alloc HB.out.size o
      have HLA := Lib.hid fun o => HL.out.below ((Below.refl _ _).alloc (Nat.le_refl _) o)
      go_wp2_with fail
      refine (holdO (legs := [⟨sAB, sA, 0⟩]) ki_k10 (HLA.out _) (HBA.out _).size (by decide) (some ⟨_, 0, none⟩) 1 (by decide) (leg_one _ _)).mono ?_
      rw [kf47]
      rintro e w50 ⟨rfl, hL, hb⟩
      have HL := Lib.hid hL
      have HB := Lib.hid ((HBA.out _).trans hb)
      clear hL hb HBA HLA
      have HBA := Lib.hid fun o => HB.out.alloc HB.out.size o
      have HLA := Lib.hid fun o => HL.out.below ((Below.refl _ _).alloc (Nat.le_refl _) o)
      go_wp2_with fail
      refine (holdO (legs := [⟨sAB, sA, 30000⟩, ⟨sAB, sA, 10001⟩]) ki_k10 (HLA.out _) (HBA.out _).size (by decide) (some ⟨_, 0, none⟩) 2 (by decide) (leg_two _ _ _)).mono ?_
      rw [kf48]
      rintro e w51 ⟨rfl, hL, hb⟩
      have HL := Lib.hid hL
      have HB := Lib.hid ((HBA.out _).trans hb)
      clear hL hb HBA HLA
      go_wp2_with fail
      refine (totO ki_k10 HL.out).mono ?_
      rw [kf49]
      rintro e w52 ⟨rfl, hb⟩
      have HL := Lib.hid (HL.out.below hb)
      have HB := Lib.hid (HB.out.trans (hb.mono HB.out.size))
      clear hb
      go_wp2_with fail
      refine (many_any _).mono ?_
      rintro e wq0 ⟨rfl, hb⟩
      have HB := Lib.hid (HB.out.trans (hb.mono HB.out.size))
      clear hb
      go_wp2_with fail
      refine (nothing_any _).mono ?_
      rintro e wq1 ⟨rfl, hb⟩
      have HB := Lib.hid (HB.out.trans (hb.mono HB.out.size))
      clear hb
      go_wp2_with fail
      refine (works_any _).mono ?_
      rintro e wq2 ⟨rfl, hb⟩
      have HB := Lib.hid (HB.out.trans (hb.mono HB.out.size))
      clear hb
      go_wp2_with fail
      go_ret
      exact ⟨rfl, HB.out⟩
end Go.Proofs.Ytmlcojhanimnpaa

