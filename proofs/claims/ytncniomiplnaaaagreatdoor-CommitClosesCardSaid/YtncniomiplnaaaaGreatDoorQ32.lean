/- The statements' reckoning of sizes: locks. · SameLock at equal locks. -/
import Derived.Test.YtncniomiplnaaaaGreatDoorQ31
import Derived.Test.YtncniomiplnaaaaGreatDoorQ13
import Derived.StillTailTactics
namespace Go.Proofs.YtncniomiplnaaaaGreatDoor
open Go.RowKit

mutual
/-- Nothing is longer than memory bears. -/
def boundT : LockT → Prop
  | .node _ t _ l => t.size ≤ 1125899906842624 ∧ l.length ≤ 1125899906842624 ∧ boundTs l
def boundTs : List LockT → Prop
  | [] => True
  | x :: r => boundT x ∧ boundTs r
end
theorem boundTs_at : ∀ {l : List LockT}, boundTs l → ∀ (k : Nat) (hk : k < l.length), boundT l[k]
  | [], _, k, hk => absurd hk (by simp)
  | x :: r, h, 0, _ => by unfold boundTs at h; exact h.1
  | x :: r, h, k + 1, hk => by unfold boundTs at h; exact boundTs_at h.2 k (by simpa using hk)
theorem boundT_parts {x : LockT} (h : boundT x) : x.term.size ≤ 1125899906842624 ∧ x.kids.length ≤ 1125899906842624 ∧ boundTs x.kids := by
  cases x with
  | node k t n l => unfold boundT at h; exact h
theorem quo64 (m : Nat) : (m : Int).tdiv 64 = (m : Int) / 64 := Int.tdiv_eq_ediv_of_nonneg (by omega)
set_option maxRecDepth 100000 in
set_option maxHeartbeats 8000000 in
theorem lsize_step (k : Int) (t : ByteArray) (n : Int) (l : List LockT) (A : Option Addr) (cap : Nat) (xs : List Value) (top : Int) (w : World) (hr0 : 0 ≤ top) (hr1 : top ≤ 1000) (hsz : t.size ≤ 1125899906842624) (hll : l.length ≤ 1125899906842624) (hc : Cells w A xs) (hl : LocksC w l xs)
    (HK : ∀ (i : Nat) (hi : i < l.length) (W : World) (cs : List Value), LockC W l[i] cs → Calls Tryz.prog 32 #[.agg cs.toArray, .int .i64 top] W fun e w' => e = .returned (.int .i64 (lsizeT l[i] top)) ∧ Below W.heap.size W w') :
    Calls Tryz.prog 32 #[.agg #[.int .u8 k, .string t, .int .i64 n, .slice A l.length cap], .int .i64 top] w fun e w' => e = .returned (.int .i64 (lsizeT (.node k t n l) top)) ∧ Below w.heap.size w w' := by
  have hbA : Below w.heap.size w (w.alloc (.cells #[.int .u8 k, .string t, .int .i64 n, .slice A l.length cap] 55)) := (Below.refl _ _).alloc (Nat.le_refl _) _
  have q1 : (w.alloc (.cells #[.int .u8 k, .string t, .int .i64 n, .slice A l.length cap] 55)).cell? ⟨w.heap.size, 1, none⟩ = some (.string t) := alloc_cells 1 _ rfl
  have q3 : (w.alloc (.cells #[.int .u8 k, .string t, .int .i64 n, .slice A l.length cap] 55)).cell? ⟨w.heap.size, 3, none⟩ = some (.slice A l.length cap) := alloc_cells 3 _ rfl
  have HB := Lib.hid hbA
  have HQ := Lib.hid q3
  obtain ⟨R, hR⟩ : ∃ R, lsizeT (.node k t n l) top = R := ⟨_, rfl⟩
  rw [hR]
  obtain ⟨S, hS⟩ : ∃ S, lsizeTs l top (1 + (t.size : Int) / 64) = S := ⟨_, rfl⟩
  have HR := Lib.hid (show R = min S (top + 1) by rw [← hR, ← hS]; unfold lsizeT; rfl)
  have HS := Lib.hid hS
  have HKK := Lib.hid HK
  have HC := Lib.hid hc
  have HL := Lib.hid hl
  obtain ⟨z, hz⟩ : ∃ z : Int, (t.size : Int).tdiv 64 = z := ⟨_, rfl⟩
  have hz0 : 0 ≤ z ∧ z ≤ 1125899906842624 := by rw [← hz, quo64]; omega
  have HS := Lib.hid (show lsizeTs l top (1 + z) = S by rw [← hz, quo64]; exact HS.out)
  have HZ := Lib.hid hz
  clear hR HK hc hl hbA hS hz
  go_enter Tryz.func32, Tryz.ntmps32
  go_wp2_with fail
  try rw [HZ.out]
  go_loopw [6, 5] (fun i m wr => ∃ (j : Nat) (c : Int), j ≤ l.length ∧ i = .int .i64 (j : Int) ∧ m = .int .i64 c ∧ 1 ≤ c ∧ c ≤ 4503599627370496 ∧ lsizeTs (l.drop j) top c = S ∧ Below (w.alloc (.cells #[.int .u8 k, .string t, .int .i64 n, .slice A l.length cap] 55)).heap.size (w.alloc (.cells #[.int .u8 k, .string t, .int .i64 n, .slice A l.length cap] 55)) wr) (fun i _ _ => l.length - (intOf i).toNat)
  case atStart => exact ⟨0, 1 + z, Nat.zero_le _, rfl, by first | rfl | rw [HZ.out] | (rw [← HZ.out]; go_num), by omega, by omega, by rw [List.drop_zero]; exact HS.out, Below.refl _ _⟩
  case round =>
    obtain ⟨j, c, hj, rfl, rfl, hc1, hc2, hrest, hbr⟩ := hrel
    have c3 := cell_below hbr HQ.out
    have HBR := Lib.hid (HB.out.trans (hbr.mono HB.out.size))
    have HBR2 := Lib.hid hbr
    clear q1
    by_cases hlt : j < l.length
    · by_cases htop : c ≤ top
      · have g1 : decide (c ≤ top) = true := decide_eq_true htop
        have hbr0 := HBR.out
        obtain ⟨ad, B, cp, rfl, d0, d1, d2, d3, hlk⟩ := lock_at (Cells.below HC.out hbr0) (LocksC.below hbr0 l xs HL.out) hlt
        have hcall := HKK.out j hlt wr _ hlk
        have hdrop : l.drop j = l[j] :: l.drop (j + 1) := List.drop_eq_getElem_cons hlt
        rw [hdrop, lsizeTs_next htop] at hrest
        have hcl := lsizeT_ge l[j] top hr0
        obtain ⟨p, hp⟩ : ∃ p, lsizeT l[j] top = p := ⟨_, rfl⟩
        rw [hp] at hcall hrest hcl
        have HREST := Lib.hid hrest
        have HCALL := Lib.hid hcall
        clear hcall hp hrest hdrop hlk hbr hbr0 q3
        go_wp2_with fail
        refine HCALL.out.mono ?_
        rintro e w1 ⟨rfl, hb1⟩
        have HB1 := Lib.hid (HBR2.out.trans (hb1.mono HBR2.out.size))
        clear hb1
        go_wp2_with fail
        go_roundw
        case rel => exact ⟨j + 1, c + p, by omega, by go_num, rfl, by omega, by omega, HREST.out, HB1.out⟩
        case measure => simp [intOf]; omega
      · have g1 : decide (c ≤ top) = false := decide_eq_false htop
        have HN := Lib.hid (show R = min c (top + 1) by rw [HR.out, ← hrest, lsizeTs_stop htop])
        clear hrest hbr q3
        go_wp2_with fail
        go_ret
        rw [HN.out]
        refine ⟨?_, HBR.out⟩
        all_goals first | rfl | (simp; done) | (simp; omega)
    · have HN := Lib.hid (show R = min c (top + 1) by rw [HR.out, ← hrest, List.drop_of_length_le (by omega)]; unfold lsizeTs; rfl)
      have gj : decide ((j : Int) < (l.length : Int)) = false := decide_eq_false (by omega)
      clear hrest hbr q3
      go_wp2_with fail
      go_ret
      rw [HN.out]
      refine ⟨?_, HBR.out⟩
      all_goals first | rfl | (simp; done) | (simp; omega)
theorem lsize_all : ∀ (m : Nat) (x : LockT) (cs : List Value) (top : Int) (w : World), sizeT x ≤ m → boundT x → 0 ≤ top → top ≤ 1000 → LockC w x cs → Calls Tryz.prog 32 #[.agg cs.toArray, .int .i64 top] w fun e w' => e = .returned (.int .i64 (lsizeT x top)) ∧ Below w.heap.size w w'
  | 0, x, _, _, _, hm, _, _, _, _ => absurd (sizeT_pos x) (by omega)
  | m + 1, .node k t n l, cs, top, w, hm, hs, hr0, hr1, hc => by
    unfold LockC at hc
    obtain ⟨A, cap, xs, rfl, h2, h3⟩ := hc
    obtain ⟨s1, s2, s3⟩ := boundT_parts hs
    exact lsize_step k t n l A cap xs top w hr0 hr1 s1 s2 h2 h3 fun i hi W cs g2 =>
      lsize_all m l[i] cs top W (by have := sizeTs_at i hi; have e := sizeT_kids (.node k t n l); simp only [LockT.kids] at e; omega) (boundTs_at s3 i hi) hr0 hr1 g2
end Go.Proofs.YtncniomiplnaaaaGreatDoor

namespace Go.Proofs.YtncniomiplnaaaaGreatDoor
open Go.RowKit

set_option maxRecDepth 100000 in
set_option maxHeartbeats 8000000 in
theorem same_step (k : Int) (t : ByteArray) (n : Int) (l : List LockT) (A B : Option Addr) (ca cb : Nat) (xs ys : List Value) (w : World) (hll : l.length ≤ 1000000) (hcx : Cells w A xs) (hlx : LocksC w l xs) (hcy : Cells w B ys) (hly : LocksC w l ys)
    (HK : ∀ (i : Nat) (hi : i < l.length) (W : World) (cs ds : List Value), LockC W l[i] cs → LockC W l[i] ds → Calls Tryz.prog 20 #[.agg cs.toArray, .agg ds.toArray] W fun e w' => e = .returned (.bool true) ∧ Below W.heap.size W w') :
    Calls Tryz.prog 20 #[.agg #[.int .u8 k, .string t, .int .i64 n, .slice A l.length ca], .agg #[.int .u8 k, .string t, .int .i64 n, .slice B l.length cb]] w fun e w' => e = .returned (.bool true) ∧ Below w.heap.size w w' := by
  have hbA : Below w.heap.size w (w.alloc (.cells #[.int .u8 k, .string t, .int .i64 n, .slice A l.length ca] 55)) := (Below.refl _ _).alloc (Nat.le_refl _) _
  have hbB : Below (w.alloc (.cells #[.int .u8 k, .string t, .int .i64 n, .slice A l.length ca] 55)).heap.size (w.alloc (.cells #[.int .u8 k, .string t, .int .i64 n, .slice A l.length ca] 55)) ((w.alloc (.cells #[.int .u8 k, .string t, .int .i64 n, .slice A l.length ca] 55)).alloc (.cells #[.int .u8 k, .string t, .int .i64 n, .slice B l.length cb] 55)) := (Below.refl _ _).alloc (Nat.le_refl _) _
  have p0 : ((w.alloc (.cells #[.int .u8 k, .string t, .int .i64 n, .slice A l.length ca] 55)).alloc (.cells #[.int .u8 k, .string t, .int .i64 n, .slice B l.length cb] 55)).cell? ⟨w.heap.size, 0, none⟩ = some (.int .u8 k) := cell_below hbB (alloc_cells 0 _ rfl)
  have p1 : ((w.alloc (.cells #[.int .u8 k, .string t, .int .i64 n, .slice A l.length ca] 55)).alloc (.cells #[.int .u8 k, .string t, .int .i64 n, .slice B l.length cb] 55)).cell? ⟨w.heap.size, 1, none⟩ = some (.string t) := cell_below hbB (alloc_cells 1 _ rfl)
  have p2 : ((w.alloc (.cells #[.int .u8 k, .string t, .int .i64 n, .slice A l.length ca] 55)).alloc (.cells #[.int .u8 k, .string t, .int .i64 n, .slice B l.length cb] 55)).cell? ⟨w.heap.size, 2, none⟩ = some (.int .i64 n) := cell_below hbB (alloc_cells 2 _ rfl)
  have p3 : ((w.alloc (.cells #[.int .u8 k, .string t, .int .i64 n, .slice A l.length ca] 55)).alloc (.cells #[.int .u8 k, .string t, .int .i64 n, .slice B l.length cb] 55)).cell? ⟨w.heap.size, 3, none⟩ = some (.slice A l.length ca) := cell_below hbB (alloc_cells 3 _ rfl)
  have hsz : (w.alloc (.cells #[.int .u8 k, .string t, .int .i64 n, .slice A l.length ca] 55)).heap.size = w.heap.size + 1 := by simp
  have q0 : ((w.alloc (.cells #[.int .u8 k, .string t, .int .i64 n, .slice A l.length ca] 55)).alloc (.cells #[.int .u8 k, .string t, .int .i64 n, .slice B l.length cb] 55)).cell? ⟨w.heap.size + 1, 0, none⟩ = some (.int .u8 k) := by rw [← hsz]; exact alloc_cells 0 _ rfl
  have q1 : ((w.alloc (.cells #[.int .u8 k, .string t, .int .i64 n, .slice A l.length ca] 55)).alloc (.cells #[.int .u8 k, .string t, .int .i64 n, .slice B l.length cb] 55)).cell? ⟨w.heap.size + 1, 1, none⟩ = some (.string t) := by rw [← hsz]; exact alloc_cells 1 _ rfl
  have q2 : ((w.alloc (.cells #[.int .u8 k, .string t, .int .i64 n, .slice A l.length ca] 55)).alloc (.cells #[.int .u8 k, .string t, .int .i64 n, .slice B l.length cb] 55)).cell? ⟨w.heap.size + 1, 2, none⟩ = some (.int .i64 n) := by rw [← hsz]; exact alloc_cells 2 _ rfl
  have q3 : ((w.alloc (.cells #[.int .u8 k, .string t, .int .i64 n, .slice A l.length ca] 55)).alloc (.cells #[.int .u8 k, .string t, .int .i64 n, .slice B l.length cb] 55)).cell? ⟨w.heap.size + 1, 3, none⟩ = some (.slice B l.length cb) := by rw [← hsz]; exact alloc_cells 3 _ rfl
  have HB := Lib.hid (hbA.trans (hbB.mono hbA.size))
  have P3 := Lib.hid p3
  have Q3 := Lib.hid q3
  have HKK := Lib.hid HK
  have HCX := Lib.hid hcx
  have HLX := Lib.hid hlx
  have HCY := Lib.hid hcy
  have HLY := Lib.hid hly
  clear HK hcx hlx hcy hly hbA hbB hsz
  go_enter Tryz.func20, Tryz.ntmps20
  go_wp2_with fail
  go_loopw [5] (fun i wr => ∃ (j : Nat), j ≤ l.length ∧ i = .int .i64 (j : Int) ∧ Below ((w.alloc (.cells #[.int .u8 k, .string t, .int .i64 n, .slice A l.length ca] 55)).alloc (.cells #[.int .u8 k, .string t, .int .i64 n, .slice B l.length cb] 55)).heap.size ((w.alloc (.cells #[.int .u8 k, .string t, .int .i64 n, .slice A l.length ca] 55)).alloc (.cells #[.int .u8 k, .string t, .int .i64 n, .slice B l.length cb] 55)) wr) (fun i _ => l.length - (intOf i).toNat)
  case atStart => exact ⟨0, Nat.zero_le _, rfl, Below.refl _ _⟩
  case round =>
    obtain ⟨j, hj, rfl, hbr⟩ := hrel
    have c3 := cell_below hbr P3.out
    have d3 := cell_below hbr Q3.out
    have HBR := Lib.hid (HB.out.trans (hbr.mono HB.out.size))
    have HBR2 := Lib.hid hbr
    clear p0 p1 p2 p3 q0 q1 q2 q3
    by_cases hlt : j < l.length
    · have hbr0 := HBR.out
      obtain ⟨ad, C, cp, rfl, x0, x1, x2, x3, hlk⟩ := lock_at (Cells.below HCX.out hbr0) (LocksC.below hbr0 l xs HLX.out) hlt
      obtain ⟨bd, D, cq, rfl, y0, y1, y2, y3, hlm⟩ := lock_at (Cells.below HCY.out hbr0) (LocksC.below hbr0 l ys HLY.out) hlt
      have hbd : Below wr.heap.size wr wr.drew := (Below.refl _ _).drew
      have HG := Lib.hid (HKK.out j hlt wr.drew _ _ (LockC.below hbd _ _ hlk) (LockC.below hbd _ _ hlm))
      have HBD := Lib.hid (HBR2.out.drew)
      clear hlk hlm hbr hbr0 hbd
      go_upto_region 6 with fail
      go_still_tail 10, (by kernel_rfl)
      change wpList _ _ _ _ _ wr.drew
      generalize hdr : wr.drew = wd at HG HBD ⊢
      go_wp2_with (go_at_call 20; refine HG.out.mono ?_; rintro e w1 ⟨rfl, hb1⟩)
      have HB1 := Lib.hid (HBD.out.trans (hb1.mono HBD.out.size))
      clear hb1 hdr
      go_wp2_with fail
      go_roundw
      case rel => exact ⟨j + 1, by omega, by go_num, HB1.out⟩
      case measure => simp [intOf]; omega
    · have gj : decide ((j : Int) < (l.length : Int)) = false := decide_eq_false (by omega)
      clear hbr
      go_wp2_with fail
      go_ret
      exact ⟨rfl, HBR.out⟩
theorem same_all : ∀ (m : Nat) (x : LockT) (cs ds : List Value) (w : World), sizeT x ≤ m → smallT x → LockC w x cs → LockC w x ds → Calls Tryz.prog 20 #[.agg cs.toArray, .agg ds.toArray] w fun e w' => e = .returned (.bool true) ∧ Below w.heap.size w w'
  | 0, x, _, _, _, hm, _, _, _ => absurd (sizeT_pos x) (by omega)
  | m + 1, .node k t n l, cs, ds, w, hm, hs, hc, hd => by
    unfold LockC at hc hd
    obtain ⟨A, ca, xs, rfl, h2, h3⟩ := hc
    obtain ⟨B, cb, ys, rfl, g2, g3⟩ := hd
    obtain ⟨s1, s2, s3⟩ := smallT_parts hs
    exact same_step k t n l A B ca cb xs ys w s2 h2 h3 g2 g3 fun i hi W cs ds a b =>
      same_all m l[i] cs ds W (by have := sizeTs_at i hi; have e := sizeT_kids (.node k t n l); simp only [LockT.kids] at e; omega) (smallTs_at s3 i hi) a b
theorem sameLock_eq (x : LockT) (cs ds : List Value) (w : World) (hs : smallT x) (hc : LockC w x cs) (hd : LockC w x ds) : Calls Tryz.prog 20 #[.agg cs.toArray, .agg ds.toArray] w fun e w' => e = .returned (.bool true) ∧ Below w.heap.size w w' :=
  same_all (sizeT x) x cs ds w (Nat.le_refl _) hs hc hd
end Go.Proofs.YtncniomiplnaaaaGreatDoor
