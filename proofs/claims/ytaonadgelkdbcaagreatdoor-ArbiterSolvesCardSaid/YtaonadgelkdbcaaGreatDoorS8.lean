/- The document's ways: one of many. · The document's claims joined: what the rows of terms become. -/
import Derived.Test.YtaonadgelkdbcaaGreatDoorQ16
import Derived.Test.YtaonadgelkdbcaaGreatDoorS7
import Derived.Test.YtaonadgelkdbcaaGreatDoorQ17
namespace Go.Proofs.YtaonadgelkdbcaaGreatDoor
open Go.RowKit

set_option maxRecDepth 100000 in
set_option maxHeartbeats 8000000 in
theorem rway_any (t : ByteArray) (n : Int) (l : List LockT) (A : Option Addr) (cap : Nat) (xs : List Value) (SA PA : Option Addr) (sc pc0 : Nat) (ks ps : List ByteArray) (w : World) (hll : l.length ≤ 1000) (hc : Cells w A xs) (hl : LocksC w l xs) (he : Cells w SA (strs ks)) (hp : Cells w PA (strs ps)) (hv : VarsOk w)
    (HW : ∀ (i : Nat) (hi : i < l.length) (W : World) (cs : List Value), LockC W l[i] cs → Cells W SA (strs ks) → Cells W PA (strs ps) → VarsOk W → Calls Tryz.prog 27 #[.agg cs.toArray, .slice SA ks.length sc, .slice PA ps.length pc0] W (WayP (wayT ks ps l[i]) W)) :
    Calls Tryz.prog 27 #[.agg #[.int .u8 6, .string t, .int .i64 n, .slice A l.length cap], .slice SA ks.length sc, .slice PA ps.length pc0] w (WayP (anyTs ks ps l none) w) := by
  have hb0 : Below w.heap.size w (w.alloc (.cells #[.int .u8 6, .string t, .int .i64 n, .slice A l.length cap] 32)) := (Below.refl _ _).alloc (Nat.le_refl _) _
  have hb1 : Below w.heap.size w ((w.alloc (.cells #[.int .u8 6, .string t, .int .i64 n, .slice A l.length cap] 32)).alloc (.cells #[.int .i64 0, .int .i64 0, .int .u8 0, .string ⟨#[]⟩, .int .i64 0, .slice none 0 0, .int .i64 0, .int .i64 0, (.slice none 0 0), (.slice none 0 0)] 39)) := hb0.alloc (by simp) _
  have hb2 : Below w.heap.size w (((w.alloc (.cells #[.int .u8 6, .string t, .int .i64 n, .slice A l.length cap] 32)).alloc (.cells #[.int .i64 0, .int .i64 0, .int .u8 0, .string ⟨#[]⟩, .int .i64 0, .slice none 0 0, .int .i64 0, .int .i64 0, (.slice none 0 0), (.slice none 0 0)] 39)).alloc (.cells #[.int .i64 0, .int .i64 0, .int .u8 0, .string ⟨#[]⟩, .int .i64 0, .slice none 0 0, .int .i64 0, .int .i64 0, (.slice none 0 0), (.slice none 0 0)] 39)) := hb1.alloc (by simp; omega) _
  have q0 : (((w.alloc (.cells #[.int .u8 6, .string t, .int .i64 n, .slice A l.length cap] 32)).alloc (.cells #[.int .i64 0, .int .i64 0, .int .u8 0, .string ⟨#[]⟩, .int .i64 0, .slice none 0 0, .int .i64 0, .int .i64 0, (.slice none 0 0), (.slice none 0 0)] 39)).alloc (.cells #[.int .i64 0, .int .i64 0, .int .u8 0, .string ⟨#[]⟩, .int .i64 0, .slice none 0 0, .int .i64 0, .int .i64 0, (.slice none 0 0), (.slice none 0 0)] 39)).cell? ⟨w.heap.size, 0, none⟩ = some (.int .u8 6) := cell_below ((Below.refl _ _).alloc (Nat.le_refl _) _) (cell_below ((Below.refl _ _).alloc (Nat.le_refl _) _) (alloc_cells 0 _ rfl : (w.alloc (.cells #[.int .u8 6, .string t, .int .i64 n, .slice A l.length cap] 32)).cell? ⟨w.heap.size, 0, none⟩ = some (.int .u8 6)))
  have q3 : (((w.alloc (.cells #[.int .u8 6, .string t, .int .i64 n, .slice A l.length cap] 32)).alloc (.cells #[.int .i64 0, .int .i64 0, .int .u8 0, .string ⟨#[]⟩, .int .i64 0, .slice none 0 0, .int .i64 0, .int .i64 0, (.slice none 0 0), (.slice none 0 0)] 39)).alloc (.cells #[.int .i64 0, .int .i64 0, .int .u8 0, .string ⟨#[]⟩, .int .i64 0, .slice none 0 0, .int .i64 0, .int .i64 0, (.slice none 0 0), (.slice none 0 0)] 39)).cell? ⟨w.heap.size, 3, none⟩ = some (.slice A l.length cap) := cell_below ((Below.refl _ _).alloc (Nat.le_refl _) _) (cell_below ((Below.refl _ _).alloc (Nat.le_refl _) _) (alloc_cells 3 _ rfl : (w.alloc (.cells #[.int .u8 6, .string t, .int .i64 n, .slice A l.length cap] 32)).cell? ⟨w.heap.size, 3, none⟩ = some (.slice A l.length cap)))
  have hz1 : RClaimAt ((w.alloc (.cells #[.int .u8 6, .string t, .int .i64 n, .slice A l.length cap] 32)).alloc (.cells #[.int .i64 0, .int .i64 0, .int .u8 0, .string ⟨#[]⟩, .int .i64 0, .slice none 0 0, .int .i64 0, .int .i64 0, (.slice none 0 0), (.slice none 0 0)] 39)) (w.heap.size + 1) 0 0 (.slice none 0 0) (.slice none 0 0) := by
    have h := Go.heap_alloc_new (w.alloc (.cells #[.int .u8 6, .string t, .int .i64 n, .slice A l.length cap] 32)) (.cells #[.int .i64 0, .int .i64 0, .int .u8 0, .string ⟨#[]⟩, .int .i64 0, .slice none 0 0, .int .i64 0, .int .i64 0, (.slice none 0 0), (.slice none 0 0)] 39)
    rw [show (w.alloc (.cells #[.int .u8 6, .string t, .int .i64 n, .slice A l.length cap] 32)).heap.size = w.heap.size + 1 by simp] at h
    exact h
  have hz2 : RClaimAt (((w.alloc (.cells #[.int .u8 6, .string t, .int .i64 n, .slice A l.length cap] 32)).alloc (.cells #[.int .i64 0, .int .i64 0, .int .u8 0, .string ⟨#[]⟩, .int .i64 0, .slice none 0 0, .int .i64 0, .int .i64 0, (.slice none 0 0), (.slice none 0 0)] 39)).alloc (.cells #[.int .i64 0, .int .i64 0, .int .u8 0, .string ⟨#[]⟩, .int .i64 0, .slice none 0 0, .int .i64 0, .int .i64 0, (.slice none 0 0), (.slice none 0 0)] 39)) (w.heap.size + 1 + 1) 0 0 (.slice none 0 0) (.slice none 0 0) := by
    have h := Go.heap_alloc_new ((w.alloc (.cells #[.int .u8 6, .string t, .int .i64 n, .slice A l.length cap] 32)).alloc (.cells #[.int .i64 0, .int .i64 0, .int .u8 0, .string ⟨#[]⟩, .int .i64 0, .slice none 0 0, .int .i64 0, .int .i64 0, (.slice none 0 0), (.slice none 0 0)] 39)) (.cells #[.int .i64 0, .int .i64 0, .int .u8 0, .string ⟨#[]⟩, .int .i64 0, .slice none 0 0, .int .i64 0, .int .i64 0, (.slice none 0 0), (.slice none 0 0)] 39)
    rw [show ((w.alloc (.cells #[.int .u8 6, .string t, .int .i64 n, .slice A l.length cap] 32)).alloc (.cells #[.int .i64 0, .int .i64 0, .int .u8 0, .string ⟨#[]⟩, .int .i64 0, .slice none 0 0, .int .i64 0, .int .i64 0, (.slice none 0 0), (.slice none 0 0)] 39)).heap.size = w.heap.size + 1 + 1 by simp] at h
    exact h
  have HB := Lib.hid hb2
  have HZ := Lib.hid (hz1.below ((Below.refl _ _).alloc (Nat.le_refl _) _) : RClaimAt (((w.alloc (.cells #[.int .u8 6, .string t, .int .i64 n, .slice A l.length cap] 32)).alloc (.cells #[.int .i64 0, .int .i64 0, .int .u8 0, .string ⟨#[]⟩, .int .i64 0, .slice none 0 0, .int .i64 0, .int .i64 0, (.slice none 0 0), (.slice none 0 0)] 39)).alloc (.cells #[.int .i64 0, .int .i64 0, .int .u8 0, .string ⟨#[]⟩, .int .i64 0, .slice none 0 0, .int .i64 0, .int .i64 0, (.slice none 0 0), (.slice none 0 0)] 39)) (w.heap.size + 1) 0 0 (.slice none 0 0) (.slice none 0 0))
  have HBE := Lib.hid hz2
  have HC := Lib.hid hc
  have HL := Lib.hid hl
  have HE := Lib.hid he
  have HV := Lib.hid hv
  have HPS := Lib.hid hp
  have HWW := Lib.hid HW
  have hk0 : BoxAt (w.alloc (.cells #[.int .u8 6, .string t, .int .i64 n, .slice A l.length cap] 32)) w.heap.size 6 t n A l.length cap := Go.heap_alloc_new w _
  have Q0 := Lib.hid (show BoxAt (((w.alloc (.cells #[.int .u8 6, .string t, .int .i64 n, .slice A l.length cap] 32)).alloc (.cells #[.int .i64 0, .int .i64 0, .int .u8 0, .string ⟨#[]⟩, .int .i64 0, .slice none 0 0, .int .i64 0, .int .i64 0, (.slice none 0 0), (.slice none 0 0)] 39)).alloc (.cells #[.int .i64 0, .int .i64 0, .int .u8 0, .string ⟨#[]⟩, .int .i64 0, .slice none 0 0, .int .i64 0, .int .i64 0, (.slice none 0 0), (.slice none 0 0)] 39)) w.heap.size 6 t n A l.length cap from (hk0.below ((Below.refl _ _).alloc (Nat.le_refl _) _)).below ((Below.refl _ _).alloc (Nat.le_refl _) _))
  clear hk0
  obtain ⟨R, hR⟩ : ∃ R, anyTs ks ps l none = R := ⟨_, rfl⟩
  rw [hR]
  have HR := Lib.hid hR
  clear hb0 hb1 hb2 hz1 hz2 hc hl he hp hv HW hR
  go_enter Tryz.func27, Tryz.ntmps27
  go_wp2_with fail
  go_loopw [16, 15] (fun i f wr => ∃ (j : Nat) (o : Option ClaimR) (K : Option Addr) (kc : Nat) (P : Option Addr) (pc : Nat), j ≤ l.length ∧ i = .int .i64 (j : Int) ∧ f = .bool o.isSome ∧ anyTs ks ps (l.drop j) o = R ∧ RClaimAt wr (w.heap.size + 1) 0 0 (.slice none 0 0) (.slice none 0 0) ∧ RClaimAt wr (w.heap.size + 1 + 1) (o.getD claim0).after (o.getD claim0).age (.slice K (o.getD claim0).keys.length kc) (.slice P (o.getD claim0).pres.length pc) ∧ Row wr w.heap.size 29 (.slice K (o.getD claim0).keys.length kc) (strs (o.getD claim0).keys) ∧ Row wr w.heap.size 29 (.slice P (o.getD claim0).pres.length pc) (strs (o.getD claim0).pres) ∧ ((Value.slice K (o.getD claim0).keys.length kc).ownBlock = none ∨ (Value.slice K (o.getD claim0).keys.length kc).ownBlock ≠ (Value.slice P (o.getD claim0).pres.length pc).ownBlock) ∧ BoxAt wr w.heap.size 6 t n A l.length cap ∧ Below w.heap.size w wr) (fun i _ _ => l.length - (intOf i).toNat)
  case atStart => exact ⟨0, none, none, 0, none, 0, Nat.zero_le _, rfl, rfl, by rw [List.drop_zero]; exact HR.out, HZ.out, HBE.out, Row.nil _ _ _, Row.nil _ _ _, .inl rfl, Q0.out, HB.out⟩
  case round =>
    obtain ⟨j, o, K, kc, P, pc, hj, rfl, rfl, hrest, hzz, hbest, hrk, hrp, hap, hq0, hbel⟩ := hrel
    obtain ⟨q0, q1, q2, q3⟩ := hq0.cells
    clear HZ HBE HB Q0
    by_cases hlt : j < l.length
    · obtain ⟨ad, B, cp, rfl, d0, d1, d2, d3, hlk⟩ := lock_at (Cells.below HC.out hbel) (LocksC.below hbel l xs HL.out) hlt
      have hbe : Below wr.heap.size wr wr := Below.refl _ _
      have hbw := hbel.trans (hbe.mono hbel.size)
      have hcall := HWW.out j hlt wr _ (LockC.below hbe _ _ hlk) (Cells.below HE.out hbw) (Cells.below HPS.out hbw) (HV.out.below hbw)
      have HB1 := Lib.hid hbw
      have HZ1 := Lib.hid (hzz.below hbe)
      have HBE1 := Lib.hid (hbest.below hbe)
      have HK1 := Lib.hid (hrk.below hbe)
      have HP1 := Lib.hid (hrp.below hbe)
      have HAP := Lib.hid hap
      have hdrop : l.drop j = l[j] :: l.drop (j + 1) := List.drop_eq_getElem_cons hlt
      rw [hdrop] at hrest
      have HREST := Lib.hid hrest
      have HQ1 := Lib.hid (hq0.below hbe)
      clear hlk hbe hbw hzz hbest hrk hrp hap hdrop hrest hbel hq0
      unfold WayP at hcall
      cases hq : wayT ks ps l[j] with
      | none =>
        rw [hq] at hcall
        simp only at hcall
        unfold claimV at hcall
        have HCALL := Lib.hid hcall
        have HN := Lib.hid (show anyTs ks ps (l.drop (j + 1)) o = R by rw [← HREST.out]; exact (any_skip ks ps (l.drop (j + 1)) o hq).symm)
        clear hcall hq
        go_wp2_with fail
        refine HCALL.out.mono ?_
        rintro e w1 ⟨K2, kc2, P2, pc2, rfl, hb1⟩
        have hbx : Below w1.heap.size w1 (w1.alloc (.cells #[.int .i64 0, .int .i64 0, .int .u8 0, .string ⟨#[]⟩, .int .i64 0, .slice none 0 0, .int .i64 0, .int .i64 0, (.slice K2 0 kc2), (.slice P2 0 pc2)] 39)) := (Below.refl _ _).alloc (Nat.le_refl _) _
        have hb12 := hb1.trans (hbx.mono hb1.size)
        have HB2 := Lib.hid (HB1.out.trans (hb12.mono HB1.out.size))
        have HZ2 := Lib.hid (HZ1.out.below hb12)
        have HBE2 := Lib.hid (HBE1.out.below hb12)
        have HK2 := Lib.hid (HK1.out.below hb12)
        have HP2 := Lib.hid (HP1.out.below hb12)
        have HQ2 := Lib.hid (HQ1.out.below hb12)
        obtain ⟨qa, qb, qc, qd⟩ := HQ2.out.cells
        clear hbx hb12 hb1
        cases o with
        | none =>
          go_wp2_with fail
          go_roundw
          case rel => exact ⟨j + 1, none, K, kc, P, pc, by omega, by go_num, rfl, HN.out, HZ2.out, HBE2.out, HK2.out, HP2.out, HAP.out, HQ2.out, HB2.out⟩
          case measure => simp [intOf]; omega
        | some o =>
          go_wp2_with fail
          go_roundw
          case rel => exact ⟨j + 1, some o, K, kc, P, pc, by omega, by go_num, rfl, HN.out, HZ2.out, HBE2.out, HK2.out, HP2.out, HAP.out, HQ2.out, HB2.out⟩
          case measure => simp [intOf]; omega
      | some c =>
        rw [hq] at hcall
        simp only at hcall
        unfold claimV at hcall
        have HCALL := Lib.hid hcall
        have HNX := Lib.hid (any_next ks ps (l.drop (j + 1)) o hq HREST.out)
        clear hcall hq
        go_wp2_with fail
        refine HCALL.out.mono ?_
        rintro e w1 ⟨K2, kc2, P2, pc2, rfl, hck, hcp, hca, hb1⟩
        have hbx : Below w1.heap.size w1 (w1.alloc (.cells #[.int .i64 0, .int .i64 0, .int .u8 0, .string ⟨#[]⟩, .int .i64 0, .slice none 0 0, .int .i64 c.after, .int .i64 c.age, (.slice K2 c.keys.length kc2), (.slice P2 c.pres.length pc2)] 39)) := (Below.refl _ _).alloc (Nat.le_refl _) _
        have hb12 := hb1.trans (hbx.mono hb1.size)
        have HB2 := Lib.hid (HB1.out.trans (hb12.mono HB1.out.size))
        have HZ2 := Lib.hid (HZ1.out.below hb12)
        have HBE2 := Lib.hid (HBE1.out.below hb12)
        have HK2 := Lib.hid (HK1.out.below hb12)
        have HP2 := Lib.hid (HP1.out.below hb12)
        have HQ2 := Lib.hid (HQ1.out.below hb12)
        obtain ⟨qa, qb, qc, qd⟩ := HQ2.out.cells
        have HCK := Lib.hid ((hck.base_le (Nat.le_trans HB1.out.size (Nat.le_refl _))).below hbx)
        have HCP := Lib.hid ((hcp.base_le (Nat.le_trans HB1.out.size (Nat.le_refl _))).below hbx)
        have HCA := Lib.hid hca
        have hcx : RClaimAt (w1.alloc (.cells #[.int .i64 0, .int .i64 0, .int .u8 0, .string ⟨#[]⟩, .int .i64 0, .slice none 0 0, .int .i64 c.after, .int .i64 c.age, (.slice K2 c.keys.length kc2), (.slice P2 c.pres.length pc2)] 39)) w1.heap.size c.after c.age (.slice K2 c.keys.length kc2) (.slice P2 c.pres.length pc2) := Go.heap_alloc_new w1 _
        obtain ⟨x0, x1, x2, x3, x4, x5, x6, x7, x8, x9, -⟩ := hcx.cells
        obtain ⟨b0, b1, b2, b3, b4, b5, b6, b7, b8, b9, bf⟩ := HBE2.out.cells
        clear hbx hb12 hb1 hck hcp hca hcx
        cases o with
        | none =>
          have HN := Lib.hid (show anyTs ks ps (l.drop (j + 1)) (some c) = R from HNX.out)
          go_wp2_with fail
          go_roundw
          case rel =>
            have hFF := put10_fr (w1.alloc (.cells #[.int .i64 0, .int .i64 0, .int .u8 0, .string ⟨#[]⟩, .int .i64 0, .slice none 0 0, .int .i64 c.after, .int .i64 c.age, (.slice K2 c.keys.length kc2), (.slice P2 c.pres.length pc2)] 39)) (w.heap.size + 1 + 1) (.int .i64 0) (.int .i64 0) (.int .u8 0) (.string ⟨#[]⟩) (.int .i64 0) (.slice none 0 0) (.int .i64 c.after) (.int .i64 c.age) (.slice K2 c.keys.length kc2) (.slice P2 c.pres.length pc2) (F := [w.heap.size + 1 + 1]) (List.mem_singleton.2 rfl)
            refine ⟨j + 1, some c, K2, kc2, P2, pc2, by omega, by go_num, rfl, HN.out, HZ2.out.fr hFF (by simp), rput10_at HBE2.out c.after c.age (.slice K2 c.keys.length kc2) (.slice P2 c.pres.length pc2), row_fr HCK.out hFF (fun g hg => by simpa using row_ne_rclaim HCK.out (by decide) HBE2.out g hg), row_fr HCP.out hFF (fun g hg => by simpa using row_ne_rclaim HCP.out (by decide) HBE2.out g hg), HCA.out, HQ2.out.fr hFF (by simp; omega), HB2.out.trans (hFF.toBelowOf (B := w.heap.size) HB2.out.size (fun i hi => by simp at hi; omega))⟩
          case measure => simp [intOf]; omega
        | some o =>
          simp only [Option.getD_some] at b6 b7 b8 b9
          by_cases h1 : c.age < o.age
          · have g1 : decide (c.age < o.age) = true := decide_eq_true h1
            have HN := Lib.hid (show anyTs ks ps (l.drop (j + 1)) (some c) = R by have := HNX.out; simp only at this; rw [show better c o = true by unfold better; rw [g1]; rfl] at this; exact this)
            clear h1
            go_wp2_with fail
            go_roundw
            case rel =>
              have hFF := put10_fr (w1.alloc (.cells #[.int .i64 0, .int .i64 0, .int .u8 0, .string ⟨#[]⟩, .int .i64 0, .slice none 0 0, .int .i64 c.after, .int .i64 c.age, (.slice K2 c.keys.length kc2), (.slice P2 c.pres.length pc2)] 39)) (w.heap.size + 1 + 1) (.int .i64 0) (.int .i64 0) (.int .u8 0) (.string ⟨#[]⟩) (.int .i64 0) (.slice none 0 0) (.int .i64 c.after) (.int .i64 c.age) (.slice K2 c.keys.length kc2) (.slice P2 c.pres.length pc2) (F := [w.heap.size + 1 + 1]) (List.mem_singleton.2 rfl)
              refine ⟨j + 1, some c, K2, kc2, P2, pc2, by omega, by go_num, rfl, HN.out, HZ2.out.fr hFF (by simp), rput10_at HBE2.out c.after c.age (.slice K2 c.keys.length kc2) (.slice P2 c.pres.length pc2), row_fr HCK.out hFF (fun g hg => by simpa using row_ne_rclaim HCK.out (by decide) HBE2.out g hg), row_fr HCP.out hFF (fun g hg => by simpa using row_ne_rclaim HCP.out (by decide) HBE2.out g hg), HCA.out, HQ2.out.fr hFF (by simp; omega), HB2.out.trans (hFF.toBelowOf (B := w.heap.size) HB2.out.size (fun i hi => by simp at hi; omega))⟩
            case measure => simp [intOf]; omega
          · have g1 : decide (c.age < o.age) = false := decide_eq_false h1
            by_cases h2 : c.age = o.age
            · have g2 : (c.age == o.age) = true := by rw [h2]; exact beq_self_eq_true _
              by_cases h3 : c.after < o.after
              · have g3 : decide (c.after < o.after) = true := decide_eq_true h3
                have HN := Lib.hid (show anyTs ks ps (l.drop (j + 1)) (some c) = R by have := HNX.out; simp only at this; rw [show better c o = true by unfold better; rw [g1, g3, decide_eq_true h2]; rfl] at this; exact this)
                clear h1 h2 h3
                go_wp2_with fail
                go_roundw
                case rel =>
                  have hFF := put10_fr (w1.alloc (.cells #[.int .i64 0, .int .i64 0, .int .u8 0, .string ⟨#[]⟩, .int .i64 0, .slice none 0 0, .int .i64 c.after, .int .i64 c.age, (.slice K2 c.keys.length kc2), (.slice P2 c.pres.length pc2)] 39)) (w.heap.size + 1 + 1) (.int .i64 0) (.int .i64 0) (.int .u8 0) (.string ⟨#[]⟩) (.int .i64 0) (.slice none 0 0) (.int .i64 c.after) (.int .i64 c.age) (.slice K2 c.keys.length kc2) (.slice P2 c.pres.length pc2) (F := [w.heap.size + 1 + 1]) (List.mem_singleton.2 rfl)
                  refine ⟨j + 1, some c, K2, kc2, P2, pc2, by omega, by go_num, rfl, HN.out, HZ2.out.fr hFF (by simp), rput10_at HBE2.out c.after c.age (.slice K2 c.keys.length kc2) (.slice P2 c.pres.length pc2), row_fr HCK.out hFF (fun g hg => by simpa using row_ne_rclaim HCK.out (by decide) HBE2.out g hg), row_fr HCP.out hFF (fun g hg => by simpa using row_ne_rclaim HCP.out (by decide) HBE2.out g hg), HCA.out, HQ2.out.fr hFF (by simp; omega), HB2.out.trans (hFF.toBelowOf (B := w.heap.size) HB2.out.size (fun i hi => by simp at hi; omega))⟩
                case measure => simp [intOf]; omega
              · have g3 : decide (c.after < o.after) = false := decide_eq_false h3
                have HN := Lib.hid (show anyTs ks ps (l.drop (j + 1)) (some o) = R by have := HNX.out; simp only at this; rw [show better c o = false by unfold better; rw [g1, g3, decide_eq_true h2]; rfl] at this; exact this)
                clear h1 h2 h3
                go_wp2_with fail
                go_roundw
                case rel => exact ⟨j + 1, some o, K, kc, P, pc, by omega, by go_num, rfl, HN.out, HZ2.out, HBE2.out, HK2.out, HP2.out, HAP.out, HQ2.out, HB2.out⟩
                case measure => simp [intOf]; omega
            · have g2 : (c.age == o.age) = false := beq_false_of_ne h2
              have HN := Lib.hid (show anyTs ks ps (l.drop (j + 1)) (some o) = R by have := HNX.out; simp only at this; rw [show better c o = false by unfold better; rw [g1, decide_eq_false h2]; rfl] at this; exact this)
              clear h1 h2
              go_wp2_with fail
              go_roundw
              case rel => exact ⟨j + 1, some o, K, kc, P, pc, by omega, by go_num, rfl, HN.out, HZ2.out, HBE2.out, HK2.out, HP2.out, HAP.out, HQ2.out, HB2.out⟩
              case measure => simp [intOf]; omega
    · have hRo : R = o := by
        rw [← hrest, List.drop_of_length_le (by omega)]
        unfold anyTs; rfl
      obtain ⟨b0, b1, b2, b3, b4, b5, b6, b7, b8, b9, bf⟩ := hbest.cells
      obtain ⟨z0, z1, z2, z3, z4, z5, z6, z7, z8, z9, zf⟩ := hzz.cells
      have HZZ := Lib.hid hzz
      have HRK := Lib.hid hrk
      have HRP := Lib.hid hrp
      have HAP := Lib.hid hap
      have HBEL := Lib.hid hbel
      have HRO := Lib.hid hRo
      clear hrest hzz hrk hrp hap hbel hbest hRo
      cases o with
      | none =>
        obtain ⟨c, hc0⟩ : ∃ c, (none : Option ClaimR).getD claim0 = c := ⟨_, rfl⟩
        have hcc : c.after = 0 ∧ c.age = 0 ∧ c.keys.length = 0 ∧ c.pres.length = 0 := by rw [← hc0]; exact ⟨rfl, rfl, rfl, rfl⟩
        rw [hc0] at b6 b7 b8 b9
        rw [hcc.1] at b6
        rw [hcc.2.1] at b7
        rw [hcc.2.2.1] at b8
        rw [hcc.2.2.2] at b9
        clear hc0 hcc HRK HRP HAP
        go_wp2_with fail
        change bodyPost _ _ _ _ _ (put10 wr (w.heap.size + 1) (.int .i64 0) (.int .i64 0) (.int .u8 0) (.string ⟨#[]⟩) (.int .i64 0) (.slice none 0 0) (.int .i64 0) (.int .i64 0) (.slice K 0 kc) (.slice P 0 pc))
        have hA := rput10_at HZZ.out 0 0 (.slice K 0 kc) (.slice P 0 pc)
        have hF := HBEL.out.trans ((put10_fr wr (w.heap.size + 1) (.int .i64 0) (.int .i64 0) (.int .u8 0) (.string ⟨#[]⟩) (.int .i64 0) (.slice none 0 0) (.int .i64 0) (.int .i64 0) (.slice K 0 kc) (.slice P 0 pc) (F := [w.heap.size + 1]) (List.mem_singleton.2 rfl)).toBelowOf (B := w.heap.size) HBEL.out.size (fun i hi => by simp at hi; omega))
        generalize put10 wr (w.heap.size + 1) (.int .i64 0) (.int .i64 0) (.int .u8 0) (.string ⟨#[]⟩) (.int .i64 0) (.slice none 0 0) (.int .i64 0) (.int .i64 0) (.slice K 0 kc) (.slice P 0 pc) = Wf at hA hF ⊢
        clear b0 b1 b2 b3 b4 b5 b6 b7 b8 b9 bf z0 z1 z2 z3 z4 z5 z6 z7 z8 z9 zf
        obtain ⟨r0, r1, r2, r3, r4, r5, r6, r7, r8, r9, -⟩ := hA.cells
        exact bodyPost_ret (v := .tuple #[claimV 0 0 (.slice K 0 kc) (.slice P 0 pc), .bool false]) (by simp [results, Tryz.results27, go_sem, r0, r1, r2, r3, r4, r5, r6, r7, r8, r9, claimV]) rfl (by rw [show R = none from HRO.out]; exact ⟨K, kc, P, pc, rfl, hF⟩)
      | some c =>
        simp only [Option.getD_some] at b6 b7 b8 b9 HRK HRP HAP
        go_wp2_with fail
        change bodyPost _ _ _ _ _ (put10 wr (w.heap.size + 1) (.int .i64 0) (.int .i64 0) (.int .u8 0) (.string ⟨#[]⟩) (.int .i64 0) (.slice none 0 0) (.int .i64 c.after) (.int .i64 c.age) (.slice K c.keys.length kc) (.slice P c.pres.length pc))
        have hA := rput10_at HZZ.out c.after c.age (.slice K c.keys.length kc) (.slice P c.pres.length pc)
        have hFF := put10_fr wr (w.heap.size + 1) (.int .i64 0) (.int .i64 0) (.int .u8 0) (.string ⟨#[]⟩) (.int .i64 0) (.slice none 0 0) (.int .i64 c.after) (.int .i64 c.age) (.slice K c.keys.length kc) (.slice P c.pres.length pc) (F := [w.heap.size + 1]) (List.mem_singleton.2 rfl)
        have hF := HBEL.out.trans (hFF.toBelowOf (B := w.heap.size) HBEL.out.size (fun i hi => by simp at hi; omega))
        have HK9 := Lib.hid (row_fr HRK.out hFF (fun g hg => by simpa using row_ne_rclaim HRK.out (by decide) HZZ.out g hg))
        have HP9 := Lib.hid (row_fr HRP.out hFF (fun g hg => by simpa using row_ne_rclaim HRP.out (by decide) HZZ.out g hg))
        generalize put10 wr (w.heap.size + 1) (.int .i64 0) (.int .i64 0) (.int .u8 0) (.string ⟨#[]⟩) (.int .i64 0) (.slice none 0 0) (.int .i64 c.after) (.int .i64 c.age) (.slice K c.keys.length kc) (.slice P c.pres.length pc) = Wf at hA hF HK9 HP9 ⊢
        clear b0 b1 b2 b3 b4 b5 b6 b7 b8 b9 bf z0 z1 z2 z3 z4 z5 z6 z7 z8 z9 zf hFF
        obtain ⟨r0, r1, r2, r3, r4, r5, r6, r7, r8, r9, -⟩ := hA.cells
        exact bodyPost_ret (v := .tuple #[claimV c.after c.age (.slice K c.keys.length kc) (.slice P c.pres.length pc), .bool true]) (by simp [results, Tryz.results27, go_sem, r0, r1, r2, r3, r4, r5, r6, r7, r8, r9, claimV]) rfl (by rw [show R = some c from HRO.out]; exact ⟨K, kc, P, pc, rfl, HK9.out, HP9.out, HAP.out, hF⟩)
end Go.Proofs.YtaonadgelkdbcaaGreatDoor

namespace Go.Proofs.YtaonadgelkdbcaaGreatDoor
open Go.RowKit

theorem row_ne_box {w : World} {base b : Nat} {E : TypeId} {v : Value} {xs : List Value} {k : Int} {t : ByteArray} {n : Int} {A : Option Addr} {m cap : Nat} (h : Row w base E v xs) (hE : E ≠ 32) (hc : BoxAt w b k t n A m cap) : ∀ i, v.ownBlock = some i → i ≠ b := fun i hg eq => by
  rcases h with ⟨rfl, -⟩ | ⟨g', off, cap, cur, fr, rfl, hb, hh, r⟩
  · cases hg
  · injection hg with hg
    have hg' : g' = i := hg
    subst hg'
    subst eq
    unfold BoxAt at hc
    rw [hc] at hh
    injection hh with hh
    injection hh with h1 h2
    exact hE h2.symm
/-- What holds while two claims are joined. -/
structure RJoinInv (t : ByteArray) (n : Int) (A : Option Addr) (m cap : Nat) (w : World) (bx : Nat) (b c : ClaimR) (K : Option Addr) (kc : Nat) (P : Option Addr) (pc : Nat) (K2 : Option Addr) (kc2 : Nat) (P2 : Option Addr) (pc2 : Nat) (V : World) : Prop where
  cl : RClaimAt V (w.heap.size + 1 + 1) b.after b.age (.slice K b.keys.length kc) (.slice P b.pres.length pc)
  cx : RClaimAt V bx c.after c.age (.slice K2 c.keys.length kc2) (.slice P2 c.pres.length pc2)
  cz : RClaimAt V (w.heap.size + 1) 0 0 (.slice none 0 0) (.slice none 0 0)
  q : BoxAt V w.heap.size 5 t n A m cap
  rk2 : Row V w.heap.size 29 (.slice K2 c.keys.length kc2) (strs c.keys)
  rp2 : Row V w.heap.size 29 (.slice P2 c.pres.length pc2) (strs c.pres)
  below : Below w.heap.size w V
section
variable {t : ByteArray} {n : Int} {A : Option Addr} {m cap : Nat} {w : World} {bx : Nat} {b c : ClaimR} {K : Option Addr} {kc : Nat} {P : Option Addr} {pc : Nat} {K2 : Option Addr} {kc2 : Nat} {P2 : Option Addr} {pc2 : Nat} {V V' : World}
theorem RJoinInv.next (h : RJoinInv t n A m cap w bx b c K kc P pc K2 kc2 P2 pc2 V) (hb : Below V.heap.size V V') : RJoinInv t n A m cap w bx b c K kc P pc K2 kc2 P2 pc2 V' :=
  ⟨h.cl.below hb, h.cx.below hb, h.cz.below hb, h.q.below hb, h.rk2.below hb, h.rp2.below hb, h.below.trans (hb.mono h.below.size)⟩
theorem RJoinInv.alloc (h : RJoinInv t n A m cap w bx b c K kc P pc K2 kc2 P2 pc2 V) (o : Obj) : RJoinInv t n A m cap w bx b c K kc P pc K2 kc2 P2 pc2 (V.alloc o) := h.next ((Below.refl _ _).alloc (Nat.le_refl _) o)
theorem RJoinInv.drew (h : RJoinInv t n A m cap w bx b c K kc P pc K2 kc2 P2 pc2 V) : RJoinInv t n A m cap w bx b c K kc P pc K2 kc2 P2 pc2 V.drew :=
  ⟨h.cl, h.cx, h.cz, h.q, h.rk2, h.rp2, ⟨h.below.os, h.below.tape, h.below.output, h.below.size, h.below.block⟩⟩
theorem RJoinInv.same (h : RJoinInv t n A m cap w bx b c K kc P pc K2 kc2 P2 pc2 V) (e1 : V'.heap = V.heap) (e2 : V'.os = w.os) (e3 : V'.tape = w.tape) (e4 : V'.output = w.output) : RJoinInv t n A m cap w bx b c K kc P pc K2 kc2 P2 pc2 V' := by
  obtain ⟨h1, h2, h3, h4, h6, h7, h8⟩ := h
  refine ⟨?_, ?_, ?_, by unfold BoxAt at h4 ⊢; rw [e1]; exact h4, row_same h6 e1, row_same h7 e1, ⟨e2, e3, e4, by rw [e1]; exact h8.size, by rw [e1]; exact h8.block⟩⟩
  · unfold RClaimAt at h1 ⊢; rw [e1]; exact h1
  · unfold RClaimAt at h2 ⊢; rw [e1]; exact h2
  · unfold RClaimAt at h3 ⊢; rw [e1]; exact h3
theorem RJoinInv.S (h : RJoinInv t n A m cap w bx b c K kc P pc K2 kc2 P2 pc2 V) : V.cell? ⟨w.heap.size + 1 + 1, 6, none⟩ = some (.int .i64 b.after) ∧ V.cell? ⟨w.heap.size + 1 + 1, 7, none⟩ = some (.int .i64 b.age) ∧ V.cell? ⟨w.heap.size + 1 + 1, 8, none⟩ = some (.slice K b.keys.length kc) ∧ V.cell? ⟨w.heap.size + 1 + 1, 9, none⟩ = some (.slice P b.pres.length pc) ∧
    V.cell? ⟨bx, 6, none⟩ = some (.int .i64 c.after) ∧ V.cell? ⟨bx, 7, none⟩ = some (.int .i64 c.age) ∧ V.cell? ⟨bx, 8, none⟩ = some (.slice K2 c.keys.length kc2) ∧ V.cell? ⟨bx, 9, none⟩ = some (.slice P2 c.pres.length pc2) := by
  obtain ⟨-, -, -, -, -, -, a6, a7, a8, a9, -⟩ := h.cl.cells
  obtain ⟨-, -, -, -, -, -, b6, b7, b8, b9, -⟩ := h.cx.cells
  exact ⟨a6, a7, a8, a9, b6, b7, b8, b9⟩
theorem RJoinInv.Sat {V0 : World} (h : RJoinInv t n A m cap w bx b c K kc P pc K2 kc2 P2 pc2 V0) (e : V.heap = V0.heap) : V.cell? ⟨w.heap.size + 1 + 1, 6, none⟩ = some (.int .i64 b.after) ∧ V.cell? ⟨w.heap.size + 1 + 1, 7, none⟩ = some (.int .i64 b.age) ∧ V.cell? ⟨w.heap.size + 1 + 1, 8, none⟩ = some (.slice K b.keys.length kc) ∧ V.cell? ⟨w.heap.size + 1 + 1, 9, none⟩ = some (.slice P b.pres.length pc) ∧
    V.cell? ⟨bx, 6, none⟩ = some (.int .i64 c.after) ∧ V.cell? ⟨bx, 7, none⟩ = some (.int .i64 c.age) ∧ V.cell? ⟨bx, 8, none⟩ = some (.slice K2 c.keys.length kc2) ∧ V.cell? ⟨bx, 9, none⟩ = some (.slice P2 c.pres.length pc2) := by
  have hS := h.S
  unfold World.cell? at hS ⊢
  rw [e]; exact hS
theorem RJoinInv.grown {v : Value} {xs : List Value} {base : Nat} (h : RJoinInv t n A m cap w bx b c K kc P pc K2 kc2 P2 pc2 V) (hv : Row V base 29 v xs) (hg : V.grownBy V' v.ownBlock) (hbl : Below w.heap.size V V')
    (n1 : ∀ g, (Value.slice K2 c.keys.length kc2).ownBlock = some g → v.ownBlock ≠ some g) (n2 : ∀ g, (Value.slice P2 c.pres.length pc2).ownBlock = some g → v.ownBlock ≠ some g) : RJoinInv t n A m cap w bx b c K kc P pc K2 kc2 P2 pc2 V' := by
  have hf := grown_fr hg
  have ne : ∀ i, (∀ g, v.ownBlock = some g → g ≠ i) → i ∉ v.ownBlock.toList := fun i hi hm => by
    cases ho : v.ownBlock with
    | none => rw [ho] at hm; simp at hm
    | some g => rw [ho] at hm; simp at hm; exact hi g ho hm.symm
  refine ⟨h.cl.fr hf (ne _ (row_ne_rclaim hv (by decide) h.cl)), h.cx.fr hf (ne _ (row_ne_rclaim hv (by decide) h.cx)), h.cz.fr hf (ne _ (row_ne_rclaim hv (by decide) h.cz)), h.q.fr hf (ne _ (row_ne_box hv (by decide) h.q)), ?_, ?_, h.below.trans hbl⟩
  · exact row_fr h.rk2 hf fun g hgg => ne g fun g' h1 h2 => n1 g hgg (by rw [h1, h2])
  · exact row_fr h.rp2 hf fun g hgg => ne g fun g' h1 h2 => n2 g hgg (by rw [h1, h2])
theorem rjoin_keys (h : RJoinInv t n A m cap w bx b c K kc P pc K2 kc2 P2 pc2 V) (l1 : b.keys.length ≤ 100000) (l2 : c.keys.length ≤ 100000) (hK : Row V w.heap.size 29 (.slice K b.keys.length kc) (strs b.keys)) (hP : Row V w.heap.size 29 (.slice P b.pres.length pc) (strs b.pres))
    (hap : (Value.slice K b.keys.length kc).ownBlock = none ∨ (Value.slice K b.keys.length kc).ownBlock ≠ (Value.slice P b.pres.length pc).ownBlock)
    (n1 : ∀ g, (Value.slice K2 c.keys.length kc2).ownBlock = some g → (Value.slice K b.keys.length kc).ownBlock ≠ some g) (n2 : ∀ g, (Value.slice P2 c.pres.length pc2).ownBlock = some g → (Value.slice K b.keys.length kc).ownBlock ≠ some g) :
    Calls Tryz.prog 50 #[.slice K b.keys.length kc, .slice K2 c.keys.length kc2] V fun e w' => ∃ (K3 : Option Addr) (kc3 : Nat), e = .returned (.slice K3 (joinL b.keys c.keys).length kc3) ∧ RJoinInv t n A m cap w bx b c K kc P pc K2 kc2 P2 pc2 w' ∧
      Row w' w.heap.size 29 (.slice K3 (joinL b.keys c.keys).length kc3) (strs (joinL b.keys c.keys)) ∧ Row w' w.heap.size 29 (.slice P b.pres.length pc) (strs b.pres) ∧ ((Value.slice K3 (joinL b.keys c.keys).length kc3).ownBlock = none ∨ (Value.slice K3 (joinL b.keys c.keys).length kc3).ownBlock ≠ (Value.slice P b.pres.length pc).ownBlock) := by
  refine (rjoin_any b.keys c.keys _ K2 kc2 w.heap.size V l1 l2 h.below.size hK (row_cells h.rk2) (fun ad he => ?_)).mono ?_
  · subst he; exact n1 ad.block rfl
  · rintro e w' ⟨v', rfl, hr, hg, hbl, ho⟩
    obtain ⟨A3, c3, rfl, -, -⟩ := Row.shape hr
    rw [show (strs (joinL b.keys c.keys)).length = (joinL b.keys c.keys).length by simp [strs]] at hr ho ⊢
    refine ⟨A3, c3, rfl, h.grown hK hg hbl n1 n2, hr, hP.grown hg (apart_symm hap), ?_⟩
    rcases ho with ho | ⟨g, ho, hge⟩
    · rw [ho]; exact hap
    · right
      rw [ho]
      intro e
      have := (hP.own g e.symm).2
      omega
theorem rjoin_pres {K3 : Option Addr} {kc3 n3 : Nat} {x3 : List Value} (h : RJoinInv t n A m cap w bx b c K kc P pc K2 kc2 P2 pc2 V) (l1 : b.pres.length ≤ 100000) (l2 : c.pres.length ≤ 100000) (hK : Row V w.heap.size 29 (.slice K3 n3 kc3) x3) (hP : Row V w.heap.size 29 (.slice P b.pres.length pc) (strs b.pres))
    (hap : (Value.slice K3 n3 kc3).ownBlock = none ∨ (Value.slice K3 n3 kc3).ownBlock ≠ (Value.slice P b.pres.length pc).ownBlock)
    (n1 : ∀ g, (Value.slice K2 c.keys.length kc2).ownBlock = some g → (Value.slice P b.pres.length pc).ownBlock ≠ some g) (n2 : ∀ g, (Value.slice P2 c.pres.length pc2).ownBlock = some g → (Value.slice P b.pres.length pc).ownBlock ≠ some g) :
    Calls Tryz.prog 50 #[.slice P b.pres.length pc, .slice P2 c.pres.length pc2] V fun e w' => ∃ (P3 : Option Addr) (pc3 : Nat), e = .returned (.slice P3 (joinL b.pres c.pres).length pc3) ∧ RJoinInv t n A m cap w bx b c K kc P pc K2 kc2 P2 pc2 w' ∧
      Row w' w.heap.size 29 (.slice K3 n3 kc3) x3 ∧ Row w' w.heap.size 29 (.slice P3 (joinL b.pres c.pres).length pc3) (strs (joinL b.pres c.pres)) ∧ ((Value.slice K3 n3 kc3).ownBlock = none ∨ (Value.slice K3 n3 kc3).ownBlock ≠ (Value.slice P3 (joinL b.pres c.pres).length pc3).ownBlock) := by
  refine (rjoin_any b.pres c.pres _ P2 pc2 w.heap.size V l1 l2 h.below.size hP (row_cells h.rp2) (fun ad he => ?_)).mono ?_
  · subst he; exact n2 ad.block rfl
  · rintro e w' ⟨v', rfl, hr, hg, hbl, ho⟩
    obtain ⟨A3, c3, rfl, -, -⟩ := Row.shape hr
    rw [show (strs (joinL b.pres c.pres)).length = (joinL b.pres c.pres).length by simp [strs]] at hr ho ⊢
    refine ⟨A3, c3, rfl, h.grown hP hg hbl n1 n2, hK.grown hg hap, hr, ?_⟩
    rcases ho with ho | ⟨g, ho, hge⟩
    · rw [ho]; exact hap
    · rcases hap with hn | hn
      · exact .inl hn
      · right
        rw [ho]
        intro e
        have := (hK.own g e).2
        omega
end
end Go.Proofs.YtaonadgelkdbcaaGreatDoor
