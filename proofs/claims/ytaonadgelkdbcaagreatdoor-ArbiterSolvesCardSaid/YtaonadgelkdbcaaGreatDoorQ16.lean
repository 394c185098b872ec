/- Solve's ways: one of many. -/
import Derived.Test.YtaonadgelkdbcaaGreatDoorQ15
namespace Go.Proofs.YtaonadgelkdbcaaGreatDoor
open Go.RowKit

theorem any_skip (ks ps : List ByteArray) {x : LockT} (r : List LockT) (o : Option ClaimR) (hq : wayT ks ps x = none) : anyTs ks ps (x :: r) o = anyTs ks ps r o := by
  conv => lhs; unfold anyTs
  rw [hq]
theorem any_next (ks ps : List ByteArray) {x : LockT} (r : List LockT) (o : Option ClaimR) {c : ClaimR} {R : Option ClaimR} (hq : wayT ks ps x = some c) (h : anyTs ks ps (x :: r) o = R) : (match o with | none => anyTs ks ps r (some c) | some o => anyTs ks ps r (some (if better c o then c else o))) = R := by
  unfold anyTs at h
  rw [hq] at h
  cases o with
  | none => exact h
  | some o => exact h
set_option maxRecDepth 100000 in
set_option maxHeartbeats 8000000 in
theorem way_any (t : ByteArray) (n : Int) (l : List LockT) (A : Option Addr) (cap : Nat) (xs : List Value) (sb pb wb : Nat) (ks ps : List ByteArray) (w : World) (hll : l.length ≤ 1000) (hc : Cells w A xs) (hl : LocksC w l xs) (he : EnvAt w sb pb ks ps) (hv : VarsOk w) (hw : w.cell? ⟨wb, 0, none⟩ = some (.func (.func 18) #[] #[.pointer (some ⟨sb, 0, none⟩), .pointer (some ⟨pb, 0, none⟩), .pointer (some ⟨wb, 0, none⟩)]))
    (HW : ∀ (i : Nat) (hi : i < l.length) (W : World) (cs : List Value), LockC W l[i] cs → EnvAt W sb pb ks ps → VarsOk W → W.cell? ⟨wb, 0, none⟩ = some (.func (.func 18) #[] #[.pointer (some ⟨sb, 0, none⟩), .pointer (some ⟨pb, 0, none⟩), .pointer (some ⟨wb, 0, none⟩)]) → Calls Tryz.prog 18 #[.agg cs.toArray, .pointer (some ⟨sb, 0, none⟩), .pointer (some ⟨pb, 0, none⟩), .pointer (some ⟨wb, 0, none⟩)] W (WayP (wayT ks ps l[i]) W)) :
    Calls Tryz.prog 18 #[.agg #[.int .u8 6, .string t, .int .i64 n, .slice A l.length cap], .pointer (some ⟨sb, 0, none⟩), .pointer (some ⟨pb, 0, none⟩), .pointer (some ⟨wb, 0, none⟩)] w (WayP (anyTs ks ps l none) w) := by
  have hb0 : Below w.heap.size w (w.alloc (.cells #[.int .u8 6, .string t, .int .i64 n, .slice A l.length cap] 32)) := (Below.refl _ _).alloc (Nat.le_refl _) _
  have hb1 : Below w.heap.size w ((w.alloc (.cells #[.int .u8 6, .string t, .int .i64 n, .slice A l.length cap] 32)).alloc (.cells #[.int .i64 0, .int .i64 0, .int .u8 0, .string ⟨#[]⟩, .int .i64 0, .slice none 0 0, .int .i64 0, .int .i64 0, (.slice none 0 0), (.slice none 0 0)] 36)) := hb0.alloc (by simp) _
  have hb2 : Below w.heap.size w (((w.alloc (.cells #[.int .u8 6, .string t, .int .i64 n, .slice A l.length cap] 32)).alloc (.cells #[.int .i64 0, .int .i64 0, .int .u8 0, .string ⟨#[]⟩, .int .i64 0, .slice none 0 0, .int .i64 0, .int .i64 0, (.slice none 0 0), (.slice none 0 0)] 36)).alloc (.cells #[.int .i64 0, .int .i64 0, .int .u8 0, .string ⟨#[]⟩, .int .i64 0, .slice none 0 0, .int .i64 0, .int .i64 0, (.slice none 0 0), (.slice none 0 0)] 36)) := hb1.alloc (by simp; omega) _
  have q0 : (((w.alloc (.cells #[.int .u8 6, .string t, .int .i64 n, .slice A l.length cap] 32)).alloc (.cells #[.int .i64 0, .int .i64 0, .int .u8 0, .string ⟨#[]⟩, .int .i64 0, .slice none 0 0, .int .i64 0, .int .i64 0, (.slice none 0 0), (.slice none 0 0)] 36)).alloc (.cells #[.int .i64 0, .int .i64 0, .int .u8 0, .string ⟨#[]⟩, .int .i64 0, .slice none 0 0, .int .i64 0, .int .i64 0, (.slice none 0 0), (.slice none 0 0)] 36)).cell? ⟨w.heap.size, 0, none⟩ = some (.int .u8 6) := cell_below ((Below.refl _ _).alloc (Nat.le_refl _) _) (cell_below ((Below.refl _ _).alloc (Nat.le_refl _) _) (alloc_cells 0 _ rfl : (w.alloc (.cells #[.int .u8 6, .string t, .int .i64 n, .slice A l.length cap] 32)).cell? ⟨w.heap.size, 0, none⟩ = some (.int .u8 6)))
  have q3 : (((w.alloc (.cells #[.int .u8 6, .string t, .int .i64 n, .slice A l.length cap] 32)).alloc (.cells #[.int .i64 0, .int .i64 0, .int .u8 0, .string ⟨#[]⟩, .int .i64 0, .slice none 0 0, .int .i64 0, .int .i64 0, (.slice none 0 0), (.slice none 0 0)] 36)).alloc (.cells #[.int .i64 0, .int .i64 0, .int .u8 0, .string ⟨#[]⟩, .int .i64 0, .slice none 0 0, .int .i64 0, .int .i64 0, (.slice none 0 0), (.slice none 0 0)] 36)).cell? ⟨w.heap.size, 3, none⟩ = some (.slice A l.length cap) := cell_below ((Below.refl _ _).alloc (Nat.le_refl _) _) (cell_below ((Below.refl _ _).alloc (Nat.le_refl _) _) (alloc_cells 3 _ rfl : (w.alloc (.cells #[.int .u8 6, .string t, .int .i64 n, .slice A l.length cap] 32)).cell? ⟨w.heap.size, 3, none⟩ = some (.slice A l.length cap)))
  have hz1 : ClaimAt ((w.alloc (.cells #[.int .u8 6, .string t, .int .i64 n, .slice A l.length cap] 32)).alloc (.cells #[.int .i64 0, .int .i64 0, .int .u8 0, .string ⟨#[]⟩, .int .i64 0, .slice none 0 0, .int .i64 0, .int .i64 0, (.slice none 0 0), (.slice none 0 0)] 36)) (w.heap.size + 1) 0 0 (.slice none 0 0) (.slice none 0 0) := by
    have h := Go.heap_alloc_new (w.alloc (.cells #[.int .u8 6, .string t, .int .i64 n, .slice A l.length cap] 32)) (.cells #[.int .i64 0, .int .i64 0, .int .u8 0, .string ⟨#[]⟩, .int .i64 0, .slice none 0 0, .int .i64 0, .int .i64 0, (.slice none 0 0), (.slice none 0 0)] 36)
    rw [show (w.alloc (.cells #[.int .u8 6, .string t, .int .i64 n, .slice A l.length cap] 32)).heap.size = w.heap.size + 1 by simp] at h
    exact h
  have hz2 : ClaimAt (((w.alloc (.cells #[.int .u8 6, .string t, .int .i64 n, .slice A l.length cap] 32)).alloc (.cells #[.int .i64 0, .int .i64 0, .int .u8 0, .string ⟨#[]⟩, .int .i64 0, .slice none 0 0, .int .i64 0, .int .i64 0, (.slice none 0 0), (.slice none 0 0)] 36)).alloc (.cells #[.int .i64 0, .int .i64 0, .int .u8 0, .string ⟨#[]⟩, .int .i64 0, .slice none 0 0, .int .i64 0, .int .i64 0, (.slice none 0 0), (.slice none 0 0)] 36)) (w.heap.size + 1 + 1) 0 0 (.slice none 0 0) (.slice none 0 0) := by
    have h := Go.heap_alloc_new ((w.alloc (.cells #[.int .u8 6, .string t, .int .i64 n, .slice A l.length cap] 32)).alloc (.cells #[.int .i64 0, .int .i64 0, .int .u8 0, .string ⟨#[]⟩, .int .i64 0, .slice none 0 0, .int .i64 0, .int .i64 0, (.slice none 0 0), (.slice none 0 0)] 36)) (.cells #[.int .i64 0, .int .i64 0, .int .u8 0, .string ⟨#[]⟩, .int .i64 0, .slice none 0 0, .int .i64 0, .int .i64 0, (.slice none 0 0), (.slice none 0 0)] 36)
    rw [show ((w.alloc (.cells #[.int .u8 6, .string t, .int .i64 n, .slice A l.length cap] 32)).alloc (.cells #[.int .i64 0, .int .i64 0, .int .u8 0, .string ⟨#[]⟩, .int .i64 0, .slice none 0 0, .int .i64 0, .int .i64 0, (.slice none 0 0), (.slice none 0 0)] 36)).heap.size = w.heap.size + 1 + 1 by simp] at h
    exact h
  have HB := Lib.hid hb2
  have HZ := Lib.hid (hz1.below ((Below.refl _ _).alloc (Nat.le_refl _) _) : ClaimAt (((w.alloc (.cells #[.int .u8 6, .string t, .int .i64 n, .slice A l.length cap] 32)).alloc (.cells #[.int .i64 0, .int .i64 0, .int .u8 0, .string ⟨#[]⟩, .int .i64 0, .slice none 0 0, .int .i64 0, .int .i64 0, (.slice none 0 0), (.slice none 0 0)] 36)).alloc (.cells #[.int .i64 0, .int .i64 0, .int .u8 0, .string ⟨#[]⟩, .int .i64 0, .slice none 0 0, .int .i64 0, .int .i64 0, (.slice none 0 0), (.slice none 0 0)] 36)) (w.heap.size + 1) 0 0 (.slice none 0 0) (.slice none 0 0))
  have HBE := Lib.hid hz2
  have HC := Lib.hid hc
  have HL := Lib.hid hl
  have HE := Lib.hid he
  have HV := Lib.hid hv
  have HWC := Lib.hid hw
  have HWW := Lib.hid HW
  have hk0 : KindAt (w.alloc (.cells #[.int .u8 6, .string t, .int .i64 n, .slice A l.length cap] 32)) w.heap.size 6 := ⟨_, _, Go.heap_alloc_new w _, rfl⟩
  have Q0 := Lib.hid (show KindAt (((w.alloc (.cells #[.int .u8 6, .string t, .int .i64 n, .slice A l.length cap] 32)).alloc (.cells #[.int .i64 0, .int .i64 0, .int .u8 0, .string ⟨#[]⟩, .int .i64 0, .slice none 0 0, .int .i64 0, .int .i64 0, (.slice none 0 0), (.slice none 0 0)] 36)).alloc (.cells #[.int .i64 0, .int .i64 0, .int .u8 0, .string ⟨#[]⟩, .int .i64 0, .slice none 0 0, .int .i64 0, .int .i64 0, (.slice none 0 0), (.slice none 0 0)] 36)) w.heap.size 6 from (hk0.below ((Below.refl _ _).alloc (Nat.le_refl _) _)).below ((Below.refl _ _).alloc (Nat.le_refl _) _))
  clear hk0
  obtain ⟨R, hR⟩ : ∃ R, anyTs ks ps l none = R := ⟨_, rfl⟩
  rw [hR]
  have HR := Lib.hid hR
  clear hb0 hb1 hb2 hz1 hz2 hc hl he hv hw HW hR
  go_enter Tryz.func18, Tryz.ntmps18
  go_wp2_with fail
  go_loopw [58, 10] (fun i f wr => ∃ (j : Nat) (o : Option ClaimR) (K : Option Addr) (kc : Nat) (P : Option Addr) (pc : Nat), j ≤ l.length ∧ i = .int .i64 (j : Int) ∧ f = .bool o.isSome ∧ anyTs ks ps (l.drop j) o = R ∧ ClaimAt wr (w.heap.size + 1) 0 0 (.slice none 0 0) (.slice none 0 0) ∧ ClaimAt wr (w.heap.size + 1 + 1) (o.getD claim0).after (o.getD claim0).age (.slice K (o.getD claim0).keys.length kc) (.slice P (o.getD claim0).pres.length pc) ∧ Row wr w.heap.size 29 (.slice K (o.getD claim0).keys.length kc) (strs (o.getD claim0).keys) ∧ Row wr w.heap.size 29 (.slice P (o.getD claim0).pres.length pc) (strs (o.getD claim0).pres) ∧ ((Value.slice K (o.getD claim0).keys.length kc).ownBlock = none ∨ (Value.slice K (o.getD claim0).keys.length kc).ownBlock ≠ (Value.slice P (o.getD claim0).pres.length pc).ownBlock) ∧ KindAt wr w.heap.size 6 ∧ Below w.heap.size w wr) (fun i _ _ => l.length - (intOf i).toNat)
  case atStart => exact ⟨0, none, none, 0, none, 0, Nat.zero_le _, rfl, rfl, by rw [List.drop_zero]; exact HR.out, HZ.out, HBE.out, Row.nil _ _ _, Row.nil _ _ _, .inl rfl, Q0.out, HB.out⟩
  case round =>
    obtain ⟨j, o, K, kc, P, pc, hj, rfl, rfl, hrest, hzz, hbest, hrk, hrp, hap, hq0, hbel⟩ := hrel
    clear HZ HBE HB Q0 q0
    by_cases hlt : j < l.length
    · obtain ⟨ad, B, cp, rfl, d0, d1, d2, d3, hlk⟩ := lock_at (Cells.below HC.out hbel) (LocksC.below hbel l xs HL.out) hlt
      have hbe : Below wr.heap.size wr (wr.alloc (.cells #[.int .u8 l[j].kind, .string l[j].term, .int .i64 l[j].n, .slice B l[j].kids.length cp] 32)) := (Below.refl _ _).alloc (Nat.le_refl _) _
      have hbw := hbel.trans (hbe.mono hbel.size)
      have hwc := cell_below hbw HWC.out
      have hcall := HWW.out j hlt (wr.alloc (.cells #[.int .u8 l[j].kind, .string l[j].term, .int .i64 l[j].n, .slice B l[j].kids.length cp] 32)) _ (LockC.below hbe _ _ hlk) (HE.out.below hbw) (HV.out.below hbw) hwc
      have HB1 := Lib.hid hbw
      have HZ1 := Lib.hid (hzz.below hbe)
      have HBE1 := Lib.hid (hbest.below hbe)
      have HK1 := Lib.hid (hrk.below hbe)
      have HP1 := Lib.hid (hrp.below hbe)
      have HAP := Lib.hid hap
      have hdrop : l.drop j = l[j] :: l.drop (j + 1) := List.drop_eq_getElem_cons hlt
      rw [hdrop] at hrest
      have HREST := Lib.hid hrest
      have HQ1 := Lib.hid (hq0.below hbe)
      clear hlk hbe hbw hzz hbest hrk hrp hap hdrop hrest hbel hq0
      unfold WayP at hcall
      cases hq : wayT ks ps l[j] with
      | none =>
        rw [hq] at hcall
        simp only at hcall
        unfold claimV at hcall
        have HCALL := Lib.hid hcall
        have HN := Lib.hid (show anyTs ks ps (l.drop (j + 1)) o = R by rw [← HREST.out]; exact (any_skip ks ps (l.drop (j + 1)) o hq).symm)
        clear hcall hq
        go_wp2_with fail
        refine HCALL.out.mono ?_
        rintro e w1 ⟨K2, kc2, P2, pc2, rfl, hb1⟩
        have hbx : Below w1.heap.size w1 (w1.alloc (.cells #[.int .i64 0, .int .i64 0, .int .u8 0, .string ⟨#[]⟩, .int .i64 0, .slice none 0 0, .int .i64 0, .int .i64 0, (.slice K2 0 kc2), (.slice P2 0 pc2)] 36)) := (Below.refl _ _).alloc (Nat.le_refl _) _
        have hb12 := hb1.trans (hbx.mono hb1.size)
        have HB2 := Lib.hid (HB1.out.trans (hb12.mono HB1.out.size))
        have HZ2 := Lib.hid (HZ1.out.below hb12)
        have HBE2 := Lib.hid (HBE1.out.below hb12)
        have HK2 := Lib.hid (HK1.out.below hb12)
        have HP2 := Lib.hid (HP1.out.below hb12)
        have HQ2 := Lib.hid (HQ1.out.below hb12)
        have hq2 := HQ2.out.cell
        clear hbx hb12 hb1
        cases o with
        | none =>
          go_wp2_with fail
          go_roundw
          case rel => exact ⟨j + 1, none, K, kc, P, pc, by omega, by go_num, rfl, HN.out, HZ2.out, HBE2.out, HK2.out, HP2.out, HAP.out, HQ2.out, HB2.out⟩
          case measure => simp [intOf]; omega
        | some o =>
          go_wp2_with fail
          go_roundw
          case rel => exact ⟨j + 1, some o, K, kc, P, pc, by omega, by go_num, rfl, HN.out, HZ2.out, HBE2.out, HK2.out, HP2.out, HAP.out, HQ2.out, HB2.out⟩
          case measure => simp [intOf]; omega
      | some c =>
        rw [hq] at hcall
        simp only at hcall
        unfold claimV at hcall
        have HCALL := Lib.hid hcall
        have HNX := Lib.hid (any_next ks ps (l.drop (j + 1)) o hq HREST.out)
        clear hcall hq
        go_wp2_with fail
        refine HCALL.out.mono ?_
        rintro e w1 ⟨K2, kc2, P2, pc2, rfl, hck, hcp, hca, hb1⟩
        have hbx : Below w1.heap.size w1 (w1.alloc (.cells #[.int .i64 0, .int .i64 0, .int .u8 0, .string ⟨#[]⟩, .int .i64 0, .slice none 0 0, .int .i64 c.after, .int .i64 c.age, (.slice K2 c.keys.length kc2), (.slice P2 c.pres.length pc2)] 36)) := (Below.refl _ _).alloc (Nat.le_refl _) _
        have hb12 := hb1.trans (hbx.mono hb1.size)
        have HB2 := Lib.hid (HB1.out.trans (hb12.mono HB1.out.size))
        have HZ2 := Lib.hid (HZ1.out.below hb12)
        have HBE2 := Lib.hid (HBE1.out.below hb12)
        have HK2 := Lib.hid (HK1.out.below hb12)
        have HP2 := Lib.hid (HP1.out.below hb12)
        have HQ2 := Lib.hid (HQ1.out.below hb12)
        have hq2 := HQ2.out.cell
        have HCK := Lib.hid ((hck.base_le (Nat.le_trans HB1.out.size (Nat.le_refl _))).below hbx)
        have HCP := Lib.hid ((hcp.base_le (Nat.le_trans HB1.out.size (Nat.le_refl _))).below hbx)
        have HCA := Lib.hid hca
        have hcx : ClaimAt (w1.alloc (.cells #[.int .i64 0, .int .i64 0, .int .u8 0, .string ⟨#[]⟩, .int .i64 0, .slice none 0 0, .int .i64 c.after, .int .i64 c.age, (.slice K2 c.keys.length kc2), (.slice P2 c.pres.length pc2)] 36)) w1.heap.size c.after c.age (.slice K2 c.keys.length kc2) (.slice P2 c.pres.length pc2) := Go.heap_alloc_new w1 _
        obtain ⟨x0, x1, x2, x3, x4, x5, x6, x7, x8, x9, -⟩ := hcx.cells
        obtain ⟨b0, b1, b2, b3, b4, b5, b6, b7, b8, b9, bf⟩ := HBE2.out.cells
        clear hbx hb12 hb1 hck hcp hca hcx
        cases o with
        | none =>
          have HN := Lib.hid (show anyTs ks ps (l.drop (j + 1)) (some c) = R from HNX.out)
          go_wp2_with fail
          go_roundw
          case rel =>
            have hFF := put10_fr (w1.alloc (.cells #[.int .i64 0, .int .i64 0, .int .u8 0, .string ⟨#[]⟩, .int .i64 0, .slice none 0 0, .int .i64 c.after, .int .i64 c.age, (.slice K2 c.keys.length kc2), (.slice P2 c.pres.length pc2)] 36)) (w.heap.size + 1 + 1) (.int .i64 0) (.int .i64 0) (.int .u8 0) (.string ⟨#[]⟩) (.int .i64 0) (.slice none 0 0) (.int .i64 c.after) (.int .i64 c.age) (.slice K2 c.keys.length kc2) (.slice P2 c.pres.length pc2) (F := [w.heap.size + 1 + 1]) (List.mem_singleton.2 rfl)
            refine ⟨j + 1, some c, K2, kc2, P2, pc2, by omega, by go_num, rfl, HN.out, HZ2.out.fr hFF (by simp), put10_at HBE2.out c.after c.age (.slice K2 c.keys.length kc2) (.slice P2 c.pres.length pc2), row_fr HCK.out hFF (fun g hg => by simpa using row_ne_claim HCK.out (by decide) HBE2.out g hg), row_fr HCP.out hFF (fun g hg => by simpa using row_ne_claim HCP.out (by decide) HBE2.out g hg), HCA.out, HQ2.out.fr hFF (by simp; omega), HB2.out.trans (hFF.toBelowOf (B := w.heap.size) HB2.out.size (fun i hi => by simp at hi; omega))⟩
          case measure => simp [intOf]; omega
        | some o =>
          simp only [Option.getD_some] at b6 b7 b8 b9
          by_cases h1 : c.age < o.age
          · have g1 : decide (c.age < o.age) = true := decide_eq_true h1
            have HN := Lib.hid (show anyTs ks ps (l.drop (j + 1)) (some c) = R by have := HNX.out; simp only at this; rw [show better c o = true by unfold better; rw [g1]; rfl] at this; exact this)
            clear h1
            go_wp2_with fail
            go_roundw
            case rel =>
              have hFF := put10_fr (w1.alloc (.cells #[.int .i64 0, .int .i64 0, .int .u8 0, .string ⟨#[]⟩, .int .i64 0, .slice none 0 0, .int .i64 c.after, .int .i64 c.age, (.slice K2 c.keys.length kc2), (.slice P2 c.pres.length pc2)] 36)) (w.heap.size + 1 + 1) (.int .i64 0) (.int .i64 0) (.int .u8 0) (.string ⟨#[]⟩) (.int .i64 0) (.slice none 0 0) (.int .i64 c.after) (.int .i64 c.age) (.slice K2 c.keys.length kc2) (.slice P2 c.pres.length pc2) (F := [w.heap.size + 1 + 1]) (List.mem_singleton.2 rfl)
              refine ⟨j + 1, some c, K2, kc2, P2, pc2, by omega, by go_num, rfl, HN.out, HZ2.out.fr hFF (by simp), put10_at HBE2.out c.after c.age (.slice K2 c.keys.length kc2) (.slice P2 c.pres.length pc2), row_fr HCK.out hFF (fun g hg => by simpa using row_ne_claim HCK.out (by decide) HBE2.out g hg), row_fr HCP.out hFF (fun g hg => by simpa using row_ne_claim HCP.out (by decide) HBE2.out g hg), HCA.out, HQ2.out.fr hFF (by simp; omega), HB2.out.trans (hFF.toBelowOf (B := w.heap.size) HB2.out.size (fun i hi => by simp at hi; omega))⟩
            case measure => simp [intOf]; omega
          · have g1 : decide (c.age < o.age) = false := decide_eq_false h1
            by_cases h2 : c.age = o.age
            · have g2 : (c.age == o.age) = true := by rw [h2]; exact beq_self_eq_true _
              by_cases h3 : c.after < o.after
              · have g3 : decide (c.after < o.after) = true := decide_eq_true h3
                have HN := Lib.hid (show anyTs ks ps (l.drop (j + 1)) (some c) = R by have := HNX.out; simp only at this; rw [show better c o = true by unfold better; rw [g1, g3, decide_eq_true h2]; rfl] at this; exact this)
                clear h1 h2 h3
                go_wp2_with fail
                go_roundw
                case rel =>
                  have hFF := put10_fr (w1.alloc (.cells #[.int .i64 0, .int .i64 0, .int .u8 0, .string ⟨#[]⟩, .int .i64 0, .slice none 0 0, .int .i64 c.after, .int .i64 c.age, (.slice K2 c.keys.length kc2), (.slice P2 c.pres.length pc2)] 36)) (w.heap.size + 1 + 1) (.int .i64 0) (.int .i64 0) (.int .u8 0) (.string ⟨#[]⟩) (.int .i64 0) (.slice none 0 0) (.int .i64 c.after) (.int .i64 c.age) (.slice K2 c.keys.length kc2) (.slice P2 c.pres.length pc2) (F := [w.heap.size + 1 + 1]) (List.mem_singleton.2 rfl)
                  refine ⟨j + 1, some c, K2, kc2, P2, pc2, by omega, by go_num, rfl, HN.out, HZ2.out.fr hFF (by simp), put10_at HBE2.out c.after c.age (.slice K2 c.keys.length kc2) (.slice P2 c.pres.length pc2), row_fr HCK.out hFF (fun g hg => by simpa using row_ne_claim HCK.out (by decide) HBE2.out g hg), row_fr HCP.out hFF (fun g hg => by simpa using row_ne_claim HCP.out (by decide) HBE2.out g hg), HCA.out, HQ2.out.fr hFF (by simp; omega), HB2.out.trans (hFF.toBelowOf (B := w.heap.size) HB2.out.size (fun i hi => by simp at hi; omega))⟩
                case measure => simp [intOf]; omega
              · have g3 : decide (c.after < o.after) = false := decide_eq_false h3
                have HN := Lib.hid (show anyTs ks ps (l.drop (j + 1)) (some o) = R by have := HNX.out; simp only at this; rw [show better c o = false by unfold better; rw [g1, g3, decide_eq_true h2]; rfl] at this; exact this)
                clear h1 h2 h3
                go_wp2_with fail
                go_roundw
                case rel => exact ⟨j + 1, some o, K, kc, P, pc, by omega, by go_num, rfl, HN.out, HZ2.out, HBE2.out, HK2.out, HP2.out, HAP.out, HQ2.out, HB2.out⟩
                case measure => simp [intOf]; omega
            · have g2 : (c.age == o.age) = false := beq_false_of_ne h2
              have HN := Lib.hid (show anyTs ks ps (l.drop (j + 1)) (some o) = R by have := HNX.out; simp only at this; rw [show better c o = false by unfold better; rw [g1, decide_eq_false h2]; rfl] at this; exact this)
              clear h1 h2
              go_wp2_with fail
              go_roundw
              case rel => exact ⟨j + 1, some o, K, kc, P, pc, by omega, by go_num, rfl, HN.out, HZ2.out, HBE2.out, HK2.out, HP2.out, HAP.out, HQ2.out, HB2.out⟩
              case measure => simp [intOf]; omega
    · have hRo : R = o := by
        rw [← hrest, List.drop_of_length_le (by omega)]
        unfold anyTs; rfl
      obtain ⟨b0, b1, b2, b3, b4, b5, b6, b7, b8, b9, bf⟩ := hbest.cells
      obtain ⟨z0, z1, z2, z3, z4, z5, z6, z7, z8, z9, zf⟩ := hzz.cells
      have HZZ := Lib.hid hzz
      have HRK := Lib.hid hrk
      have HRP := Lib.hid hrp
      have HAP := Lib.hid hap
      have HBEL := Lib.hid hbel
      have HRO := Lib.hid hRo
      clear hrest hzz hrk hrp hap hbel hbest hRo
      cases o with
      | none =>
        obtain ⟨c, hc0⟩ : ∃ c, (none : Option ClaimR).getD claim0 = c := ⟨_, rfl⟩
        have hcc : c.after = 0 ∧ c.age = 0 ∧ c.keys.length = 0 ∧ c.pres.length = 0 := by rw [← hc0]; exact ⟨rfl, rfl, rfl, rfl⟩
        rw [hc0] at b6 b7 b8 b9
        rw [hcc.1] at b6
        rw [hcc.2.1] at b7
        rw [hcc.2.2.1] at b8
        rw [hcc.2.2.2] at b9
        clear hc0 hcc HRK HRP HAP
        go_wp2_with fail
        change bodyPost _ _ _ _ _ (put10 wr (w.heap.size + 1) (.int .i64 0) (.int .i64 0) (.int .u8 0) (.string ⟨#[]⟩) (.int .i64 0) (.slice none 0 0) (.int .i64 0) (.int .i64 0) (.slice K 0 kc) (.slice P 0 pc))
        have hA := put10_at HZZ.out 0 0 (.slice K 0 kc) (.slice P 0 pc)
        have hF := HBEL.out.trans ((put10_fr wr (w.heap.size + 1) (.int .i64 0) (.int .i64 0) (.int .u8 0) (.string ⟨#[]⟩) (.int .i64 0) (.slice none 0 0) (.int .i64 0) (.int .i64 0) (.slice K 0 kc) (.slice P 0 pc) (F := [w.heap.size + 1]) (List.mem_singleton.2 rfl)).toBelowOf (B := w.heap.size) HBEL.out.size (fun i hi => by simp at hi; omega))
        generalize put10 wr (w.heap.size + 1) (.int .i64 0) (.int .i64 0) (.int .u8 0) (.string ⟨#[]⟩) (.int .i64 0) (.slice none 0 0) (.int .i64 0) (.int .i64 0) (.slice K 0 kc) (.slice P 0 pc) = Wf at hA hF ⊢
        clear b0 b1 b2 b3 b4 b5 b6 b7 b8 b9 bf z0 z1 z2 z3 z4 z5 z6 z7 z8 z9 zf
        obtain ⟨r0, r1, r2, r3, r4, r5, r6, r7, r8, r9, -⟩ := hA.cells
        exact bodyPost_ret (v := .tuple #[claimV 0 0 (.slice K 0 kc) (.slice P 0 pc), .bool false]) (by simp [results, Tryz.results18, go_sem, r0, r1, r2, r3, r4, r5, r6, r7, r8, r9, claimV]) rfl (by rw [show R = none from HRO.out]; exact ⟨K, kc, P, pc, rfl, hF⟩)
      | some c =>
        simp only [Option.getD_some] at b6 b7 b8 b9 HRK HRP HAP
        go_wp2_with fail
        change bodyPost _ _ _ _ _ (put10 wr (w.heap.size + 1) (.int .i64 0) (.int .i64 0) (.int .u8 0) (.string ⟨#[]⟩) (.int .i64 0) (.slice none 0 0) (.int .i64 c.after) (.int .i64 c.age) (.slice K c.keys.length kc) (.slice P c.pres.length pc))
        have hA := put10_at HZZ.out c.after c.age (.slice K c.keys.length kc) (.slice P c.pres.length pc)
        have hFF := put10_fr wr (w.heap.size + 1) (.int .i64 0) (.int .i64 0) (.int .u8 0) (.string ⟨#[]⟩) (.int .i64 0) (.slice none 0 0) (.int .i64 c.after) (.int .i64 c.age) (.slice K c.keys.length kc) (.slice P c.pres.length pc) (F := [w.heap.size + 1]) (List.mem_singleton.2 rfl)
        have hF := HBEL.out.trans (hFF.toBelowOf (B := w.heap.size) HBEL.out.size (fun i hi => by simp at hi; omega))
        have HK9 := Lib.hid (row_fr HRK.out hFF (fun g hg => by simpa using row_ne_claim HRK.out (by decide) HZZ.out g hg))
        have HP9 := Lib.hid (row_fr HRP.out hFF (fun g hg => by simpa using row_ne_claim HRP.out (by decide) HZZ.out g hg))
        generalize put10 wr (w.heap.size + 1) (.int .i64 0) (.int .i64 0) (.int .u8 0) (.string ⟨#[]⟩) (.int .i64 0) (.slice none 0 0) (.int .i64 c.after) (.int .i64 c.age) (.slice K c.keys.length kc) (.slice P c.pres.length pc) = Wf at hA hF HK9 HP9 ⊢
        clear b0 b1 b2 b3 b4 b5 b6 b7 b8 b9 bf z0 z1 z2 z3 z4 z5 z6 z7 z8 z9 zf hFF
        obtain ⟨r0, r1, r2, r3, r4, r5, r6, r7, r8, r9, -⟩ := hA.cells
        exact bodyPost_ret (v := .tuple #[claimV c.after c.age (.slice K c.keys.length kc) (.slice P c.pres.length pc), .bool true]) (by simp [results, Tryz.results18, go_sem, r0, r1, r2, r3, r4, r5, r6, r7, r8, r9, claimV]) rfl (by rw [show R = some c from HRO.out]; exact ⟨K, kc, P, pc, rfl, HK9.out, HP9.out, HAP.out, hF⟩)
end Go.Proofs.YtaonadgelkdbcaaGreatDoor
