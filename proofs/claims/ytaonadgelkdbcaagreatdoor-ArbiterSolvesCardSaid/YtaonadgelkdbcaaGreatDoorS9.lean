/- The document's ways: all of many. -/
import Derived.Test.YtaonadgelkdbcaaGreatDoorQ17
import Derived.Test.YtaonadgelkdbcaaGreatDoorS8
namespace Go.Proofs.YtaonadgelkdbcaaGreatDoor
open Go.RowKit

set_option maxRecDepth 100000 in
set_option maxHeartbeats 8000000 in
theorem rway_all (t : ByteArray) (n : Int) (l : List LockT) (A : Option Addr) (cap : Nat) (xs : List Value) (SA PA : Option Addr) (sc pc0 : Nat) (ks ps : List ByteArray) (w : World) (hll : l.length ≤ 1000) (hc : Cells w A xs) (hl : LocksC w l xs) (he : Cells w SA (strs ks)) (hp : Cells w PA (strs ps)) (hv : VarsOk w) (hne : 0 < l.length) (hsz : sizeTs l ≤ 1000)
    (HW : ∀ (i : Nat) (hi : i < l.length) (W : World) (cs : List Value), LockC W l[i] cs → Cells W SA (strs ks) → Cells W PA (strs ps) → VarsOk W → Calls Tryz.prog 27 #[.agg cs.toArray, .slice SA ks.length sc, .slice PA ps.length pc0] W (WayP (wayT ks ps l[i]) W)) :
    Calls Tryz.prog 27 #[.agg #[.int .u8 5, .string t, .int .i64 n, .slice A l.length cap], .slice SA ks.length sc, .slice PA ps.length pc0] w (WayP (allTs ks ps l claim0) w) := by
  have hb0 : Below w.heap.size w (w.alloc (.cells #[.int .u8 5, .string t, .int .i64 n, .slice A l.length cap] 32)) := (Below.refl _ _).alloc (Nat.le_refl _) _
  have hb1 : Below w.heap.size w ((w.alloc (.cells #[.int .u8 5, .string t, .int .i64 n, .slice A l.length cap] 32)).alloc (.cells #[.int .i64 0, .int .i64 0, .int .u8 0, .string ⟨#[]⟩, .int .i64 0, .slice none 0 0, .int .i64 0, .int .i64 0, (.slice none 0 0), (.slice none 0 0)] 39)) := hb0.alloc (by simp) _
  have hb2 : Below w.heap.size w (((w.alloc (.cells #[.int .u8 5, .string t, .int .i64 n, .slice A l.length cap] 32)).alloc (.cells #[.int .i64 0, .int .i64 0, .int .u8 0, .string ⟨#[]⟩, .int .i64 0, .slice none 0 0, .int .i64 0, .int .i64 0, (.slice none 0 0), (.slice none 0 0)] 39)).alloc (.cells #[.int .i64 0, .int .i64 0, .int .u8 0, .string ⟨#[]⟩, .int .i64 0, .slice none 0 0, .int .i64 0, .int .i64 0, (.slice none 0 0), (.slice none 0 0)] 39)) := hb1.alloc (by simp; omega) _
  have q0 : (((w.alloc (.cells #[.int .u8 5, .string t, .int .i64 n, .slice A l.length cap] 32)).alloc (.cells #[.int .i64 0, .int .i64 0, .int .u8 0, .string ⟨#[]⟩, .int .i64 0, .slice none 0 0, .int .i64 0, .int .i64 0, (.slice none 0 0), (.slice none 0 0)] 39)).alloc (.cells #[.int .i64 0, .int .i64 0, .int .u8 0, .string ⟨#[]⟩, .int .i64 0, .slice none 0 0, .int .i64 0, .int .i64 0, (.slice none 0 0), (.slice none 0 0)] 39)).cell? ⟨w.heap.size, 0, none⟩ = some (.int .u8 5) := cell_below ((Below.refl _ _).alloc (Nat.le_refl _) _) (cell_below ((Below.refl _ _).alloc (Nat.le_refl _) _) (alloc_cells 0 _ rfl : (w.alloc (.cells #[.int .u8 5, .string t, .int .i64 n, .slice A l.length cap] 32)).cell? ⟨w.heap.size, 0, none⟩ = some (.int .u8 5)))
  have q3 : (((w.alloc (.cells #[.int .u8 5, .string t, .int .i64 n, .slice A l.length cap] 32)).alloc (.cells #[.int .i64 0, .int .i64 0, .int .u8 0, .string ⟨#[]⟩, .int .i64 0, .slice none 0 0, .int .i64 0, .int .i64 0, (.slice none 0 0), (.slice none 0 0)] 39)).alloc (.cells #[.int .i64 0, .int .i64 0, .int .u8 0, .string ⟨#[]⟩, .int .i64 0, .slice none 0 0, .int .i64 0, .int .i64 0, (.slice none 0 0), (.slice none 0 0)] 39)).cell? ⟨w.heap.size, 3, none⟩ = some (.slice A l.length cap) := cell_below ((Below.refl _ _).alloc (Nat.le_refl _) _) (cell_below ((Below.refl _ _).alloc (Nat.le_refl _) _) (alloc_cells 3 _ rfl : (w.alloc (.cells #[.int .u8 5, .string t, .int .i64 n, .slice A l.length cap] 32)).cell? ⟨w.heap.size, 3, none⟩ = some (.slice A l.length cap)))
  have hz1 : RClaimAt ((w.alloc (.cells #[.int .u8 5, .string t, .int .i64 n, .slice A l.length cap] 32)).alloc (.cells #[.int .i64 0, .int .i64 0, .int .u8 0, .string ⟨#[]⟩, .int .i64 0, .slice none 0 0, .int .i64 0, .int .i64 0, (.slice none 0 0), (.slice none 0 0)] 39)) (w.heap.size + 1) 0 0 (.slice none 0 0) (.slice none 0 0) := by
    have h := Go.heap_alloc_new (w.alloc (.cells #[.int .u8 5, .string t, .int .i64 n, .slice A l.length cap] 32)) (.cells #[.int .i64 0, .int .i64 0, .int .u8 0, .string ⟨#[]⟩, .int .i64 0, .slice none 0 0, .int .i64 0, .int .i64 0, (.slice none 0 0), (.slice none 0 0)] 39)
    rw [show (w.alloc (.cells #[.int .u8 5, .string t, .int .i64 n, .slice A l.length cap] 32)).heap.size = w.heap.size + 1 by simp] at h
    exact h
  have hz2 : RClaimAt (((w.alloc (.cells #[.int .u8 5, .string t, .int .i64 n, .slice A l.length cap] 32)).alloc (.cells #[.int .i64 0, .int .i64 0, .int .u8 0, .string ⟨#[]⟩, .int .i64 0, .slice none 0 0, .int .i64 0, .int .i64 0, (.slice none 0 0), (.slice none 0 0)] 39)).alloc (.cells #[.int .i64 0, .int .i64 0, .int .u8 0, .string ⟨#[]⟩, .int .i64 0, .slice none 0 0, .int .i64 0, .int .i64 0, (.slice none 0 0), (.slice none 0 0)] 39)) (w.heap.size + 1 + 1) 0 0 (.slice none 0 0) (.slice none 0 0) := by
    have h := Go.heap_alloc_new ((w.alloc (.cells #[.int .u8 5, .string t, .int .i64 n, .slice A l.length cap] 32)).alloc (.cells #[.int .i64 0, .int .i64 0, .int .u8 0, .string ⟨#[]⟩, .int .i64 0, .slice none 0 0, .int .i64 0, .int .i64 0, (.slice none 0 0), (.slice none 0 0)] 39)) (.cells #[.int .i64 0, .int .i64 0, .int .u8 0, .string ⟨#[]⟩, .int .i64 0, .slice none 0 0, .int .i64 0, .int .i64 0, (.slice none 0 0), (.slice none 0 0)] 39)
    rw [show ((w.alloc (.cells #[.int .u8 5, .string t, .int .i64 n, .slice A l.length cap] 32)).alloc (.cells #[.int .i64 0, .int .i64 0, .int .u8 0, .string ⟨#[]⟩, .int .i64 0, .slice none 0 0, .int .i64 0, .int .i64 0, (.slice none 0 0), (.slice none 0 0)] 39)).heap.size = w.heap.size + 1 + 1 by simp] at h
    exact h
  have HB := Lib.hid hb2
  have HZ := Lib.hid (hz1.below ((Below.refl _ _).alloc (Nat.le_refl _) _) : RClaimAt (((w.alloc (.cells #[.int .u8 5, .string t, .int .i64 n, .slice A l.length cap] 32)).alloc (.cells #[.int .i64 0, .int .i64 0, .int .u8 0, .string ⟨#[]⟩, .int .i64 0, .slice none 0 0, .int .i64 0, .int .i64 0, (.slice none 0 0), (.slice none 0 0)] 39)).alloc (.cells #[.int .i64 0, .int .i64 0, .int .u8 0, .string ⟨#[]⟩, .int .i64 0, .slice none 0 0, .int .i64 0, .int .i64 0, (.slice none 0 0), (.slice none 0 0)] 39)) (w.heap.size + 1) 0 0 (.slice none 0 0) (.slice none 0 0))
  have HBE := Lib.hid hz2
  have HC := Lib.hid hc
  have HL := Lib.hid hl
  have HE := Lib.hid he
  have HV := Lib.hid hv
  have HPS := Lib.hid hp
  have HWW := Lib.hid HW
  have hk0 : BoxAt (w.alloc (.cells #[.int .u8 5, .string t, .int .i64 n, .slice A l.length cap] 32)) w.heap.size 5 t n A l.length cap := Go.heap_alloc_new w _
  have Q0 := Lib.hid (show BoxAt (((w.alloc (.cells #[.int .u8 5, .string t, .int .i64 n, .slice A l.length cap] 32)).alloc (.cells #[.int .i64 0, .int .i64 0, .int .u8 0, .string ⟨#[]⟩, .int .i64 0, .slice none 0 0, .int .i64 0, .int .i64 0, (.slice none 0 0), (.slice none 0 0)] 39)).alloc (.cells #[.int .i64 0, .int .i64 0, .int .u8 0, .string ⟨#[]⟩, .int .i64 0, .slice none 0 0, .int .i64 0, .int .i64 0, (.slice none 0 0), (.slice none 0 0)] 39)) w.heap.size 5 t n A l.length cap from (hk0.below ((Below.refl _ _).alloc (Nat.le_refl _) _)).below ((Below.refl _ _).alloc (Nat.le_refl _) _))
  clear hk0
  obtain ⟨R, hR⟩ : ∃ R, allTs ks ps l claim0 = R := ⟨_, rfl⟩
  rw [hR]
  have HR := Lib.hid hR
  clear hb0 hb1 hb2 hz1 hz2 hc hl he hp hv HW hR
  go_enter Tryz.func27, Tryz.ntmps27
  go_wp2_with fail
  go_loopw [16, 15] (fun i f wr => ∃ (j : Nat) (o : Option ClaimR) (K : Option Addr) (kc : Nat) (P : Option Addr) (pc : Nat), j ≤ l.length ∧ i = .int .i64 (j : Int) ∧ f = .bool o.isSome ∧ (allTs ks ps (l.drop j) (o.getD claim0) = R ∧ o.isSome = true ∧ (o.getD claim0).keys.length + sizeTs (l.drop j) ≤ 1000 ∧ (o.getD claim0).pres.length + sizeTs (l.drop j) ≤ 1000 ∧ 0 ≤ (o.getD claim0).after ∧ 0 ≤ (o.getD claim0).age) ∧ RClaimAt wr (w.heap.size + 1) 0 0 (.slice none 0 0) (.slice none 0 0) ∧ RClaimAt wr (w.heap.size + 1 + 1) (o.getD claim0).after (o.getD claim0).age (.slice K (o.getD claim0).keys.length kc) (.slice P (o.getD claim0).pres.length pc) ∧ Row wr w.heap.size 29 (.slice K (o.getD claim0).keys.length kc) (strs (o.getD claim0).keys) ∧ Row wr w.heap.size 29 (.slice P (o.getD claim0).pres.length pc) (strs (o.getD claim0).pres) ∧ ((Value.slice K (o.getD claim0).keys.length kc).ownBlock = none ∨ (Value.slice K (o.getD claim0).keys.length kc).ownBlock ≠ (Value.slice P (o.getD claim0).pres.length pc).ownBlock) ∧ BoxAt wr w.heap.size 5 t n A l.length cap ∧ Below w.heap.size w wr) (fun i _ _ => l.length - (intOf i).toNat)
  case atStart => exact ⟨0, some claim0, none, 0, none, 0, Nat.zero_le _, rfl, rfl, ⟨by rw [List.drop_zero]; exact HR.out, rfl, by rw [List.drop_zero]; show 0 + sizeTs l ≤ 1000; omega, by rw [List.drop_zero]; show 0 + sizeTs l ≤ 1000; omega, Int.le_refl _, Int.le_refl _⟩, HZ.out, HBE.out, Row.nil _ _ _, Row.nil _ _ _, .inl rfl, Q0.out, HB.out⟩
  case round =>
    obtain ⟨j, o, K, kc, P, pc, hj, rfl, rfl, hrest, hzz, hbest, hrk, hrp, hap, hq0, hbel⟩ := hrel
    obtain ⟨q0, q1, q2, q3⟩ := hq0.cells
    clear HZ HBE HB Q0
    by_cases hlt : j < l.length
    · obtain ⟨ad, B, cp, rfl, d0, d1, d2, d3, hlk⟩ := lock_at (Cells.below HC.out hbel) (LocksC.below hbel l xs HL.out) hlt
      have hbe : Below wr.heap.size wr wr := Below.refl _ _
      have hbw := hbel.trans (hbe.mono hbel.size)
      have hcall := HWW.out j hlt wr _ (LockC.below hbe _ _ hlk) (Cells.below HE.out hbw) (Cells.below HPS.out hbw) (HV.out.below hbw)
      have HB1 := Lib.hid hbw
      have HZ1 := Lib.hid (hzz.below hbe)
      have HBE1 := Lib.hid (hbest.below hbe)
      have HK1 := Lib.hid (hrk.below hbe)
      have HP1 := Lib.hid (hrp.below hbe)
      have HAP := Lib.hid hap
      have hdrop : l.drop j = l[j] :: l.drop (j + 1) := List.drop_eq_getElem_cons hlt
      rw [hdrop] at hrest
      have HREST := Lib.hid hrest
      have HQ1 := Lib.hid (hq0.below hbe)
      clear hlk hbe hbw hzz hbest hrk hrp hap hdrop hrest hbel hq0
      unfold WayP at hcall
      cases hq : wayT ks ps l[j] with
      | none =>
        rw [hq] at hcall
        simp only at hcall
        unfold claimV at hcall
        have HCALL := Lib.hid hcall
        have HN := Lib.hid (show R = none by rw [← HREST.out.1]; exact all_stop ks ps (l.drop (j + 1)) _ hq)
        clear hcall hq
        go_wp2_with fail
        refine HCALL.out.mono ?_
        rintro e w1 ⟨K2, kc2, P2, pc2, rfl, hb1⟩
        have hbx : Below w1.heap.size w1 (w1.alloc (.cells #[.int .i64 0, .int .i64 0, .int .u8 0, .string ⟨#[]⟩, .int .i64 0, .slice none 0 0, .int .i64 0, .int .i64 0, (.slice K2 0 kc2), (.slice P2 0 pc2)] 39)) := (Below.refl _ _).alloc (Nat.le_refl _) _
        have hb12 := hb1.trans (hbx.mono hb1.size)
        have HB2 := Lib.hid (HB1.out.trans (hb12.mono HB1.out.size))
        have HZ2 := Lib.hid (HZ1.out.below hb12)
        have HBE2 := Lib.hid (HBE1.out.below hb12)
        have HK2 := Lib.hid (HK1.out.below hb12)
        have HP2 := Lib.hid (HP1.out.below hb12)
        have HQ2 := Lib.hid (HQ1.out.below hb12)
        obtain ⟨qa, qb, qc, qd⟩ := HQ2.out.cells
        obtain ⟨z0, z1, z2, z3, z4, z5, z6, z7, z8, z9, zf⟩ := HZ2.out.cells
        clear hbx hb12 hb1
        go_wp2_with fail
        change bodyPost _ _ _ _ _ (put10 (w1.alloc (.cells #[.int .i64 0, .int .i64 0, .int .u8 0, .string ⟨#[]⟩, .int .i64 0, .slice none 0 0, .int .i64 0, .int .i64 0, (.slice K2 0 kc2), (.slice P2 0 pc2)] 39)) (w.heap.size + 1) (.int .i64 0) (.int .i64 0) (.int .u8 0) (.string ⟨#[]⟩) (.int .i64 0) (.slice none 0 0) (.int .i64 0) (.int .i64 0) (.slice none 0 0) (.slice none 0 0))
        have hA := rput10_at HZ2.out 0 0 (.slice none 0 0) (.slice none 0 0)
        have hF := HB2.out.trans ((put10_fr (w1.alloc (.cells #[.int .i64 0, .int .i64 0, .int .u8 0, .string ⟨#[]⟩, .int .i64 0, .slice none 0 0, .int .i64 0, .int .i64 0, (.slice K2 0 kc2), (.slice P2 0 pc2)] 39)) (w.heap.size + 1) (.int .i64 0) (.int .i64 0) (.int .u8 0) (.string ⟨#[]⟩) (.int .i64 0) (.slice none 0 0) (.int .i64 0) (.int .i64 0) (.slice none 0 0) (.slice none 0 0) (F := [w.heap.size + 1]) (List.mem_singleton.2 rfl)).toBelowOf (B := w.heap.size) HB2.out.size (fun i hi => by simp at hi; omega))
        generalize put10 (w1.alloc (.cells #[.int .i64 0, .int .i64 0, .int .u8 0, .string ⟨#[]⟩, .int .i64 0, .slice none 0 0, .int .i64 0, .int .i64 0, (.slice K2 0 kc2), (.slice P2 0 pc2)] 39)) (w.heap.size + 1) (.int .i64 0) (.int .i64 0) (.int .u8 0) (.string ⟨#[]⟩) (.int .i64 0) (.slice none 0 0) (.int .i64 0) (.int .i64 0) (.slice none 0 0) (.slice none 0 0) = Wf at hA hF ⊢
        clear z0 z1 z2 z3 z4 z5 z6 z7 z8 z9 zf
        obtain ⟨r0, r1, r2, r3, r4, r5, r6, r7, r8, r9, -⟩ := hA.cells
        exact bodyPost_ret (v := .tuple #[claimV 0 0 (.slice none 0 0) (.slice none 0 0), .bool false]) (by simp [results, Tryz.results27, go_sem, r0, r1, r2, r3, r4, r5, r6, r7, r8, r9, claimV]) rfl (by rw [HN.out]; exact ⟨none, 0, none, 0, rfl, hF⟩)
      | some c =>
        rw [hq] at hcall
        simp only at hcall
        unfold claimV at hcall
        have HCALL := Lib.hid hcall
        have HN := Lib.hid (show allTs ks ps (l.drop (j + 1)) (joinC (o.getD claim0) c) = R by rw [← HREST.out.1]; exact (all_next ks ps (l.drop (j + 1)) _ hq).symm)
        have hwl := wayT_len ks ps l[j] hq
        have hll2 := HREST.out.2.2
        have hjl1 := joinL_len c.keys (o.getD claim0).keys
        have hjl2 := joinL_len c.pres (o.getD claim0).pres
        have hs2 : sizeTs (l[j] :: l.drop (j + 1)) = sizeT l[j] + sizeTs (l.drop (j + 1)) := by conv => lhs; unfold sizeTs
        rw [hs2] at hll2
        have HLL := Lib.hid (show (joinC (o.getD claim0) c).keys.length + sizeTs (l.drop (j + 1)) ≤ 1000 ∧ (joinC (o.getD claim0) c).pres.length + sizeTs (l.drop (j + 1)) ≤ 1000 ∧ 0 ≤ (joinC (o.getD claim0) c).after ∧ 0 ≤ (joinC (o.getD claim0) c).age from ⟨by show (joinL (o.getD claim0).keys c.keys).length + _ ≤ _; omega, by show (joinL (o.getD claim0).pres c.pres).length + _ ≤ _; omega, by show (0 : Int) ≤ max (max 0 _) _; omega, by show (0 : Int) ≤ max (max 0 _) _; omega⟩)
        have hba : 0 ≤ (o.getD claim0).after ∧ 0 ≤ (o.getD claim0).age := HREST.out.2.2.2.2
        have hlk1 : (o.getD claim0).keys.length ≤ 100000 := by omega
        have hlk2 : c.keys.length ≤ 100000 := by omega
        have hlp1 : (o.getD claim0).pres.length ≤ 100000 := by omega
        have hlp2 : c.pres.length ≤ 100000 := by omega
        clear hcall hq hwl hll2 hjl1 hjl2 hs2
        go_wp2_with fail
        refine HCALL.out.mono ?_
        rintro e w1 ⟨K2, kc2, P2, pc2, rfl, hck, hcp, hca, hb1⟩
        have hbx : Below w1.heap.size w1 (w1.alloc (.cells #[.int .i64 0, .int .i64 0, .int .u8 0, .string ⟨#[]⟩, .int .i64 0, .slice none 0 0, .int .i64 c.after, .int .i64 c.age, (.slice K2 c.keys.length kc2), (.slice P2 c.pres.length pc2)] 39)) := (Below.refl _ _).alloc (Nat.le_refl _) _
        have hb12 := hb1.trans (hbx.mono hb1.size)
        have HB2 := Lib.hid (HB1.out.trans (hb12.mono HB1.out.size))
        have HZ2 := Lib.hid (HZ1.out.below hb12)
        have HBE2 := Lib.hid (HBE1.out.below hb12)
        have HK2 := Lib.hid (HK1.out.below hb12)
        have HP2 := Lib.hid (HP1.out.below hb12)
        have HQ2 := Lib.hid (HQ1.out.below hb12)
        obtain ⟨qa, qb, qc, qd⟩ := HQ2.out.cells
        have HCK := Lib.hid ((hck.base_le (Nat.le_trans HB1.out.size (Nat.le_refl _))).below hbx)
        have HCP := Lib.hid ((hcp.base_le (Nat.le_trans HB1.out.size (Nat.le_refl _))).below hbx)
        have HNB := Lib.hid (new_blocks hck HK1.out HP1.out)
        have HNC := Lib.hid (new_blocks hcp HK1.out HP1.out)
        have hcx : RClaimAt (w1.alloc (.cells #[.int .i64 0, .int .i64 0, .int .u8 0, .string ⟨#[]⟩, .int .i64 0, .slice none 0 0, .int .i64 c.after, .int .i64 c.age, (.slice K2 c.keys.length kc2), (.slice P2 c.pres.length pc2)] 39)) w1.heap.size c.after c.age (.slice K2 c.keys.length kc2) (.slice P2 c.pres.length pc2) := Go.heap_alloc_new w1 _
        have HCX := Lib.hid hcx
        clear hbx hb12 hb1 hck hcp hca
        have h5 : (w1.alloc (.cells #[.int .i64 0, .int .i64 0, .int .u8 0, .string ⟨#[]⟩, .int .i64 0, .slice none 0 0, .int .i64 c.after, .int .i64 c.age, (.slice K2 c.keys.length kc2), (.slice P2 c.pres.length pc2)] 39)).cell? ⟨w1.heap.size, 0, none⟩ = some (.int .i64 0) := hcx.cells.1
        clear hcx
        obtain ⟨b, hbb⟩ : ∃ b, o.getD claim0 = b := ⟨_, rfl⟩
        rw [hbb] at HBE2 HK2 HP2 HAP HN HLL hlk1 hlp1 hba HNB HNC
        go_upto_region 31 with fail
        generalize hW : w1.alloc (.cells #[.int .i64 0, .int .i64 0, .int .u8 0, .string ⟨#[]⟩, .int .i64 0, .slice none 0 0, .int .i64 c.after, .int .i64 c.age, (.slice K2 c.keys.length kc2), (.slice P2 c.pres.length pc2)] 39) = W at HB2 HZ2 HBE2 HK2 HP2 HCK HCP HCX qa qb qc qd HQ2 ⊢
        have HI := Lib.hid (show RJoinInv t n (some ad) l.length cap w w1.heap.size b c K kc P pc K2 kc2 P2 pc2 W from ⟨HBE2.out, HCX.out, HZ2.out, HQ2.out, HCK.out, HCP.out, HB2.out⟩)
        have HKd := Lib.hid (show Row W w.heap.size 29 (.slice K b.keys.length kc) (strs b.keys) from HK2.out)
        have HPd := Lib.hid (show Row W w.heap.size 29 (.slice P b.pres.length pc) (strs b.pres) from HP2.out)
        clear HB2 HZ2 HBE2 HK2 HP2 HCK HCP HCX qa qb qc qd HQ2 hW
        have HMA := Lib.hid (show max b.after c.after = (joinC b c).after by unfold joinC; show _ = max (max 0 b.after) c.after; rw [Int.max_eq_right hba.1])
        have HMG := Lib.hid (show max b.age c.age = (joinC b c).age by unfold joinC; show _ = max (max 0 b.age) c.age; rw [Int.max_eq_right hba.2])
        have JA := Lib.hid (fun V (e1 : V.heap = W.heap) (e2 : V.os = W.os) (e3 : V.tape = W.tape) (e4 : V.output = W.output) => rjoin_keys (HI.out.same (V' := V) e1 (e2.trans HI.out.below.os) (e3.trans HI.out.below.tape) (e4.trans HI.out.below.output)) hlk1 hlk2 (row_same HKd.out e1) (row_same HPd.out e1) HAP.out HNB.out.1 HNC.out.1)
        have JP := Lib.hid (fun V V0 K3 kc3 (h : RJoinInv t n (some ad) l.length cap w w1.heap.size b c K kc P pc K2 kc2 P2 pc2 V0) hK hP hap (e1 : V.heap = V0.heap) (e2 : V.os = V0.os) (e3 : V.tape = V0.tape) (e4 : V.output = V0.output) => rjoin_pres (K3 := K3) (kc3 := kc3) (n3 := (joinL b.keys c.keys).length) (x3 := strs (joinL b.keys c.keys)) (h.same (V' := V) e1 (e2.trans h.below.os) (e3.trans h.below.tape) (e4.trans h.below.output)) hlp1 hlp2 (row_same hK e1) (row_same hP e1) hap HNB.out.2 HNC.out.2)
        clear hlk1 hlk2 hlp1 hlp2 hba
        refine wp_region_noPanic ?_
        refine wp_region_any (by kernel_rfl) (anyG_any (S := (fun V => V.cell? ⟨w.heap.size + 1 + 1, 6, none⟩ = some (.int .i64 b.after) ∧ V.cell? ⟨w.heap.size + 1 + 1, 7, none⟩ = some (.int .i64 b.age) ∧ V.cell? ⟨w.heap.size + 1 + 1, 8, none⟩ = some (.slice K b.keys.length kc) ∧ V.cell? ⟨w.heap.size + 1 + 1, 9, none⟩ = some (.slice P b.pres.length pc) ∧ V.cell? ⟨w1.heap.size, 6, none⟩ = some (.int .i64 c.after) ∧ V.cell? ⟨w1.heap.size, 7, none⟩ = some (.int .i64 c.age) ∧ V.cell? ⟨w1.heap.size, 8, none⟩ = some (.slice K2 c.keys.length kc2) ∧ V.cell? ⟨w1.heap.size, 9, none⟩ = some (.slice P2 c.pres.length pc2))) (n := 21) _ _ _ _ ?_)
        have hS : (fun V => V.cell? ⟨w.heap.size + 1 + 1, 6, none⟩ = some (.int .i64 b.after) ∧ V.cell? ⟨w.heap.size + 1 + 1, 7, none⟩ = some (.int .i64 b.age) ∧ V.cell? ⟨w.heap.size + 1 + 1, 8, none⟩ = some (.slice K b.keys.length kc) ∧ V.cell? ⟨w.heap.size + 1 + 1, 9, none⟩ = some (.slice P b.pres.length pc) ∧ V.cell? ⟨w1.heap.size, 6, none⟩ = some (.int .i64 c.after) ∧ V.cell? ⟨w1.heap.size, 7, none⟩ = some (.int .i64 c.age) ∧ V.cell? ⟨w1.heap.size, 8, none⟩ = some (.slice K2 c.keys.length kc2) ∧ V.cell? ⟨w1.heap.size, 9, none⟩ = some (.slice P2 c.pres.length pc2)) W.drew := RJoinInv.Sat (V0 := W) HI.out rfl
        change AnyG _ _ _ _ _ _ 22 (Array.replicate 22 false) _ W.drew
        refine anyG_take (i := 0) (v := ?_) rfl rfl (by kernel_rfl) (by kernel_rfl) (by kernel_rfl) (by kernel_rfl) (by kernel_rfl) (fun _ _ _ h => h) (Or.inl ⟨by rfl, ?_⟩) hS ?_
        rotate_left
        · (intro w' hSw; (try dsimp only at hSw); go_simp; (try with_reducible rfl))
        try simp only [Act.put, List.setIfInBounds_toArray, List.set_cons_zero, List.set_cons_succ]
        refine anyG_take (i := 1) (v := ?_) rfl rfl (by kernel_rfl) (by kernel_rfl) (by kernel_rfl) (by kernel_rfl) (by kernel_rfl) (fun _ _ _ h => h) (Or.inl ⟨by rfl, ?_⟩) hS ?_
        rotate_left
        · (intro w' hSw; (try dsimp only at hSw); go_simp; (try with_reducible rfl))
        try simp only [Act.put, List.setIfInBounds_toArray, List.set_cons_zero, List.set_cons_succ]
        refine anyG_take (i := 2) (v := ?_) rfl rfl (by kernel_rfl) (by kernel_rfl) (by kernel_rfl) (by kernel_rfl) (by kernel_rfl) (fun _ _ _ h => h) (Or.inl ⟨by rfl, ?_⟩) hS ?_
        rotate_left
        · (intro w' hSw; (try dsimp only at hSw); go_simp; (try with_reducible rfl))
        try simp only [Act.put, List.setIfInBounds_toArray, List.set_cons_zero, List.set_cons_succ]
        refine anyG_take (i := 3) (v := ?_) rfl rfl (by kernel_rfl) (by kernel_rfl) (by kernel_rfl) (by kernel_rfl) (by kernel_rfl) (fun _ _ _ h => h) (Or.inl ⟨by rfl, ?_⟩) hS ?_
        rotate_left
        · (intro w' hSw; (try dsimp only at hSw); go_simp; (try with_reducible rfl))
        try simp only [Act.put, List.setIfInBounds_toArray, List.set_cons_zero, List.set_cons_succ]
        refine anyG_take (i := 4) (v := ?_) rfl rfl (by kernel_rfl) (by kernel_rfl) (by kernel_rfl) (by kernel_rfl) (by kernel_rfl) (fun _ _ _ h => h) (Or.inl ⟨by rfl, ?_⟩) hS ?_
        rotate_left
        · (intro w' hSw; (try dsimp only at hSw); go_simp; (try with_reducible rfl))
        try simp only [Act.put, List.setIfInBounds_toArray, List.set_cons_zero, List.set_cons_succ]
        refine anyG_take (i := 5) (v := ?_) rfl rfl (by kernel_rfl) (by kernel_rfl) (by kernel_rfl) (by kernel_rfl) (by kernel_rfl) (fun _ _ _ h => h) (Or.inl ⟨by rfl, ?_⟩) hS ?_
        rotate_left
        · (intro w' hSw; (try dsimp only at hSw); go_simp; (try with_reducible rfl))
        try simp only [Act.put, List.setIfInBounds_toArray, List.set_cons_zero, List.set_cons_succ]
        refine anyG_take (i := 6) (v := ?_) rfl rfl (by kernel_rfl) (by kernel_rfl) (by kernel_rfl) (by kernel_rfl) (by kernel_rfl) (fun _ _ _ h => h) (Or.inl ⟨by rfl, ?_⟩) hS ?_
        rotate_left
        · (intro w' hSw; (try dsimp only at hSw); go_simp; (try with_reducible rfl))
        try simp only [Act.put, List.setIfInBounds_toArray, List.set_cons_zero, List.set_cons_succ]
        refine anyG_take (i := 7) (v := ?_) rfl rfl (by kernel_rfl) (by kernel_rfl) (by kernel_rfl) (by kernel_rfl) (by kernel_rfl) (fun _ _ _ h => h) (Or.inl ⟨by rfl, ?_⟩) hS ?_
        rotate_left
        · (intro w' hSw; (try dsimp only at hSw); go_simp; (try with_reducible rfl))
        try simp only [Act.put, List.setIfInBounds_toArray, List.set_cons_zero, List.set_cons_succ]
        refine anyG_take (i := 8) (v := ?_) rfl rfl (by kernel_rfl) (by kernel_rfl) (by kernel_rfl) (by kernel_rfl) (by kernel_rfl) (fun _ _ _ h => h) (Or.inl ⟨by rfl, ?_⟩) hS ?_
        rotate_left
        · (intro w' hSw; (try dsimp only at hSw); go_simp; (try with_reducible rfl))
        try simp only [Act.put, List.setIfInBounds_toArray, List.set_cons_zero, List.set_cons_succ]
        refine anyG_take (i := 9) (v := ?_) rfl rfl (by kernel_rfl) (by kernel_rfl) (by kernel_rfl) (by kernel_rfl) (by kernel_rfl) (fun _ _ _ h => h) (Or.inl ⟨by rfl, ?_⟩) hS ?_
        rotate_left
        · (intro w' hSw; (try dsimp only at hSw); go_simp; (try with_reducible rfl))
        try simp only [Act.put, List.setIfInBounds_toArray, List.set_cons_zero, List.set_cons_succ]
        refine anyG_take (i := 10) (v := ?_) rfl rfl (by kernel_rfl) (by kernel_rfl) (by kernel_rfl) (by kernel_rfl) (by kernel_rfl) (fun _ _ _ h => h) (Or.inl ⟨by rfl, ?_⟩) hS ?_
        rotate_left
        · (intro w' hSw; (try dsimp only at hSw); go_simp; (try with_reducible rfl))
        try simp only [Act.put, List.setIfInBounds_toArray, List.set_cons_zero, List.set_cons_succ]
        refine anyG_take (i := 11) (v := ?_) rfl rfl (by kernel_rfl) (by kernel_rfl) (by kernel_rfl) (by kernel_rfl) (by kernel_rfl) (fun _ _ _ h => h) (Or.inl ⟨by rfl, ?_⟩) hS ?_
        rotate_left
        · (intro w' hSw; (try dsimp only at hSw); go_simp; (try with_reducible rfl))
        try simp only [Act.put, List.setIfInBounds_toArray, List.set_cons_zero, List.set_cons_succ]
        refine anyG_take (i := 12) (v := ?_) rfl rfl (by kernel_rfl) (by kernel_rfl) (by kernel_rfl) (by kernel_rfl) (by kernel_rfl) (fun _ _ _ h => h) (Or.inl ⟨by rfl, ?_⟩) hS ?_
        rotate_left
        · (intro w' hSw; (try dsimp only at hSw); go_simp; (try with_reducible rfl))
        try simp only [Act.put, List.setIfInBounds_toArray, List.set_cons_zero, List.set_cons_succ]
        refine anyG_take (i := 13) (v := ?_) rfl rfl (by kernel_rfl) (by kernel_rfl) (by kernel_rfl) (by kernel_rfl) (by kernel_rfl) (fun _ _ _ h => h) (Or.inl ⟨by rfl, ?_⟩) hS ?_
        rotate_left
        · (intro w' hSw; (try dsimp only at hSw); go_simp; (try with_reducible rfl))
        try simp only [Act.put, List.setIfInBounds_toArray, List.set_cons_zero, List.set_cons_succ]
        refine anyG_take (i := 15) (v := ?_) rfl rfl (by kernel_rfl) (by kernel_rfl) (by kernel_rfl) (by kernel_rfl) (by kernel_rfl) (fun _ _ _ h => h) (Or.inl ⟨by rfl, ?_⟩) hS ?_
        rotate_left
        · (intro w' hSw; (try dsimp only at hSw); go_simp; (try with_reducible rfl))
        try simp only [Act.put, List.setIfInBounds_toArray, List.set_cons_zero, List.set_cons_succ]
        refine anyG_take (i := 16) (v := ?_) rfl rfl (by kernel_rfl) (by kernel_rfl) (by kernel_rfl) (by kernel_rfl) (by kernel_rfl) (fun _ _ _ h => h) (Or.inl ⟨by rfl, ?_⟩) hS ?_
        rotate_left
        · (intro w' hSw; (try dsimp only at hSw); go_simp; (try with_reducible rfl))
        try simp only [Act.put, List.setIfInBounds_toArray, List.set_cons_zero, List.set_cons_succ]
        refine anyG_take (i := 17) (v := ?_) rfl rfl (by kernel_rfl) (by kernel_rfl) (by kernel_rfl) (by kernel_rfl) (by kernel_rfl) (fun _ _ _ h => h) (Or.inl ⟨by rfl, ?_⟩) hS ?_
        rotate_left
        · (intro w' hSw; (try dsimp only at hSw); go_simp; (try with_reducible rfl))
        try simp only [Act.put, List.setIfInBounds_toArray, List.set_cons_zero, List.set_cons_succ]
        refine anyG_take (i := 18) (v := ?_) rfl rfl (by kernel_rfl) (by kernel_rfl) (by kernel_rfl) (by kernel_rfl) (by kernel_rfl) (fun _ _ _ h => h) (Or.inl ⟨by rfl, ?_⟩) hS ?_
        rotate_left
        · (intro w' hSw; (try dsimp only at hSw); go_simp; (try with_reducible rfl))
        try simp only [Act.put, List.setIfInBounds_toArray, List.set_cons_zero, List.set_cons_succ]
        clear hS
        refine anyG_all (rs := [14]) (by kernel_rfl) (by simp) (List.forall_mem_singleton.2 ?_)
        refine wpOp_step rfl (fun K' hK => ?_)
        have HK := Lib.hid hK
        clear hK
        rw [if_pos (by rfl)]
        go_simp
        refine Calls.mono (JA.out _ rfl rfl rfl rfl) ?_
        rintro e wj ⟨K3, kc3, rfl, hi1, hk3, hp3, ha3⟩
        have HJ1 := Lib.hid hi1
        have HK3 := Lib.hid hk3
        have HP3 := Lib.hid hp3
        have HA3 := Lib.hid ha3
        clear hi1 hk3 hp3 ha3
        go_wp2_with fail
        refine HK.out _ _ ⟨fun _ => RJoinInv.Sat (V0 := wj) HJ1.out rfl, ?_⟩
        clear HK
        try simp only [Act.put, List.setIfInBounds_toArray, List.set_cons_zero, List.set_cons_succ]
        refine anyG_all (rs := [19]) (by kernel_rfl) (by simp) (List.forall_mem_singleton.2 ?_)
        refine wpOp_step rfl (fun K' hK => ?_)
        have HK := Lib.hid hK
        clear hK
        rw [if_pos (by rfl)]
        go_simp
        refine Calls.mono (JP.out _ wj K3 kc3 HJ1.out HK3.out HP3.out HA3.out rfl rfl rfl rfl) ?_
        rintro e wk ⟨P3, pc3, rfl, hi2, hk4, hp4, ha4⟩
        obtain ⟨e0, e1, e2, e3, e4, e5, e6, e7, e8, e9, ef⟩ := hi2.cl.cells
        have HJ2 := Lib.hid hi2
        have HK4 := Lib.hid hk4
        have HP4 := Lib.hid hp4
        have HA4 := Lib.hid ha4
        clear hi2 hk4 hp4 ha4
        go_wp2_with fail
        refine HK.out _ _ ⟨fun _ => RJoinInv.Sat (V0 := wk) HJ2.out rfl, ?_⟩
        clear HK
        try simp only [Act.put, List.setIfInBounds_toArray, List.set_cons_zero, List.set_cons_succ]
        refine anyG_all (rs := [20]) (by kernel_rfl) (by simp) (List.forall_mem_singleton.2 ?_)
        refine wpOp_step rfl (fun K' hK => ?_)
        have HK := Lib.hid hK
        clear hK
        rw [if_pos (by rfl)]
        go_simp
        refine HK.out _ _ ⟨fun _ => RJoinInv.Sat (V0 := wk) HJ2.out rfl, ?_⟩
        clear HK
        try simp only [Act.put, List.setIfInBounds_toArray, List.set_cons_zero, List.set_cons_succ]
        refine anyG_all (rs := [21]) (by kernel_rfl) (by simp) (List.forall_mem_singleton.2 ?_)
        refine wpOp_step rfl (fun K' hK => ?_)
        have HK := Lib.hid hK
        clear hK
        rw [if_pos (by rfl)]
        go_simp
        refine HK.out _ _ ⟨fun h => absurd rfl h, anyG_done (by kernel_rfl) ?_⟩
        clear HK
        refine NoPanic.normal ?_
        go_wp2_with fail
        rw [HMA.out, HMG.out]
        go_roundw
        case rel =>
          have hFF := put10_fr wk (w.heap.size + 1 + 1) (.int .i64 0) (.int .i64 0) (.int .u8 0) (.string ⟨#[]⟩) (.int .i64 0) (.slice none 0 0) (.int .i64 (joinC b c).after) (.int .i64 (joinC b c).age) (.slice K3 (joinL b.keys c.keys).length kc3) (.slice P3 (joinL b.pres c.pres).length pc3) (F := [w.heap.size + 1 + 1]) (List.mem_singleton.2 rfl)
          exact ⟨j + 1, some (joinC b c), K3, kc3, P3, pc3, by omega, by go_num, (by rw [HREST.out.2.1]; rfl), ⟨HN.out, rfl, HLL.out⟩, HJ2.out.cz.fr hFF (by simp), rput10_at HJ2.out.cl (joinC b c).after (joinC b c).age (.slice K3 (joinL b.keys c.keys).length kc3) (.slice P3 (joinL b.pres c.pres).length pc3), row_fr HK4.out hFF (fun g hg => by simpa using row_ne_rclaim HK4.out (by decide) HJ2.out.cl g hg), row_fr HP4.out hFF (fun g hg => by simpa using row_ne_rclaim HP4.out (by decide) HJ2.out.cl g hg), HA4.out, HJ2.out.q.fr hFF (by simp; omega), HJ2.out.below.trans (hFF.toBelowOf (B := w.heap.size) HJ2.out.below.size (fun i hi => by simp at hi; omega))⟩
        case measure => simp [intOf]; omega
    · have hRo : R = o := by
        rw [← hrest.1, List.drop_of_length_le (by omega)]
        cases o with
        | none => have := hrest.2.1; cases this
        | some c => unfold allTs; rfl
      obtain ⟨b0, b1, b2, b3, b4, b5, b6, b7, b8, b9, bf⟩ := hbest.cells
      obtain ⟨z0, z1, z2, z3, z4, z5, z6, z7, z8, z9, zf⟩ := hzz.cells
      have HZZ := Lib.hid hzz
      have HRK := Lib.hid hrk
      have HRP := Lib.hid hrp
      have HAP := Lib.hid hap
      have HBEL := Lib.hid hbel
      have HRO := Lib.hid hRo
      clear hrest hzz hrk hrp hap hbel hbest hRo
      cases o with
      | none =>
        obtain ⟨c, hc0⟩ : ∃ c, (none : Option ClaimR).getD claim0 = c := ⟨_, rfl⟩
        have hcc : c.after = 0 ∧ c.age = 0 ∧ c.keys.length = 0 ∧ c.pres.length = 0 := by rw [← hc0]; exact ⟨rfl, rfl, rfl, rfl⟩
        rw [hc0] at b6 b7 b8 b9
        rw [hcc.1] at b6
        rw [hcc.2.1] at b7
        rw [hcc.2.2.1] at b8
        rw [hcc.2.2.2] at b9
        clear hc0 hcc HRK HRP HAP
        go_wp2_with fail
        change bodyPost _ _ _ _ _ (put10 wr (w.heap.size + 1) (.int .i64 0) (.int .i64 0) (.int .u8 0) (.string ⟨#[]⟩) (.int .i64 0) (.slice none 0 0) (.int .i64 0) (.int .i64 0) (.slice K 0 kc) (.slice P 0 pc))
        have hA := rput10_at HZZ.out 0 0 (.slice K 0 kc) (.slice P 0 pc)
        have hF := HBEL.out.trans ((put10_fr wr (w.heap.size + 1) (.int .i64 0) (.int .i64 0) (.int .u8 0) (.string ⟨#[]⟩) (.int .i64 0) (.slice none 0 0) (.int .i64 0) (.int .i64 0) (.slice K 0 kc) (.slice P 0 pc) (F := [w.heap.size + 1]) (List.mem_singleton.2 rfl)).toBelowOf (B := w.heap.size) HBEL.out.size (fun i hi => by simp at hi; omega))
        generalize put10 wr (w.heap.size + 1) (.int .i64 0) (.int .i64 0) (.int .u8 0) (.string ⟨#[]⟩) (.int .i64 0) (.slice none 0 0) (.int .i64 0) (.int .i64 0) (.slice K 0 kc) (.slice P 0 pc) = Wf at hA hF ⊢
        clear b0 b1 b2 b3 b4 b5 b6 b7 b8 b9 bf z0 z1 z2 z3 z4 z5 z6 z7 z8 z9 zf
        obtain ⟨r0, r1, r2, r3, r4, r5, r6, r7, r8, r9, -⟩ := hA.cells
        exact bodyPost_ret (v := .tuple #[claimV 0 0 (.slice K 0 kc) (.slice P 0 pc), .bool false]) (by simp [results, Tryz.results27, go_sem, r0, r1, r2, r3, r4, r5, r6, r7, r8, r9, claimV]) rfl (by rw [show R = none from HRO.out]; exact ⟨K, kc, P, pc, rfl, hF⟩)
      | some c =>
        simp only [Option.getD_some] at b6 b7 b8 b9 HRK HRP HAP
        go_wp2_with fail
        change bodyPost _ _ _ _ _ (put10 wr (w.heap.size + 1) (.int .i64 0) (.int .i64 0) (.int .u8 0) (.string ⟨#[]⟩) (.int .i64 0) (.slice none 0 0) (.int .i64 c.after) (.int .i64 c.age) (.slice K c.keys.length kc) (.slice P c.pres.length pc))
        have hA := rput10_at HZZ.out c.after c.age (.slice K c.keys.length kc) (.slice P c.pres.length pc)
        have hFF := put10_fr wr (w.heap.size + 1) (.int .i64 0) (.int .i64 0) (.int .u8 0) (.string ⟨#[]⟩) (.int .i64 0) (.slice none 0 0) (.int .i64 c.after) (.int .i64 c.age) (.slice K c.keys.length kc) (.slice P c.pres.length pc) (F := [w.heap.size + 1]) (List.mem_singleton.2 rfl)
        have hF := HBEL.out.trans (hFF.toBelowOf (B := w.heap.size) HBEL.out.size (fun i hi => by simp at hi; omega))
        have HK9 := Lib.hid (row_fr HRK.out hFF (fun g hg => by simpa using row_ne_rclaim HRK.out (by decide) HZZ.out g hg))
        have HP9 := Lib.hid (row_fr HRP.out hFF (fun g hg => by simpa using row_ne_rclaim HRP.out (by decide) HZZ.out g hg))
        generalize put10 wr (w.heap.size + 1) (.int .i64 0) (.int .i64 0) (.int .u8 0) (.string ⟨#[]⟩) (.int .i64 0) (.slice none 0 0) (.int .i64 c.after) (.int .i64 c.age) (.slice K c.keys.length kc) (.slice P c.pres.length pc) = Wf at hA hF HK9 HP9 ⊢
        clear b0 b1 b2 b3 b4 b5 b6 b7 b8 b9 bf z0 z1 z2 z3 z4 z5 z6 z7 z8 z9 zf hFF
        obtain ⟨r0, r1, r2, r3, r4, r5, r6, r7, r8, r9, -⟩ := hA.cells
        exact bodyPost_ret (v := .tuple #[claimV c.after c.age (.slice K c.keys.length kc) (.slice P c.pres.length pc), .bool true]) (by simp [results, Tryz.results27, go_sem, r0, r1, r2, r3, r4, r5, r6, r7, r8, r9, claimV]) rfl (by rw [show R = some c from HRO.out]; exact ⟨K, kc, P, pc, rfl, HK9.out, HP9.out, HAP.out, hF⟩)
end Go.Proofs.YtaonadgelkdbcaaGreatDoor
