/- The document's Solve. -/
import Derived.Test.YtaonadgelkdbcaaGreatDoorS5
import Derived.Test.YtaonadgelkdbcaaGreatDoorS9
import Derived.Test.YtaonadgelkdbcaaGreatDoorQ18
namespace Go.Proofs.YtaonadgelkdbcaaGreatDoor
open Go.RowKit

theorem rways (SA PA : Option Addr) (sc pc : Nat) (ks ps : List ByteArray) (ho : EnvOk ks ps) : ∀ (m : Nat) (x : LockT) (cs : List Value) (w : World), sizeT x ≤ m → sizeT x ≤ 1000 → rightT x = true → LockC w x cs → Cells w SA (strs ks) → Cells w PA (strs ps) → VarsOk w →
    Calls Tryz.prog 27 #[.agg cs.toArray, .slice SA ks.length sc, .slice PA ps.length pc] w (WayP (wayT ks ps x) w)
  | 0, x, _, _, hm, _, _, _, _, _, _ => absurd (sizeT_pos x) (by omega)
  | m + 1, .node k t n l, cs, w, hm, h1000, hr, hc, he, hp, hv => by
    unfold LockC at hc
    obtain ⟨A, cap, xs, rfl, h2, h3⟩ := hc
    unfold rightT at hr
    rw [Bool.and_eq_true] at hr
    obtain ⟨hk, hl⟩ := hr
    have hsz := sizeT_kids (.node k t n l)
    simp only [LockT.kids] at hsz
    have hll := len_le_sizeTs l
    have HW : ∀ (i : Nat) (hi : i < l.length) (W : World) (cs : List Value), LockC W l[i] cs → Cells W SA (strs ks) → Cells W PA (strs ps) → VarsOk W → Calls Tryz.prog 27 #[.agg cs.toArray, .slice SA ks.length sc, .slice PA ps.length pc] W (WayP (wayT ks ps l[i]) W) :=
      fun i hi W cs g1 g2 g3 g4 => rways SA PA sc pc ks ps ho m l[i] cs W (by have := sizeTs_at i hi; omega) (by have := sizeTs_at i hi; omega) (rightTs_at hl i hi) g1 g2 g3 g4
    unfold okT at hk
    unfold wayT
    by_cases h1 : k = 1
    · subst h1
      rw [if_pos rfl]
      exact rway_sig t n l.length A cap SA PA sc pc ks ps w he ho.k1 ho.k2 hv
    rw [if_neg h1] at hk ⊢
    by_cases h2' : k = 2
    · subst h2'
      rw [if_pos rfl]
      exact rway_pre t n l.length A cap SA PA sc pc ks ps w hp ho.p1 ho.p2
    rw [if_neg h2'] at hk ⊢
    by_cases h3' : k = 3
    · subst h3'
      rw [if_pos rfl]
      exact rway_after t n l.length A cap SA PA sc pc ks ps w
    rw [if_neg h3'] at ⊢
    by_cases h4 : k = 4
    · subst h4
      rw [if_pos rfl]
      exact rway_older t n l.length A cap SA PA sc pc ks ps w
    rw [if_neg h4] at ⊢
    rw [if_neg (by omega)] at hk
    by_cases h5 : k = 5
    · subst h5
      rw [if_pos rfl]
      rw [if_pos (.inl rfl)] at hk
      simp only [Bool.and_eq_true, decide_eq_true_eq] at hk
      exact rway_all t n l A cap xs SA PA sc pc ks ps w (by omega) h2 h3 he hp hv (by omega) (by omega) HW
    rw [if_neg h5]
    by_cases h6 : k = 6
    · subst h6
      exact rway_any t n l A cap xs SA PA sc pc ks ps w (by omega) h2 h3 he hp hv HW
    · rw [if_neg (by omega)] at hk
      cases hk
set_option maxRecDepth 100000 in
set_option maxHeartbeats 8000000 in
theorem rsolve_any (x : LockT) (cs : List Value) (ks ps : List ByteArray) (SA : Option Addr) (sc : Nat) (PA : Option Addr) (pc : Nat) (w : World) (ho : EnvOk ks ps) (hs : smallT x) (hc : LockC w x cs) (hk : Cells w SA (strs ks)) (hp : Cells w PA (strs ps)) (hv : VarsOk w) :
    Calls Tryz.prog 8 #[.agg cs.toArray, .slice SA ks.length sc, .slice PA ps.length pc] w (WayP (solveT ks ps x) w) := by
  obtain ⟨A, cap, xs, rfl, -, -⟩ := hc.shape
  have hb0 : Below w.heap.size w (w.alloc (.cells #[.int .u8 x.kind, .string x.term, .int .i64 x.n, .slice A x.kids.length cap] 32)) := (Below.refl _ _).alloc (Nat.le_refl _) _
  have hbz : Below (w.alloc (.cells #[.int .u8 x.kind, .string x.term, .int .i64 x.n, .slice A x.kids.length cap] 32)).heap.size (w.alloc (.cells #[.int .u8 x.kind, .string x.term, .int .i64 x.n, .slice A x.kids.length cap] 32)) ((w.alloc (.cells #[.int .u8 x.kind, .string x.term, .int .i64 x.n, .slice A x.kids.length cap] 32)).alloc (.cells #[.int .i64 0, .int .i64 0, .int .u8 0, .string ⟨#[]⟩, .int .i64 0, .slice none 0 0, .int .i64 0, .int .i64 0, (.slice none 0 0), (.slice none 0 0)] 39)) := (Below.refl _ _).alloc (Nat.le_refl _) _
  have hb := hb0.trans (hbz.mono hb0.size)
  have hz : RClaimAt ((w.alloc (.cells #[.int .u8 x.kind, .string x.term, .int .i64 x.n, .slice A x.kids.length cap] 32)).alloc (.cells #[.int .i64 0, .int .i64 0, .int .u8 0, .string ⟨#[]⟩, .int .i64 0, .slice none 0 0, .int .i64 0, .int .i64 0, (.slice none 0 0), (.slice none 0 0)] 39)) (w.heap.size + 1) 0 0 (.slice none 0 0) (.slice none 0 0) := by
    have h := Go.heap_alloc_new (w.alloc (.cells #[.int .u8 x.kind, .string x.term, .int .i64 x.n, .slice A x.kids.length cap] 32)) (.cells #[.int .i64 0, .int .i64 0, .int .u8 0, .string ⟨#[]⟩, .int .i64 0, .slice none 0 0, .int .i64 0, .int .i64 0, (.slice none 0 0), (.slice none 0 0)] 39)
    rw [show (w.alloc (.cells #[.int .u8 x.kind, .string x.term, .int .i64 x.n, .slice A x.kids.length cap] 32)).heap.size = w.heap.size + 1 by simp] at h
    exact h
  have l0 : ((w.alloc (.cells #[.int .u8 x.kind, .string x.term, .int .i64 x.n, .slice A x.kids.length cap] 32)).alloc (.cells #[.int .i64 0, .int .i64 0, .int .u8 0, .string ⟨#[]⟩, .int .i64 0, .slice none 0 0, .int .i64 0, .int .i64 0, (.slice none 0 0), (.slice none 0 0)] 39)).cell? ⟨w.heap.size, 0, none⟩ = some (.int .u8 x.kind) := cell_below hbz (alloc_cells 0 _ rfl)
  have l1 : ((w.alloc (.cells #[.int .u8 x.kind, .string x.term, .int .i64 x.n, .slice A x.kids.length cap] 32)).alloc (.cells #[.int .i64 0, .int .i64 0, .int .u8 0, .string ⟨#[]⟩, .int .i64 0, .slice none 0 0, .int .i64 0, .int .i64 0, (.slice none 0 0), (.slice none 0 0)] 39)).cell? ⟨w.heap.size, 1, none⟩ = some (.string x.term) := cell_below hbz (alloc_cells 1 _ rfl)
  have l2 : ((w.alloc (.cells #[.int .u8 x.kind, .string x.term, .int .i64 x.n, .slice A x.kids.length cap] 32)).alloc (.cells #[.int .i64 0, .int .i64 0, .int .u8 0, .string ⟨#[]⟩, .int .i64 0, .slice none 0 0, .int .i64 0, .int .i64 0, (.slice none 0 0), (.slice none 0 0)] 39)).cell? ⟨w.heap.size, 2, none⟩ = some (.int .i64 x.n) := cell_below hbz (alloc_cells 2 _ rfl)
  have l3 : ((w.alloc (.cells #[.int .u8 x.kind, .string x.term, .int .i64 x.n, .slice A x.kids.length cap] 32)).alloc (.cells #[.int .i64 0, .int .i64 0, .int .u8 0, .string ⟨#[]⟩, .int .i64 0, .slice none 0 0, .int .i64 0, .int .i64 0, (.slice none 0 0), (.slice none 0 0)] 39)).cell? ⟨w.heap.size, 3, none⟩ = some (.slice A x.kids.length cap) := cell_below hbz (alloc_cells 3 _ rfl)
  have hlc := LockC.below hb x _ hc
  have HR := Lib.hid (rlockright_any x _ ((w.alloc (.cells #[.int .u8 x.kind, .string x.term, .int .i64 x.n, .slice A x.kids.length cap] 32)).alloc (.cells #[.int .i64 0, .int .i64 0, .int .u8 0, .string ⟨#[]⟩, .int .i64 0, .slice none 0 0, .int .i64 0, .int .i64 0, (.slice none 0 0), (.slice none 0 0)] 39)) hs hlc)
  have HB := Lib.hid hb
  have HZ := Lib.hid hz
  have HLC := Lib.hid hlc
  have HSK := Lib.hid (Cells.below hk hb)
  have HSP := Lib.hid (Cells.below hp hb)
  have HV := Lib.hid (hv.below hb)
  have L0 := Lib.hid l0
  have L1 := Lib.hid l1
  have L2 := Lib.hid l2
  have L3 := Lib.hid l3
  obtain ⟨R, hRR⟩ : ∃ R, solveT ks ps x = R := ⟨_, rfl⟩
  rw [hRR]
  cases hq : lockB x with
  | false =>
    have HN := Lib.hid (show R = none by rw [← hRR]; unfold solveT; rw [hq]; rfl)
    rw [hq] at HR
    clear hb hb0 hbz hz hlc hk hp hv hc hRR hq
    go_enter Tryz.func8, Tryz.ntmps8
    go_wp2_with fail
    refine HR.out.mono ?_
    rintro e w2 ⟨rfl, hb1⟩
    have HZ2 := Lib.hid (HZ.out.below hb1)
    have HB2 := Lib.hid (HB.out.trans (hb1.mono HB.out.size))
    clear l0 l1 l2 l3 hb1
    obtain ⟨z0, z1, z2, z3, z4, z5, z6, z7, z8, z9, zf⟩ := HZ2.out.cells
    go_wp2_with fail
    change bodyPost _ _ _ _ _ (put10 w2 (w.heap.size + 1) (.int .i64 0) (.int .i64 0) (.int .u8 0) (.string ⟨#[]⟩) (.int .i64 0) (.slice none 0 0) (.int .i64 0) (.int .i64 0) (.slice none 0 0) (.slice none 0 0))
    have hA := rput10_at HZ2.out 0 0 (.slice none 0 0) (.slice none 0 0)
    have hFF := put10_fr w2 (w.heap.size + 1) (.int .i64 0) (.int .i64 0) (.int .u8 0) (.string ⟨#[]⟩) (.int .i64 0) (.slice none 0 0) (.int .i64 0) (.int .i64 0) (.slice none 0 0) (.slice none 0 0) (F := [w.heap.size + 1]) (List.mem_singleton.2 rfl)
    have hF := HB2.out.trans (hFF.toBelowOf (B := w.heap.size) HB2.out.size (fun i hi => by simp at hi; omega))
    generalize put10 w2 (w.heap.size + 1) (.int .i64 0) (.int .i64 0) (.int .u8 0) (.string ⟨#[]⟩) (.int .i64 0) (.slice none 0 0) (.int .i64 0) (.int .i64 0) (.slice none 0 0) (.slice none 0 0) = Wf at hA hF ⊢
    clear z0 z1 z2 z3 z4 z5 z6 z7 z8 z9 zf hFF
    obtain ⟨r0, r1, r2, r3, r4, r5, r6, r7, r8, r9, -⟩ := hA.cells
    exact bodyPost_ret (v := .tuple #[claimV 0 0 (.slice none 0 0) (.slice none 0 0), .bool false]) (by simp [results, Tryz.results8, go_sem, r0, r1, r2, r3, r4, r5, r6, r7, r8, r9, claimV]) rfl (by rw [HN.out]; exact ⟨none, 0, none, 0, rfl, hF⟩)
  | true =>
    have hl := hq
    unfold lockB at hl
    rw [Bool.and_eq_true, decide_eq_true_eq] at hl
    have HN := Lib.hid (show R = wayT ks ps x by rw [← hRR]; unfold solveT; rw [hq]; rfl)
    rw [hq] at HR
    clear hb hb0 hbz hz hlc hk hp hv hc hRR hq
    go_enter Tryz.func8, Tryz.ntmps8
    go_wp2_with fail
    refine HR.out.mono ?_
    rintro e w1 ⟨rfl, hb1⟩
    have hW := rways SA PA sc pc ks ps ho (sizeT x) x _ w1 (Nat.le_refl _) (by omega) hl.1 (LockC.below hb1 x _ HLC.out) (Cells.below HSK.out hb1) (Cells.below HSP.out hb1) (HV.out.below hb1)
    rw [← HN.out] at hW
    have HW := Lib.hid hW
    have HB1 := Lib.hid (HB.out.trans (hb1.mono HB.out.size))
    have HZ1 := Lib.hid (HZ.out.below hb1)
    have m0 := cell_below hb1 L0.out
    have m1 := cell_below hb1 L1.out
    have m2 := cell_below hb1 L2.out
    have m3 := cell_below hb1 L3.out
    clear l0 l1 l2 l3 hb1 hW hl
    unfold WayP at HW
    cases R with
    | none =>
      simp only at HW
      unfold claimV at HW
      go_wp2_with fail
      refine HW.out.mono ?_
      rintro e w2 ⟨K, kc, P, pc, rfl, hb2⟩
      have HZ2 := Lib.hid (HZ1.out.below hb2)
      have HB2 := Lib.hid (HB1.out.trans (hb2.mono HB1.out.size))
      clear m0 m1 m2 m3 hb2
      obtain ⟨z0, z1, z2, z3, z4, z5, z6, z7, z8, z9, zf⟩ := HZ2.out.cells
      go_wp2_with fail
      change bodyPost _ _ _ _ _ (put10 w2 (w.heap.size + 1) (.int .i64 0) (.int .i64 0) (.int .u8 0) (.string ⟨#[]⟩) (.int .i64 0) (.slice none 0 0) (.int .i64 0) (.int .i64 0) (.slice K 0 kc) (.slice P 0 pc))
      have hA := rput10_at HZ2.out 0 0 (.slice K 0 kc) (.slice P 0 pc)
      have hFF := put10_fr w2 (w.heap.size + 1) (.int .i64 0) (.int .i64 0) (.int .u8 0) (.string ⟨#[]⟩) (.int .i64 0) (.slice none 0 0) (.int .i64 0) (.int .i64 0) (.slice K 0 kc) (.slice P 0 pc) (F := [w.heap.size + 1]) (List.mem_singleton.2 rfl)
      have hF := HB2.out.trans (hFF.toBelowOf (B := w.heap.size) HB2.out.size (fun i hi => by simp at hi; omega))
      generalize put10 w2 (w.heap.size + 1) (.int .i64 0) (.int .i64 0) (.int .u8 0) (.string ⟨#[]⟩) (.int .i64 0) (.slice none 0 0) (.int .i64 0) (.int .i64 0) (.slice K 0 kc) (.slice P 0 pc) = Wf at hA hF ⊢
      clear z0 z1 z2 z3 z4 z5 z6 z7 z8 z9 zf hFF
      obtain ⟨r0, r1, r2, r3, r4, r5, r6, r7, r8, r9, -⟩ := hA.cells
      exact bodyPost_ret (v := .tuple #[claimV 0 0 (.slice K 0 kc) (.slice P 0 pc), .bool false]) (by simp [results, Tryz.results8, go_sem, r0, r1, r2, r3, r4, r5, r6, r7, r8, r9, claimV]) rfl ⟨K, kc, P, pc, rfl, hF⟩
    | some c =>
      simp only at HW
      unfold claimV at HW
      go_wp2_with fail
      refine HW.out.mono ?_
      rintro e w2 ⟨K, kc, P, pc, rfl, hrk, hrp, hap, hb2⟩
      have HZ2 := Lib.hid (HZ1.out.below hb2)
      have HB2 := Lib.hid (HB1.out.trans (hb2.mono HB1.out.size))
      have HK := Lib.hid (hrk.base_le HB1.out.size)
      have HP := Lib.hid (hrp.base_le HB1.out.size)
      have HAP := Lib.hid hap
      clear m0 m1 m2 m3 hb2 hrk hrp hap
      obtain ⟨z0, z1, z2, z3, z4, z5, z6, z7, z8, z9, zf⟩ := HZ2.out.cells
      go_wp2_with fail
      change bodyPost _ _ _ _ _ (put10 w2 (w.heap.size + 1) (.int .i64 0) (.int .i64 0) (.int .u8 0) (.string ⟨#[]⟩) (.int .i64 0) (.slice none 0 0) (.int .i64 c.after) (.int .i64 c.age) (.slice K c.keys.length kc) (.slice P c.pres.length pc))
      have hA := rput10_at HZ2.out c.after c.age (.slice K c.keys.length kc) (.slice P c.pres.length pc)
      have hFF := put10_fr w2 (w.heap.size + 1) (.int .i64 0) (.int .i64 0) (.int .u8 0) (.string ⟨#[]⟩) (.int .i64 0) (.slice none 0 0) (.int .i64 c.after) (.int .i64 c.age) (.slice K c.keys.length kc) (.slice P c.pres.length pc) (F := [w.heap.size + 1]) (List.mem_singleton.2 rfl)
      have hF := HB2.out.trans (hFF.toBelowOf (B := w.heap.size) HB2.out.size (fun i hi => by simp at hi; omega))
      have HK9 := Lib.hid (row_fr HK.out hFF (fun g hg => by simpa using row_ne_rclaim HK.out (by decide) HZ2.out g hg))
      have HP9 := Lib.hid (row_fr HP.out hFF (fun g hg => by simpa using row_ne_rclaim HP.out (by decide) HZ2.out g hg))
      generalize put10 w2 (w.heap.size + 1) (.int .i64 0) (.int .i64 0) (.int .u8 0) (.string ⟨#[]⟩) (.int .i64 0) (.slice none 0 0) (.int .i64 c.after) (.int .i64 c.age) (.slice K c.keys.length kc) (.slice P c.pres.length pc) = Wf at hA hF HK9 HP9 ⊢
      clear z0 z1 z2 z3 z4 z5 z6 z7 z8 z9 zf hFF
      obtain ⟨r0, r1, r2, r3, r4, r5, r6, r7, r8, r9, -⟩ := hA.cells
      exact bodyPost_ret (v := .tuple #[claimV c.after c.age (.slice K c.keys.length kc) (.slice P c.pres.length pc), .bool true]) (by simp [results, Tryz.results8, go_sem, r0, r1, r2, r3, r4, r5, r6, r7, r8, r9, claimV]) rfl ⟨K, kc, P, pc, rfl, HK9.out, HP9.out, HAP.out, hF⟩
end Go.Proofs.YtaonadgelkdbcaaGreatDoor
