/- Solve: any lock. · Solve. · Ready; large. · The statements' example: what is found, in plain Lean. · The statements' works. · large: more than 20 terms, or 4000 bytes. -/
import Derived.Test.YtaonadgelkdbcaaGreatDoorQ17
import Derived.Laws.EntriesVeiled
import Derived.Test.YtaonadgelkdbcaaGreatDoorQ12
import Derived.Test.YtaonadgelkdbcaaGreatDoorQ15
namespace Go.Proofs.YtaonadgelkdbcaaGreatDoor
open Go.RowKit

def wayFn (sb pb wb : Nat) : Value := .func (.func 18) #[] #[.pointer (some ⟨sb, 0, none⟩), .pointer (some ⟨pb, 0, none⟩), .pointer (some ⟨wb, 0, none⟩)]
theorem rightTs_at : ∀ {l : List LockT}, rightTs l = true → ∀ (k : Nat) (hk : k < l.length), rightT l[k] = true
  | [], _, k, hk => absurd hk (by simp)
  | x :: r, h, 0, _ => by unfold rightTs at h; rw [Bool.and_eq_true] at h; exact h.1
  | x :: r, h, k + 1, hk => by
    unfold rightTs at h
    rw [Bool.and_eq_true] at h
    exact rightTs_at h.2 k (by simpa using hk)
theorem len_le_sizeTs : ∀ l : List LockT, l.length ≤ sizeTs l
  | [] => Nat.le_refl _
  | x :: r => by
    unfold sizeTs
    have := sizeT_pos x
    have := len_le_sizeTs r
    rw [List.length_cons]; omega
theorem ways (sb pb wb : Nat) (ks ps : List ByteArray) (ho : EnvOk ks ps) : ∀ (m : Nat) (x : LockT) (cs : List Value) (w : World), sizeT x ≤ m → sizeT x ≤ 1000 → rightT x = true → LockC w x cs → EnvAt w sb pb ks ps → VarsOk w → w.cell? ⟨wb, 0, none⟩ = some (wayFn sb pb wb) →
    Calls Tryz.prog 18 #[.agg cs.toArray, .pointer (some ⟨sb, 0, none⟩), .pointer (some ⟨pb, 0, none⟩), .pointer (some ⟨wb, 0, none⟩)] w (WayP (wayT ks ps x) w)
  | 0, x, _, _, hm, _, _, _, _, _, _ => absurd (sizeT_pos x) (by omega)
  | m + 1, .node k t n l, cs, w, hm, h1000, hr, hc, he, hv, hw => by
    unfold LockC at hc
    obtain ⟨A, cap, xs, rfl, h2, h3⟩ := hc
    unfold rightT at hr
    rw [Bool.and_eq_true] at hr
    obtain ⟨hk, hl⟩ := hr
    have hsz := sizeT_kids (.node k t n l)
    simp only [LockT.kids] at hsz
    have hll := len_le_sizeTs l
    have HW : ∀ (i : Nat) (hi : i < l.length) (W : World) (cs : List Value), LockC W l[i] cs → EnvAt W sb pb ks ps → VarsOk W → W.cell? ⟨wb, 0, none⟩ = some (wayFn sb pb wb) → Calls Tryz.prog 18 #[.agg cs.toArray, .pointer (some ⟨sb, 0, none⟩), .pointer (some ⟨pb, 0, none⟩), .pointer (some ⟨wb, 0, none⟩)] W (WayP (wayT ks ps l[i]) W) :=
      fun i hi W cs g1 g2 g3 g4 => ways sb pb wb ks ps ho m l[i] cs W (by have := sizeTs_at i hi; omega) (by have := sizeTs_at i hi; omega) (rightTs_at hl i hi) g1 g2 g3 g4
    unfold okT at hk
    unfold wayT
    by_cases h1 : k = 1
    · subst h1
      rw [if_pos rfl]
      exact way_sig t n l.length A cap sb pb wb ks ps w ho he hv
    rw [if_neg h1] at hk ⊢
    by_cases h2' : k = 2
    · subst h2'
      rw [if_pos rfl]
      exact way_pre t n l.length A cap sb pb wb ks ps w ho he hv
    rw [if_neg h2'] at hk ⊢
    by_cases h3' : k = 3
    · subst h3'
      rw [if_pos rfl]
      exact way_after t n l.length A cap sb pb wb w
    rw [if_neg h3'] at ⊢
    by_cases h4 : k = 4
    · subst h4
      rw [if_pos rfl]
      exact way_older t n l.length A cap sb pb wb w
    rw [if_neg h4] at ⊢
    rw [if_neg (by omega)] at hk
    by_cases h5 : k = 5
    · subst h5
      rw [if_pos rfl]
      rw [if_pos (.inl rfl)] at hk
      simp only [Bool.and_eq_true, decide_eq_true_eq] at hk
      exact way_all t n l A cap xs sb pb wb ks ps w (by omega) h2 h3 he hv hw (by omega) (by omega) HW
    rw [if_neg h5]
    by_cases h6 : k = 6
    · subst h6
      exact way_any t n l A cap xs sb pb wb ks ps w (by omega) h2 h3 he hv hw HW
    · rw [if_neg (by omega)] at hk
      cases hk
def solveT (ks ps : List ByteArray) (x : LockT) : Option ClaimR := if lockB x then wayT ks ps x else none
end Go.Proofs.YtaonadgelkdbcaaGreatDoor

namespace Go.Proofs.YtaonadgelkdbcaaGreatDoor
open Go.RowKit

set_option maxRecDepth 100000 in
set_option maxHeartbeats 8000000 in
theorem solve_any (x : LockT) (cs : List Value) (ks ps : List ByteArray) (SA : Option Addr) (sc : Nat) (PA : Option Addr) (pc : Nat) (w : World) (ho : EnvOk ks ps) (hs : smallT x) (hc : LockC w x cs) (hk : Cells w SA (strs ks)) (hp : Cells w PA (strs ps)) (hv : VarsOk w) :
    Calls Tryz.prog 7 #[.agg cs.toArray, .slice SA ks.length sc, .slice PA ps.length pc] w (WayP (solveT ks ps x) w) := by
  obtain ⟨A, cap, xs, rfl, -, -⟩ := hc.shape
  have hb := allocs_below [(.cells #[.int .u8 x.kind, .string x.term, .int .i64 x.n, .slice A x.kids.length cap] 32), (.cells #[.slice SA ks.length sc] 26), (.cells #[.slice PA ps.length pc] 26), (.cells #[.int .i64 0, .int .i64 0, .int .u8 0, .string ⟨#[]⟩, .int .i64 0, .slice none 0 0, .int .i64 0, .int .i64 0, (.slice none 0 0), (.slice none 0 0)] 36)] w
  have hz : ClaimAt (allocs w [(.cells #[.int .u8 x.kind, .string x.term, .int .i64 x.n, .slice A x.kids.length cap] 32), (.cells #[.slice SA ks.length sc] 26), (.cells #[.slice PA ps.length pc] 26), (.cells #[.int .i64 0, .int .i64 0, .int .u8 0, .string ⟨#[]⟩, .int .i64 0, .slice none 0 0, .int .i64 0, .int .i64 0, (.slice none 0 0), (.slice none 0 0)] 36)]) (w.heap.size + 1 + 1 + 1) 0 0 (.slice none 0 0) (.slice none 0 0) := allocs_at [(.cells #[.int .u8 x.kind, .string x.term, .int .i64 x.n, .slice A x.kids.length cap] 32), (.cells #[.slice SA ks.length sc] 26), (.cells #[.slice PA ps.length pc] 26), (.cells #[.int .i64 0, .int .i64 0, .int .u8 0, .string ⟨#[]⟩, .int .i64 0, .slice none 0 0, .int .i64 0, .int .i64 0, (.slice none 0 0), (.slice none 0 0)] 36)] w 3 _ rfl
  have s0 : (allocs w [(.cells #[.int .u8 x.kind, .string x.term, .int .i64 x.n, .slice A x.kids.length cap] 32), (.cells #[.slice SA ks.length sc] 26), (.cells #[.slice PA ps.length pc] 26), (.cells #[.int .i64 0, .int .i64 0, .int .u8 0, .string ⟨#[]⟩, .int .i64 0, .slice none 0 0, .int .i64 0, .int .i64 0, (.slice none 0 0), (.slice none 0 0)] 36)]).cell? ⟨w.heap.size + 1, 0, none⟩ = some (.slice SA ks.length sc) := cell_of (allocs_at [(.cells #[.int .u8 x.kind, .string x.term, .int .i64 x.n, .slice A x.kids.length cap] 32), (.cells #[.slice SA ks.length sc] 26), (.cells #[.slice PA ps.length pc] 26), (.cells #[.int .i64 0, .int .i64 0, .int .u8 0, .string ⟨#[]⟩, .int .i64 0, .slice none 0 0, .int .i64 0, .int .i64 0, (.slice none 0 0), (.slice none 0 0)] 36)] w 1 _ rfl) rfl
  have p0 : (allocs w [(.cells #[.int .u8 x.kind, .string x.term, .int .i64 x.n, .slice A x.kids.length cap] 32), (.cells #[.slice SA ks.length sc] 26), (.cells #[.slice PA ps.length pc] 26), (.cells #[.int .i64 0, .int .i64 0, .int .u8 0, .string ⟨#[]⟩, .int .i64 0, .slice none 0 0, .int .i64 0, .int .i64 0, (.slice none 0 0), (.slice none 0 0)] 36)]).cell? ⟨w.heap.size + 1 + 1, 0, none⟩ = some (.slice PA ps.length pc) := cell_of (allocs_at [(.cells #[.int .u8 x.kind, .string x.term, .int .i64 x.n, .slice A x.kids.length cap] 32), (.cells #[.slice SA ks.length sc] 26), (.cells #[.slice PA ps.length pc] 26), (.cells #[.int .i64 0, .int .i64 0, .int .u8 0, .string ⟨#[]⟩, .int .i64 0, .slice none 0 0, .int .i64 0, .int .i64 0, (.slice none 0 0), (.slice none 0 0)] 36)] w 2 _ rfl) rfl
  have l0 : (allocs w [(.cells #[.int .u8 x.kind, .string x.term, .int .i64 x.n, .slice A x.kids.length cap] 32), (.cells #[.slice SA ks.length sc] 26), (.cells #[.slice PA ps.length pc] 26), (.cells #[.int .i64 0, .int .i64 0, .int .u8 0, .string ⟨#[]⟩, .int .i64 0, .slice none 0 0, .int .i64 0, .int .i64 0, (.slice none 0 0), (.slice none 0 0)] 36)]).cell? ⟨w.heap.size, 0, none⟩ = some (.int .u8 x.kind) := cell_of (allocs_at [(.cells #[.int .u8 x.kind, .string x.term, .int .i64 x.n, .slice A x.kids.length cap] 32), (.cells #[.slice SA ks.length sc] 26), (.cells #[.slice PA ps.length pc] 26), (.cells #[.int .i64 0, .int .i64 0, .int .u8 0, .string ⟨#[]⟩, .int .i64 0, .slice none 0 0, .int .i64 0, .int .i64 0, (.slice none 0 0), (.slice none 0 0)] 36)] w 0 _ rfl) rfl
  have l1 : (allocs w [(.cells #[.int .u8 x.kind, .string x.term, .int .i64 x.n, .slice A x.kids.length cap] 32), (.cells #[.slice SA ks.length sc] 26), (.cells #[.slice PA ps.length pc] 26), (.cells #[.int .i64 0, .int .i64 0, .int .u8 0, .string ⟨#[]⟩, .int .i64 0, .slice none 0 0, .int .i64 0, .int .i64 0, (.slice none 0 0), (.slice none 0 0)] 36)]).cell? ⟨w.heap.size, 1, none⟩ = some (.string x.term) := cell_of (allocs_at [(.cells #[.int .u8 x.kind, .string x.term, .int .i64 x.n, .slice A x.kids.length cap] 32), (.cells #[.slice SA ks.length sc] 26), (.cells #[.slice PA ps.length pc] 26), (.cells #[.int .i64 0, .int .i64 0, .int .u8 0, .string ⟨#[]⟩, .int .i64 0, .slice none 0 0, .int .i64 0, .int .i64 0, (.slice none 0 0), (.slice none 0 0)] 36)] w 0 _ rfl) rfl
  have l2 : (allocs w [(.cells #[.int .u8 x.kind, .string x.term, .int .i64 x.n, .slice A x.kids.length cap] 32), (.cells #[.slice SA ks.length sc] 26), (.cells #[.slice PA ps.length pc] 26), (.cells #[.int .i64 0, .int .i64 0, .int .u8 0, .string ⟨#[]⟩, .int .i64 0, .slice none 0 0, .int .i64 0, .int .i64 0, (.slice none 0 0), (.slice none 0 0)] 36)]).cell? ⟨w.heap.size, 2, none⟩ = some (.int .i64 x.n) := cell_of (allocs_at [(.cells #[.int .u8 x.kind, .string x.term, .int .i64 x.n, .slice A x.kids.length cap] 32), (.cells #[.slice SA ks.length sc] 26), (.cells #[.slice PA ps.length pc] 26), (.cells #[.int .i64 0, .int .i64 0, .int .u8 0, .string ⟨#[]⟩, .int .i64 0, .slice none 0 0, .int .i64 0, .int .i64 0, (.slice none 0 0), (.slice none 0 0)] 36)] w 0 _ rfl) rfl
  have l3 : (allocs w [(.cells #[.int .u8 x.kind, .string x.term, .int .i64 x.n, .slice A x.kids.length cap] 32), (.cells #[.slice SA ks.length sc] 26), (.cells #[.slice PA ps.length pc] 26), (.cells #[.int .i64 0, .int .i64 0, .int .u8 0, .string ⟨#[]⟩, .int .i64 0, .slice none 0 0, .int .i64 0, .int .i64 0, (.slice none 0 0), (.slice none 0 0)] 36)]).cell? ⟨w.heap.size, 3, none⟩ = some (.slice A x.kids.length cap) := cell_of (allocs_at [(.cells #[.int .u8 x.kind, .string x.term, .int .i64 x.n, .slice A x.kids.length cap] 32), (.cells #[.slice SA ks.length sc] 26), (.cells #[.slice PA ps.length pc] 26), (.cells #[.int .i64 0, .int .i64 0, .int .u8 0, .string ⟨#[]⟩, .int .i64 0, .slice none 0 0, .int .i64 0, .int .i64 0, (.slice none 0 0), (.slice none 0 0)] 36)] w 0 _ rfl) rfl
  have he : EnvAt (allocs w [(.cells #[.int .u8 x.kind, .string x.term, .int .i64 x.n, .slice A x.kids.length cap] 32), (.cells #[.slice SA ks.length sc] 26), (.cells #[.slice PA ps.length pc] 26), (.cells #[.int .i64 0, .int .i64 0, .int .u8 0, .string ⟨#[]⟩, .int .i64 0, .slice none 0 0, .int .i64 0, .int .i64 0, (.slice none 0 0), (.slice none 0 0)] 36)]) (w.heap.size + 1) (w.heap.size + 1 + 1) ks ps := ⟨⟨SA, sc, s0, Cells.below hk hb⟩, PA, pc, p0, Cells.below hp hb⟩
  have hlc := LockC.below hb x _ hc
  have hR := lright_any x _ (allocs w [(.cells #[.int .u8 x.kind, .string x.term, .int .i64 x.n, .slice A x.kids.length cap] 32), (.cells #[.slice SA ks.length sc] 26), (.cells #[.slice PA ps.length pc] 26), (.cells #[.int .i64 0, .int .i64 0, .int .u8 0, .string ⟨#[]⟩, .int .i64 0, .slice none 0 0, .int .i64 0, .int .i64 0, (.slice none 0 0), (.slice none 0 0)] 36)]) hs hlc (hv.below hb)
  have HR := Lib.hid hR
  have HB := Lib.hid hb
  have HZ := Lib.hid hz
  have HE := Lib.hid he
  have HLC := Lib.hid hlc
  have HV := Lib.hid (hv.below hb)
  have L0 := Lib.hid l0
  have L1 := Lib.hid l1
  have L2 := Lib.hid l2
  have L3 := Lib.hid l3
  obtain ⟨R, hRR⟩ : ∃ R, solveT ks ps x = R := ⟨_, rfl⟩
  rw [hRR]
  have HRR := Lib.hid hRR
  cases hq : lockB x with
  | false =>
    have HN := Lib.hid (show R = none by rw [← hRR]; unfold solveT; rw [hq]; rfl)
    rw [hq] at HR
    clear hR hb hz he hlc s0 p0 hk hp hv hc hRR hq
    go_enter Tryz.func7, Tryz.ntmps7
    go_wp2_with fail
    refine HR.out.mono ?_
    rintro e w1 ⟨rfl, hb1⟩
    have HZ2 := Lib.hid (HZ.out.below hb1)
    have HB2 := Lib.hid (HB.out.trans (hb1.mono HB.out.size))
    clear l0 l1 l2 l3
    obtain ⟨z0, z1, z2, z3, z4, z5, z6, z7, z8, z9, zf⟩ := HZ2.out.cells
    clear hb1
    go_wp2_with fail
    change bodyPost _ _ _ _ _ (put10 w1 (w.heap.size + 1 + 1 + 1) (.int .i64 0) (.int .i64 0) (.int .u8 0) (.string ⟨#[]⟩) (.int .i64 0) (.slice none 0 0) (.int .i64 0) (.int .i64 0) (.slice none 0 0) (.slice none 0 0))
    have hA := put10_at HZ2.out 0 0 (.slice none 0 0) (.slice none 0 0)
    have hFF := put10_fr w1 (w.heap.size + 1 + 1 + 1) (.int .i64 0) (.int .i64 0) (.int .u8 0) (.string ⟨#[]⟩) (.int .i64 0) (.slice none 0 0) (.int .i64 0) (.int .i64 0) (.slice none 0 0) (.slice none 0 0) (F := [(w.heap.size + 1 + 1 + 1)]) (List.mem_singleton.2 rfl)
    have hF := HB2.out.trans (hFF.toBelowOf (B := w.heap.size) HB2.out.size (fun i hi => by simp at hi; omega))
    generalize put10 w1 (w.heap.size + 1 + 1 + 1) (.int .i64 0) (.int .i64 0) (.int .u8 0) (.string ⟨#[]⟩) (.int .i64 0) (.slice none 0 0) (.int .i64 0) (.int .i64 0) (.slice none 0 0) (.slice none 0 0) = Wf at hA hF ⊢
    clear z0 z1 z2 z3 z4 z5 z6 z7 z8 z9 zf hFF
    obtain ⟨r0, r1, r2, r3, r4, r5, r6, r7, r8, r9, -⟩ := hA.cells
    exact bodyPost_ret (v := .tuple #[claimV 0 0 (.slice none 0 0) (.slice none 0 0), .bool false]) (by simp [results, Tryz.results7, go_sem, r0, r1, r2, r3, r4, r5, r6, r7, r8, r9, claimV]) rfl (by rw [HN.out]; exact ⟨none, 0, none, 0, rfl, hF⟩)
  | true =>
    have hl := hq
    unfold lockB at hl
    rw [Bool.and_eq_true, decide_eq_true_eq] at hl
    have HN := Lib.hid (show R = wayT ks ps x by rw [← hRR]; unfold solveT; rw [hq]; rfl)
    rw [hq] at HR
    clear hR hb hz he hlc s0 p0 hk hp hv hc hRR hq
    go_enter Tryz.func7, Tryz.ntmps7
    go_wp2_with fail
    refine HR.out.mono ?_
    rintro e w1 ⟨rfl, hb1⟩
    have hbf : Below w1.heap.size w1 (w1.alloc (.cells #[wayFn (w.heap.size + 1) (w.heap.size + 1 + 1) w1.heap.size] 65)) := (Below.refl _ _).alloc (Nat.le_refl _) _
    have hb2 := hb1.trans (hbf.mono hb1.size)
    have hW := ways (w.heap.size + 1) (w.heap.size + 1 + 1) w1.heap.size ks ps ho (sizeT x) x _ (w1.alloc (.cells #[wayFn (w.heap.size + 1) (w.heap.size + 1 + 1) w1.heap.size] 65)) (Nat.le_refl _) (by omega) hl.1 (LockC.below hb2 x _ HLC.out) (HE.out.below hb2) (HV.out.below hb2) (alloc_cells 0 _ rfl)
    rw [← HN.out] at hW
    have HW := Lib.hid hW
    have HB1 := Lib.hid (HB.out.trans (hb2.mono HB.out.size))
    have HZ1 := Lib.hid (HZ.out.below hb2)
    have m0 := cell_below hb2 L0.out
    have m1 := cell_below hb2 L1.out
    have m2 := cell_below hb2 L2.out
    have m3 := cell_below hb2 L3.out
    clear l0 l1 l2 l3 hb1 hb2 hbf hW hl
    unfold WayP at HW
    unfold wayFn at m0 m1 m2 m3 HW HB1 HZ1
    cases R with
    | none =>
      simp only at HW
      unfold claimV at HW
      go_wp2_with fail
      refine HW.out.mono ?_
      rintro e w2 ⟨K, kc, P, pc, rfl, hb2⟩
      have HZ2 := Lib.hid (HZ1.out.below hb2)
      have HB2 := Lib.hid (HB1.out.trans (hb2.mono HB1.out.size))
      clear m0 m1 m2 m3 hb2
      obtain ⟨z0, z1, z2, z3, z4, z5, z6, z7, z8, z9, zf⟩ := HZ2.out.cells
      go_wp2_with fail
      change bodyPost _ _ _ _ _ (put10 w2 (w.heap.size + 1 + 1 + 1) (.int .i64 0) (.int .i64 0) (.int .u8 0) (.string ⟨#[]⟩) (.int .i64 0) (.slice none 0 0) (.int .i64 0) (.int .i64 0) (.slice K 0 kc) (.slice P 0 pc))
      have hA := put10_at HZ2.out 0 0 (.slice K 0 kc) (.slice P 0 pc)
      have hFF := put10_fr w2 (w.heap.size + 1 + 1 + 1) (.int .i64 0) (.int .i64 0) (.int .u8 0) (.string ⟨#[]⟩) (.int .i64 0) (.slice none 0 0) (.int .i64 0) (.int .i64 0) (.slice K 0 kc) (.slice P 0 pc) (F := [(w.heap.size + 1 + 1 + 1)]) (List.mem_singleton.2 rfl)
      have hF := HB2.out.trans (hFF.toBelowOf (B := w.heap.size) HB2.out.size (fun i hi => by simp at hi; omega))
      generalize put10 w2 (w.heap.size + 1 + 1 + 1) (.int .i64 0) (.int .i64 0) (.int .u8 0) (.string ⟨#[]⟩) (.int .i64 0) (.slice none 0 0) (.int .i64 0) (.int .i64 0) (.slice K 0 kc) (.slice P 0 pc) = Wf at hA hF ⊢
      clear z0 z1 z2 z3 z4 z5 z6 z7 z8 z9 zf hFF
      obtain ⟨r0, r1, r2, r3, r4, r5, r6, r7, r8, r9, -⟩ := hA.cells
      exact bodyPost_ret (v := .tuple #[claimV 0 0 (.slice K 0 kc) (.slice P 0 pc), .bool false]) (by simp [results, Tryz.results7, go_sem, r0, r1, r2, r3, r4, r5, r6, r7, r8, r9, claimV]) rfl ⟨K, kc, P, pc, rfl, hF⟩
    | some c =>
      simp only at HW
      unfold claimV at HW
      go_wp2_with fail
      refine HW.out.mono ?_
      rintro e w2 ⟨K, kc, P, pc, rfl, hrk, hrp, hap, hb2⟩
      have HZ2 := Lib.hid (HZ1.out.below hb2)
      have HB2 := Lib.hid (HB1.out.trans (hb2.mono HB1.out.size))
      have HK := Lib.hid (hrk.base_le HB1.out.size)
      have HP := Lib.hid (hrp.base_le HB1.out.size)
      have HAP := Lib.hid hap
      clear m0 m1 m2 m3 hb2 hrk hrp hap
      obtain ⟨z0, z1, z2, z3, z4, z5, z6, z7, z8, z9, zf⟩ := HZ2.out.cells
      go_wp2_with fail
      change bodyPost _ _ _ _ _ (put10 w2 (w.heap.size + 1 + 1 + 1) (.int .i64 0) (.int .i64 0) (.int .u8 0) (.string ⟨#[]⟩) (.int .i64 0) (.slice none 0 0) (.int .i64 c.after) (.int .i64 c.age) (.slice K c.keys.length kc) (.slice P c.pres.length pc))
      have hA := put10_at HZ2.out c.after c.age (.slice K c.keys.length kc) (.slice P c.pres.length pc)
      have hFF := put10_fr w2 (w.heap.size + 1 + 1 + 1) (.int .i64 0) (.int .i64 0) (.int .u8 0) (.string ⟨#[]⟩) (.int .i64 0) (.slice none 0 0) (.int .i64 c.after) (.int .i64 c.age) (.slice K c.keys.length kc) (.slice P c.pres.length pc) (F := [(w.heap.size + 1 + 1 + 1)]) (List.mem_singleton.2 rfl)
      have hF := HB2.out.trans (hFF.toBelowOf (B := w.heap.size) HB2.out.size (fun i hi => by simp at hi; omega))
      have HK9 := Lib.hid (row_fr HK.out hFF (fun g hg => by simpa using row_ne_claim HK.out (by decide) HZ2.out g hg))
      have HP9 := Lib.hid (row_fr HP.out hFF (fun g hg => by simpa using row_ne_claim HP.out (by decide) HZ2.out g hg))
      generalize put10 w2 (w.heap.size + 1 + 1 + 1) (.int .i64 0) (.int .i64 0) (.int .u8 0) (.string ⟨#[]⟩) (.int .i64 0) (.slice none 0 0) (.int .i64 c.after) (.int .i64 c.age) (.slice K c.keys.length kc) (.slice P c.pres.length pc) = Wf at hA hF HK9 HP9 ⊢
      clear z0 z1 z2 z3 z4 z5 z6 z7 z8 z9 zf hFF
      obtain ⟨r0, r1, r2, r3, r4, r5, r6, r7, r8, r9, -⟩ := hA.cells
      exact bodyPost_ret (v := .tuple #[claimV c.after c.age (.slice K c.keys.length kc) (.slice P c.pres.length pc), .bool true]) (by simp [results, Tryz.results7, go_sem, r0, r1, r2, r3, r4, r5, r6, r7, r8, r9, claimV]) rfl ⟨K, kc, P, pc, rfl, HK9.out, HP9.out, HAP.out, hF⟩
end Go.Proofs.YtaonadgelkdbcaaGreatDoor

namespace Go.Proofs.YtaonadgelkdbcaaGreatDoor
open Go.RowKit

def readyB (a g at_ height : Int) : Bool := [a, g, at_, height].all blk && (decide (a ≤ height + 1) && decide (g ≤ height + 1 - at_))
set_option maxRecDepth 100000 in
set_option maxHeartbeats 8000000 in
theorem ready_any (a g : Int) (K : Option Addr) (n kc : Nat) (P : Option Addr) (m pc : Nat) (at_ height : Int) (w : World) :
    Calls Tryz.prog 31 #[claimV a g (.slice K n kc) (.slice P m pc), .int .i64 at_, .int .i64 height] w fun e w' => e = .returned (.bool (readyB a g at_ height)) ∧ Below w.heap.size w w' := by
  unfold claimV
  have hb := allocs_below [.cells #[.int .i64 0, .int .i64 0, .int .u8 0, .string ⟨#[]⟩, .int .i64 0, .slice none 0 0, .int .i64 a, .int .i64 g, .slice K n kc, .slice P m pc] 36, .cells #[.int .i64 a, .int .i64 g, .int .i64 at_, .int .i64 height] 3] w
  have c6 : (allocs w [.cells #[.int .i64 0, .int .i64 0, .int .u8 0, .string ⟨#[]⟩, .int .i64 0, .slice none 0 0, .int .i64 a, .int .i64 g, .slice K n kc, .slice P m pc] 36, .cells #[.int .i64 a, .int .i64 g, .int .i64 at_, .int .i64 height] 3]).cell? ⟨w.heap.size, 6, none⟩ = some (.int .i64 a) := cell_of (j := 6) (allocs_at [.cells #[.int .i64 0, .int .i64 0, .int .u8 0, .string ⟨#[]⟩, .int .i64 0, .slice none 0 0, .int .i64 a, .int .i64 g, .slice K n kc, .slice P m pc] 36, .cells #[.int .i64 a, .int .i64 g, .int .i64 at_, .int .i64 height] 3] w 0 _ rfl) rfl
  have c7 : (allocs w [.cells #[.int .i64 0, .int .i64 0, .int .u8 0, .string ⟨#[]⟩, .int .i64 0, .slice none 0 0, .int .i64 a, .int .i64 g, .slice K n kc, .slice P m pc] 36, .cells #[.int .i64 a, .int .i64 g, .int .i64 at_, .int .i64 height] 3]).cell? ⟨w.heap.size, 7, none⟩ = some (.int .i64 g) := cell_of (j := 7) (allocs_at [.cells #[.int .i64 0, .int .i64 0, .int .u8 0, .string ⟨#[]⟩, .int .i64 0, .slice none 0 0, .int .i64 a, .int .i64 g, .slice K n kc, .slice P m pc] 36, .cells #[.int .i64 a, .int .i64 g, .int .i64 at_, .int .i64 height] 3] w 0 _ rfl) rfl
  have hr : Cells (allocs w [.cells #[.int .i64 0, .int .i64 0, .int .u8 0, .string ⟨#[]⟩, .int .i64 0, .slice none 0 0, .int .i64 a, .int .i64 g, .slice K n kc, .slice P m pc] 36, .cells #[.int .i64 a, .int .i64 g, .int .i64 at_, .int .i64 height] 3]) (some ⟨w.heap.size + 1, 0, none⟩) (ivs [a, g, at_, height]) := by
    have h := allocs_at [.cells #[.int .i64 0, .int .i64 0, .int .u8 0, .string ⟨#[]⟩, .int .i64 0, .slice none 0 0, .int .i64 a, .int .i64 g, .slice K n kc, .slice P m pc] 36, .cells #[.int .i64 a, .int .i64 g, .int .i64 at_, .int .i64 height] 3] w 1 _ rfl
    refine fun _ => ⟨_, rfl, fun j u hj => ?_⟩
    rcases j with _ | _ | _ | _ | j
    · injection hj with hj; subst hj; exact cell_of h rfl
    · injection hj with hj; subst hj; exact cell_of h rfl
    · injection hj with hj; subst hj; exact cell_of h rfl
    · injection hj with hj; subst hj; exact cell_of h rfl
    · simp [ivs] at hj
  have HBL := Lib.hid (blocks_any [a, g, at_, height] _ 4 _ (by simp) hr)
  have HB := Lib.hid hb
  have C6 := Lib.hid c6
  have C7 := Lib.hid c7
  obtain ⟨ok, hok⟩ : ∃ ok, [a, g, at_, height].all blk = ok := ⟨_, rfl⟩
  have hRB : readyB a g at_ height = (ok && (decide (a ≤ height + 1) && decide (g ≤ height + 1 - at_))) := by unfold readyB; rw [hok]
  have HRB := Lib.hid hRB
  rw [hok] at HBL
  clear hb c6 c7 hr hRB
  cases ok with
  | false =>
    clear hok
    go_enter Tryz.func31, Tryz.ntmps31
    go_wp2_with fail
    refine HBL.out.mono ?_
    rintro e w1 ⟨rfl, hb1⟩
    have HB1 := Lib.hid (HB.out.trans (hb1.mono HB.out.size)); clear hb1
    go_wp2_with fail
    go_ret
    rw [HRB.out]
    exact ⟨rfl, HB1.out⟩
  | true =>
    simp only [List.all_cons, List.all_nil, Bool.and_true, Bool.and_eq_true, blk_iff] at hok
    obtain ⟨⟨q1, q2⟩, ⟨q3, q4⟩, ⟨q5, q6⟩, q7, q8⟩ := hok
    by_cases h1 : a ≤ height + 1
    · have g1 : decide (a ≤ height + 1) = true := decide_eq_true h1
      go_enter Tryz.func31, Tryz.ntmps31
      go_wp2_with fail
      refine HBL.out.mono ?_
      rintro e w1 ⟨rfl, hb1⟩
      have c6 := cell_below hb1 C6.out
      have c7 := cell_below hb1 C7.out
      have HB1 := Lib.hid (HB.out.trans (hb1.mono HB.out.size)); clear hb1
      go_wp2_with fail
      go_ret
      rw [HRB.out, g1]
      exact ⟨ret_bool (by simp), HB1.out⟩
    · have g1 : decide (a ≤ height + 1) = false := decide_eq_false h1
      go_enter Tryz.func31, Tryz.ntmps31
      go_wp2_with fail
      refine HBL.out.mono ?_
      rintro e w1 ⟨rfl, hb1⟩
      have c6 := cell_below hb1 C6.out
      have c7 := cell_below hb1 C7.out
      have HB1 := Lib.hid (HB.out.trans (hb1.mono HB.out.size)); clear hb1
      go_wp2_with fail
      go_ret
      rw [HRB.out, g1]
      exact ⟨rfl, HB1.out⟩
end Go.Proofs.YtaonadgelkdbcaaGreatDoor

namespace Go.Proofs.YtaonadgelkdbcaaGreatDoor
open Go.RowKit

def tn1 : ByteArray := ⟨#[110, 49, 59]⟩
def tn2 : ByteArray := ⟨#[110, 50, 59]⟩
def tp1 : ByteArray := ⟨#[80, 110, 49, 59]⟩
def tp2 : ByteArray := ⟨#[80, 110, 50, 59]⟩
def exL : LockT := .node 6 ⟨#[]⟩ 0 [.node 1 tp1 0 [], .node 5 ⟨#[]⟩ 0 [.node 4 ⟨#[]⟩ 6 [], .node 1 tp2 0 []]]
theorem ex1 : solveT [tn2] [] exL = some ⟨0, 6, [tn2], []⟩ := by kernel_rfl
theorem ex2 : solveT [tn2, tn1] [] exL = some ⟨0, 0, [tn1], []⟩ := by kernel_rfl
theorem ex3 : solveT [] [] exL = none := by kernel_rfl
theorem exSmall : smallT exL := by
  unfold exL
  simp only [smallT, smallTs, List.length_cons, List.length_nil]
  decide
end Go.Proofs.YtaonadgelkdbcaaGreatDoor

namespace Go.Proofs.YtaonadgelkdbcaaGreatDoor
open Go.RowKit

theorem cells_blk {V : World} {b : Nat} {cs : Array Value} {T : TypeId} {z : Nat × Nat} (h : V.heap[b]? = some (.cells cs T z)) : Cells V (some ⟨b, 0, none⟩) cs.toList := fun _ => ⟨_, rfl, fun j u hj => by
  have hc : V.cell? ⟨b, j, none⟩ = some u := cell_of h (by rw [← Array.getElem?_toList]; exact hj)
  unfold Addr.add
  split
  · rename_i h0; subst h0; exact hc
  · simpa using hc⟩
theorem ex_lock {w V : World} (h0 : V.heap[w.heap.size]? = some (.cells #[.int .u8 4, .string ⟨#[]⟩, .int .i64 6, (.slice none 0 0), .int .u8 1, .string ⟨#[80, 110, 50, 59]⟩, .int .i64 0, (.slice none 0 0)] 32 (0, 0))) (h1 : V.heap[w.heap.size + 1]? = some (.cells #[.int .u8 1, .string ⟨#[80, 110, 49, 59]⟩, .int .i64 0, (.slice none 0 0), .int .u8 5, .string ⟨#[]⟩, .int .i64 0, .slice (some ⟨w.heap.size, 0, none⟩) 2 2] 32 (0, 0))) : LockC V exL [.int .u8 6, .string ⟨#[]⟩, .int .i64 0, .slice (some ⟨w.heap.size + 1, 0, none⟩) 2 2] := by
  unfold exL
  simp only [LockC, LocksC]
  refine ⟨_, _, _, rfl, cells_blk h1, _, _, rfl, ⟨_, _, [], rfl, Cells.nil _ _, rfl⟩, _, _, rfl, ⟨_, _, _, rfl, cells_blk h0, _, _, rfl, ⟨_, _, [], rfl, Cells.nil _ _, rfl⟩, _, _, rfl, ⟨_, _, [], rfl, Cells.nil _ _, rfl⟩, rfl⟩, rfl⟩
theorem env1 : EnvOk [tn2] [] := ⟨by simp, by simp, fun x hx => by simp at hx; subst hx; decide, by simp⟩
theorem env2 : EnvOk [tn2, tn1] [] := ⟨by simp, by simp, fun x hx => by simp at hx; rcases hx with rfl | rfl <;> decide, by simp⟩
theorem env0 : EnvOk [] [] := ⟨by simp, by simp, by simp, by simp⟩
theorem envOk_of {ks : List ByteArray} (h1 : ks.length ≤ 1000) (h2 : ∀ x ∈ ks, x.size ≤ 900000) : EnvOk ks [] := ⟨h1, by simp, h2, by simp⟩
set_option maxRecDepth 100000 in
set_option maxHeartbeats 8000000 in
theorem works_any (w : World) (hv : VarsOk w) : Calls Tryz.prog 13 #[] w fun e w' => e = .returned (.bool true) ∧ Below w.heap.size w w' := by
  have hb := allocs_below [.cells #[.int .u8 4, .string ⟨#[]⟩, .int .i64 6, (.slice none 0 0), .int .u8 1, .string ⟨#[80, 110, 50, 59]⟩, .int .i64 0, (.slice none 0 0)] 32, .cells #[.int .u8 1, .string ⟨#[80, 110, 49, 59]⟩, .int .i64 0, (.slice none 0 0), .int .u8 5, .string ⟨#[]⟩, .int .i64 0, .slice (some ⟨w.heap.size, 0, none⟩) 2 2] 32, .cells #[.int .u8 6, .string ⟨#[]⟩, .int .i64 0, .slice (some ⟨w.heap.size + 1, 0, none⟩) 2 2] 32, (.cells #[.string ⟨#[110, 50, 59]⟩] 29)] w
  have hl := ex_lock (w := w) (allocs_at [.cells #[.int .u8 4, .string ⟨#[]⟩, .int .i64 6, (.slice none 0 0), .int .u8 1, .string ⟨#[80, 110, 50, 59]⟩, .int .i64 0, (.slice none 0 0)] 32, .cells #[.int .u8 1, .string ⟨#[80, 110, 49, 59]⟩, .int .i64 0, (.slice none 0 0), .int .u8 5, .string ⟨#[]⟩, .int .i64 0, .slice (some ⟨w.heap.size, 0, none⟩) 2 2] 32, .cells #[.int .u8 6, .string ⟨#[]⟩, .int .i64 0, .slice (some ⟨w.heap.size + 1, 0, none⟩) 2 2] 32, (.cells #[.string ⟨#[110, 50, 59]⟩] 29)] w 0 _ rfl) (allocs_at [.cells #[.int .u8 4, .string ⟨#[]⟩, .int .i64 6, (.slice none 0 0), .int .u8 1, .string ⟨#[80, 110, 50, 59]⟩, .int .i64 0, (.slice none 0 0)] 32, .cells #[.int .u8 1, .string ⟨#[80, 110, 49, 59]⟩, .int .i64 0, (.slice none 0 0), .int .u8 5, .string ⟨#[]⟩, .int .i64 0, .slice (some ⟨w.heap.size, 0, none⟩) 2 2] 32, .cells #[.int .u8 6, .string ⟨#[]⟩, .int .i64 0, .slice (some ⟨w.heap.size + 1, 0, none⟩) 2 2] 32, (.cells #[.string ⟨#[110, 50, 59]⟩] 29)] w 1 _ rfl)
  have HL := Lib.hid hl
  have HB := Lib.hid hb
  have HV := Lib.hid hv
  have q0 : (allocs w [.cells #[.int .u8 4, .string ⟨#[]⟩, .int .i64 6, (.slice none 0 0), .int .u8 1, .string ⟨#[80, 110, 50, 59]⟩, .int .i64 0, (.slice none 0 0)] 32, .cells #[.int .u8 1, .string ⟨#[80, 110, 49, 59]⟩, .int .i64 0, (.slice none 0 0), .int .u8 5, .string ⟨#[]⟩, .int .i64 0, .slice (some ⟨w.heap.size, 0, none⟩) 2 2] 32, .cells #[.int .u8 6, .string ⟨#[]⟩, .int .i64 0, .slice (some ⟨w.heap.size + 1, 0, none⟩) 2 2] 32, (.cells #[.string ⟨#[110, 50, 59]⟩] 29)]).cell? ⟨w.heap.size + 1 + 1, 0, none⟩ = some (.int .u8 6) := cell_of (allocs_at [.cells #[.int .u8 4, .string ⟨#[]⟩, .int .i64 6, (.slice none 0 0), .int .u8 1, .string ⟨#[80, 110, 50, 59]⟩, .int .i64 0, (.slice none 0 0)] 32, .cells #[.int .u8 1, .string ⟨#[80, 110, 49, 59]⟩, .int .i64 0, (.slice none 0 0), .int .u8 5, .string ⟨#[]⟩, .int .i64 0, .slice (some ⟨w.heap.size, 0, none⟩) 2 2] 32, .cells #[.int .u8 6, .string ⟨#[]⟩, .int .i64 0, .slice (some ⟨w.heap.size + 1, 0, none⟩) 2 2] 32, (.cells #[.string ⟨#[110, 50, 59]⟩] 29)] w 2 _ rfl) rfl
  have q1 : (allocs w [.cells #[.int .u8 4, .string ⟨#[]⟩, .int .i64 6, (.slice none 0 0), .int .u8 1, .string ⟨#[80, 110, 50, 59]⟩, .int .i64 0, (.slice none 0 0)] 32, .cells #[.int .u8 1, .string ⟨#[80, 110, 49, 59]⟩, .int .i64 0, (.slice none 0 0), .int .u8 5, .string ⟨#[]⟩, .int .i64 0, .slice (some ⟨w.heap.size, 0, none⟩) 2 2] 32, .cells #[.int .u8 6, .string ⟨#[]⟩, .int .i64 0, .slice (some ⟨w.heap.size + 1, 0, none⟩) 2 2] 32, (.cells #[.string ⟨#[110, 50, 59]⟩] 29)]).cell? ⟨w.heap.size + 1 + 1, 1, none⟩ = some (.string ⟨#[]⟩) := cell_of (allocs_at [.cells #[.int .u8 4, .string ⟨#[]⟩, .int .i64 6, (.slice none 0 0), .int .u8 1, .string ⟨#[80, 110, 50, 59]⟩, .int .i64 0, (.slice none 0 0)] 32, .cells #[.int .u8 1, .string ⟨#[80, 110, 49, 59]⟩, .int .i64 0, (.slice none 0 0), .int .u8 5, .string ⟨#[]⟩, .int .i64 0, .slice (some ⟨w.heap.size, 0, none⟩) 2 2] 32, .cells #[.int .u8 6, .string ⟨#[]⟩, .int .i64 0, .slice (some ⟨w.heap.size + 1, 0, none⟩) 2 2] 32, (.cells #[.string ⟨#[110, 50, 59]⟩] 29)] w 2 _ rfl) rfl
  have q2 : (allocs w [.cells #[.int .u8 4, .string ⟨#[]⟩, .int .i64 6, (.slice none 0 0), .int .u8 1, .string ⟨#[80, 110, 50, 59]⟩, .int .i64 0, (.slice none 0 0)] 32, .cells #[.int .u8 1, .string ⟨#[80, 110, 49, 59]⟩, .int .i64 0, (.slice none 0 0), .int .u8 5, .string ⟨#[]⟩, .int .i64 0, .slice (some ⟨w.heap.size, 0, none⟩) 2 2] 32, .cells #[.int .u8 6, .string ⟨#[]⟩, .int .i64 0, .slice (some ⟨w.heap.size + 1, 0, none⟩) 2 2] 32, (.cells #[.string ⟨#[110, 50, 59]⟩] 29)]).cell? ⟨w.heap.size + 1 + 1, 2, none⟩ = some (.int .i64 0) := cell_of (allocs_at [.cells #[.int .u8 4, .string ⟨#[]⟩, .int .i64 6, (.slice none 0 0), .int .u8 1, .string ⟨#[80, 110, 50, 59]⟩, .int .i64 0, (.slice none 0 0)] 32, .cells #[.int .u8 1, .string ⟨#[80, 110, 49, 59]⟩, .int .i64 0, (.slice none 0 0), .int .u8 5, .string ⟨#[]⟩, .int .i64 0, .slice (some ⟨w.heap.size, 0, none⟩) 2 2] 32, .cells #[.int .u8 6, .string ⟨#[]⟩, .int .i64 0, .slice (some ⟨w.heap.size + 1, 0, none⟩) 2 2] 32, (.cells #[.string ⟨#[110, 50, 59]⟩] 29)] w 2 _ rfl) rfl
  have q3 : (allocs w [.cells #[.int .u8 4, .string ⟨#[]⟩, .int .i64 6, (.slice none 0 0), .int .u8 1, .string ⟨#[80, 110, 50, 59]⟩, .int .i64 0, (.slice none 0 0)] 32, .cells #[.int .u8 1, .string ⟨#[80, 110, 49, 59]⟩, .int .i64 0, (.slice none 0 0), .int .u8 5, .string ⟨#[]⟩, .int .i64 0, .slice (some ⟨w.heap.size, 0, none⟩) 2 2] 32, .cells #[.int .u8 6, .string ⟨#[]⟩, .int .i64 0, .slice (some ⟨w.heap.size + 1, 0, none⟩) 2 2] 32, (.cells #[.string ⟨#[110, 50, 59]⟩] 29)]).cell? ⟨w.heap.size + 1 + 1, 3, none⟩ = some (.slice (some ⟨w.heap.size + 1, 0, none⟩) 2 2) := cell_of (allocs_at [.cells #[.int .u8 4, .string ⟨#[]⟩, .int .i64 6, (.slice none 0 0), .int .u8 1, .string ⟨#[80, 110, 50, 59]⟩, .int .i64 0, (.slice none 0 0)] 32, .cells #[.int .u8 1, .string ⟨#[80, 110, 49, 59]⟩, .int .i64 0, (.slice none 0 0), .int .u8 5, .string ⟨#[]⟩, .int .i64 0, .slice (some ⟨w.heap.size, 0, none⟩) 2 2] 32, .cells #[.int .u8 6, .string ⟨#[]⟩, .int .i64 0, .slice (some ⟨w.heap.size + 1, 0, none⟩) 2 2] 32, (.cells #[.string ⟨#[110, 50, 59]⟩] 29)] w 2 _ rfl) rfl
  have Q0 := Lib.hid q0
  have Q1 := Lib.hid q1
  have Q2 := Lib.hid q2
  have Q3 := Lib.hid q3
  have hs1 : Calls Tryz.prog 7 #[.agg #[.int .u8 6, .string ⟨#[]⟩, .int .i64 0, .slice (some ⟨w.heap.size + 1, 0, none⟩) 2 2], .slice (some ⟨w.heap.size + 1 + 1 + 1, 0, none⟩) 1 1, .slice none 0 0] (allocs w [.cells #[.int .u8 4, .string ⟨#[]⟩, .int .i64 6, (.slice none 0 0), .int .u8 1, .string ⟨#[80, 110, 50, 59]⟩, .int .i64 0, (.slice none 0 0)] 32, .cells #[.int .u8 1, .string ⟨#[80, 110, 49, 59]⟩, .int .i64 0, (.slice none 0 0), .int .u8 5, .string ⟨#[]⟩, .int .i64 0, .slice (some ⟨w.heap.size, 0, none⟩) 2 2] 32, .cells #[.int .u8 6, .string ⟨#[]⟩, .int .i64 0, .slice (some ⟨w.heap.size + 1, 0, none⟩) 2 2] 32, (.cells #[.string ⟨#[110, 50, 59]⟩] 29)]) (WayP (some ⟨0, 6, [tn2], []⟩) (allocs w [.cells #[.int .u8 4, .string ⟨#[]⟩, .int .i64 6, (.slice none 0 0), .int .u8 1, .string ⟨#[80, 110, 50, 59]⟩, .int .i64 0, (.slice none 0 0)] 32, .cells #[.int .u8 1, .string ⟨#[80, 110, 49, 59]⟩, .int .i64 0, (.slice none 0 0), .int .u8 5, .string ⟨#[]⟩, .int .i64 0, .slice (some ⟨w.heap.size, 0, none⟩) 2 2] 32, .cells #[.int .u8 6, .string ⟨#[]⟩, .int .i64 0, .slice (some ⟨w.heap.size + 1, 0, none⟩) 2 2] 32, (.cells #[.string ⟨#[110, 50, 59]⟩] 29)])) := by
    have h := solve_any exL _ [tn2] [] (some ⟨w.heap.size + 1 + 1 + 1, 0, none⟩) 1 none 0 (allocs w [.cells #[.int .u8 4, .string ⟨#[]⟩, .int .i64 6, (.slice none 0 0), .int .u8 1, .string ⟨#[80, 110, 50, 59]⟩, .int .i64 0, (.slice none 0 0)] 32, .cells #[.int .u8 1, .string ⟨#[80, 110, 49, 59]⟩, .int .i64 0, (.slice none 0 0), .int .u8 5, .string ⟨#[]⟩, .int .i64 0, .slice (some ⟨w.heap.size, 0, none⟩) 2 2] 32, .cells #[.int .u8 6, .string ⟨#[]⟩, .int .i64 0, .slice (some ⟨w.heap.size + 1, 0, none⟩) 2 2] 32, (.cells #[.string ⟨#[110, 50, 59]⟩] 29)]) env1 exSmall hl (cells_blk (allocs_at [.cells #[.int .u8 4, .string ⟨#[]⟩, .int .i64 6, (.slice none 0 0), .int .u8 1, .string ⟨#[80, 110, 50, 59]⟩, .int .i64 0, (.slice none 0 0)] 32, .cells #[.int .u8 1, .string ⟨#[80, 110, 49, 59]⟩, .int .i64 0, (.slice none 0 0), .int .u8 5, .string ⟨#[]⟩, .int .i64 0, .slice (some ⟨w.heap.size, 0, none⟩) 2 2] 32, .cells #[.int .u8 6, .string ⟨#[]⟩, .int .i64 0, .slice (some ⟨w.heap.size + 1, 0, none⟩) 2 2] 32, (.cells #[.string ⟨#[110, 50, 59]⟩] 29)] w 3 _ rfl)) (Cells.nil _ _) (hv.below hb)
    rw [ex1] at h
    exact h
  unfold WayP at hs1
  simp only at hs1
  unfold claimV at hs1
  have HS1 := Lib.hid hs1
  clear hs1 hb hl hv q0 q1 q2 q3
  go_enter Tryz.func13, Tryz.ntmps13
  go_wp2_with fail
  refine HS1.out.mono ?_
  rintro e w1 ⟨K1, kc1, P1, pc1, rfl, hk1, -, -, hb1⟩
  have ha1 : Below w1.heap.size w1 (w1.alloc (.cells #[.int .i64 0, .int .i64 0, .int .u8 0, .string ⟨#[]⟩, .int .i64 0, .slice none 0 0, .int .i64 0, .int .i64 6, .slice K1 1 kc1, .slice P1 0 pc1] 36)) := (Below.refl _ _).alloc (Nat.le_refl _) _
  have hb1x := hb1.trans (ha1.mono hb1.size)
  have HC1 := Lib.hid (show ClaimAt (w1.alloc (.cells #[.int .i64 0, .int .i64 0, .int .u8 0, .string ⟨#[]⟩, .int .i64 0, .slice none 0 0, .int .i64 0, .int .i64 6, .slice K1 1 kc1, .slice P1 0 pc1] 36)) w1.heap.size 0 6 (.slice K1 1 kc1) (.slice P1 0 pc1) from Go.heap_alloc_new w1 _)
  have HK1 := Lib.hid (Cells.below (row_cells hk1) ha1)
  have HB1 := Lib.hid (HB.out.trans (hb1x.mono HB.out.size))
  have HL1 := Lib.hid (LockC.below hb1x _ _ HL.out)
  have q0 := cell_below hb1x Q0.out
  have q1 := cell_below hb1x Q1.out
  have q2 := cell_below hb1x Q2.out
  have q3 := cell_below hb1x Q3.out
  have Q0 := Lib.hid q0
  have Q1 := Lib.hid q1
  have Q2 := Lib.hid q2
  have Q3 := Lib.hid q3
  have ht2 : Below (w1.alloc (.cells #[.int .i64 0, .int .i64 0, .int .u8 0, .string ⟨#[]⟩, .int .i64 0, .slice none 0 0, .int .i64 0, .int .i64 6, .slice K1 1 kc1, .slice P1 0 pc1] 36)).heap.size (w1.alloc (.cells #[.int .i64 0, .int .i64 0, .int .u8 0, .string ⟨#[]⟩, .int .i64 0, .slice none 0 0, .int .i64 0, .int .i64 6, .slice K1 1 kc1, .slice P1 0 pc1] 36)) ((w1.alloc (.cells #[.int .i64 0, .int .i64 0, .int .u8 0, .string ⟨#[]⟩, .int .i64 0, .slice none 0 0, .int .i64 0, .int .i64 6, .slice K1 1 kc1, .slice P1 0 pc1] 36)).alloc (.cells #[.string ⟨#[110, 50, 59]⟩, .string ⟨#[110, 49, 59]⟩] 29)) := (Below.refl _ _).alloc (Nat.le_refl _) _
  have hs2 : Calls Tryz.prog 7 #[.agg #[.int .u8 6, .string ⟨#[]⟩, .int .i64 0, .slice (some ⟨w.heap.size + 1, 0, none⟩) 2 2], .slice (some ⟨w1.heap.size + 1, 0, none⟩) 2 2, .slice none 0 0] ((w1.alloc (.cells #[.int .i64 0, .int .i64 0, .int .u8 0, .string ⟨#[]⟩, .int .i64 0, .slice none 0 0, .int .i64 0, .int .i64 6, .slice K1 1 kc1, .slice P1 0 pc1] 36)).alloc (.cells #[.string ⟨#[110, 50, 59]⟩, .string ⟨#[110, 49, 59]⟩] 29)) (WayP (some ⟨0, 0, [tn1], []⟩) ((w1.alloc (.cells #[.int .i64 0, .int .i64 0, .int .u8 0, .string ⟨#[]⟩, .int .i64 0, .slice none 0 0, .int .i64 0, .int .i64 6, .slice K1 1 kc1, .slice P1 0 pc1] 36)).alloc (.cells #[.string ⟨#[110, 50, 59]⟩, .string ⟨#[110, 49, 59]⟩] 29))) := by
    have h := solve_any exL _ [tn2, tn1] [] (some ⟨w1.heap.size + 1, 0, none⟩) 2 none 0 ((w1.alloc (.cells #[.int .i64 0, .int .i64 0, .int .u8 0, .string ⟨#[]⟩, .int .i64 0, .slice none 0 0, .int .i64 0, .int .i64 6, .slice K1 1 kc1, .slice P1 0 pc1] 36)).alloc (.cells #[.string ⟨#[110, 50, 59]⟩, .string ⟨#[110, 49, 59]⟩] 29)) env2 exSmall (LockC.below ht2 _ _ HL1.out) (cells_blk (allocs_at [(.cells #[.int .i64 0, .int .i64 0, .int .u8 0, .string ⟨#[]⟩, .int .i64 0, .slice none 0 0, .int .i64 0, .int .i64 6, .slice K1 1 kc1, .slice P1 0 pc1] 36), (.cells #[.string ⟨#[110, 50, 59]⟩, .string ⟨#[110, 49, 59]⟩] 29)] w1 1 _ rfl)) (Cells.nil _ _) ((HV.out.below HB1.out).below ht2)
    rw [ex2] at h
    exact h
  unfold WayP at hs2
  simp only at hs2
  unfold claimV at hs2
  have HS2 := Lib.hid hs2
  have HT2 := Lib.hid ht2
  clear hs2 hk1 ha1 hb1x hb1 ht2
  go_wp2_with fail
  refine HS2.out.mono ?_
  rintro e w2 ⟨K2, kc2, P2, pc2, rfl, hk2, -, -, hb2⟩
  have ha2 : Below w2.heap.size w2 (w2.alloc (.cells #[.int .i64 0, .int .i64 0, .int .u8 0, .string ⟨#[]⟩, .int .i64 0, .slice none 0 0, .int .i64 0, .int .i64 0, .slice K2 1 kc2, .slice P2 0 pc2] 36)) := (Below.refl _ _).alloc (Nat.le_refl _) _
  have hb2x : Below (w1.alloc (.cells #[.int .i64 0, .int .i64 0, .int .u8 0, .string ⟨#[]⟩, .int .i64 0, .slice none 0 0, .int .i64 0, .int .i64 6, .slice K1 1 kc1, .slice P1 0 pc1] 36)).heap.size (w1.alloc (.cells #[.int .i64 0, .int .i64 0, .int .u8 0, .string ⟨#[]⟩, .int .i64 0, .slice none 0 0, .int .i64 0, .int .i64 6, .slice K1 1 kc1, .slice P1 0 pc1] 36)) (w2.alloc (.cells #[.int .i64 0, .int .i64 0, .int .u8 0, .string ⟨#[]⟩, .int .i64 0, .slice none 0 0, .int .i64 0, .int .i64 0, .slice K2 1 kc2, .slice P2 0 pc2] 36)) := (HT2.out.trans (hb2.mono HT2.out.size)).trans (ha2.mono (Nat.le_trans HT2.out.size hb2.size))
  have HC2 := Lib.hid (show ClaimAt (w2.alloc (.cells #[.int .i64 0, .int .i64 0, .int .u8 0, .string ⟨#[]⟩, .int .i64 0, .slice none 0 0, .int .i64 0, .int .i64 0, .slice K2 1 kc2, .slice P2 0 pc2] 36)) w2.heap.size 0 0 (.slice K2 1 kc2) (.slice P2 0 pc2) from Go.heap_alloc_new w2 _)
  have HK2 := Lib.hid (Cells.below (row_cells hk2) ha2)
  have HB2 := Lib.hid (HB1.out.trans (hb2x.mono HB1.out.size))
  have HL2 := Lib.hid (LockC.below hb2x _ _ HL1.out)
  have HC12 := Lib.hid (HC1.out.below hb2x)
  have HK12 := Lib.hid (Cells.below HK1.out hb2x)
  clear q0 q1 q2 q3
  have q0 := cell_below hb2x Q0.out
  have q1 := cell_below hb2x Q1.out
  have q2 := cell_below hb2x Q2.out
  have q3 := cell_below hb2x Q3.out
  have hs3 : Calls Tryz.prog 7 #[.agg #[.int .u8 6, .string ⟨#[]⟩, .int .i64 0, .slice (some ⟨w.heap.size + 1, 0, none⟩) 2 2], .slice none 0 0, .slice none 0 0] (w2.alloc (.cells #[.int .i64 0, .int .i64 0, .int .u8 0, .string ⟨#[]⟩, .int .i64 0, .slice none 0 0, .int .i64 0, .int .i64 0, .slice K2 1 kc2, .slice P2 0 pc2] 36)) (WayP none (w2.alloc (.cells #[.int .i64 0, .int .i64 0, .int .u8 0, .string ⟨#[]⟩, .int .i64 0, .slice none 0 0, .int .i64 0, .int .i64 0, .slice K2 1 kc2, .slice P2 0 pc2] 36))) := by
    have h := solve_any exL _ [] [] none 0 none 0 (w2.alloc (.cells #[.int .i64 0, .int .i64 0, .int .u8 0, .string ⟨#[]⟩, .int .i64 0, .slice none 0 0, .int .i64 0, .int .i64 0, .slice K2 1 kc2, .slice P2 0 pc2] 36)) env0 exSmall HL2.out (Cells.nil _ _) (Cells.nil _ _) (HV.out.below HB2.out)
    rw [ex3] at h
    exact h
  unfold WayP at hs3
  simp only at hs3
  unfold claimV at hs3
  have HS3 := Lib.hid hs3
  clear hs3 hk2 ha2 hb2x hb2
  go_wp2_with fail
  refine HS3.out.mono ?_
  rintro e w3 ⟨K3, kc3, P3, pc3, rfl, hb3⟩
  have ha3 : Below w3.heap.size w3 (w3.alloc (.cells #[.int .i64 0, .int .i64 0, .int .u8 0, .string ⟨#[]⟩, .int .i64 0, .slice none 0 0, .int .i64 0, .int .i64 0, .slice K3 0 kc3, .slice P3 0 pc3] 36)) := (Below.refl _ _).alloc (Nat.le_refl _) _
  have hb3x := hb3.trans (ha3.mono hb3.size)
  have HB3 := Lib.hid (HB2.out.trans (hb3x.mono HB2.out.size))
  obtain ⟨c0, c1, c2, c3, c4, c5, c6, c7, c8, c9, -⟩ := (HC12.out.below hb3x).cells
  obtain ⟨d0, d1, d2, d3, d4, d5, d6, d7, d8, d9, -⟩ := (HC2.out.below hb3x).cells
  obtain ⟨a1, rfl, k1⟩ := strs_at (Cells.below HK12.out hb3x) (show 0 < [tn2].length by simp)
  obtain ⟨a2, rfl, k2⟩ := strs_at (Cells.below HK2.out hb3x) (show 0 < [tn1].length by simp)
  rw [show a1.add 0 = a1 by simp [Addr.add]] at k1
  rw [show a2.add 0 = a2 by simp [Addr.add]] at k2
  have k1' : (w3.alloc (.cells #[.int .i64 0, .int .i64 0, .int .u8 0, .string ⟨#[]⟩, .int .i64 0, .slice none 0 0, .int .i64 0, .int .i64 0, .slice K3 0 kc3, .slice P3 0 pc3] 36)).cell? a1 = some (.string ⟨#[110, 50, 59]⟩) := k1
  have k2' : (w3.alloc (.cells #[.int .i64 0, .int .i64 0, .int .u8 0, .string ⟨#[]⟩, .int .i64 0, .slice none 0 0, .int .i64 0, .int .i64 0, .slice K3 0 kc3, .slice P3 0 pc3] 36)).cell? a2 = some (.string ⟨#[110, 49, 59]⟩) := k2
  have HR1 := Lib.hid (fun W => ready_any 0 6 (some a1) 1 kc1 P1 0 pc1 4 9 W)
  have HR2 := Lib.hid (fun W => ready_any 0 6 (some a1) 1 kc1 P1 0 pc1 5 9 W)
  rw [show readyB 0 6 4 9 = true by decide] at HR1
  rw [show readyB 0 6 5 9 = false by decide] at HR2
  unfold claimV at HR1 HR2
  clear q0 q1 q2 q3 k1 k2 hb3 ha3 hb3x
  go_wp2_with fail
  refine (HR1.out _).mono ?_
  rintro e w4 ⟨rfl, hb4⟩
  have f0 := cell_below hb4 c0
  have f1 := cell_below hb4 c1
  have f2 := cell_below hb4 c2
  have f3 := cell_below hb4 c3
  have f4 := cell_below hb4 c4
  have f5 := cell_below hb4 c5
  have f6 := cell_below hb4 c6
  have f7 := cell_below hb4 c7
  have f8 := cell_below hb4 c8
  have f9 := cell_below hb4 c9
  have HB4 := Lib.hid (HB3.out.trans (hb4.mono HB3.out.size))
  clear hb4
  go_wp2_with fail
  refine (HR2.out _).mono ?_
  rintro e w5 ⟨rfl, hb5⟩
  have HB5 := Lib.hid (HB4.out.trans (hb5.mono HB4.out.size))
  clear hb5
  go_wp2_with fail
  go_ret
  exact ⟨rfl, HB5.out⟩
end Go.Proofs.YtaonadgelkdbcaaGreatDoor

namespace Go.Proofs.YtaonadgelkdbcaaGreatDoor
open Go.RowKit

def tot (l : List ByteArray) : Nat := (l.map (·.size)).sum
theorem tot_snoc (l : List ByteArray) {k : Nat} (hk : k < l.length) : tot (l.take (k + 1)) = tot (l.take k) + l[k].size := by
  unfold tot
  rw [List.take_succ_eq_append_getElem hk, List.map_append, List.sum_append]
  simp
theorem tot_le (B : Nat) : ∀ l : List ByteArray, (∀ x ∈ l, x.size ≤ B) → tot l ≤ l.length * B
  | [], _ => by simp [tot]
  | x :: r, h => by
    have h1 := h x (List.mem_cons_self ..)
    have h2 := tot_le B r (fun y hy => h y (List.mem_cons_of_mem _ hy))
    have e : tot (x :: r) = x.size + tot r := by simp [tot]
    rw [e, List.length_cons, Nat.add_mul, Nat.one_mul]; omega
theorem tot_mem : ∀ (l : List ByteArray) (x : ByteArray), x ∈ l → x.size ≤ tot l
  | [], _, h => by cases h
  | y :: r, x, h => by
    have e : tot (y :: r) = y.size + tot r := by simp [tot]
    rcases List.mem_cons.1 h with rfl | h
    · omega
    · have := tot_mem r x h; omega
def largeB (ps : List ByteArray) : Bool := decide (20 < ps.length) || decide (4000 < tot (ps.take 50))
theorem not_large {ps : List ByteArray} (h : largeB ps = false) : ps.length ≤ 20 ∧ ∀ x ∈ ps, x.size ≤ 4000 := by
  unfold largeB at h
  rw [Bool.or_eq_false_iff, decide_eq_false_iff_not, decide_eq_false_iff_not] at h
  refine ⟨by omega, fun x hx => ?_⟩
  have ht : ps.take 50 = ps := List.take_of_length_le (by omega)
  rw [ht] at h
  have := tot_mem ps x hx
  omega
set_option maxRecDepth 100000 in
set_option maxHeartbeats 8000000 in
theorem large_any (ps : List ByteArray) (A : Option Addr) (c : Nat) (ob oc : Nat) (w : World) (hl : ps.length ≤ 140737488355328) (hx : ∀ x ∈ ps, x.size ≤ 140737488355328) (hA : Cells w A (strs ps)) (ho : w.cell? ⟨ob, 0, none⟩ = some (.slice A ps.length c)) :
    Calls Tryz.prog 6 #[.slice (some ⟨ob, 0, none⟩) 1 oc] w fun e w' => e = .returned (.bool (largeB ps)) ∧ w' = w := by
  have HA := Lib.hid hA
  have HX := Lib.hid hx
  have htk : ∀ k, k ≤ 50 → tot (ps.take k) ≤ 7036874417766400 := fun k hk => by
    have h1 := tot_le 140737488355328 (ps.take k) (fun x h => hx x (List.mem_of_mem_take h))
    have h2 : (ps.take k).length ≤ 50 := by rw [List.length_take]; omega
    have := Nat.mul_le_mul_right 140737488355328 h2
    omega
  have HTK := Lib.hid htk
  obtain ⟨n, hn⟩ : ∃ n, ps.length = n := ⟨_, rfl⟩
  have HN := Lib.hid hn
  rw [hn] at ho hl
  have HLB := Lib.hid (show largeB ps = (decide (20 < n) || decide (4000 < tot (ps.take 50))) by unfold largeB; rw [hn])
  clear hA hx htk hn
  go_enter Tryz.func6, Tryz.ntmps6
  go_wp2
  go_loop [5, 3, 4] (fun i m b => (i = .int .i64 0 ∧ m = .int .i64 0 ∧ b = .int .i64 0) ∨ (i = .int .i64 1 ∧ m = .int .i64 (n : Int) ∧ b = .int .i64 (tot (ps.take 50) : Nat))) (fun i _ _ => (1 - intOf i).toNat)
  case atStart => exact .inl ⟨rfl, rfl, rfl⟩
  case round =>
    rcases hrel with ⟨rfl, rfl, rfl⟩ | ⟨rfl, rfl, rfl⟩
    · go_wp2
      go_loop [6, 4] (fun k b => ∃ k' : Nat, k' ≤ n ∧ k' ≤ 50 ∧ k = .int .i64 (k' : Int) ∧ b = .int .i64 (tot (ps.take k') : Nat)) (fun k _ => 50 - (intOf k).toNat)
      case atStart => exact ⟨0, Nat.zero_le _, by omega, rfl, rfl⟩
      case round =>
        obtain ⟨k, hk, hk5, rfl, rfl⟩ := hrel
        by_cases hlt : k < n
        · by_cases h5 : k < 50
          · have hk2 : k < ps.length := by rw [HN.out]; exact hlt
            obtain ⟨ad, rfl, hc⟩ := strs_at HA.out hk2
            have HS := Lib.hid (tot_snoc ps hk2)
            have hsz := HX.out _ (List.getElem_mem hk2)
            have ht := HTK.out k (by omega)
            generalize ps[k] = x at hc HS hsz
            generalize tot (ps.take k) = tk at HS ht
            go_wp2
            go_round
            case rel => exact ⟨k + 1, by omega, by omega, by go_num, by rw [HS.out]; simp⟩
            case measure => simp [intOf]; omega
          · obtain rfl : k = 50 := by omega
            go_wp2
            go_round
            case rel => exact .inr ⟨rfl, rfl, rfl⟩
            case measure => simp [intOf]
        · obtain rfl : k = n := by omega
          have HE := Lib.hid (show ps.take k = ps.take 50 by rw [List.take_of_length_le (by rw [HN.out]; exact Nat.le_refl _), List.take_of_length_le (by rw [HN.out]; omega)])
          rw [HE.out]
          go_wp2
          go_round
          case rel => exact .inr ⟨rfl, rfl, rfl⟩
          case measure => simp [intOf]
    · have ht := HTK.out 50 (by omega)
      generalize tot (ps.take 50) = t at HLB ht
      by_cases h20 : 20 < n
      · have g : decide ((20 : Int) < (n : Int)) = true := decide_eq_true (by omega)
        go_wp2
        go_ret
        rw [HLB.out, decide_eq_true h20]
        exact ⟨rfl, rfl⟩
      · have g : decide ((20 : Int) < (n : Int)) = false := decide_eq_false (by omega)
        have g4 : decide ((4000 : Int) < (t : Int)) = decide (4000 < t) := by
          by_cases h : 4000 < t
          · rw [decide_eq_true h, decide_eq_true (by omega)]
          · rw [decide_eq_false h, decide_eq_false (by omega)]
        have G4 := Lib.hid g4
        clear g4
        go_wp2
        go_ret
        rw [HLB.out, decide_eq_false h20]
        exact ⟨ret_bool (by simp; omega), rfl⟩
end Go.Proofs.YtaonadgelkdbcaaGreatDoor
