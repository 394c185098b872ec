/- Solve: any lock. · Solve. · Ready; large. · The statements' example: what is found, in plain Lean. · The statements' works. · large: more than 20 terms, or 4000 bytes. · ArbiterLate: the statement's walk. · A state and terms that came in as arguments: what their cells hold. · The frame of the six laws' rows: what every law whose calls only lay new blocks shares. -/
import Derived.Test.YtaonadgelkdbcaaDoorQ17
import Derived.Laws.EntriesVeiled
import Derived.Test.YtaonadgelkdbcaaDoorQ12
import Derived.Test.YtaonadgelkdbcaaDoorQ15
import Derived.Deep.RegionHeld3
import Derived.Deep.DeepCutAuto
import Derived.Deep.Slices
import Derived.Deep.Fields
import Derived.ChangeSame
import Derived.ChangeArms
import Derived.OpenShut
import Derived.SliceStrings
import Derived.Lib.SmallJoins
import Derived.Test.YtaonadgelkdbcaaDoorBase
import Derived.Test.YtaonadgelkdbcaaDoorCards
import Derived.Test.YtaonadgelkdbcaaDoorTie
import Derived.ProofKit
import Derived.Carry
import Derived.LaidMore
import Derived.Lay
import Derived.SevenTiedAt
import Derived.Stop.Joined
import Derived.Below
import Derived.ChangeMaps5
namespace Go.Proofs.YtaonadgelkdbcaaDoor
open Go.RowKit

def wayFn (sb pb wb : Nat) : Value := .func (.func 27) #[] #[.pointer (some ⟨sb, 0, none⟩), .pointer (some ⟨pb, 0, none⟩), .pointer (some ⟨wb, 0, none⟩)]
theorem rightTs_at : ∀ {l : List LockT}, rightTs l = true → ∀ (k : Nat) (hk : k < l.length), rightT l[k] = true
  | [], _, k, hk => absurd hk (by simp)
  | x :: r, h, 0, _ => by unfold rightTs at h; rw [Bool.and_eq_true] at h; exact h.1
  | x :: r, h, k + 1, hk => by
    unfold rightTs at h
    rw [Bool.and_eq_true] at h
    exact rightTs_at h.2 k (by simpa using hk)
theorem len_le_sizeTs : ∀ l : List LockT, l.length ≤ sizeTs l
  | [] => Nat.le_refl _
  | x :: r => by
    unfold sizeTs
    have := sizeT_pos x
    have := len_le_sizeTs r
    rw [List.length_cons]; omega
theorem ways (sb pb wb : Nat) (ks ps : List ByteArray) (ho : EnvOk ks ps) : ∀ (m : Nat) (x : LockT) (cs : List Value) (w : World), sizeT x ≤ m → sizeT x ≤ 1000 → rightT x = true → LockC w x cs → EnvAt w sb pb ks ps → VarsOk w → w.cell? ⟨wb, 0, none⟩ = some (wayFn sb pb wb) →
    Calls Tryd.prog 27 #[.agg cs.toArray, .pointer (some ⟨sb, 0, none⟩), .pointer (some ⟨pb, 0, none⟩), .pointer (some ⟨wb, 0, none⟩)] w (WayP (wayT ks ps x) w)
  | 0, x, _, _, hm, _, _, _, _, _, _ => absurd (sizeT_pos x) (by omega)
  | m + 1, .node k t n l, cs, w, hm, h1000, hr, hc, he, hv, hw => by
    unfold LockC at hc
    obtain ⟨A, cap, xs, rfl, h2, h3⟩ := hc
    unfold rightT at hr
    rw [Bool.and_eq_true] at hr
    obtain ⟨hk, hl⟩ := hr
    have hsz := sizeT_kids (.node k t n l)
    simp only [LockT.kids] at hsz
    have hll := len_le_sizeTs l
    have HW : ∀ (i : Nat) (hi : i < l.length) (W : World) (cs : List Value), LockC W l[i] cs → EnvAt W sb pb ks ps → VarsOk W → W.cell? ⟨wb, 0, none⟩ = some (wayFn sb pb wb) → Calls Tryd.prog 27 #[.agg cs.toArray, .pointer (some ⟨sb, 0, none⟩), .pointer (some ⟨pb, 0, none⟩), .pointer (some ⟨wb, 0, none⟩)] W (WayP (wayT ks ps l[i]) W) :=
      fun i hi W cs g1 g2 g3 g4 => ways sb pb wb ks ps ho m l[i] cs W (by have := sizeTs_at i hi; omega) (by have := sizeTs_at i hi; omega) (rightTs_at hl i hi) g1 g2 g3 g4
    unfold okT at hk
    unfold wayT
    by_cases h1 : k = 1
    · subst h1
      rw [if_pos rfl]
      exact way_sig t n l.length A cap sb pb wb ks ps w ho he hv
    rw [if_neg h1] at hk ⊢
    by_cases h2' : k = 2
    · subst h2'
      rw [if_pos rfl]
      exact way_pre t n l.length A cap sb pb wb ks ps w ho he hv
    rw [if_neg h2'] at hk ⊢
    by_cases h3' : k = 3
    · subst h3'
      rw [if_pos rfl]
      exact way_after t n l.length A cap sb pb wb w
    rw [if_neg h3'] at ⊢
    by_cases h4 : k = 4
    · subst h4
      rw [if_pos rfl]
      exact way_older t n l.length A cap sb pb wb w
    rw [if_neg h4] at ⊢
    rw [if_neg (by omega)] at hk
    by_cases h5 : k = 5
    · subst h5
      rw [if_pos rfl]
      rw [if_pos (.inl rfl)] at hk
      simp only [Bool.and_eq_true, decide_eq_true_eq] at hk
      exact way_all t n l A cap xs sb pb wb ks ps w (by omega) h2 h3 he hv hw (by omega) (by omega) HW
    rw [if_neg h5]
    by_cases h6 : k = 6
    · subst h6
      exact way_any t n l A cap xs sb pb wb ks ps w (by omega) h2 h3 he hv hw HW
    · rw [if_neg (by omega)] at hk
      cases hk
def solveT (ks ps : List ByteArray) (x : LockT) : Option ClaimR := if lockB x then wayT ks ps x else none
end Go.Proofs.YtaonadgelkdbcaaDoor

namespace Go.Proofs.YtaonadgelkdbcaaDoor
open Go.RowKit

set_option maxRecDepth 100000 in
set_option maxHeartbeats 8000000 in
theorem solve_any (x : LockT) (cs : List Value) (ks ps : List ByteArray) (SA : Option Addr) (sc : Nat) (PA : Option Addr) (pc : Nat) (w : World) (ho : EnvOk ks ps) (hs : smallT x) (hc : LockC w x cs) (hk : Cells w SA (strs ks)) (hp : Cells w PA (strs ps)) (hv : VarsOk w) :
    Calls Tryd.prog 17 #[.agg cs.toArray, .slice SA ks.length sc, .slice PA ps.length pc] w (WayP (solveT ks ps x) w) := by
  obtain ⟨A, cap, xs, rfl, -, -⟩ := hc.shape
  have hb := allocs_below [(.cells #[.int .u8 x.kind, .string x.term, .int .i64 x.n, .slice A x.kids.length cap] 45), (.cells #[.slice SA ks.length sc] 25), (.cells #[.slice PA ps.length pc] 25), (.cells #[.int .i64 0, .int .i64 0, .int .u8 0, .string ⟨#[]⟩, .int .i64 0, .slice none 0 0, .int .i64 0, .int .i64 0, (.slice none 0 0), (.slice none 0 0)] 49)] w
  have hz : ClaimAt (allocs w [(.cells #[.int .u8 x.kind, .string x.term, .int .i64 x.n, .slice A x.kids.length cap] 45), (.cells #[.slice SA ks.length sc] 25), (.cells #[.slice PA ps.length pc] 25), (.cells #[.int .i64 0, .int .i64 0, .int .u8 0, .string ⟨#[]⟩, .int .i64 0, .slice none 0 0, .int .i64 0, .int .i64 0, (.slice none 0 0), (.slice none 0 0)] 49)]) (w.heap.size + 1 + 1 + 1) 0 0 (.slice none 0 0) (.slice none 0 0) := allocs_at [(.cells #[.int .u8 x.kind, .string x.term, .int .i64 x.n, .slice A x.kids.length cap] 45), (.cells #[.slice SA ks.length sc] 25), (.cells #[.slice PA ps.length pc] 25), (.cells #[.int .i64 0, .int .i64 0, .int .u8 0, .string ⟨#[]⟩, .int .i64 0, .slice none 0 0, .int .i64 0, .int .i64 0, (.slice none 0 0), (.slice none 0 0)] 49)] w 3 _ rfl
  have s0 : (allocs w [(.cells #[.int .u8 x.kind, .string x.term, .int .i64 x.n, .slice A x.kids.length cap] 45), (.cells #[.slice SA ks.length sc] 25), (.cells #[.slice PA ps.length pc] 25), (.cells #[.int .i64 0, .int .i64 0, .int .u8 0, .string ⟨#[]⟩, .int .i64 0, .slice none 0 0, .int .i64 0, .int .i64 0, (.slice none 0 0), (.slice none 0 0)] 49)]).cell? ⟨w.heap.size + 1, 0, none⟩ = some (.slice SA ks.length sc) := cell_of (allocs_at [(.cells #[.int .u8 x.kind, .string x.term, .int .i64 x.n, .slice A x.kids.length cap] 45), (.cells #[.slice SA ks.length sc] 25), (.cells #[.slice PA ps.length pc] 25), (.cells #[.int .i64 0, .int .i64 0, .int .u8 0, .string ⟨#[]⟩, .int .i64 0, .slice none 0 0, .int .i64 0, .int .i64 0, (.slice none 0 0), (.slice none 0 0)] 49)] w 1 _ rfl) rfl
  have p0 : (allocs w [(.cells #[.int .u8 x.kind, .string x.term, .int .i64 x.n, .slice A x.kids.length cap] 45), (.cells #[.slice SA ks.length sc] 25), (.cells #[.slice PA ps.length pc] 25), (.cells #[.int .i64 0, .int .i64 0, .int .u8 0, .string ⟨#[]⟩, .int .i64 0, .slice none 0 0, .int .i64 0, .int .i64 0, (.slice none 0 0), (.slice none 0 0)] 49)]).cell? ⟨w.heap.size + 1 + 1, 0, none⟩ = some (.slice PA ps.length pc) := cell_of (allocs_at [(.cells #[.int .u8 x.kind, .string x.term, .int .i64 x.n, .slice A x.kids.length cap] 45), (.cells #[.slice SA ks.length sc] 25), (.cells #[.slice PA ps.length pc] 25), (.cells #[.int .i64 0, .int .i64 0, .int .u8 0, .string ⟨#[]⟩, .int .i64 0, .slice none 0 0, .int .i64 0, .int .i64 0, (.slice none 0 0), (.slice none 0 0)] 49)] w 2 _ rfl) rfl
  have l0 : (allocs w [(.cells #[.int .u8 x.kind, .string x.term, .int .i64 x.n, .slice A x.kids.length cap] 45), (.cells #[.slice SA ks.length sc] 25), (.cells #[.slice PA ps.length pc] 25), (.cells #[.int .i64 0, .int .i64 0, .int .u8 0, .string ⟨#[]⟩, .int .i64 0, .slice none 0 0, .int .i64 0, .int .i64 0, (.slice none 0 0), (.slice none 0 0)] 49)]).cell? ⟨w.heap.size, 0, none⟩ = some (.int .u8 x.kind) := cell_of (allocs_at [(.cells #[.int .u8 x.kind, .string x.term, .int .i64 x.n, .slice A x.kids.length cap] 45), (.cells #[.slice SA ks.length sc] 25), (.cells #[.slice PA ps.length pc] 25), (.cells #[.int .i64 0, .int .i64 0, .int .u8 0, .string ⟨#[]⟩, .int .i64 0, .slice none 0 0, .int .i64 0, .int .i64 0, (.slice none 0 0), (.slice none 0 0)] 49)] w 0 _ rfl) rfl
  have l1 : (allocs w [(.cells #[.int .u8 x.kind, .string x.term, .int .i64 x.n, .slice A x.kids.length cap] 45), (.cells #[.slice SA ks.length sc] 25), (.cells #[.slice PA ps.length pc] 25), (.cells #[.int .i64 0, .int .i64 0, .int .u8 0, .string ⟨#[]⟩, .int .i64 0, .slice none 0 0, .int .i64 0, .int .i64 0, (.slice none 0 0), (.slice none 0 0)] 49)]).cell? ⟨w.heap.size, 1, none⟩ = some (.string x.term) := cell_of (allocs_at [(.cells #[.int .u8 x.kind, .string x.term, .int .i64 x.n, .slice A x.kids.length cap] 45), (.cells #[.slice SA ks.length sc] 25), (.cells #[.slice PA ps.length pc] 25), (.cells #[.int .i64 0, .int .i64 0, .int .u8 0, .string ⟨#[]⟩, .int .i64 0, .slice none 0 0, .int .i64 0, .int .i64 0, (.slice none 0 0), (.slice none 0 0)] 49)] w 0 _ rfl) rfl
  have l2 : (allocs w [(.cells #[.int .u8 x.kind, .string x.term, .int .i64 x.n, .slice A x.kids.length cap] 45), (.cells #[.slice SA ks.length sc] 25), (.cells #[.slice PA ps.length pc] 25), (.cells #[.int .i64 0, .int .i64 0, .int .u8 0, .string ⟨#[]⟩, .int .i64 0, .slice none 0 0, .int .i64 0, .int .i64 0, (.slice none 0 0), (.slice none 0 0)] 49)]).cell? ⟨w.heap.size, 2, none⟩ = some (.int .i64 x.n) := cell_of (allocs_at [(.cells #[.int .u8 x.kind, .string x.term, .int .i64 x.n, .slice A x.kids.length cap] 45), (.cells #[.slice SA ks.length sc] 25), (.cells #[.slice PA ps.length pc] 25), (.cells #[.int .i64 0, .int .i64 0, .int .u8 0, .string ⟨#[]⟩, .int .i64 0, .slice none 0 0, .int .i64 0, .int .i64 0, (.slice none 0 0), (.slice none 0 0)] 49)] w 0 _ rfl) rfl
  have l3 : (allocs w [(.cells #[.int .u8 x.kind, .string x.term, .int .i64 x.n, .slice A x.kids.length cap] 45), (.cells #[.slice SA ks.length sc] 25), (.cells #[.slice PA ps.length pc] 25), (.cells #[.int .i64 0, .int .i64 0, .int .u8 0, .string ⟨#[]⟩, .int .i64 0, .slice none 0 0, .int .i64 0, .int .i64 0, (.slice none 0 0), (.slice none 0 0)] 49)]).cell? ⟨w.heap.size, 3, none⟩ = some (.slice A x.kids.length cap) := cell_of (allocs_at [(.cells #[.int .u8 x.kind, .string x.term, .int .i64 x.n, .slice A x.kids.length cap] 45), (.cells #[.slice SA ks.length sc] 25), (.cells #[.slice PA ps.length pc] 25), (.cells #[.int .i64 0, .int .i64 0, .int .u8 0, .string ⟨#[]⟩, .int .i64 0, .slice none 0 0, .int .i64 0, .int .i64 0, (.slice none 0 0), (.slice none 0 0)] 49)] w 0 _ rfl) rfl
  have he : EnvAt (allocs w [(.cells #[.int .u8 x.kind, .string x.term, .int .i64 x.n, .slice A x.kids.length cap] 45), (.cells #[.slice SA ks.length sc] 25), (.cells #[.slice PA ps.length pc] 25), (.cells #[.int .i64 0, .int .i64 0, .int .u8 0, .string ⟨#[]⟩, .int .i64 0, .slice none 0 0, .int .i64 0, .int .i64 0, (.slice none 0 0), (.slice none 0 0)] 49)]) (w.heap.size + 1) (w.heap.size + 1 + 1) ks ps := ⟨⟨SA, sc, s0, Cells.below hk hb⟩, PA, pc, p0, Cells.below hp hb⟩
  have hlc := LockC.below hb x _ hc
  have hR := lright_any x _ (allocs w [(.cells #[.int .u8 x.kind, .string x.term, .int .i64 x.n, .slice A x.kids.length cap] 45), (.cells #[.slice SA ks.length sc] 25), (.cells #[.slice PA ps.length pc] 25), (.cells #[.int .i64 0, .int .i64 0, .int .u8 0, .string ⟨#[]⟩, .int .i64 0, .slice none 0 0, .int .i64 0, .int .i64 0, (.slice none 0 0), (.slice none 0 0)] 49)]) hs hlc (hv.below hb)
  have HR := Lib.hid hR
  have HB := Lib.hid hb
  have HZ := Lib.hid hz
  have HE := Lib.hid he
  have HLC := Lib.hid hlc
  have HV := Lib.hid (hv.below hb)
  have L0 := Lib.hid l0
  have L1 := Lib.hid l1
  have L2 := Lib.hid l2
  have L3 := Lib.hid l3
  obtain ⟨R, hRR⟩ : ∃ R, solveT ks ps x = R := ⟨_, rfl⟩
  rw [hRR]
  have HRR := Lib.hid hRR
  cases hq : lockB x with
  | false =>
    have HN := Lib.hid (show R = none by rw [← hRR]; unfold solveT; rw [hq]; rfl)
    rw [hq] at HR
    clear hR hb hz he hlc s0 p0 hk hp hv hc hRR hq
    go_enter Tryd.func17, Tryd.ntmps17
    go_wp2_with fail
    refine HR.out.mono ?_
    rintro e w1 ⟨rfl, hb1⟩
    have HZ2 := Lib.hid (HZ.out.below hb1)
    have HB2 := Lib.hid (HB.out.trans (hb1.mono HB.out.size))
    clear l0 l1 l2 l3
    obtain ⟨z0, z1, z2, z3, z4, z5, z6, z7, z8, z9, zf⟩ := HZ2.out.cells
    clear hb1
    go_wp2_with fail
    change bodyPost _ _ _ _ _ (put10 w1 (w.heap.size + 1 + 1 + 1) (.int .i64 0) (.int .i64 0) (.int .u8 0) (.string ⟨#[]⟩) (.int .i64 0) (.slice none 0 0) (.int .i64 0) (.int .i64 0) (.slice none 0 0) (.slice none 0 0))
    have hA := put10_at HZ2.out 0 0 (.slice none 0 0) (.slice none 0 0)
    have hFF := put10_fr w1 (w.heap.size + 1 + 1 + 1) (.int .i64 0) (.int .i64 0) (.int .u8 0) (.string ⟨#[]⟩) (.int .i64 0) (.slice none 0 0) (.int .i64 0) (.int .i64 0) (.slice none 0 0) (.slice none 0 0) (F := [(w.heap.size + 1 + 1 + 1)]) (List.mem_singleton.2 rfl)
    have hF := HB2.out.trans (hFF.toBelowOf (B := w.heap.size) HB2.out.size (fun i hi => by simp at hi; omega))
    generalize put10 w1 (w.heap.size + 1 + 1 + 1) (.int .i64 0) (.int .i64 0) (.int .u8 0) (.string ⟨#[]⟩) (.int .i64 0) (.slice none 0 0) (.int .i64 0) (.int .i64 0) (.slice none 0 0) (.slice none 0 0) = Wf at hA hF ⊢
    clear z0 z1 z2 z3 z4 z5 z6 z7 z8 z9 zf hFF
    obtain ⟨r0, r1, r2, r3, r4, r5, r6, r7, r8, r9, -⟩ := hA.cells
    exact bodyPost_ret (v := .tuple #[claimV 0 0 (.slice none 0 0) (.slice none 0 0), .bool false]) (by simp [results, Tryd.results17, go_sem, r0, r1, r2, r3, r4, r5, r6, r7, r8, r9, claimV]) rfl (by rw [HN.out]; exact ⟨none, 0, none, 0, rfl, hF⟩)
  | true =>
    have hl := hq
    unfold lockB at hl
    rw [Bool.and_eq_true, decide_eq_true_eq] at hl
    have HN := Lib.hid (show R = wayT ks ps x by rw [← hRR]; unfold solveT; rw [hq]; rfl)
    rw [hq] at HR
    clear hR hb hz he hlc s0 p0 hk hp hv hc hRR hq
    go_enter Tryd.func17, Tryd.ntmps17
    go_wp2_with fail
    refine HR.out.mono ?_
    rintro e w1 ⟨rfl, hb1⟩
    have hbf : Below w1.heap.size w1 (w1.alloc (.cells #[wayFn (w.heap.size + 1) (w.heap.size + 1 + 1) w1.heap.size] 61)) := (Below.refl _ _).alloc (Nat.le_refl _) _
    have hb2 := hb1.trans (hbf.mono hb1.size)
    have hW := ways (w.heap.size + 1) (w.heap.size + 1 + 1) w1.heap.size ks ps ho (sizeT x) x _ (w1.alloc (.cells #[wayFn (w.heap.size + 1) (w.heap.size + 1 + 1) w1.heap.size] 61)) (Nat.le_refl _) (by omega) hl.1 (LockC.below hb2 x _ HLC.out) (HE.out.below hb2) (HV.out.below hb2) (alloc_cells 0 _ rfl)
    rw [← HN.out] at hW
    have HW := Lib.hid hW
    have HB1 := Lib.hid (HB.out.trans (hb2.mono HB.out.size))
    have HZ1 := Lib.hid (HZ.out.below hb2)
    have m0 := cell_below hb2 L0.out
    have m1 := cell_below hb2 L1.out
    have m2 := cell_below hb2 L2.out
    have m3 := cell_below hb2 L3.out
    clear l0 l1 l2 l3 hb1 hb2 hbf hW hl
    unfold WayP at HW
    unfold wayFn at m0 m1 m2 m3 HW HB1 HZ1
    cases R with
    | none =>
      simp only at HW
      unfold claimV at HW
      go_wp2_with fail
      refine HW.out.mono ?_
      rintro e w2 ⟨K, kc, P, pc, rfl, hb2⟩
      have HZ2 := Lib.hid (HZ1.out.below hb2)
      have HB2 := Lib.hid (HB1.out.trans (hb2.mono HB1.out.size))
      clear m0 m1 m2 m3 hb2
      obtain ⟨z0, z1, z2, z3, z4, z5, z6, z7, z8, z9, zf⟩ := HZ2.out.cells
      go_wp2_with fail
      change bodyPost _ _ _ _ _ (put10 w2 (w.heap.size + 1 + 1 + 1) (.int .i64 0) (.int .i64 0) (.int .u8 0) (.string ⟨#[]⟩) (.int .i64 0) (.slice none 0 0) (.int .i64 0) (.int .i64 0) (.slice K 0 kc) (.slice P 0 pc))
      have hA := put10_at HZ2.out 0 0 (.slice K 0 kc) (.slice P 0 pc)
      have hFF := put10_fr w2 (w.heap.size + 1 + 1 + 1) (.int .i64 0) (.int .i64 0) (.int .u8 0) (.string ⟨#[]⟩) (.int .i64 0) (.slice none 0 0) (.int .i64 0) (.int .i64 0) (.slice K 0 kc) (.slice P 0 pc) (F := [(w.heap.size + 1 + 1 + 1)]) (List.mem_singleton.2 rfl)
      have hF := HB2.out.trans (hFF.toBelowOf (B := w.heap.size) HB2.out.size (fun i hi => by simp at hi; omega))
      generalize put10 w2 (w.heap.size + 1 + 1 + 1) (.int .i64 0) (.int .i64 0) (.int .u8 0) (.string ⟨#[]⟩) (.int .i64 0) (.slice none 0 0) (.int .i64 0) (.int .i64 0) (.slice K 0 kc) (.slice P 0 pc) = Wf at hA hF ⊢
      clear z0 z1 z2 z3 z4 z5 z6 z7 z8 z9 zf hFF
      obtain ⟨r0, r1, r2, r3, r4, r5, r6, r7, r8, r9, -⟩ := hA.cells
      exact bodyPost_ret (v := .tuple #[claimV 0 0 (.slice K 0 kc) (.slice P 0 pc), .bool false]) (by simp [results, Tryd.results17, go_sem, r0, r1, r2, r3, r4, r5, r6, r7, r8, r9, claimV]) rfl ⟨K, kc, P, pc, rfl, hF⟩
    | some c =>
      simp only at HW
      unfold claimV at HW
      go_wp2_with fail
      refine HW.out.mono ?_
      rintro e w2 ⟨K, kc, P, pc, rfl, hrk, hrp, hap, hb2⟩
      have HZ2 := Lib.hid (HZ1.out.below hb2)
      have HB2 := Lib.hid (HB1.out.trans (hb2.mono HB1.out.size))
      have HK := Lib.hid (hrk.base_le HB1.out.size)
      have HP := Lib.hid (hrp.base_le HB1.out.size)
      have HAP := Lib.hid hap
      clear m0 m1 m2 m3 hb2 hrk hrp hap
      obtain ⟨z0, z1, z2, z3, z4, z5, z6, z7, z8, z9, zf⟩ := HZ2.out.cells
      go_wp2_with fail
      change bodyPost _ _ _ _ _ (put10 w2 (w.heap.size + 1 + 1 + 1) (.int .i64 0) (.int .i64 0) (.int .u8 0) (.string ⟨#[]⟩) (.int .i64 0) (.slice none 0 0) (.int .i64 c.after) (.int .i64 c.age) (.slice K c.keys.length kc) (.slice P c.pres.length pc))
      have hA := put10_at HZ2.out c.after c.age (.slice K c.keys.length kc) (.slice P c.pres.length pc)
      have hFF := put10_fr w2 (w.heap.size + 1 + 1 + 1) (.int .i64 0) (.int .i64 0) (.int .u8 0) (.string ⟨#[]⟩) (.int .i64 0) (.slice none 0 0) (.int .i64 c.after) (.int .i64 c.age) (.slice K c.keys.length kc) (.slice P c.pres.length pc) (F := [(w.heap.size + 1 + 1 + 1)]) (List.mem_singleton.2 rfl)
      have hF := HB2.out.trans (hFF.toBelowOf (B := w.heap.size) HB2.out.size (fun i hi => by simp at hi; omega))
      have HK9 := Lib.hid (row_fr HK.out hFF (fun g hg => by simpa using row_ne_claim HK.out (by decide) HZ2.out g hg))
      have HP9 := Lib.hid (row_fr HP.out hFF (fun g hg => by simpa using row_ne_claim HP.out (by decide) HZ2.out g hg))
      generalize put10 w2 (w.heap.size + 1 + 1 + 1) (.int .i64 0) (.int .i64 0) (.int .u8 0) (.string ⟨#[]⟩) (.int .i64 0) (.slice none 0 0) (.int .i64 c.after) (.int .i64 c.age) (.slice K c.keys.length kc) (.slice P c.pres.length pc) = Wf at hA hF HK9 HP9 ⊢
      clear z0 z1 z2 z3 z4 z5 z6 z7 z8 z9 zf hFF
      obtain ⟨r0, r1, r2, r3, r4, r5, r6, r7, r8, r9, -⟩ := hA.cells
      exact bodyPost_ret (v := .tuple #[claimV c.after c.age (.slice K c.keys.length kc) (.slice P c.pres.length pc), .bool true]) (by simp [results, Tryd.results17, go_sem, r0, r1, r2, r3, r4, r5, r6, r7, r8, r9, claimV]) rfl ⟨K, kc, P, pc, rfl, HK9.out, HP9.out, HAP.out, hF⟩
end Go.Proofs.YtaonadgelkdbcaaDoor

namespace Go.Proofs.YtaonadgelkdbcaaDoor
open Go.RowKit

def readyB (a g at_ height : Int) : Bool := [a, g, at_, height].all blk && (decide (a ≤ height + 1) && decide (g ≤ height + 1 - at_))
set_option maxRecDepth 100000 in
set_option maxHeartbeats 8000000 in
theorem ready_any (a g : Int) (K : Option Addr) (n kc : Nat) (P : Option Addr) (m pc : Nat) (at_ height : Int) (w : World) :
    Calls Tryd.prog 18 #[claimV a g (.slice K n kc) (.slice P m pc), .int .i64 at_, .int .i64 height] w fun e w' => e = .returned (.bool (readyB a g at_ height)) ∧ Below w.heap.size w w' := by
  unfold claimV
  have hb := allocs_below [.cells #[.int .i64 0, .int .i64 0, .int .u8 0, .string ⟨#[]⟩, .int .i64 0, .slice none 0 0, .int .i64 a, .int .i64 g, .slice K n kc, .slice P m pc] 49, .cells #[.int .i64 a, .int .i64 g, .int .i64 at_, .int .i64 height] 3] w
  have c6 : (allocs w [.cells #[.int .i64 0, .int .i64 0, .int .u8 0, .string ⟨#[]⟩, .int .i64 0, .slice none 0 0, .int .i64 a, .int .i64 g, .slice K n kc, .slice P m pc] 49, .cells #[.int .i64 a, .int .i64 g, .int .i64 at_, .int .i64 height] 3]).cell? ⟨w.heap.size, 6, none⟩ = some (.int .i64 a) := cell_of (j := 6) (allocs_at [.cells #[.int .i64 0, .int .i64 0, .int .u8 0, .string ⟨#[]⟩, .int .i64 0, .slice none 0 0, .int .i64 a, .int .i64 g, .slice K n kc, .slice P m pc] 49, .cells #[.int .i64 a, .int .i64 g, .int .i64 at_, .int .i64 height] 3] w 0 _ rfl) rfl
  have c7 : (allocs w [.cells #[.int .i64 0, .int .i64 0, .int .u8 0, .string ⟨#[]⟩, .int .i64 0, .slice none 0 0, .int .i64 a, .int .i64 g, .slice K n kc, .slice P m pc] 49, .cells #[.int .i64 a, .int .i64 g, .int .i64 at_, .int .i64 height] 3]).cell? ⟨w.heap.size, 7, none⟩ = some (.int .i64 g) := cell_of (j := 7) (allocs_at [.cells #[.int .i64 0, .int .i64 0, .int .u8 0, .string ⟨#[]⟩, .int .i64 0, .slice none 0 0, .int .i64 a, .int .i64 g, .slice K n kc, .slice P m pc] 49, .cells #[.int .i64 a, .int .i64 g, .int .i64 at_, .int .i64 height] 3] w 0 _ rfl) rfl
  have hr : Cells (allocs w [.cells #[.int .i64 0, .int .i64 0, .int .u8 0, .string ⟨#[]⟩, .int .i64 0, .slice none 0 0, .int .i64 a, .int .i64 g, .slice K n kc, .slice P m pc] 49, .cells #[.int .i64 a, .int .i64 g, .int .i64 at_, .int .i64 height] 3]) (some ⟨w.heap.size + 1, 0, none⟩) (ivs [a, g, at_, height]) := by
    have h := allocs_at [.cells #[.int .i64 0, .int .i64 0, .int .u8 0, .string ⟨#[]⟩, .int .i64 0, .slice none 0 0, .int .i64 a, .int .i64 g, .slice K n kc, .slice P m pc] 49, .cells #[.int .i64 a, .int .i64 g, .int .i64 at_, .int .i64 height] 3] w 1 _ rfl
    refine fun _ => ⟨_, rfl, fun j u hj => ?_⟩
    rcases j with _ | _ | _ | _ | j
    · injection hj with hj; subst hj; exact cell_of h rfl
    · injection hj with hj; subst hj; exact cell_of h rfl
    · injection hj with hj; subst hj; exact cell_of h rfl
    · injection hj with hj; subst hj; exact cell_of h rfl
    · simp [ivs] at hj
  have HBL := Lib.hid (blocks_any [a, g, at_, height] _ 4 _ (by simp) hr)
  have HB := Lib.hid hb
  have C6 := Lib.hid c6
  have C7 := Lib.hid c7
  obtain ⟨ok, hok⟩ : ∃ ok, [a, g, at_, height].all blk = ok := ⟨_, rfl⟩
  have hRB : readyB a g at_ height = (ok && (decide (a ≤ height + 1) && decide (g ≤ height + 1 - at_))) := by unfold readyB; rw [hok]
  have HRB := Lib.hid hRB
  rw [hok] at HBL
  clear hb c6 c7 hr hRB
  cases ok with
  | false =>
    clear hok
    go_enter Tryd.func18, Tryd.ntmps18
    go_wp2_with fail
    refine HBL.out.mono ?_
    rintro e w1 ⟨rfl, hb1⟩
    have HB1 := Lib.hid (HB.out.trans (hb1.mono HB.out.size)); clear hb1
    go_wp2_with fail
    go_ret
    rw [HRB.out]
    exact ⟨rfl, HB1.out⟩
  | true =>
    simp only [List.all_cons, List.all_nil, Bool.and_true, Bool.and_eq_true, blk_iff] at hok
    obtain ⟨⟨q1, q2⟩, ⟨q3, q4⟩, ⟨q5, q6⟩, q7, q8⟩ := hok
    by_cases h1 : a ≤ height + 1
    · have g1 : decide (a ≤ height + 1) = true := decide_eq_true h1
      go_enter Tryd.func18, Tryd.ntmps18
      go_wp2_with fail
      refine HBL.out.mono ?_
      rintro e w1 ⟨rfl, hb1⟩
      have c6 := cell_below hb1 C6.out
      have c7 := cell_below hb1 C7.out
      have HB1 := Lib.hid (HB.out.trans (hb1.mono HB.out.size)); clear hb1
      go_wp2_with fail
      go_ret
      rw [HRB.out, g1]
      exact ⟨ret_bool (by simp), HB1.out⟩
    · have g1 : decide (a ≤ height + 1) = false := decide_eq_false h1
      go_enter Tryd.func18, Tryd.ntmps18
      go_wp2_with fail
      refine HBL.out.mono ?_
      rintro e w1 ⟨rfl, hb1⟩
      have c6 := cell_below hb1 C6.out
      have c7 := cell_below hb1 C7.out
      have HB1 := Lib.hid (HB.out.trans (hb1.mono HB.out.size)); clear hb1
      go_wp2_with fail
      go_ret
      rw [HRB.out, g1]
      exact ⟨rfl, HB1.out⟩
end Go.Proofs.YtaonadgelkdbcaaDoor

namespace Go.Proofs.YtaonadgelkdbcaaDoor
open Go.RowKit

def tn1 : ByteArray := ⟨#[110, 49, 59]⟩
def tn2 : ByteArray := ⟨#[110, 50, 59]⟩
def tp1 : ByteArray := ⟨#[80, 110, 49, 59]⟩
def tp2 : ByteArray := ⟨#[80, 110, 50, 59]⟩
def exL : LockT := .node 6 ⟨#[]⟩ 0 [.node 1 tp1 0 [], .node 5 ⟨#[]⟩ 0 [.node 4 ⟨#[]⟩ 6 [], .node 1 tp2 0 []]]
theorem ex1 : solveT [tn2] [] exL = some ⟨0, 6, [tn2], []⟩ := by kernel_rfl
theorem ex2 : solveT [tn2, tn1] [] exL = some ⟨0, 0, [tn1], []⟩ := by kernel_rfl
theorem ex3 : solveT [] [] exL = none := by kernel_rfl
theorem exSmall : smallT exL := by
  unfold exL
  simp only [smallT, smallTs, List.length_cons, List.length_nil]
  decide
end Go.Proofs.YtaonadgelkdbcaaDoor

namespace Go.Proofs.YtaonadgelkdbcaaDoor
open Go.RowKit

theorem cells_blk {V : World} {b : Nat} {cs : Array Value} {T : TypeId} {z : Nat × Nat} (h : V.heap[b]? = some (.cells cs T z)) : Cells V (some ⟨b, 0, none⟩) cs.toList := fun _ => ⟨_, rfl, fun j u hj => by
  have hc : V.cell? ⟨b, j, none⟩ = some u := cell_of h (by rw [← Array.getElem?_toList]; exact hj)
  unfold Addr.add
  split
  · rename_i h0; subst h0; exact hc
  · simpa using hc⟩
theorem ex_lock {w V : World} (h0 : V.heap[w.heap.size]? = some (.cells #[.int .u8 4, .string ⟨#[]⟩, .int .i64 6, (.slice none 0 0), .int .u8 1, .string ⟨#[80, 110, 50, 59]⟩, .int .i64 0, (.slice none 0 0)] 45 (0, 0))) (h1 : V.heap[w.heap.size + 1]? = some (.cells #[.int .u8 1, .string ⟨#[80, 110, 49, 59]⟩, .int .i64 0, (.slice none 0 0), .int .u8 5, .string ⟨#[]⟩, .int .i64 0, .slice (some ⟨w.heap.size, 0, none⟩) 2 2] 45 (0, 0))) : LockC V exL [.int .u8 6, .string ⟨#[]⟩, .int .i64 0, .slice (some ⟨w.heap.size + 1, 0, none⟩) 2 2] := by
  unfold exL
  simp only [LockC, LocksC]
  refine ⟨_, _, _, rfl, cells_blk h1, _, _, rfl, ⟨_, _, [], rfl, Cells.nil _ _, rfl⟩, _, _, rfl, ⟨_, _, _, rfl, cells_blk h0, _, _, rfl, ⟨_, _, [], rfl, Cells.nil _ _, rfl⟩, _, _, rfl, ⟨_, _, [], rfl, Cells.nil _ _, rfl⟩, rfl⟩, rfl⟩
theorem env1 : EnvOk [tn2] [] := ⟨by simp, by simp, fun x hx => by simp at hx; subst hx; decide, by simp⟩
theorem env2 : EnvOk [tn2, tn1] [] := ⟨by simp, by simp, fun x hx => by simp at hx; rcases hx with rfl | rfl <;> decide, by simp⟩
theorem env0 : EnvOk [] [] := ⟨by simp, by simp, by simp, by simp⟩
theorem envOk_of {ks : List ByteArray} (h1 : ks.length ≤ 1000) (h2 : ∀ x ∈ ks, x.size ≤ 900000) : EnvOk ks [] := ⟨h1, by simp, h2, by simp⟩
set_option maxRecDepth 100000 in
set_option maxHeartbeats 8000000 in
theorem works_any (w : World) (hv : VarsOk w) : Calls Tryd.prog 7 #[] w fun e w' => e = .returned (.bool true) ∧ Below w.heap.size w w' := by
  have hb := allocs_below [.cells #[.int .u8 4, .string ⟨#[]⟩, .int .i64 6, (.slice none 0 0), .int .u8 1, .string ⟨#[80, 110, 50, 59]⟩, .int .i64 0, (.slice none 0 0)] 45, .cells #[.int .u8 1, .string ⟨#[80, 110, 49, 59]⟩, .int .i64 0, (.slice none 0 0), .int .u8 5, .string ⟨#[]⟩, .int .i64 0, .slice (some ⟨w.heap.size, 0, none⟩) 2 2] 45, .cells #[.int .u8 6, .string ⟨#[]⟩, .int .i64 0, .slice (some ⟨w.heap.size + 1, 0, none⟩) 2 2] 45, (.cells #[.string ⟨#[110, 50, 59]⟩] 27)] w
  have hl := ex_lock (w := w) (allocs_at [.cells #[.int .u8 4, .string ⟨#[]⟩, .int .i64 6, (.slice none 0 0), .int .u8 1, .string ⟨#[80, 110, 50, 59]⟩, .int .i64 0, (.slice none 0 0)] 45, .cells #[.int .u8 1, .string ⟨#[80, 110, 49, 59]⟩, .int .i64 0, (.slice none 0 0), .int .u8 5, .string ⟨#[]⟩, .int .i64 0, .slice (some ⟨w.heap.size, 0, none⟩) 2 2] 45, .cells #[.int .u8 6, .string ⟨#[]⟩, .int .i64 0, .slice (some ⟨w.heap.size + 1, 0, none⟩) 2 2] 45, (.cells #[.string ⟨#[110, 50, 59]⟩] 27)] w 0 _ rfl) (allocs_at [.cells #[.int .u8 4, .string ⟨#[]⟩, .int .i64 6, (.slice none 0 0), .int .u8 1, .string ⟨#[80, 110, 50, 59]⟩, .int .i64 0, (.slice none 0 0)] 45, .cells #[.int .u8 1, .string ⟨#[80, 110, 49, 59]⟩, .int .i64 0, (.slice none 0 0), .int .u8 5, .string ⟨#[]⟩, .int .i64 0, .slice (some ⟨w.heap.size, 0, none⟩) 2 2] 45, .cells #[.int .u8 6, .string ⟨#[]⟩, .int .i64 0, .slice (some ⟨w.heap.size + 1, 0, none⟩) 2 2] 45, (.cells #[.string ⟨#[110, 50, 59]⟩] 27)] w 1 _ rfl)
  have HL := Lib.hid hl
  have HB := Lib.hid hb
  have HV := Lib.hid hv
  have q0 : (allocs w [.cells #[.int .u8 4, .string ⟨#[]⟩, .int .i64 6, (.slice none 0 0), .int .u8 1, .string ⟨#[80, 110, 50, 59]⟩, .int .i64 0, (.slice none 0 0)] 45, .cells #[.int .u8 1, .string ⟨#[80, 110, 49, 59]⟩, .int .i64 0, (.slice none 0 0), .int .u8 5, .string ⟨#[]⟩, .int .i64 0, .slice (some ⟨w.heap.size, 0, none⟩) 2 2] 45, .cells #[.int .u8 6, .string ⟨#[]⟩, .int .i64 0, .slice (some ⟨w.heap.size + 1, 0, none⟩) 2 2] 45, (.cells #[.string ⟨#[110, 50, 59]⟩] 27)]).cell? ⟨w.heap.size + 1 + 1, 0, none⟩ = some (.int .u8 6) := cell_of (allocs_at [.cells #[.int .u8 4, .string ⟨#[]⟩, .int .i64 6, (.slice none 0 0), .int .u8 1, .string ⟨#[80, 110, 50, 59]⟩, .int .i64 0, (.slice none 0 0)] 45, .cells #[.int .u8 1, .string ⟨#[80, 110, 49, 59]⟩, .int .i64 0, (.slice none 0 0), .int .u8 5, .string ⟨#[]⟩, .int .i64 0, .slice (some ⟨w.heap.size, 0, none⟩) 2 2] 45, .cells #[.int .u8 6, .string ⟨#[]⟩, .int .i64 0, .slice (some ⟨w.heap.size + 1, 0, none⟩) 2 2] 45, (.cells #[.string ⟨#[110, 50, 59]⟩] 27)] w 2 _ rfl) rfl
  have q1 : (allocs w [.cells #[.int .u8 4, .string ⟨#[]⟩, .int .i64 6, (.slice none 0 0), .int .u8 1, .string ⟨#[80, 110, 50, 59]⟩, .int .i64 0, (.slice none 0 0)] 45, .cells #[.int .u8 1, .string ⟨#[80, 110, 49, 59]⟩, .int .i64 0, (.slice none 0 0), .int .u8 5, .string ⟨#[]⟩, .int .i64 0, .slice (some ⟨w.heap.size, 0, none⟩) 2 2] 45, .cells #[.int .u8 6, .string ⟨#[]⟩, .int .i64 0, .slice (some ⟨w.heap.size + 1, 0, none⟩) 2 2] 45, (.cells #[.string ⟨#[110, 50, 59]⟩] 27)]).cell? ⟨w.heap.size + 1 + 1, 1, none⟩ = some (.string ⟨#[]⟩) := cell_of (allocs_at [.cells #[.int .u8 4, .string ⟨#[]⟩, .int .i64 6, (.slice none 0 0), .int .u8 1, .string ⟨#[80, 110, 50, 59]⟩, .int .i64 0, (.slice none 0 0)] 45, .cells #[.int .u8 1, .string ⟨#[80, 110, 49, 59]⟩, .int .i64 0, (.slice none 0 0), .int .u8 5, .string ⟨#[]⟩, .int .i64 0, .slice (some ⟨w.heap.size, 0, none⟩) 2 2] 45, .cells #[.int .u8 6, .string ⟨#[]⟩, .int .i64 0, .slice (some ⟨w.heap.size + 1, 0, none⟩) 2 2] 45, (.cells #[.string ⟨#[110, 50, 59]⟩] 27)] w 2 _ rfl) rfl
  have q2 : (allocs w [.cells #[.int .u8 4, .string ⟨#[]⟩, .int .i64 6, (.slice none 0 0), .int .u8 1, .string ⟨#[80, 110, 50, 59]⟩, .int .i64 0, (.slice none 0 0)] 45, .cells #[.int .u8 1, .string ⟨#[80, 110, 49, 59]⟩, .int .i64 0, (.slice none 0 0), .int .u8 5, .string ⟨#[]⟩, .int .i64 0, .slice (some ⟨w.heap.size, 0, none⟩) 2 2] 45, .cells #[.int .u8 6, .string ⟨#[]⟩, .int .i64 0, .slice (some ⟨w.heap.size + 1, 0, none⟩) 2 2] 45, (.cells #[.string ⟨#[110, 50, 59]⟩] 27)]).cell? ⟨w.heap.size + 1 + 1, 2, none⟩ = some (.int .i64 0) := cell_of (allocs_at [.cells #[.int .u8 4, .string ⟨#[]⟩, .int .i64 6, (.slice none 0 0), .int .u8 1, .string ⟨#[80, 110, 50, 59]⟩, .int .i64 0, (.slice none 0 0)] 45, .cells #[.int .u8 1, .string ⟨#[80, 110, 49, 59]⟩, .int .i64 0, (.slice none 0 0), .int .u8 5, .string ⟨#[]⟩, .int .i64 0, .slice (some ⟨w.heap.size, 0, none⟩) 2 2] 45, .cells #[.int .u8 6, .string ⟨#[]⟩, .int .i64 0, .slice (some ⟨w.heap.size + 1, 0, none⟩) 2 2] 45, (.cells #[.string ⟨#[110, 50, 59]⟩] 27)] w 2 _ rfl) rfl
  have q3 : (allocs w [.cells #[.int .u8 4, .string ⟨#[]⟩, .int .i64 6, (.slice none 0 0), .int .u8 1, .string ⟨#[80, 110, 50, 59]⟩, .int .i64 0, (.slice none 0 0)] 45, .cells #[.int .u8 1, .string ⟨#[80, 110, 49, 59]⟩, .int .i64 0, (.slice none 0 0), .int .u8 5, .string ⟨#[]⟩, .int .i64 0, .slice (some ⟨w.heap.size, 0, none⟩) 2 2] 45, .cells #[.int .u8 6, .string ⟨#[]⟩, .int .i64 0, .slice (some ⟨w.heap.size + 1, 0, none⟩) 2 2] 45, (.cells #[.string ⟨#[110, 50, 59]⟩] 27)]).cell? ⟨w.heap.size + 1 + 1, 3, none⟩ = some (.slice (some ⟨w.heap.size + 1, 0, none⟩) 2 2) := cell_of (allocs_at [.cells #[.int .u8 4, .string ⟨#[]⟩, .int .i64 6, (.slice none 0 0), .int .u8 1, .string ⟨#[80, 110, 50, 59]⟩, .int .i64 0, (.slice none 0 0)] 45, .cells #[.int .u8 1, .string ⟨#[80, 110, 49, 59]⟩, .int .i64 0, (.slice none 0 0), .int .u8 5, .string ⟨#[]⟩, .int .i64 0, .slice (some ⟨w.heap.size, 0, none⟩) 2 2] 45, .cells #[.int .u8 6, .string ⟨#[]⟩, .int .i64 0, .slice (some ⟨w.heap.size + 1, 0, none⟩) 2 2] 45, (.cells #[.string ⟨#[110, 50, 59]⟩] 27)] w 2 _ rfl) rfl
  have Q0 := Lib.hid q0
  have Q1 := Lib.hid q1
  have Q2 := Lib.hid q2
  have Q3 := Lib.hid q3
  have hs1 : Calls Tryd.prog 17 #[.agg #[.int .u8 6, .string ⟨#[]⟩, .int .i64 0, .slice (some ⟨w.heap.size + 1, 0, none⟩) 2 2], .slice (some ⟨w.heap.size + 1 + 1 + 1, 0, none⟩) 1 1, .slice none 0 0] (allocs w [.cells #[.int .u8 4, .string ⟨#[]⟩, .int .i64 6, (.slice none 0 0), .int .u8 1, .string ⟨#[80, 110, 50, 59]⟩, .int .i64 0, (.slice none 0 0)] 45, .cells #[.int .u8 1, .string ⟨#[80, 110, 49, 59]⟩, .int .i64 0, (.slice none 0 0), .int .u8 5, .string ⟨#[]⟩, .int .i64 0, .slice (some ⟨w.heap.size, 0, none⟩) 2 2] 45, .cells #[.int .u8 6, .string ⟨#[]⟩, .int .i64 0, .slice (some ⟨w.heap.size + 1, 0, none⟩) 2 2] 45, (.cells #[.string ⟨#[110, 50, 59]⟩] 27)]) (WayP (some ⟨0, 6, [tn2], []⟩) (allocs w [.cells #[.int .u8 4, .string ⟨#[]⟩, .int .i64 6, (.slice none 0 0), .int .u8 1, .string ⟨#[80, 110, 50, 59]⟩, .int .i64 0, (.slice none 0 0)] 45, .cells #[.int .u8 1, .string ⟨#[80, 110, 49, 59]⟩, .int .i64 0, (.slice none 0 0), .int .u8 5, .string ⟨#[]⟩, .int .i64 0, .slice (some ⟨w.heap.size, 0, none⟩) 2 2] 45, .cells #[.int .u8 6, .string ⟨#[]⟩, .int .i64 0, .slice (some ⟨w.heap.size + 1, 0, none⟩) 2 2] 45, (.cells #[.string ⟨#[110, 50, 59]⟩] 27)])) := by
    have h := solve_any exL _ [tn2] [] (some ⟨w.heap.size + 1 + 1 + 1, 0, none⟩) 1 none 0 (allocs w [.cells #[.int .u8 4, .string ⟨#[]⟩, .int .i64 6, (.slice none 0 0), .int .u8 1, .string ⟨#[80, 110, 50, 59]⟩, .int .i64 0, (.slice none 0 0)] 45, .cells #[.int .u8 1, .string ⟨#[80, 110, 49, 59]⟩, .int .i64 0, (.slice none 0 0), .int .u8 5, .string ⟨#[]⟩, .int .i64 0, .slice (some ⟨w.heap.size, 0, none⟩) 2 2] 45, .cells #[.int .u8 6, .string ⟨#[]⟩, .int .i64 0, .slice (some ⟨w.heap.size + 1, 0, none⟩) 2 2] 45, (.cells #[.string ⟨#[110, 50, 59]⟩] 27)]) env1 exSmall hl (cells_blk (allocs_at [.cells #[.int .u8 4, .string ⟨#[]⟩, .int .i64 6, (.slice none 0 0), .int .u8 1, .string ⟨#[80, 110, 50, 59]⟩, .int .i64 0, (.slice none 0 0)] 45, .cells #[.int .u8 1, .string ⟨#[80, 110, 49, 59]⟩, .int .i64 0, (.slice none 0 0), .int .u8 5, .string ⟨#[]⟩, .int .i64 0, .slice (some ⟨w.heap.size, 0, none⟩) 2 2] 45, .cells #[.int .u8 6, .string ⟨#[]⟩, .int .i64 0, .slice (some ⟨w.heap.size + 1, 0, none⟩) 2 2] 45, (.cells #[.string ⟨#[110, 50, 59]⟩] 27)] w 3 _ rfl)) (Cells.nil _ _) (hv.below hb)
    rw [ex1] at h
    exact h
  unfold WayP at hs1
  simp only at hs1
  unfold claimV at hs1
  have HS1 := Lib.hid hs1
  clear hs1 hb hl hv q0 q1 q2 q3
  go_enter Tryd.func7, Tryd.ntmps7
  go_wp2_with fail
  refine HS1.out.mono ?_
  rintro e w1 ⟨K1, kc1, P1, pc1, rfl, hk1, -, -, hb1⟩
  have ha1 : Below w1.heap.size w1 (w1.alloc (.cells #[.int .i64 0, .int .i64 0, .int .u8 0, .string ⟨#[]⟩, .int .i64 0, .slice none 0 0, .int .i64 0, .int .i64 6, .slice K1 1 kc1, .slice P1 0 pc1] 49)) := (Below.refl _ _).alloc (Nat.le_refl _) _
  have hb1x := hb1.trans (ha1.mono hb1.size)
  have HC1 := Lib.hid (show ClaimAt (w1.alloc (.cells #[.int .i64 0, .int .i64 0, .int .u8 0, .string ⟨#[]⟩, .int .i64 0, .slice none 0 0, .int .i64 0, .int .i64 6, .slice K1 1 kc1, .slice P1 0 pc1] 49)) w1.heap.size 0 6 (.slice K1 1 kc1) (.slice P1 0 pc1) from Go.heap_alloc_new w1 _)
  have HK1 := Lib.hid (Cells.below (row_cells hk1) ha1)
  have HB1 := Lib.hid (HB.out.trans (hb1x.mono HB.out.size))
  have HL1 := Lib.hid (LockC.below hb1x _ _ HL.out)
  have q0 := cell_below hb1x Q0.out
  have q1 := cell_below hb1x Q1.out
  have q2 := cell_below hb1x Q2.out
  have q3 := cell_below hb1x Q3.out
  have Q0 := Lib.hid q0
  have Q1 := Lib.hid q1
  have Q2 := Lib.hid q2
  have Q3 := Lib.hid q3
  have ht2 : Below (w1.alloc (.cells #[.int .i64 0, .int .i64 0, .int .u8 0, .string ⟨#[]⟩, .int .i64 0, .slice none 0 0, .int .i64 0, .int .i64 6, .slice K1 1 kc1, .slice P1 0 pc1] 49)).heap.size (w1.alloc (.cells #[.int .i64 0, .int .i64 0, .int .u8 0, .string ⟨#[]⟩, .int .i64 0, .slice none 0 0, .int .i64 0, .int .i64 6, .slice K1 1 kc1, .slice P1 0 pc1] 49)) ((w1.alloc (.cells #[.int .i64 0, .int .i64 0, .int .u8 0, .string ⟨#[]⟩, .int .i64 0, .slice none 0 0, .int .i64 0, .int .i64 6, .slice K1 1 kc1, .slice P1 0 pc1] 49)).alloc (.cells #[.string ⟨#[110, 50, 59]⟩, .string ⟨#[110, 49, 59]⟩] 27)) := (Below.refl _ _).alloc (Nat.le_refl _) _
  have hs2 : Calls Tryd.prog 17 #[.agg #[.int .u8 6, .string ⟨#[]⟩, .int .i64 0, .slice (some ⟨w.heap.size + 1, 0, none⟩) 2 2], .slice (some ⟨w1.heap.size + 1, 0, none⟩) 2 2, .slice none 0 0] ((w1.alloc (.cells #[.int .i64 0, .int .i64 0, .int .u8 0, .string ⟨#[]⟩, .int .i64 0, .slice none 0 0, .int .i64 0, .int .i64 6, .slice K1 1 kc1, .slice P1 0 pc1] 49)).alloc (.cells #[.string ⟨#[110, 50, 59]⟩, .string ⟨#[110, 49, 59]⟩] 27)) (WayP (some ⟨0, 0, [tn1], []⟩) ((w1.alloc (.cells #[.int .i64 0, .int .i64 0, .int .u8 0, .string ⟨#[]⟩, .int .i64 0, .slice none 0 0, .int .i64 0, .int .i64 6, .slice K1 1 kc1, .slice P1 0 pc1] 49)).alloc (.cells #[.string ⟨#[110, 50, 59]⟩, .string ⟨#[110, 49, 59]⟩] 27))) := by
    have h := solve_any exL _ [tn2, tn1] [] (some ⟨w1.heap.size + 1, 0, none⟩) 2 none 0 ((w1.alloc (.cells #[.int .i64 0, .int .i64 0, .int .u8 0, .string ⟨#[]⟩, .int .i64 0, .slice none 0 0, .int .i64 0, .int .i64 6, .slice K1 1 kc1, .slice P1 0 pc1] 49)).alloc (.cells #[.string ⟨#[110, 50, 59]⟩, .string ⟨#[110, 49, 59]⟩] 27)) env2 exSmall (LockC.below ht2 _ _ HL1.out) (cells_blk (allocs_at [(.cells #[.int .i64 0, .int .i64 0, .int .u8 0, .string ⟨#[]⟩, .int .i64 0, .slice none 0 0, .int .i64 0, .int .i64 6, .slice K1 1 kc1, .slice P1 0 pc1] 49), (.cells #[.string ⟨#[110, 50, 59]⟩, .string ⟨#[110, 49, 59]⟩] 27)] w1 1 _ rfl)) (Cells.nil _ _) ((HV.out.below HB1.out).below ht2)
    rw [ex2] at h
    exact h
  unfold WayP at hs2
  simp only at hs2
  unfold claimV at hs2
  have HS2 := Lib.hid hs2
  have HT2 := Lib.hid ht2
  clear hs2 hk1 ha1 hb1x hb1 ht2
  go_wp2_with fail
  refine HS2.out.mono ?_
  rintro e w2 ⟨K2, kc2, P2, pc2, rfl, hk2, -, -, hb2⟩
  have ha2 : Below w2.heap.size w2 (w2.alloc (.cells #[.int .i64 0, .int .i64 0, .int .u8 0, .string ⟨#[]⟩, .int .i64 0, .slice none 0 0, .int .i64 0, .int .i64 0, .slice K2 1 kc2, .slice P2 0 pc2] 49)) := (Below.refl _ _).alloc (Nat.le_refl _) _
  have hb2x : Below (w1.alloc (.cells #[.int .i64 0, .int .i64 0, .int .u8 0, .string ⟨#[]⟩, .int .i64 0, .slice none 0 0, .int .i64 0, .int .i64 6, .slice K1 1 kc1, .slice P1 0 pc1] 49)).heap.size (w1.alloc (.cells #[.int .i64 0, .int .i64 0, .int .u8 0, .string ⟨#[]⟩, .int .i64 0, .slice none 0 0, .int .i64 0, .int .i64 6, .slice K1 1 kc1, .slice P1 0 pc1] 49)) (w2.alloc (.cells #[.int .i64 0, .int .i64 0, .int .u8 0, .string ⟨#[]⟩, .int .i64 0, .slice none 0 0, .int .i64 0, .int .i64 0, .slice K2 1 kc2, .slice P2 0 pc2] 49)) := (HT2.out.trans (hb2.mono HT2.out.size)).trans (ha2.mono (Nat.le_trans HT2.out.size hb2.size))
  have HC2 := Lib.hid (show ClaimAt (w2.alloc (.cells #[.int .i64 0, .int .i64 0, .int .u8 0, .string ⟨#[]⟩, .int .i64 0, .slice none 0 0, .int .i64 0, .int .i64 0, .slice K2 1 kc2, .slice P2 0 pc2] 49)) w2.heap.size 0 0 (.slice K2 1 kc2) (.slice P2 0 pc2) from Go.heap_alloc_new w2 _)
  have HK2 := Lib.hid (Cells.below (row_cells hk2) ha2)
  have HB2 := Lib.hid (HB1.out.trans (hb2x.mono HB1.out.size))
  have HL2 := Lib.hid (LockC.below hb2x _ _ HL1.out)
  have HC12 := Lib.hid (HC1.out.below hb2x)
  have HK12 := Lib.hid (Cells.below HK1.out hb2x)
  clear q0 q1 q2 q3
  have q0 := cell_below hb2x Q0.out
  have q1 := cell_below hb2x Q1.out
  have q2 := cell_below hb2x Q2.out
  have q3 := cell_below hb2x Q3.out
  have hs3 : Calls Tryd.prog 17 #[.agg #[.int .u8 6, .string ⟨#[]⟩, .int .i64 0, .slice (some ⟨w.heap.size + 1, 0, none⟩) 2 2], .slice none 0 0, .slice none 0 0] (w2.alloc (.cells #[.int .i64 0, .int .i64 0, .int .u8 0, .string ⟨#[]⟩, .int .i64 0, .slice none 0 0, .int .i64 0, .int .i64 0, .slice K2 1 kc2, .slice P2 0 pc2] 49)) (WayP none (w2.alloc (.cells #[.int .i64 0, .int .i64 0, .int .u8 0, .string ⟨#[]⟩, .int .i64 0, .slice none 0 0, .int .i64 0, .int .i64 0, .slice K2 1 kc2, .slice P2 0 pc2] 49))) := by
    have h := solve_any exL _ [] [] none 0 none 0 (w2.alloc (.cells #[.int .i64 0, .int .i64 0, .int .u8 0, .string ⟨#[]⟩, .int .i64 0, .slice none 0 0, .int .i64 0, .int .i64 0, .slice K2 1 kc2, .slice P2 0 pc2] 49)) env0 exSmall HL2.out (Cells.nil _ _) (Cells.nil _ _) (HV.out.below HB2.out)
    rw [ex3] at h
    exact h
  unfold WayP at hs3
  simp only at hs3
  unfold claimV at hs3
  have HS3 := Lib.hid hs3
  clear hs3 hk2 ha2 hb2x hb2
  go_wp2_with fail
  refine HS3.out.mono ?_
  rintro e w3 ⟨K3, kc3, P3, pc3, rfl, hb3⟩
  have ha3 : Below w3.heap.size w3 (w3.alloc (.cells #[.int .i64 0, .int .i64 0, .int .u8 0, .string ⟨#[]⟩, .int .i64 0, .slice none 0 0, .int .i64 0, .int .i64 0, .slice K3 0 kc3, .slice P3 0 pc3] 49)) := (Below.refl _ _).alloc (Nat.le_refl _) _
  have hb3x := hb3.trans (ha3.mono hb3.size)
  have HB3 := Lib.hid (HB2.out.trans (hb3x.mono HB2.out.size))
  obtain ⟨c0, c1, c2, c3, c4, c5, c6, c7, c8, c9, -⟩ := (HC12.out.below hb3x).cells
  obtain ⟨d0, d1, d2, d3, d4, d5, d6, d7, d8, d9, -⟩ := (HC2.out.below hb3x).cells
  obtain ⟨a1, rfl, k1⟩ := strs_at (Cells.below HK12.out hb3x) (show 0 < [tn2].length by simp)
  obtain ⟨a2, rfl, k2⟩ := strs_at (Cells.below HK2.out hb3x) (show 0 < [tn1].length by simp)
  rw [show a1.add 0 = a1 by simp [Addr.add]] at k1
  rw [show a2.add 0 = a2 by simp [Addr.add]] at k2
  have k1' : (w3.alloc (.cells #[.int .i64 0, .int .i64 0, .int .u8 0, .string ⟨#[]⟩, .int .i64 0, .slice none 0 0, .int .i64 0, .int .i64 0, .slice K3 0 kc3, .slice P3 0 pc3] 49)).cell? a1 = some (.string ⟨#[110, 50, 59]⟩) := k1
  have k2' : (w3.alloc (.cells #[.int .i64 0, .int .i64 0, .int .u8 0, .string ⟨#[]⟩, .int .i64 0, .slice none 0 0, .int .i64 0, .int .i64 0, .slice K3 0 kc3, .slice P3 0 pc3] 49)).cell? a2 = some (.string ⟨#[110, 49, 59]⟩) := k2
  have HR1 := Lib.hid (fun W => ready_any 0 6 (some a1) 1 kc1 P1 0 pc1 4 9 W)
  have HR2 := Lib.hid (fun W => ready_any 0 6 (some a1) 1 kc1 P1 0 pc1 5 9 W)
  rw [show readyB 0 6 4 9 = true by decide] at HR1
  rw [show readyB 0 6 5 9 = false by decide] at HR2
  unfold claimV at HR1 HR2
  clear q0 q1 q2 q3 k1 k2 hb3 ha3 hb3x
  go_wp2_with fail
  refine (HR1.out _).mono ?_
  rintro e w4 ⟨rfl, hb4⟩
  have f0 := cell_below hb4 c0
  have f1 := cell_below hb4 c1
  have f2 := cell_below hb4 c2
  have f3 := cell_below hb4 c3
  have f4 := cell_below hb4 c4
  have f5 := cell_below hb4 c5
  have f6 := cell_below hb4 c6
  have f7 := cell_below hb4 c7
  have f8 := cell_below hb4 c8
  have f9 := cell_below hb4 c9
  have HB4 := Lib.hid (HB3.out.trans (hb4.mono HB3.out.size))
  clear hb4
  go_wp2_with fail
  refine (HR2.out _).mono ?_
  rintro e w5 ⟨rfl, hb5⟩
  have HB5 := Lib.hid (HB4.out.trans (hb5.mono HB4.out.size))
  clear hb5
  go_wp2_with fail
  go_ret
  exact ⟨rfl, HB5.out⟩
end Go.Proofs.YtaonadgelkdbcaaDoor

namespace Go.Proofs.YtaonadgelkdbcaaDoor
open Go.RowKit

def tot (l : List ByteArray) : Nat := (l.map (·.size)).sum
theorem tot_snoc (l : List ByteArray) {k : Nat} (hk : k < l.length) : tot (l.take (k + 1)) = tot (l.take k) + l[k].size := by
  unfold tot
  rw [List.take_succ_eq_append_getElem hk, List.map_append, List.sum_append]
  simp
theorem tot_le (B : Nat) : ∀ l : List ByteArray, (∀ x ∈ l, x.size ≤ B) → tot l ≤ l.length * B
  | [], _ => by simp [tot]
  | x :: r, h => by
    have h1 := h x (List.mem_cons_self ..)
    have h2 := tot_le B r (fun y hy => h y (List.mem_cons_of_mem _ hy))
    have e : tot (x :: r) = x.size + tot r := by simp [tot]
    rw [e, List.length_cons, Nat.add_mul, Nat.one_mul]; omega
theorem tot_mem : ∀ (l : List ByteArray) (x : ByteArray), x ∈ l → x.size ≤ tot l
  | [], _, h => by cases h
  | y :: r, x, h => by
    have e : tot (y :: r) = y.size + tot r := by simp [tot]
    rcases List.mem_cons.1 h with rfl | h
    · omega
    · have := tot_mem r x h; omega
def largeB (ps : List ByteArray) : Bool := decide (20 < ps.length) || decide (4000 < tot (ps.take 50))
theorem not_large {ps : List ByteArray} (h : largeB ps = false) : ps.length ≤ 20 ∧ ∀ x ∈ ps, x.size ≤ 4000 := by
  unfold largeB at h
  rw [Bool.or_eq_false_iff, decide_eq_false_iff_not, decide_eq_false_iff_not] at h
  refine ⟨by omega, fun x hx => ?_⟩
  have ht : ps.take 50 = ps := List.take_of_length_le (by omega)
  rw [ht] at h
  have := tot_mem ps x hx
  omega
set_option maxRecDepth 100000 in
set_option maxHeartbeats 8000000 in
theorem large_any (ps : List ByteArray) (A : Option Addr) (c : Nat) (ob oc : Nat) (w : World) (hl : ps.length ≤ 140737488355328) (hx : ∀ x ∈ ps, x.size ≤ 140737488355328) (hA : Cells w A (strs ps)) (ho : w.cell? ⟨ob, 0, none⟩ = some (.slice A ps.length c)) :
    Calls Tryd.prog 4 #[.slice (some ⟨ob, 0, none⟩) 1 oc] w fun e w' => e = .returned (.bool (largeB ps)) ∧ w' = w := by
  have HA := Lib.hid hA
  have HX := Lib.hid hx
  have htk : ∀ k, k ≤ 50 → tot (ps.take k) ≤ 7036874417766400 := fun k hk => by
    have h1 := tot_le 140737488355328 (ps.take k) (fun x h => hx x (List.mem_of_mem_take h))
    have h2 : (ps.take k).length ≤ 50 := by rw [List.length_take]; omega
    have := Nat.mul_le_mul_right 140737488355328 h2
    omega
  have HTK := Lib.hid htk
  obtain ⟨n, hn⟩ : ∃ n, ps.length = n := ⟨_, rfl⟩
  have HN := Lib.hid hn
  rw [hn] at ho hl
  have HLB := Lib.hid (show largeB ps = (decide (20 < n) || decide (4000 < tot (ps.take 50))) by unfold largeB; rw [hn])
  clear hA hx htk hn
  go_enter Tryd.func4, Tryd.ntmps4
  go_wp2
  go_loop [5, 3, 4] (fun i m b => (i = .int .i64 0 ∧ m = .int .i64 0 ∧ b = .int .i64 0) ∨ (i = .int .i64 1 ∧ m = .int .i64 (n : Int) ∧ b = .int .i64 (tot (ps.take 50) : Nat))) (fun i _ _ => (1 - intOf i).toNat)
  case atStart => exact .inl ⟨rfl, rfl, rfl⟩
  case round =>
    rcases hrel with ⟨rfl, rfl, rfl⟩ | ⟨rfl, rfl, rfl⟩
    · go_wp2
      go_loop [6, 4] (fun k b => ∃ k' : Nat, k' ≤ n ∧ k' ≤ 50 ∧ k = .int .i64 (k' : Int) ∧ b = .int .i64 (tot (ps.take k') : Nat)) (fun k _ => 50 - (intOf k).toNat)
      case atStart => exact ⟨0, Nat.zero_le _, by omega, rfl, rfl⟩
      case round =>
        obtain ⟨k, hk, hk5, rfl, rfl⟩ := hrel
        by_cases hlt : k < n
        · by_cases h5 : k < 50
          · have hk2 : k < ps.length := by rw [HN.out]; exact hlt
            obtain ⟨ad, rfl, hc⟩ := strs_at HA.out hk2
            have HS := Lib.hid (tot_snoc ps hk2)
            have hsz := HX.out _ (List.getElem_mem hk2)
            have ht := HTK.out k (by omega)
            generalize ps[k] = x at hc HS hsz
            generalize tot (ps.take k) = tk at HS ht
            go_wp2
            go_round
            case rel => exact ⟨k + 1, by omega, by omega, by go_num, by rw [HS.out]; simp⟩
            case measure => simp [intOf]; omega
          · obtain rfl : k = 50 := by omega
            go_wp2
            go_round
            case rel => exact .inr ⟨rfl, rfl, rfl⟩
            case measure => simp [intOf]
        · obtain rfl : k = n := by omega
          have HE := Lib.hid (show ps.take k = ps.take 50 by rw [List.take_of_length_le (by rw [HN.out]; exact Nat.le_refl _), List.take_of_length_le (by rw [HN.out]; omega)])
          rw [HE.out]
          go_wp2
          go_round
          case rel => exact .inr ⟨rfl, rfl, rfl⟩
          case measure => simp [intOf]
    · have ht := HTK.out 50 (by omega)
      generalize tot (ps.take 50) = t at HLB ht
      by_cases h20 : 20 < n
      · have g : decide ((20 : Int) < (n : Int)) = true := decide_eq_true (by omega)
        go_wp2
        go_ret
        rw [HLB.out, decide_eq_true h20]
        exact ⟨rfl, rfl⟩
      · have g : decide ((20 : Int) < (n : Int)) = false := decide_eq_false (by omega)
        have g4 : decide ((4000 : Int) < (t : Int)) = decide (4000 < t) := by
          by_cases h : 4000 < t
          · rw [decide_eq_true h, decide_eq_true (by omega)]
          · rw [decide_eq_false h, decide_eq_false (by omega)]
        have G4 := Lib.hid g4
        clear g4
        go_wp2
        go_ret
        rw [HLB.out, decide_eq_false h20]
        exact ⟨ret_bool (by simp; omega), rfl⟩
end Go.Proofs.YtaonadgelkdbcaaDoor

namespace Go.Proofs.YtaonadgelkdbcaaDoor
open Go.RowKit

/-- What holds while the answers are held against each other. -/
structure LInv (w : World) (n own other : Int) (hs : List HtlcR) (hA : Option Addr) (hcp : Nat) (ps : List ByteArray) (A : Option Addr) (V : World) : Prop where
  below : Below w.heap.size w V
  vars : VarsOk V
  hh : Cells V hA (hts hs)
  pp : Cells V A (strs ps)
  st : ∃ z, V.heap[w.heap.size]? = some (.cells #[.int .i64 n, .int .i64 own, .int .i64 other, .slice hA hs.length hcp] 24 z)
section
variable {w V V' V0 : World} {n own other : Int} {hs : List HtlcR} {hA : Option Addr} {hcp : Nat} {ps : List ByteArray} {A : Option Addr}
theorem LInv.next (h : LInv w n own other hs hA hcp ps A V) (hb : Below V.heap.size V V') : LInv w n own other hs hA hcp ps A V' := by
  obtain ⟨z, hz⟩ := h.st
  exact ⟨h.below.trans (hb.mono h.below.size), h.vars.below hb, Cells.below h.hh hb, Cells.below h.pp hb, z, (hb.block _ (lt_of_block hz)).trans hz⟩
theorem cells_same {B : Option Addr} {xs : List Value} (h : Cells V B xs) (e : V'.heap = V.heap) : Cells V' B xs := fun hn => by
  obtain ⟨ad, he, hc⟩ := h hn
  refine ⟨ad, he, fun j u hj => ?_⟩
  have := hc j u hj
  unfold World.cell? at this ⊢
  rw [e]; exact this
theorem vars_same (h : VarsOk V) (e : V'.heap = V.heap) : VarsOk V' := by
  unfold VarsOk World.var? at h ⊢
  rw [e]; exact h
theorem LInv.same (h : LInv w n own other hs hA hcp ps A V) (e1 : V'.heap = V.heap) (e2 : V'.os = V.os) (e3 : V'.tape = V.tape) (e4 : V'.output = V.output) : LInv w n own other hs hA hcp ps A V' := by
  obtain ⟨z, hz⟩ := h.st
  exact ⟨⟨e2.trans h.below.os, e3.trans h.below.tape, e4.trans h.below.output, by rw [e1]; exact h.below.size, by rw [e1]; exact h.below.block⟩, vars_same h.vars e1, cells_same h.hh e1, cells_same h.pp e1, z, by rw [e1]; exact hz⟩
theorem LInv.Sat (h : LInv w n own other hs hA hcp ps A V0) (e : V.heap = V0.heap) : V.cell? ⟨w.heap.size, 0, none⟩ = some (.int .i64 n) ∧ V.cell? ⟨w.heap.size, 1, none⟩ = some (.int .i64 own) ∧ V.cell? ⟨w.heap.size, 2, none⟩ = some (.int .i64 other) ∧ V.cell? ⟨w.heap.size, 3, none⟩ = some (.slice hA hs.length hcp) := by
  obtain ⟨z, hz⟩ := h.st
  rw [← e] at hz
  exact ⟨cell_of hz rfl, cell_of hz rfl, cell_of hz rfl, cell_of hz rfl⟩
theorem late_inv (cp : Nat) (height margin : Int) (h : LInv w n own other hs hA hcp ps A V0) (l1 : hs.length ≤ 1000) (l2 : ps.length ≤ 1000) (p2 : ∀ x ∈ ps, x.size ≤ 4000) (e1 : V.heap = V0.heap) (e2 : V.os = V0.os) (e3 : V.tape = V0.tape) (e4 : V.output = V0.output) :
    Calls Tryd.prog 5 #[stateV n own other (.slice hA hs.length hcp), .slice A ps.length cp, .int .i64 height, .int .i64 margin] V fun e w' => e = .returned (.bool (lateB hs ps height margin)) ∧ LInv w n own other hs hA hcp ps A w' :=
  (late_any n own other hs hA hcp ps A cp height margin V l1 l2 (fun x hx => Nat.le_trans (p2 x hx) (by decide)) (cells_same h.hh e1) (cells_same h.pp e1) (vars_same h.vars e1)).mono fun _ _ ⟨he, hb⟩ => ⟨he, (h.same e1 e2 e3 e4).next hb⟩
theorem rlate_inv (cp : Nat) (height margin : Int) (h : LInv w n own other hs hA hcp ps A V0) (l1 : hs.length ≤ 1000) (l2 : ps.length ≤ 1000) (p2 : ∀ x ∈ ps, x.size ≤ 4000) (e1 : V.heap = V0.heap) (e2 : V.os = V0.os) (e3 : V.tape = V0.tape) (e4 : V.output = V0.output) :
    Calls Tryd.prog 6 #[stateV n own other (.slice hA hs.length hcp), .slice A ps.length cp, .int .i64 height, .int .i64 margin] V fun e w' => e = .returned (.bool (lateB hs ps height margin)) ∧ LInv w n own other hs hA hcp ps A w' :=
  (rlate_any n own other hs hA hcp ps A cp height margin V l1 l2 (fun x hx => Nat.le_trans (p2 x hx) (by decide)) (cells_same h.hh e1) (cells_same h.pp e1)).mono fun _ _ ⟨he, hb⟩ => ⟨he, (h.same e1 e2 e3 e4).next hb⟩
theorem works_inv (h : LInv w n own other hs hA hcp ps A V0) (e1 : V.heap = V0.heap) (e2 : V.os = V0.os) (e3 : V.tape = V0.tape) (e4 : V.output = V0.output) :
    Calls Tryd.prog 7 #[] V fun e w' => e = .returned (.bool true) ∧ LInv w n own other hs hA hcp ps A w' :=
  (works_any V (vars_same h.vars e1)).mono fun _ _ ⟨he, hb⟩ => ⟨he, (h.same e1 e2 e3 e4).next hb⟩
end
set_option maxRecDepth 100000 in
set_option maxHeartbeats 8000000 in
theorem late_law (n own other : Int) (hs : List HtlcR) (hA : Option Addr) (hcp : Nat) (ps : List ByteArray) (A : Option Addr) (cp : Nat) (height margin : Int) (w : World) (hl : ps.length ≤ 140737488355328) (hx : ∀ x ∈ ps, x.size ≤ 140737488355328) (hl2 : hs.length ≤ 140737488355328) (hH : Cells w hA (hts hs)) (hP : Cells w A (strs ps)) (hv : VarsOk w) :
    Calls Tryd.prog 3 #[stateV n own other (.slice hA hs.length hcp), .slice A ps.length cp, .int .i64 height, .int .i64 margin] w fun e w' => e = .returned (.bool true) ∧ Below w.heap.size w w' := by
  unfold stateV
  have hb := allocs_below [(.cells #[.int .i64 n, .int .i64 own, .int .i64 other, .slice hA hs.length hcp] 24), (.cells #[.slice A ps.length cp] 25)] w
  have s0 : (allocs w [(.cells #[.int .i64 n, .int .i64 own, .int .i64 other, .slice hA hs.length hcp] 24), (.cells #[.slice A ps.length cp] 25)]).heap[w.heap.size]? = some (.cells #[.int .i64 n, .int .i64 own, .int .i64 other, .slice hA hs.length hcp] 24 (0, 0)) := allocs_at [(.cells #[.int .i64 n, .int .i64 own, .int .i64 other, .slice hA hs.length hcp] 24), (.cells #[.slice A ps.length cp] 25)] w 0 _ rfl
  have hLG := large_any ps A cp (w.heap.size + 1) 1 (allocs w [(.cells #[.int .i64 n, .int .i64 own, .int .i64 other, .slice hA hs.length hcp] 24), (.cells #[.slice A ps.length cp] 25)]) hl hx (Cells.below hP hb) (cell_of (allocs_at [(.cells #[.int .i64 n, .int .i64 own, .int .i64 other, .slice hA hs.length hcp] 24), (.cells #[.slice A ps.length cp] 25)] w 1 _ rfl) rfl)
  have HLG := Lib.hid hLG
  have HB := Lib.hid hb
  have q3 : (allocs w [(.cells #[.int .i64 n, .int .i64 own, .int .i64 other, .slice hA hs.length hcp] 24), (.cells #[.slice A ps.length cp] 25)]).cell? ⟨w.heap.size, 3, none⟩ = some (.slice hA hs.length hcp) := cell_of s0 rfl
  have HI := Lib.hid (show LInv w n own other hs hA hcp ps A (allocs w [(.cells #[.int .i64 n, .int .i64 own, .int .i64 other, .slice hA hs.length hcp] 24), (.cells #[.slice A ps.length cp] 25)]) from ⟨hb, hv.below hb, Cells.below hH hb, Cells.below hP hb, _, s0⟩)
  cases hq : largeB ps with
  | true =>
    rw [hq] at HLG
    clear hb s0 hLG hH hP hv hx hq
    go_enter Tryd.func3, Tryd.ntmps3
    go_wp2_with fail
    refine HLG.out.mono ?_
    rintro e w1 ⟨rfl, rfl⟩
    go_wp2_with fail
    go_ret
    exact ⟨rfl, HB.out⟩
  | false =>
    obtain ⟨p1, p2⟩ := not_large hq
    rw [hq] at HLG
    clear hb s0 hLG hH hP hv hx hq hl
    by_cases h60 : 60 < hs.length
    · have g60 : decide ((60 : Int) < (hs.length : Int)) = true := decide_eq_true (by omega)
      go_enter Tryd.func3, Tryd.ntmps3
      go_wp2_with fail
      refine HLG.out.mono ?_
      rintro e w1 ⟨rfl, rfl⟩
      go_wp2_with fail
      go_ret
      exact ⟨rfl, HB.out⟩
    · have g60 : decide ((60 : Int) < (hs.length : Int)) = false := decide_eq_false (by omega)
      go_enter Tryd.func3, Tryd.ntmps3
      go_wp2_with fail
      refine HLG.out.mono ?_
      rintro e w1 ⟨rfl, rfl⟩
      go_wp2_with fail
      go_loop [9] (fun i => ∃ k : Nat, k ≤ hs.length ∧ i = .int .i64 (k : Int)) (fun i => hs.length - (intOf i).toNat)
      case atStart => exact ⟨0, Nat.zero_le _, rfl⟩
      case round =>
        obtain ⟨k, hk, rfl⟩ := hrel
        by_cases hlt : k < hs.length
        · obtain ⟨ad, rfl, c0, c1, c2, c3, c4⟩ := hts_at HI.out.hh hlt
          by_cases h500 : 500 < hs[k].hash.size
          · have g : decide ((500 : Int) < (hs[k].hash.size : Int)) = true := decide_eq_true (by omega)
            go_wp2_with fail
            go_ret
            exact ⟨rfl, HB.out⟩
          · have g : decide ((500 : Int) < (hs[k].hash.size : Int)) = false := decide_eq_false (by omega)
            go_wp2_with fail
            go_round
            case rel => exact ⟨k + 1, by omega, by go_num⟩
            case measure => simp [intOf]; omega
        · have L1 := Lib.hid (fun (V V0 : World) (h : LInv w n own other hs hA hcp ps A V0) (e1 : V.heap = V0.heap) (e2 : V.os = V0.os) (e3 : V.tape = V0.tape) (e4 : V.output = V0.output) => late_inv cp height margin h (by omega) (by omega) p2 e1 e2 e3 e4)
          have L2 := Lib.hid (fun (V V0 : World) (h : LInv w n own other hs hA hcp ps A V0) (e1 : V.heap = V0.heap) (e2 : V.os = V0.os) (e3 : V.tape = V0.tape) (e4 : V.output = V0.output) => rlate_inv cp height margin h (by omega) (by omega) p2 e1 e2 e3 e4)
          have L3 := Lib.hid (fun (V V0 : World) (h : LInv w n own other hs hA hcp ps A V0) (e1 : V.heap = V0.heap) (e2 : V.os = V0.os) (e3 : V.tape = V0.tape) (e4 : V.output = V0.output) => works_inv h e1 e2 e3 e4)
          unfold stateV at L1 L2
          obtain ⟨W, hW⟩ : ∃ W, allocs w [(.cells #[.int .i64 n, .int .i64 own, .int .i64 other, .slice hA hs.length hcp] 24), (.cells #[.slice A ps.length cp] 25)] = W := ⟨_, rfl⟩
          rw [hW] at HI
          have HW := Lib.hid hW
          clear hW HLG HB p1 p2
          obtain ⟨lb, hlb⟩ : ∃ lb, lateB hs ps height margin = lb := ⟨_, rfl⟩
          rw [hlb] at L1 L2
          clear hlb
          go_upto_region 8 with fail
          change Code.wp _ _ _ _ (allocs w [(.cells #[.int .i64 n, .int .i64 own, .int .i64 other, .slice hA hs.length hcp] 24), (.cells #[.slice A ps.length cp] 25)])
          rw [HW.out]
          clear q3
          go_region_held3 (fun V => V.cell? ⟨w.heap.size, 0, none⟩ = some (.int .i64 n) ∧ V.cell? ⟨w.heap.size, 1, none⟩ = some (.int .i64 own) ∧ V.cell? ⟨w.heap.size, 2, none⟩ = some (.int .i64 other) ∧ V.cell? ⟨w.heap.size, 3, none⟩ = some (.slice hA hs.length hcp))
            (first
        | ((with_reducible refine LInv.Sat (V := W) (V0 := W) (HI.out) ?_); exact rfl)
        | ((with_reducible refine LInv.Sat (V := W.drew) (V0 := W) (HI.out) ?_); exact rfl)
        | ((with_reducible refine LInv.Sat (V := W.drew.drew) (V0 := W) (HI.out) ?_); exact rfl)
        | ((with_reducible refine LInv.Sat (V := W.drew.drew.drew) (V0 := W) (HI.out) ?_); exact rfl)
        | ((with_reducible refine LInv.Sat (V := W.drew.drew.drew.drew) (V0 := W) (HI.out) ?_); exact rfl)
        | ((with_reducible refine LInv.Sat (V := (W.drewN 2)) (V0 := W) (HI.out) ?_); exact rfl)
        | ((with_reducible refine LInv.Sat (V := (W.drewN 3)) (V0 := W) (HI.out) ?_); exact rfl)
        | ((with_reducible refine LInv.Sat (V := (W.drewN 4)) (V0 := W) (HI.out) ?_); exact rfl)
        | ((with_reducible refine LInv.Sat (V := wa) (V0 := wa) (HIa.out) ?_); exact rfl)
        | ((with_reducible refine LInv.Sat (V := wa.drew) (V0 := wa) (HIa.out) ?_); exact rfl)
        | ((with_reducible refine LInv.Sat (V := wa.drew.drew) (V0 := wa) (HIa.out) ?_); exact rfl)
        | ((with_reducible refine LInv.Sat (V := wa.drew.drew.drew) (V0 := wa) (HIa.out) ?_); exact rfl)
        | ((with_reducible refine LInv.Sat (V := wa.drew.drew.drew.drew) (V0 := wa) (HIa.out) ?_); exact rfl)
        | ((with_reducible refine LInv.Sat (V := (wa.drewN 2)) (V0 := wa) (HIa.out) ?_); exact rfl)
        | ((with_reducible refine LInv.Sat (V := (wa.drewN 3)) (V0 := wa) (HIa.out) ?_); exact rfl)
        | ((with_reducible refine LInv.Sat (V := (wa.drewN 4)) (V0 := wa) (HIa.out) ?_); exact rfl)
        | ((with_reducible refine LInv.Sat (V := wb) (V0 := wb) (HIb.out) ?_); exact rfl)
        | ((with_reducible refine LInv.Sat (V := wb.drew) (V0 := wb) (HIb.out) ?_); exact rfl)
        | ((with_reducible refine LInv.Sat (V := wb.drew.drew) (V0 := wb) (HIb.out) ?_); exact rfl)
        | ((with_reducible refine LInv.Sat (V := wb.drew.drew.drew) (V0 := wb) (HIb.out) ?_); exact rfl)
        | ((with_reducible refine LInv.Sat (V := wb.drew.drew.drew.drew) (V0 := wb) (HIb.out) ?_); exact rfl)
        | ((with_reducible refine LInv.Sat (V := (wb.drewN 2)) (V0 := wb) (HIb.out) ?_); exact rfl)
        | ((with_reducible refine LInv.Sat (V := (wb.drewN 3)) (V0 := wb) (HIb.out) ?_); exact rfl)
        | ((with_reducible refine LInv.Sat (V := (wb.drewN 4)) (V0 := wb) (HIb.out) ?_); exact rfl)
        | ((with_reducible refine LInv.Sat (V := wd) (V0 := wd) (HId.out) ?_); exact rfl)
        | ((with_reducible refine LInv.Sat (V := wd.drew) (V0 := wd) (HId.out) ?_); exact rfl)
        | ((with_reducible refine LInv.Sat (V := wd.drew.drew) (V0 := wd) (HId.out) ?_); exact rfl)
        | ((with_reducible refine LInv.Sat (V := wd.drew.drew.drew) (V0 := wd) (HId.out) ?_); exact rfl)
        | ((with_reducible refine LInv.Sat (V := wd.drew.drew.drew.drew) (V0 := wd) (HId.out) ?_); exact rfl)
        | ((with_reducible refine LInv.Sat (V := (wd.drewN 2)) (V0 := wd) (HId.out) ?_); exact rfl)
        | ((with_reducible refine LInv.Sat (V := (wd.drewN 3)) (V0 := wd) (HId.out) ?_); exact rfl)
        | ((with_reducible refine LInv.Sat (V := (wd.drewN 4)) (V0 := wd) (HId.out) ?_); exact rfl))
            (first
        | (go_at_call 5; (with_reducible refine Calls.mono (L1.out W W HI.out ?_ ?_ ?_ ?_) ?_); exact rfl; exact rfl; exact rfl; exact rfl; rintro e wa ⟨rfl, hi⟩; have HIa := Lib.hid hi; clear hi)
        | (go_at_call 5; (with_reducible refine Calls.mono (L1.out W.drew W HI.out ?_ ?_ ?_ ?_) ?_); exact rfl; exact rfl; exact rfl; exact rfl; rintro e wa ⟨rfl, hi⟩; have HIa := Lib.hid hi; clear hi)
        | (go_at_call 5; (with_reducible refine Calls.mono (L1.out W.drew.drew W HI.out ?_ ?_ ?_ ?_) ?_); exact rfl; exact rfl; exact rfl; exact rfl; rintro e wa ⟨rfl, hi⟩; have HIa := Lib.hid hi; clear hi)
        | (go_at_call 5; (with_reducible refine Calls.mono (L1.out W.drew.drew.drew W HI.out ?_ ?_ ?_ ?_) ?_); exact rfl; exact rfl; exact rfl; exact rfl; rintro e wa ⟨rfl, hi⟩; have HIa := Lib.hid hi; clear hi)
        | (go_at_call 5; (with_reducible refine Calls.mono (L1.out W.drew.drew.drew.drew W HI.out ?_ ?_ ?_ ?_) ?_); exact rfl; exact rfl; exact rfl; exact rfl; rintro e wa ⟨rfl, hi⟩; have HIa := Lib.hid hi; clear hi)
        | (go_at_call 5; (with_reducible refine Calls.mono (L1.out (W.drewN 2) W HI.out ?_ ?_ ?_ ?_) ?_); exact rfl; exact rfl; exact rfl; exact rfl; rintro e wa ⟨rfl, hi⟩; have HIa := Lib.hid hi; clear hi)
        | (go_at_call 5; (with_reducible refine Calls.mono (L1.out (W.drewN 3) W HI.out ?_ ?_ ?_ ?_) ?_); exact rfl; exact rfl; exact rfl; exact rfl; rintro e wa ⟨rfl, hi⟩; have HIa := Lib.hid hi; clear hi)
        | (go_at_call 5; (with_reducible refine Calls.mono (L1.out (W.drewN 4) W HI.out ?_ ?_ ?_ ?_) ?_); exact rfl; exact rfl; exact rfl; exact rfl; rintro e wa ⟨rfl, hi⟩; have HIa := Lib.hid hi; clear hi)
        | (go_at_call 6; (with_reducible refine Calls.mono (L2.out wa wa HIa.out ?_ ?_ ?_ ?_) ?_); exact rfl; exact rfl; exact rfl; exact rfl; rintro e wb ⟨rfl, hi⟩; have HIb := Lib.hid hi; clear hi)
        | (go_at_call 6; (with_reducible refine Calls.mono (L2.out wa.drew wa HIa.out ?_ ?_ ?_ ?_) ?_); exact rfl; exact rfl; exact rfl; exact rfl; rintro e wb ⟨rfl, hi⟩; have HIb := Lib.hid hi; clear hi)
        | (go_at_call 6; (with_reducible refine Calls.mono (L2.out wa.drew.drew wa HIa.out ?_ ?_ ?_ ?_) ?_); exact rfl; exact rfl; exact rfl; exact rfl; rintro e wb ⟨rfl, hi⟩; have HIb := Lib.hid hi; clear hi)
        | (go_at_call 6; (with_reducible refine Calls.mono (L2.out wa.drew.drew.drew wa HIa.out ?_ ?_ ?_ ?_) ?_); exact rfl; exact rfl; exact rfl; exact rfl; rintro e wb ⟨rfl, hi⟩; have HIb := Lib.hid hi; clear hi)
        | (go_at_call 6; (with_reducible refine Calls.mono (L2.out wa.drew.drew.drew.drew wa HIa.out ?_ ?_ ?_ ?_) ?_); exact rfl; exact rfl; exact rfl; exact rfl; rintro e wb ⟨rfl, hi⟩; have HIb := Lib.hid hi; clear hi)
        | (go_at_call 6; (with_reducible refine Calls.mono (L2.out (wa.drewN 2) wa HIa.out ?_ ?_ ?_ ?_) ?_); exact rfl; exact rfl; exact rfl; exact rfl; rintro e wb ⟨rfl, hi⟩; have HIb := Lib.hid hi; clear hi)
        | (go_at_call 6; (with_reducible refine Calls.mono (L2.out (wa.drewN 3) wa HIa.out ?_ ?_ ?_ ?_) ?_); exact rfl; exact rfl; exact rfl; exact rfl; rintro e wb ⟨rfl, hi⟩; have HIb := Lib.hid hi; clear hi)
        | (go_at_call 6; (with_reducible refine Calls.mono (L2.out (wa.drewN 4) wa HIa.out ?_ ?_ ?_ ?_) ?_); exact rfl; exact rfl; exact rfl; exact rfl; rintro e wb ⟨rfl, hi⟩; have HIb := Lib.hid hi; clear hi)
        | (go_at_call 7; (with_reducible refine Calls.mono (L3.out wb wb HIb.out ?_ ?_ ?_ ?_) ?_); exact rfl; exact rfl; exact rfl; exact rfl; rintro e wd ⟨rfl, hi⟩; have HId := Lib.hid hi; clear hi)
        | (go_at_call 7; (with_reducible refine Calls.mono (L3.out wb.drew wb HIb.out ?_ ?_ ?_ ?_) ?_); exact rfl; exact rfl; exact rfl; exact rfl; rintro e wd ⟨rfl, hi⟩; have HId := Lib.hid hi; clear hi)
        | (go_at_call 7; (with_reducible refine Calls.mono (L3.out wb.drew.drew wb HIb.out ?_ ?_ ?_ ?_) ?_); exact rfl; exact rfl; exact rfl; exact rfl; rintro e wd ⟨rfl, hi⟩; have HId := Lib.hid hi; clear hi)
        | (go_at_call 7; (with_reducible refine Calls.mono (L3.out wb.drew.drew.drew wb HIb.out ?_ ?_ ?_ ?_) ?_); exact rfl; exact rfl; exact rfl; exact rfl; rintro e wd ⟨rfl, hi⟩; have HId := Lib.hid hi; clear hi)
        | (go_at_call 7; (with_reducible refine Calls.mono (L3.out wb.drew.drew.drew.drew wb HIb.out ?_ ?_ ?_ ?_) ?_); exact rfl; exact rfl; exact rfl; exact rfl; rintro e wd ⟨rfl, hi⟩; have HId := Lib.hid hi; clear hi)
        | (go_at_call 7; (with_reducible refine Calls.mono (L3.out (wb.drewN 2) wb HIb.out ?_ ?_ ?_ ?_) ?_); exact rfl; exact rfl; exact rfl; exact rfl; rintro e wd ⟨rfl, hi⟩; have HId := Lib.hid hi; clear hi)
        | (go_at_call 7; (with_reducible refine Calls.mono (L3.out (wb.drewN 3) wb HIb.out ?_ ?_ ?_ ?_) ?_); exact rfl; exact rfl; exact rfl; exact rfl; rintro e wd ⟨rfl, hi⟩; have HId := Lib.hid hi; clear hi)
        | (go_at_call 7; (with_reducible refine Calls.mono (L3.out (wb.drewN 4) wb HIb.out ?_ ?_ ?_ ?_) ?_); exact rfl; exact rfl; exact rfl; exact rfl; rintro e wd ⟨rfl, hi⟩; have HId := Lib.hid hi; clear hi))
          all_goals (go_wp2_with fail)
          all_goals go_ret
          all_goals exact ⟨ret_bool (by simp), HId.out.below⟩
end Go.Proofs.YtaonadgelkdbcaaDoor

namespace Go.Proofs.YtaonadgelkdbcaaDoor
open Go.RowKit Go.ChangeShapes Go.WideShapes Go.Deep

section
variable {H : Type} {enc : TypeId × Value → H} {P : Program} {w : World} {base : Nat} {spare : Nat → Bool} {held : Bool}
theorem open_slice_fields {t e : TypeId} {fs : Array Field} {fuel : Nat} {cs : List Value} {x : DataW H × List MemPlace} (ht : P.underlying t = some (.slice e)) (he : P.underlying e = some (.struct fs))
    (hone : oneCellFields P fs = true) (hC : P.cellsOf e = fs.size) (h : DataW.trod enc P w base spare held fuel t cs = some x) :
    (cs = [.slice none 0 0] ∧ x = (.nil, [])) ∨
    ∃ (a : Addr) (len cap m : Nat) (D : Nat → DataW H) (Pl : Nat → List MemPlace), cs = [.slice (some a) len cap] ∧ base ≤ a.block ∧ len ≤ cap ∧ cap ≤ maxLen ∧ m = (if spare a.block then cap else len) ∧
      x = (.slice ((List.range len).map D) ((List.range (m - len)).map fun j => D (len + j)), MemPlace.row a (m * fs.size) ++ (List.range m).flatMap Pl) ∧
      ∀ i, i < m → ∃ (ys : List (DataW H × List MemPlace)) (n : Nat), D i = .agg (ys.map (·.1)) ∧ Pl i = ys.flatMap (·.2) ∧ ys.length = fs.size ∧
        ∀ (j : Nat) (f : Field), fs[j]? = some f → ∃ (v : Value) (y : DataW H × List MemPlace), w.cell? (a.add (i * fs.size + j)) = some v ∧ ys[j]? = some y ∧ DataW.trod enc P w base spare held n f.type [v] = some y := by
  rcases open_slice ht h with h0 | ⟨a, len, cap, m, n, D, Pl, hcs, hb, hl, hm, hmm, hx, hi⟩
  · exact .inl h0
  · refine .inr ⟨a, len, cap, m, D, Pl, hcs, hb, hl, hm, hmm, by rw [hC] at hx; exact hx, fun i him => ?_⟩
    obtain ⟨cs', hc, ht'⟩ := hi i him
    rw [hC] at hc
    obtain ⟨ys, n', hn', hy, hlen, hyl, hf⟩ := DataW.trod_struct he ht'
    obtain ⟨_, hcl, hat⟩ := World.cells?_some hc
    simp only [Prod.mk.injEq] at hy
    refine ⟨ys, n', hy.1, hy.2, hyl, fun j f hj => ?_⟩
    obtain ⟨ho, hk⟩ := hone_of hone j f hj
    have hjl : j < fs.size := (Array.getElem?_eq_some_iff.1 hj).1
    have hcell := hat j hjl
    have hv : cs'[j]? = some (cs'[j]'(by omega)) := List.getElem?_eq_getElem (by omega)
    have h1 := hf j f hj
    rw [ho, hk] at h1
    have hone' : (cs'.drop j).take 1 = [cs'[j]'(by omega)] := by
      rw [List.drop_eq_getElem_cons (by omega)]
      rfl
    rw [hone'] at h1
    have hys : ys[j]? = some (ys[j]'(by omega)) := List.getElem?_eq_getElem (by omega)
    refine ⟨_, _, ?_, hys, h1.trans hys⟩
    rw [← Go.Deep.add_add, hcell, hv]
end
theorem list_of {α : Type} {n : Nat} {P : Nat → α → Prop} (h : ∀ i, i < n → ∃ x, P i x) : ∃ l : List α, l.length = n ∧ ∀ i (hi : i < l.length), P i l[i] := by
  induction n with
  | zero => exact ⟨[], rfl, fun i hi => absurd hi (by simp)⟩
  | succ n ih =>
    obtain ⟨l, hl, hp⟩ := ih fun i hi => h i (by omega)
    obtain ⟨x, hx⟩ := h n (by omega)
    refine ⟨l ++ [x], by simp [hl], fun i hi => ?_⟩
    by_cases e : i < l.length
    · rw [List.getElem_append_left e]; exact hp i e
    · have : i = n := by simp at hi; omega
      subst this
      rw [List.getElem_append_right (by omega)]
      simp [hl]; exact hx
section
variable {H : Type} {P : Program} {B : Nat}
theorem weightsAll_le {e : TypeId} : ∀ {l : List (DataW H)}, (∀ n ∈ DataW.weightsAll P e l, n ≤ B) → ∀ d ∈ l, ∀ n ∈ d.weights P e, n ≤ B
  | [], _, d, hd => by cases hd
  | y :: r, h, d, hd => by
    intro n hn
    rcases List.mem_cons.1 hd with rfl | hd
    · exact h n (by unfold DataW.weightsAll; exact List.mem_append_left _ hn)
    · exact weightsAll_le (l := r) (fun m hm => h m (by unfold DataW.weightsAll; exact List.mem_append_right _ hm)) d hd n hn
theorem weightsEach_le : ∀ {ts : List TypeId} {l : List (DataW H)}, (∀ n ∈ DataW.weightsEach P ts l, n ≤ B) → ∀ (j : Nat) (t : TypeId) (d : DataW H), ts[j]? = some t → l[j]? = some d → ∀ n ∈ d.weights P t, n ≤ B
  | [], _, _, j, t, d, ht, _ => by simp at ht
  | _ :: _, [], _, j, t, d, _, hd => by simp at hd
  | u :: ts, y :: r, h, 0, t, d, ht, hd => by
    intro n hn
    have e1 : u = t := by simpa using ht
    have e2 : y = d := by simpa using hd
    subst e1; subst e2
    exact h n (by unfold DataW.weightsEach; exact List.mem_append_left _ hn)
  | u :: ts, y :: r, h, j + 1, t, d, ht, hd => weightsEach_le (ts := ts) (l := r) (fun m hm => h m (by unfold DataW.weightsEach; exact List.mem_append_right _ hm)) j t d (by simpa using ht) (by simpa using hd)
theorem weight_string {t : TypeId} {s : ByteArray} (h : ∀ n ∈ (DataW.lit (.string s.data.toList) : DataW H).weights P t, n ≤ B) : s.size ≤ B := by
  have := h s.data.toList.length (by simp [DataW.weights])
  simpa using this
theorem weight_slice {t e : TypeId} {k : Nat} {elems spare : List (DataW H)} (ht : P.underlying t = some (.slice e)) (hk : P.bytesOf e = k) (h : ∀ n ∈ (DataW.slice elems spare).weights P t, n ≤ B) :
    (elems.length + spare.length) * k ≤ B ∧ ∀ d ∈ elems, ∀ n ∈ d.weights P e, n ≤ B := by
  unfold DataW.weights at h
  rw [ht] at h
  simp only at h
  rw [hk] at h
  exact ⟨h _ (List.mem_cons_self ..), weightsAll_le fun n hn => h n (List.mem_cons_of_mem _ (List.mem_append_left _ hn))⟩
theorem weight_agg {t : TypeId} {fs : Array Field} {parts : List (DataW H)} (ht : P.underlying t = some (.struct fs)) (h : ∀ n ∈ (DataW.agg parts).weights P t, n ≤ B) (j : Nat) (f : Field) (d : DataW H) (hf : fs[j]? = some f) (hd : parts[j]? = some d) :
    ∀ n ∈ d.weights P f.type, n ≤ B := by
  unfold DataW.weights at h
  rw [ht] at h
  exact weightsEach_le h j f.type d (by simp [hf]) hd
end
theorem hts_cells {w : World} {a : Addr} {l : List HtlcR} (h : ∀ i (hi : i < l.length), w.cell? (a.add (i * 5)) = some (.bool l[i].mine) ∧ w.cell? (a.add (i * 5 + 1)) = some (.int .i64 l[i].id) ∧ w.cell? (a.add (i * 5 + 2)) = some (.int .i64 l[i].amt) ∧ w.cell? (a.add (i * 5 + 3)) = some (.string l[i].hash) ∧ w.cell? (a.add (i * 5 + 4)) = some (.int .i64 l[i].exp)) : Cells w (some a) (hts l) := fun _ => by
  refine ⟨a, rfl, fun j u hj => ?_⟩
  have hlt := (List.getElem?_eq_some_iff.1 hj).1
  rw [hts_len] at hlt
  have hk : j / 5 < l.length := by omega
  obtain ⟨h0, h1, h2, h3, h4⟩ := h (j / 5) hk
  rcases (show j % 5 = 0 ∨ j % 5 = 1 ∨ j % 5 = 2 ∨ j % 5 = 3 ∨ j % 5 = 4 by omega) with e | e | e | e | e
  · rw [show j = j / 5 * 5 + 0 by omega] at hj ⊢; rw [hts_get l _ hk 0 (by decide)] at hj; rw [Nat.add_zero, h0]; exact hj
  · rw [show j = j / 5 * 5 + 1 by omega] at hj ⊢; rw [hts_get l _ hk 1 (by decide)] at hj; rw [h1]; exact hj
  · rw [show j = j / 5 * 5 + 2 by omega] at hj ⊢; rw [hts_get l _ hk 2 (by decide)] at hj; rw [h2]; exact hj
  · rw [show j = j / 5 * 5 + 3 by omega] at hj ⊢; rw [hts_get l _ hk 3 (by decide)] at hj; rw [h3]; exact hj
  · rw [show j = j / 5 * 5 + 4 by omega] at hj ⊢; rw [hts_get l _ hk 4 (by decide)] at hj; rw [h4]; exact hj
section
variable {H : Type} {enc : TypeId × Value → H} {W : World} {base : Nat}
set_option maxRecDepth 100000 in
theorem trod_htlcs {A : Option Addr} {len cap : Nat} {fuel : Nat} {x : DataW H × List MemPlace} (hf : DataW.trod enc Tryd.prog W 0 (fun _ => true) true fuel 22 [.slice A len cap] = some x) (hB : ∀ n ∈ x.1.weights Tryd.prog 22, n ≤ reachBytes) :
    ∃ l : List HtlcR, len = l.length ∧ Cells W A (hts l) ∧ l.length ≤ reachBytes := by
  rcases open_slice_fields Tryd.underlying22 Tryd.underlying29 (by kernel_rfl) (by kernel_rfl) hf with ⟨hcs, -⟩ | ⟨a, len', cap', m, D, Pl, hcs, -, hl, hm, hmm, hx, hi⟩
  · have hcs' : [Value.slice A len cap] = [.slice none 0 0] := hcs
    simp only [List.cons.injEq, Value.slice.injEq, and_true] at hcs'
    obtain ⟨rfl, rfl, rfl⟩ := hcs'
    exact ⟨[], rfl, Cells.nil _ _, Nat.zero_le _⟩
  · have hcs' : [Value.slice A len cap] = [.slice (some a) len' cap'] := hcs
    simp only [List.cons.injEq, Value.slice.injEq, and_true] at hcs'
    obtain ⟨rfl, rfl, rfl⟩ := hcs'
    simp only [if_true] at hmm
    subst hmm
    subst hx
    obtain ⟨hw, -⟩ := weight_slice Tryd.underlying22 (show Tryd.prog.bytesOf 29 = 48 by kernel_rfl) hB
    have hex : ∀ i, i < len → ∃ y : HtlcR, W.cell? (a.add (i * 5)) = some (.bool y.mine) ∧ W.cell? (a.add (i * 5 + 1)) = some (.int .i64 y.id) ∧ W.cell? (a.add (i * 5 + 2)) = some (.int .i64 y.amt) ∧ W.cell? (a.add (i * 5 + 3)) = some (.string y.hash) ∧ W.cell? (a.add (i * 5 + 4)) = some (.int .i64 y.exp) := by
      intro i him
      obtain ⟨ys, n, hD, -, -, hf⟩ := hi i (by omega)
      obtain ⟨v0, y0, hc0, -, ht0⟩ := hf 0 _ rfl
      obtain ⟨v1, y1, hc1, -, ht1⟩ := hf 1 _ rfl
      obtain ⟨v2, y2, hc2, -, ht2⟩ := hf 2 _ rfl
      obtain ⟨v3, y3, hc3, -, ht3⟩ := hf 3 _ rfl
      obtain ⟨v4, y4, hc4, -, ht4⟩ := hf 4 _ rfl
      obtain ⟨b0, e0, -⟩ := DataW.trod_bool Tryd.underlying4 ht0
      obtain ⟨n1, e1, -, -⟩ := DataW.trod_int Tryd.underlying2 ht1
      obtain ⟨n2, e2, -, -⟩ := DataW.trod_int Tryd.underlying2 ht2
      obtain ⟨s3, e3, rfl, -⟩ := DataW.trod_string Tryd.underlying27 ht3
      obtain ⟨n4, e4, -, -⟩ := DataW.trod_int Tryd.underlying3 ht4
      simp only [List.cons.injEq, and_true] at e0 e1 e2 e3 e4
      subst e0; subst e1; subst e2; subst e3; subst e4
      exact ⟨⟨b0, n1, n2, s3, n4⟩, hc0, hc1, hc2, hc3, hc4⟩
    obtain ⟨l, hll, hp⟩ := list_of hex
    subst hll
    refine ⟨l, rfl, hts_cells hp, ?_⟩
    simp only [List.length_map, List.length_range] at hw
    omega
set_option maxRecDepth 100000 in
theorem open_terms {v : Value} {d : DataW H} {p : List MemPlace} (hval : Value.okWide Tryd.prog W .any base 25 v) (h : DataW.Trod enc Tryd.prog W 0 (fun _ => true) true 25 v d p) (hB : ∀ n ∈ d.weights Tryd.prog 25, n ≤ reachBytes) :
    ∃ A l c, v = .slice A l.length c ∧ Cells W A (strs l) ∧ l.length ≤ reachBytes ∧ ∀ y ∈ l, y.size ≤ reachBytes := by
  obtain ⟨A, len, cap, rfl⟩ := okWide_slice Tryd.underlying25 hval
  obtain ⟨fuel, hf⟩ := h
  rcases open_slice1 Tryd.underlying25 (by kernel_rfl) hf with ⟨hcs, -⟩ | ⟨a, len', cap', m, n, V, D, Pl, hcs, -, hl, hm, hmm, hx, hi⟩
  · have hcs' : [Value.slice A len cap] = [.slice none 0 0] := hcs
    simp only [List.cons.injEq, Value.slice.injEq, and_true] at hcs'
    obtain ⟨rfl, rfl, rfl⟩ := hcs'
    exact ⟨none, [], 0, rfl, Cells.nil _ _, Nat.zero_le _, fun y hy => by cases hy⟩
  · have hcs' : [Value.slice A len cap] = [.slice (some a) len' cap'] := hcs
    simp only [List.cons.injEq, Value.slice.injEq, and_true] at hcs'
    obtain ⟨rfl, rfl, rfl⟩ := hcs'
    simp only [if_true] at hmm
    subst hmm
    injection hx with hx1 hx2
    subst hx1
    obtain ⟨hw, hwe⟩ := weight_slice Tryd.underlying25 (show Tryd.prog.bytesOf 27 = 16 by kernel_rfl) hB
    have hex : ∀ i, i < len → ∃ s : ByteArray, W.cell? (a.add i) = some (.string s) ∧ s.size ≤ reachBytes := by
      intro i him
      obtain ⟨hc, ht⟩ := hi i (by omega)
      have hwi := hwe (D i) (List.mem_map.2 ⟨i, List.mem_range.2 him, rfl⟩)
      obtain ⟨s, e, hy, -⟩ := DataW.trod_string Tryd.underlying27 ht
      simp only [List.cons.injEq, and_true] at e
      rw [e] at hc
      injection hy with hy1 hy2
      rw [hy1] at hwi
      exact ⟨s, hc, weight_string hwi⟩
    obtain ⟨l, hll, hp⟩ := list_of hex
    subst hll
    simp only [List.length_map, List.length_range] at hw
    refine ⟨some a, l, _, rfl, fun _ => ⟨a, rfl, fun j u hj => ?_⟩, by omega, fun y hy => ?_⟩
    · have hjl : j < l.length := by have := (List.getElem?_eq_some_iff.1 hj).1; simpa [strs] using this
      have hv : (strs l)[j]? = some (.string l[j]) := by unfold strs; rw [List.getElem?_map, List.getElem?_eq_getElem hjl]; rfl
      rw [hv] at hj
      injection hj with hj
      subst hj
      exact (hp j hjl).1
    · obtain ⟨k, hk, rfl⟩ := List.getElem_of_mem hy
      exact (hp k hk).2
set_option maxRecDepth 100000 in
theorem open_state {v : Value} {d : DataW H} {p : List MemPlace} (hval : Value.okWide Tryd.prog W .any base 24 v) (h : DataW.Trod enc Tryd.prog W 0 (fun _ => true) true 24 v d p) (hB : ∀ n ∈ d.weights Tryd.prog 24, n ≤ reachBytes) :
    ∃ n own other A l c, v = stateV n own other (.slice A l.length c) ∧ Cells W A (hts l) ∧ l.length ≤ reachBytes := by
  obtain ⟨v0, v1, v2, v3, y0, y1, y2, y3, n, rfl, rfl, -, t0, t1, t2, t3⟩ := Go.Joins.open_agg4 Tryd.underlying24 (by kernel_rfl) (by kernel_rfl) hval h
  obtain ⟨n0, e0, -, -⟩ := DataW.trod_int Tryd.underlying2 t0
  obtain ⟨n1, e1, -, -⟩ := DataW.trod_int Tryd.underlying2 t1
  obtain ⟨n2, e2, -, -⟩ := DataW.trod_int Tryd.underlying2 t2
  simp only [List.cons.injEq, and_true] at e0 e1 e2
  subst e0; subst e1; subst e2
  have hw3 := weight_agg (fs := _) Tryd.underlying24 hB 3 _ y3.1 rfl rfl
  obtain ⟨A, len, cap, rfl⟩ : ∃ A len cap, v3 = .slice A len cap := by
    rcases open_slice Tryd.underlying22 t3 with ⟨hcs, -⟩ | ⟨a, len, cap, m, n', D, Pl, hcs, -⟩
    · exact ⟨_, _, _, by simpa using hcs⟩
    · exact ⟨_, _, _, by simpa using hcs⟩
  obtain ⟨l, rfl, h1, h2⟩ := trod_htlcs t3 hw3
  exact ⟨n0, n1, n2, A, l, cap, rfl, h1, h2⟩
end
end Go.Proofs.YtaonadgelkdbcaaDoor

namespace Go.Proofs.YtaonadgelkdbcaaDoor
open Go.ChangeShapes Go.WideShapes Go.ChangeAt Go.RowKit Go.WideMaps Go.WideElems

theorem own : ownKnob Tryd.prog.godebug = none := by kernel_rfl
theorem laidOut : laidOutB Tryd.prog = true := by kernel_rfl

section
variable {H : Type} {enc : TypeId × Value → H}

def Readable (t : TypeId) : Prop := Tryd.prog.readableRec t = true ∧ t < Tryd.prog.types.size
theorem trodAll_stays {W W' : World} {sp : Nat → Bool} (hb : Below W.heap.size W W') {ts : List TypeId} (hr : ∀ t ∈ ts, Readable t) : ∀ {vs : List Value} {ds : List (DataW H)} {ps : List MemPlace},
    DataW.TrodAll enc Tryd.prog W 0 (fun _ => true) true ts vs ds ps → (∀ p ∈ ps, p.block < W.heap.size) → (∀ p ∈ ps, sp p.block = true) → DataW.TrodAll enc Tryd.prog W' 0 sp true ts vs ds ps := by
  induction ts with
  | nil =>
    intro vs ds ps h _ _
    obtain ⟨rfl, rfl, rfl⟩ := trodAll_nil h
    exact trodAll_mk0
  | cons t ts ih =>
    intro vs ds ps h hlt hs
    obtain ⟨v, vs', d, ds', p, q, rfl, rfl, rfl, h0, h1⟩ := trodAll_cons h
    have h2 := hr t (List.mem_cons_self ..)
    exact trodAll_cons_mk (Trod_stays laidOut h2.1 h2.2 h0 (fun x hx => hb.same (hlt x (List.mem_append_left _ hx))) (fun x hx => hs x (List.mem_append_left _ hx)))
      (ih (fun u hu => hr u (List.mem_cons_of_mem _ hu)) h1 (fun x hx => hlt x (List.mem_append_right _ hx)) (fun x hx => hs x (List.mem_append_right _ hx)))

set_option maxRecDepth 100000 in
/-- The law's last step: its call gave true, and only new blocks were laid. -/
theorem post_true {f : Func} {s : ChangeSpec} {W W' : World} {args : Array Value} {ds : List (DataW H)} {before : List MemPlace}
    (hW : DataW.Whole enc Tryd.prog f.params.toList s.vars false W args.toList ds [] before) (hvs : s.vars = []) (hf : ∀ t ∈ f.params.toList, Readable t)
    (hr : f.resultTypes = #[4]) (hfn : s.fn H (ds ++ []) = { results := [.lit (.bool true)], args := ds }) (hb : Below W.heap.size W W') :
    s.post enc Tryd.prog f false true false false W args (.bool true) W' := by
  have hW' := hW
  obtain ⟨p, q, hA, hV, rfl, hfz, hnd⟩ := hW
  rw [hvs] at hV
  obtain ⟨-, rfl⟩ := trodVars_none hV
  have hlt0 : ∀ x ∈ p ++ [], x.block < W.heap.size := fun x hx => hW'.lt x hx
  have hlt : ∀ x ∈ p, x.block < W.heap.size := fun x hx => hlt0 x (List.mem_append_left _ hx)
  have hres : ∀ (b : Nat) (sp : Nat → Bool) (hd : Bool), DataW.TrodAll enc Tryd.prog W' b sp hd f.resultTypes.toList ((Value.bool true).resultList f.resultTypes.size) (s.fn H (ds ++ [])).results [] := by
    intro b sp hd
    rw [hfn, hr]
    exact trodAll_mk1 (shut_bool Tryd.underlying4 _)
  have hold : ∀ x ∈ p, (fun b => decide (b < W.heap.size)) x.block = true := fun x hx => by simpa using hlt x hx
  have hargs : ∀ sp : Nat → Bool, (∀ x ∈ p, sp x.block = true) → DataW.TrodAll enc Tryd.prog W' 0 sp true f.params.toList args.toList (s.fn H (ds ++ [])).args p := by
    intro sp hsp
    rw [hfn]
    exact trodAll_stays hb hf hA hlt hsp
  have hvars : ∀ sp : Nat → Bool, DataW.TrodVars enc Tryd.prog W' sp s.vars (s.fn H (ds ++ [])).vars [] := by
    intro sp
    rw [hvs, hfn]
    exact rfl
  refine ⟨ds, [], p ++ [], [], p, [], hW', hres _ _ _, hargs _ hold, hvars _, World.keptBut_mono (fun x hx => ⟨hx, ?_⟩) (hb.frame (· ∈ p ++ [])), fun _ => ?_⟩
  · rw [List.mem_append] at hx
    exact Or.inr hx
  · refine ⟨ok_one hr rfl (okWide_bool_mk Tryd.underlying4 _), _, _, ([] ++ p) ++ [], ⟨[] ++ p, [], trodAll_append (hargs _ (fun _ _ => rfl)) (hres _ _ _), hvars _, rfl, ?_, ?_⟩, ?_⟩
    · intro b off hp
      have hin : MemPlace.cell b off ∈ p ++ [] := by simpa using hp
      rw [hb.frozen (hlt0 _ hin)]
      exact hfz b off hin
    · intro ha; cases ha
    · intro x hx _
      simpa using hx

end
end Go.Proofs.YtaonadgelkdbcaaDoor
