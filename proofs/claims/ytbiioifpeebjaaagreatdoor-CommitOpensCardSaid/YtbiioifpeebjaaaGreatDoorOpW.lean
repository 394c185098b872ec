/- lock.opens at any lock; lock.Opens. -/
import Derived.Test.YtbiioifpeebjaaaGreatDoorOpV
set_option linter.all false
namespace Go.Proofs.YtbiioifpeebjaaaGreatDoor
open Go.RowKit

set_option maxRecDepth 100000 in
set_option maxHeartbeats 8000000 in
theorem opens_any (m : ByteArray) (after age : Int) (sg pr : List ByteArray) (SA PA : Option Addr) (sc pc : Nat) (pbf hsf : ByteArray → ByteArray) (hsg : ∀ s ∈ sg, VerOk s (pbf s) m) (hpr : ∀ x ∈ pr, HashOk x (hsf x)) (hsl : sg.length ≤ 1000) (hpl : pr.length ≤ 1000) :
    ∀ (n : Nat) (x : LockT), sizeT x ≤ n → ∀ (cs : List Value) (w : World), smallT x → LockC w x cs → Cells w SA (strs sg) → Cells w PA (strs pr) → VarsOk w →
    Calls Tryz.prog 36 #[.agg cs.toArray, .agg #[.slice SA sg.length sc, .slice PA pr.length pc], .string m, .int .i64 after, .int .i64 age] w fun e w' => e = .returned (.bool (opB (sg.map pbf) (pr.map hsf) after age x)) ∧ Below w.heap.size w w' := by
  intro n
  induction n with
  | zero => intro x hx; exact absurd (sizeT_pos x) (by omega)
  | succ n ih =>
    intro x hx cs w hsm hlc hSA hPA hv
    obtain ⟨B, cap, xs, rfl, hcx, hlx⟩ := hlc.shape
    obtain ⟨k, t, q, l⟩ := x
    simp only [LockT.kind, LockT.term, LockT.n, LockT.kids] at hcx hlx ⊢
    have hsm2 : l.length ≤ 1000000 ∧ smallTs l := (smallT_parts hsm).2
    have hsz : sizeTs l ≤ n := by have h := hx; unfold sizeT at h; omega
    have hb0 : Below w.heap.size w ((((((w.alloc (.cells #[.int .u8 k, .string t, .int .i64 q, .slice B l.length cap] 35)).alloc (.cells #[.slice SA sg.length sc, .slice PA pr.length pc] 69)).alloc (.cells #[.string m] 28)).alloc (.cells #[.int .i64 after] 3)).alloc (.cells #[.int .i64 age] 3)).alloc (.cells #[.func (.func 56) #[] #[.pointer (some ⟨w.heap.size + 1, 0, none⟩), .pointer (some ⟨w.heap.size + 1 + 1, 0, none⟩), .pointer (some ⟨w.heap.size + 1 + 1 + 1, 0, none⟩), .pointer (some ⟨w.heap.size + 1 + 1 + 1 + 1, 0, none⟩)]] 83)) := ((((((Below.refl w.heap.size w).alloc (Nat.le_refl _) (.cells #[.int .u8 k, .string t, .int .i64 q, .slice B l.length cap] 35)).alloc (by simp) (.cells #[.slice SA sg.length sc, .slice PA pr.length pc] 69)).alloc (by simp; try omega) (.cells #[.string m] 28)).alloc (by simp; try omega) (.cells #[.int .i64 after] 3)).alloc (by simp; try omega) (.cells #[.int .i64 age] 3)).alloc (by simp; try omega) (.cells #[.func (.func 56) #[] #[.pointer (some ⟨w.heap.size + 1, 0, none⟩), .pointer (some ⟨w.heap.size + 1 + 1, 0, none⟩), .pointer (some ⟨w.heap.size + 1 + 1 + 1, 0, none⟩), .pointer (some ⟨w.heap.size + 1 + 1 + 1 + 1, 0, none⟩)]] 83)
    have HB := Lib.hid hb0
    have HSA := Lib.hid (hSA.below hb0)
    have HPA := Lib.hid (hPA.below hb0)
    have HV := Lib.hid (hv.below hb0)
    have HCX := Lib.hid (hcx.below hb0)
    have HLX := Lib.hid (LocksC.below hb0 l xs hlx)
    have hH := allocs_at [(.cells #[.int .u8 k, .string t, .int .i64 q, .slice B l.length cap] 35), (.cells #[.slice SA sg.length sc, .slice PA pr.length pc] 69), (.cells #[.string m] 28), (.cells #[.int .i64 after] 3), (.cells #[.int .i64 age] 3), (.cells #[.func (.func 56) #[] #[.pointer (some ⟨w.heap.size + 1, 0, none⟩), .pointer (some ⟨w.heap.size + 1 + 1, 0, none⟩), .pointer (some ⟨w.heap.size + 1 + 1 + 1, 0, none⟩), .pointer (some ⟨w.heap.size + 1 + 1 + 1 + 1, 0, none⟩)]] 83)] w
    have c0 : ((((((w.alloc (.cells #[.int .u8 k, .string t, .int .i64 q, .slice B l.length cap] 35)).alloc (.cells #[.slice SA sg.length sc, .slice PA pr.length pc] 69)).alloc (.cells #[.string m] 28)).alloc (.cells #[.int .i64 after] 3)).alloc (.cells #[.int .i64 age] 3)).alloc (.cells #[.func (.func 56) #[] #[.pointer (some ⟨w.heap.size + 1, 0, none⟩), .pointer (some ⟨w.heap.size + 1 + 1, 0, none⟩), .pointer (some ⟨w.heap.size + 1 + 1 + 1, 0, none⟩), .pointer (some ⟨w.heap.size + 1 + 1 + 1 + 1, 0, none⟩)]] 83)).cell? ⟨w.heap.size, 0, none⟩ = some (.int .u8 k) := cell_of (j := 0) (allocs_at [(.cells #[.int .u8 k, .string t, .int .i64 q, .slice B l.length cap] 35), (.cells #[.slice SA sg.length sc, .slice PA pr.length pc] 69), (.cells #[.string m] 28), (.cells #[.int .i64 after] 3), (.cells #[.int .i64 age] 3), (.cells #[.func (.func 56) #[] #[.pointer (some ⟨w.heap.size + 1, 0, none⟩), .pointer (some ⟨w.heap.size + 1 + 1, 0, none⟩), .pointer (some ⟨w.heap.size + 1 + 1 + 1, 0, none⟩), .pointer (some ⟨w.heap.size + 1 + 1 + 1 + 1, 0, none⟩)]] 83)] w 0 _ rfl) rfl
    have c1 : ((((((w.alloc (.cells #[.int .u8 k, .string t, .int .i64 q, .slice B l.length cap] 35)).alloc (.cells #[.slice SA sg.length sc, .slice PA pr.length pc] 69)).alloc (.cells #[.string m] 28)).alloc (.cells #[.int .i64 after] 3)).alloc (.cells #[.int .i64 age] 3)).alloc (.cells #[.func (.func 56) #[] #[.pointer (some ⟨w.heap.size + 1, 0, none⟩), .pointer (some ⟨w.heap.size + 1 + 1, 0, none⟩), .pointer (some ⟨w.heap.size + 1 + 1 + 1, 0, none⟩), .pointer (some ⟨w.heap.size + 1 + 1 + 1 + 1, 0, none⟩)]] 83)).cell? ⟨w.heap.size, 1, none⟩ = some (.string t) := cell_of (j := 1) (allocs_at [(.cells #[.int .u8 k, .string t, .int .i64 q, .slice B l.length cap] 35), (.cells #[.slice SA sg.length sc, .slice PA pr.length pc] 69), (.cells #[.string m] 28), (.cells #[.int .i64 after] 3), (.cells #[.int .i64 age] 3), (.cells #[.func (.func 56) #[] #[.pointer (some ⟨w.heap.size + 1, 0, none⟩), .pointer (some ⟨w.heap.size + 1 + 1, 0, none⟩), .pointer (some ⟨w.heap.size + 1 + 1 + 1, 0, none⟩), .pointer (some ⟨w.heap.size + 1 + 1 + 1 + 1, 0, none⟩)]] 83)] w 0 _ rfl) rfl
    have c2 : ((((((w.alloc (.cells #[.int .u8 k, .string t, .int .i64 q, .slice B l.length cap] 35)).alloc (.cells #[.slice SA sg.length sc, .slice PA pr.length pc] 69)).alloc (.cells #[.string m] 28)).alloc (.cells #[.int .i64 after] 3)).alloc (.cells #[.int .i64 age] 3)).alloc (.cells #[.func (.func 56) #[] #[.pointer (some ⟨w.heap.size + 1, 0, none⟩), .pointer (some ⟨w.heap.size + 1 + 1, 0, none⟩), .pointer (some ⟨w.heap.size + 1 + 1 + 1, 0, none⟩), .pointer (some ⟨w.heap.size + 1 + 1 + 1 + 1, 0, none⟩)]] 83)).cell? ⟨w.heap.size, 2, none⟩ = some (.int .i64 q) := cell_of (j := 2) (allocs_at [(.cells #[.int .u8 k, .string t, .int .i64 q, .slice B l.length cap] 35), (.cells #[.slice SA sg.length sc, .slice PA pr.length pc] 69), (.cells #[.string m] 28), (.cells #[.int .i64 after] 3), (.cells #[.int .i64 age] 3), (.cells #[.func (.func 56) #[] #[.pointer (some ⟨w.heap.size + 1, 0, none⟩), .pointer (some ⟨w.heap.size + 1 + 1, 0, none⟩), .pointer (some ⟨w.heap.size + 1 + 1 + 1, 0, none⟩), .pointer (some ⟨w.heap.size + 1 + 1 + 1 + 1, 0, none⟩)]] 83)] w 0 _ rfl) rfl
    have c3 : ((((((w.alloc (.cells #[.int .u8 k, .string t, .int .i64 q, .slice B l.length cap] 35)).alloc (.cells #[.slice SA sg.length sc, .slice PA pr.length pc] 69)).alloc (.cells #[.string m] 28)).alloc (.cells #[.int .i64 after] 3)).alloc (.cells #[.int .i64 age] 3)).alloc (.cells #[.func (.func 56) #[] #[.pointer (some ⟨w.heap.size + 1, 0, none⟩), .pointer (some ⟨w.heap.size + 1 + 1, 0, none⟩), .pointer (some ⟨w.heap.size + 1 + 1 + 1, 0, none⟩), .pointer (some ⟨w.heap.size + 1 + 1 + 1 + 1, 0, none⟩)]] 83)).cell? ⟨w.heap.size, 3, none⟩ = some (.slice B l.length cap) := cell_of (j := 3) (allocs_at [(.cells #[.int .u8 k, .string t, .int .i64 q, .slice B l.length cap] 35), (.cells #[.slice SA sg.length sc, .slice PA pr.length pc] 69), (.cells #[.string m] 28), (.cells #[.int .i64 after] 3), (.cells #[.int .i64 age] 3), (.cells #[.func (.func 56) #[] #[.pointer (some ⟨w.heap.size + 1, 0, none⟩), .pointer (some ⟨w.heap.size + 1 + 1, 0, none⟩), .pointer (some ⟨w.heap.size + 1 + 1 + 1, 0, none⟩), .pointer (some ⟨w.heap.size + 1 + 1 + 1 + 1, 0, none⟩)]] 83)] w 0 _ rfl) rfl
    have u0 : ((((((w.alloc (.cells #[.int .u8 k, .string t, .int .i64 q, .slice B l.length cap] 35)).alloc (.cells #[.slice SA sg.length sc, .slice PA pr.length pc] 69)).alloc (.cells #[.string m] 28)).alloc (.cells #[.int .i64 after] 3)).alloc (.cells #[.int .i64 age] 3)).alloc (.cells #[.func (.func 56) #[] #[.pointer (some ⟨w.heap.size + 1, 0, none⟩), .pointer (some ⟨w.heap.size + 1 + 1, 0, none⟩), .pointer (some ⟨w.heap.size + 1 + 1 + 1, 0, none⟩), .pointer (some ⟨w.heap.size + 1 + 1 + 1 + 1, 0, none⟩)]] 83)).cell? ⟨w.heap.size + 1, 0, none⟩ = some (.slice SA sg.length sc) := cell_of (j := 0) (allocs_at [(.cells #[.int .u8 k, .string t, .int .i64 q, .slice B l.length cap] 35), (.cells #[.slice SA sg.length sc, .slice PA pr.length pc] 69), (.cells #[.string m] 28), (.cells #[.int .i64 after] 3), (.cells #[.int .i64 age] 3), (.cells #[.func (.func 56) #[] #[.pointer (some ⟨w.heap.size + 1, 0, none⟩), .pointer (some ⟨w.heap.size + 1 + 1, 0, none⟩), .pointer (some ⟨w.heap.size + 1 + 1 + 1, 0, none⟩), .pointer (some ⟨w.heap.size + 1 + 1 + 1 + 1, 0, none⟩)]] 83)] w 1 _ rfl) rfl
    have u1 : ((((((w.alloc (.cells #[.int .u8 k, .string t, .int .i64 q, .slice B l.length cap] 35)).alloc (.cells #[.slice SA sg.length sc, .slice PA pr.length pc] 69)).alloc (.cells #[.string m] 28)).alloc (.cells #[.int .i64 after] 3)).alloc (.cells #[.int .i64 age] 3)).alloc (.cells #[.func (.func 56) #[] #[.pointer (some ⟨w.heap.size + 1, 0, none⟩), .pointer (some ⟨w.heap.size + 1 + 1, 0, none⟩), .pointer (some ⟨w.heap.size + 1 + 1 + 1, 0, none⟩), .pointer (some ⟨w.heap.size + 1 + 1 + 1 + 1, 0, none⟩)]] 83)).cell? ⟨w.heap.size + 1, 1, none⟩ = some (.slice PA pr.length pc) := cell_of (j := 1) (allocs_at [(.cells #[.int .u8 k, .string t, .int .i64 q, .slice B l.length cap] 35), (.cells #[.slice SA sg.length sc, .slice PA pr.length pc] 69), (.cells #[.string m] 28), (.cells #[.int .i64 after] 3), (.cells #[.int .i64 age] 3), (.cells #[.func (.func 56) #[] #[.pointer (some ⟨w.heap.size + 1, 0, none⟩), .pointer (some ⟨w.heap.size + 1 + 1, 0, none⟩), .pointer (some ⟨w.heap.size + 1 + 1 + 1, 0, none⟩), .pointer (some ⟨w.heap.size + 1 + 1 + 1 + 1, 0, none⟩)]] 83)] w 1 _ rfl) rfl
    have m0 : ((((((w.alloc (.cells #[.int .u8 k, .string t, .int .i64 q, .slice B l.length cap] 35)).alloc (.cells #[.slice SA sg.length sc, .slice PA pr.length pc] 69)).alloc (.cells #[.string m] 28)).alloc (.cells #[.int .i64 after] 3)).alloc (.cells #[.int .i64 age] 3)).alloc (.cells #[.func (.func 56) #[] #[.pointer (some ⟨w.heap.size + 1, 0, none⟩), .pointer (some ⟨w.heap.size + 1 + 1, 0, none⟩), .pointer (some ⟨w.heap.size + 1 + 1 + 1, 0, none⟩), .pointer (some ⟨w.heap.size + 1 + 1 + 1 + 1, 0, none⟩)]] 83)).cell? ⟨w.heap.size + 1 + 1, 0, none⟩ = some (.string m) := cell_of (j := 0) (allocs_at [(.cells #[.int .u8 k, .string t, .int .i64 q, .slice B l.length cap] 35), (.cells #[.slice SA sg.length sc, .slice PA pr.length pc] 69), (.cells #[.string m] 28), (.cells #[.int .i64 after] 3), (.cells #[.int .i64 age] 3), (.cells #[.func (.func 56) #[] #[.pointer (some ⟨w.heap.size + 1, 0, none⟩), .pointer (some ⟨w.heap.size + 1 + 1, 0, none⟩), .pointer (some ⟨w.heap.size + 1 + 1 + 1, 0, none⟩), .pointer (some ⟨w.heap.size + 1 + 1 + 1 + 1, 0, none⟩)]] 83)] w 2 _ rfl) rfl
    have a0 : ((((((w.alloc (.cells #[.int .u8 k, .string t, .int .i64 q, .slice B l.length cap] 35)).alloc (.cells #[.slice SA sg.length sc, .slice PA pr.length pc] 69)).alloc (.cells #[.string m] 28)).alloc (.cells #[.int .i64 after] 3)).alloc (.cells #[.int .i64 age] 3)).alloc (.cells #[.func (.func 56) #[] #[.pointer (some ⟨w.heap.size + 1, 0, none⟩), .pointer (some ⟨w.heap.size + 1 + 1, 0, none⟩), .pointer (some ⟨w.heap.size + 1 + 1 + 1, 0, none⟩), .pointer (some ⟨w.heap.size + 1 + 1 + 1 + 1, 0, none⟩)]] 83)).cell? ⟨w.heap.size + 1 + 1 + 1, 0, none⟩ = some (.int .i64 after) := cell_of (j := 0) (allocs_at [(.cells #[.int .u8 k, .string t, .int .i64 q, .slice B l.length cap] 35), (.cells #[.slice SA sg.length sc, .slice PA pr.length pc] 69), (.cells #[.string m] 28), (.cells #[.int .i64 after] 3), (.cells #[.int .i64 age] 3), (.cells #[.func (.func 56) #[] #[.pointer (some ⟨w.heap.size + 1, 0, none⟩), .pointer (some ⟨w.heap.size + 1 + 1, 0, none⟩), .pointer (some ⟨w.heap.size + 1 + 1 + 1, 0, none⟩), .pointer (some ⟨w.heap.size + 1 + 1 + 1 + 1, 0, none⟩)]] 83)] w 3 _ rfl) rfl
    have g0 : ((((((w.alloc (.cells #[.int .u8 k, .string t, .int .i64 q, .slice B l.length cap] 35)).alloc (.cells #[.slice SA sg.length sc, .slice PA pr.length pc] 69)).alloc (.cells #[.string m] 28)).alloc (.cells #[.int .i64 after] 3)).alloc (.cells #[.int .i64 age] 3)).alloc (.cells #[.func (.func 56) #[] #[.pointer (some ⟨w.heap.size + 1, 0, none⟩), .pointer (some ⟨w.heap.size + 1 + 1, 0, none⟩), .pointer (some ⟨w.heap.size + 1 + 1 + 1, 0, none⟩), .pointer (some ⟨w.heap.size + 1 + 1 + 1 + 1, 0, none⟩)]] 83)).cell? ⟨w.heap.size + 1 + 1 + 1 + 1, 0, none⟩ = some (.int .i64 age) := cell_of (j := 0) (allocs_at [(.cells #[.int .u8 k, .string t, .int .i64 q, .slice B l.length cap] 35), (.cells #[.slice SA sg.length sc, .slice PA pr.length pc] 69), (.cells #[.string m] 28), (.cells #[.int .i64 after] 3), (.cells #[.int .i64 age] 3), (.cells #[.func (.func 56) #[] #[.pointer (some ⟨w.heap.size + 1, 0, none⟩), .pointer (some ⟨w.heap.size + 1 + 1, 0, none⟩), .pointer (some ⟨w.heap.size + 1 + 1 + 1, 0, none⟩), .pointer (some ⟨w.heap.size + 1 + 1 + 1 + 1, 0, none⟩)]] 83)] w 4 _ rfl) rfl
    have f0 : ((((((w.alloc (.cells #[.int .u8 k, .string t, .int .i64 q, .slice B l.length cap] 35)).alloc (.cells #[.slice SA sg.length sc, .slice PA pr.length pc] 69)).alloc (.cells #[.string m] 28)).alloc (.cells #[.int .i64 after] 3)).alloc (.cells #[.int .i64 age] 3)).alloc (.cells #[.func (.func 56) #[] #[.pointer (some ⟨w.heap.size + 1, 0, none⟩), .pointer (some ⟨w.heap.size + 1 + 1, 0, none⟩), .pointer (some ⟨w.heap.size + 1 + 1 + 1, 0, none⟩), .pointer (some ⟨w.heap.size + 1 + 1 + 1 + 1, 0, none⟩)]] 83)).cell? ⟨w.heap.size + 1 + 1 + 1 + 1 + 1, 0, none⟩ = some (.func (.func 56) #[] #[.pointer (some ⟨w.heap.size + 1, 0, none⟩), .pointer (some ⟨w.heap.size + 1 + 1, 0, none⟩), .pointer (some ⟨w.heap.size + 1 + 1 + 1, 0, none⟩), .pointer (some ⟨w.heap.size + 1 + 1 + 1 + 1, 0, none⟩)]) := cell_of (j := 0) (allocs_at [(.cells #[.int .u8 k, .string t, .int .i64 q, .slice B l.length cap] 35), (.cells #[.slice SA sg.length sc, .slice PA pr.length pc] 69), (.cells #[.string m] 28), (.cells #[.int .i64 after] 3), (.cells #[.int .i64 age] 3), (.cells #[.func (.func 56) #[] #[.pointer (some ⟨w.heap.size + 1, 0, none⟩), .pointer (some ⟨w.heap.size + 1 + 1, 0, none⟩), .pointer (some ⟨w.heap.size + 1 + 1 + 1, 0, none⟩), .pointer (some ⟨w.heap.size + 1 + 1 + 1 + 1, 0, none⟩)]] 83)] w 5 _ rfl) rfl
    clear hb0 hSA hPA hv hcx hlx hlc hsm hx hH
    go_enter Tryz.func36, Tryz.ntmps36
    go_upto_region 2 with fail
    generalize ((((((w.alloc (.cells #[.int .u8 k, .string t, .int .i64 q, .slice B l.length cap] 35)).alloc (.cells #[.slice SA sg.length sc, .slice PA pr.length pc] 69)).alloc (.cells #[.string m] 28)).alloc (.cells #[.int .i64 after] 3)).alloc (.cells #[.int .i64 age] 3)).alloc (.cells #[.func (.func 56) #[] #[.pointer (some ⟨w.heap.size + 1, 0, none⟩), .pointer (some ⟨w.heap.size + 1 + 1, 0, none⟩), .pointer (some ⟨w.heap.size + 1 + 1 + 1, 0, none⟩), .pointer (some ⟨w.heap.size + 1 + 1 + 1 + 1, 0, none⟩)]] 83)) = V at HB HSA HPA HV HCX HLX c0 c1 c2 c3 u0 u1 m0 a0 g0 f0 ⊢
    have HW1 := Lib.hid (fun (i : Nat) (hi : i < l.length) (cs : List Value) (W : World) (hW : Below V.heap.size V W) (hc : LockC W l[i] cs) => (show Calls Tryz.prog 56 (#[.agg cs.toArray] ++ #[.pointer (some ⟨w.heap.size + 1, 0, none⟩), .pointer (some ⟨w.heap.size + 1 + 1, 0, none⟩), .pointer (some ⟨w.heap.size + 1 + 1 + 1, 0, none⟩), .pointer (some ⟨w.heap.size + 1 + 1 + 1 + 1, 0, none⟩)]) W (fun e w' => e = .returned (.bool (opB (sg.map pbf) (pr.map hsf) after age l[i])) ∧ Below W.heap.size W w') by
      obtain ⟨B', cap', ys, rfl, -, -⟩ := hc.shape
      exact cl1_any _ _ _ B' _ cap' SA PA sg.length sc pr.length pc m after age _ _ _ _ _ W (fun W' hW' => ih l[i] (Nat.le_trans (sizeTs_at i hi) hsz) _ W' (smallTs_at hsm2.2 i hi) (LockC.below hW' _ _ hc) (Cells.below (Cells.below HSA.out hW) hW') (Cells.below (Cells.below HPA.out hW) hW') ((HV.out.below hW).below hW')) (cell_below hW u0) (cell_below hW u1) (cell_below hW m0) (cell_below hW a0) (cell_below hW g0)))
    have HF2 := Lib.hid (has_c2 (fun s => (pbf s).toList == t.toList) sg SA sc w.heap.size (w.heap.size + 1 + 1) V hsl HSA.out (fun i hi W hW => cl2_any sg[i] t m (pbf sg[i]) _ _ W (HV.out.below hW) (hsg _ (List.getElem_mem hi)) (cell_below hW c1) (cell_below hW m0)))
    have HF3 := Lib.hid (has_c3 (fun x => (hsf x).toList == t.toList) pr PA pc w.heap.size V hpl HPA.out (fun i hi W hW => cl3_any pr[i] t (hsf pr[i]) _ W (HV.out.below hW) (hpr _ (List.getElem_mem hi)) (cell_below hW c1)))
    have HF4 := Lib.hid (has_c4 (fun x => !opB (sg.map pbf) (pr.map hsf) after age x) l xs B cap (w.heap.size + 1 + 1 + 1 + 1 + 1) V hsm2.1 HCX.out HLX.out (fun i hi cs W hW hc => by
      obtain ⟨B', cap', ys, rfl, -, -⟩ := hc.shape
      exact cl4_any _ _ _ B' _ cap' _ _ _ _ _ (opB (sg.map pbf) (pr.map hsf) after age l[i]) W (fun W' hW' => HW1.out i hi _ W' (hW.trans (hW'.mono hW.size)) (LockC.below hW' _ _ hc)) (cell_below hW f0)))
    have HF1 := Lib.hid (has_c1 (opB (sg.map pbf) (pr.map hsf) after age) l xs B cap (w.heap.size + 1) (w.heap.size + 1 + 1) (w.heap.size + 1 + 1 + 1) (w.heap.size + 1 + 1 + 1 + 1) V hsm2.1 HCX.out HLX.out (fun i hi cs W hW hc => HW1.out i hi cs W hW hc))
    clear ih hsg hpr HW1
    by_cases hk1 : k = 1
    · subst hk1
      have HE := Lib.hid (show opB (sg.map pbf) (pr.map hsf) after age (.node 1 t q l) = sg.any (fun s => (pbf s).toList == t.toList) by unfold opB; rw [if_pos rfl, List.any_map]; rfl)
      go_wp2_with fail
      refine HF2.out.mono ?_
      rintro e w1 ⟨rfl, hb1⟩
      have HB1 := Lib.hid (HB.out.trans (hb1.mono HB.out.size)); clear hb1
      go_wp2_with fail
      go_ret
      exact ⟨ret_bool HE.out.symm, HB1.out⟩
    by_cases hk2 : k = 2
    · subst hk2
      have HE := Lib.hid (show opB (sg.map pbf) (pr.map hsf) after age (.node 2 t q l) = pr.any (fun x => (hsf x).toList == t.toList) by unfold opB; rw [if_neg (by decide), if_pos rfl, List.any_map]; rfl)
      go_wp2_with fail
      refine HF3.out.mono ?_
      rintro e w1 ⟨rfl, hb1⟩
      have HB1 := Lib.hid (HB.out.trans (hb1.mono HB.out.size)); clear hb1
      go_wp2_with fail
      go_ret
      exact ⟨ret_bool HE.out.symm, HB1.out⟩
    by_cases hk3 : k = 3
    · subst hk3
      have HE := Lib.hid (show opB (sg.map pbf) (pr.map hsf) after age (.node 3 t q l) = decide (q ≤ after) by unfold opB; rw [if_neg (by decide), if_neg (by decide), if_pos rfl])
      go_wp2_with fail
      go_ret
      exact ⟨ret_bool HE.out.symm, HB.out⟩
    by_cases hk4 : k = 4
    · subst hk4
      have HE := Lib.hid (show opB (sg.map pbf) (pr.map hsf) after age (.node 4 t q l) = decide (q ≤ age) by unfold opB; rw [if_neg (by decide), if_neg (by decide), if_neg (by decide), if_pos rfl])
      go_wp2_with fail
      go_ret
      exact ⟨ret_bool HE.out.symm, HB.out⟩
    by_cases hk5 : k = 5
    · subst hk5
      have HE := Lib.hid (show opB (sg.map pbf) (pr.map hsf) after age (.node 5 t q l) = (!l.any fun x => !opB (sg.map pbf) (pr.map hsf) after age x) by rw [opAll_eq]; unfold opB; rw [if_neg (by decide), if_neg (by decide), if_neg (by decide), if_neg (by decide), if_pos rfl])
      go_wp2_with fail
      refine HF4.out.mono ?_
      rintro e w1 ⟨rfl, hb1⟩
      have HB1 := Lib.hid (HB.out.trans (hb1.mono HB.out.size)); clear hb1
      go_wp2_with fail
      go_ret
      exact ⟨ret_bool HE.out.symm, HB1.out⟩
    have HE := Lib.hid (opB_any (ps := sg.map pbf) (hs := pr.map hsf) (after := after) (age := age) (n := q) (t := t) (l := l) hk1 hk2 hk3 hk4 hk5)
    have e1 : (k == 1) = false := beq_false_of_ne hk1
    have e2 : (k == 2) = false := beq_false_of_ne hk2
    have e3 : (k == 3) = false := beq_false_of_ne hk3
    have e4 : (k == 4) = false := beq_false_of_ne hk4
    have e5 : (k == 5) = false := beq_false_of_ne hk5
    go_wp2_with fail
    refine HF1.out.mono ?_
    rintro e w1 ⟨rfl, hb1⟩
    have HB1 := Lib.hid (HB.out.trans (hb1.mono HB.out.size)); clear hb1
    go_wp2_with fail
    go_ret
    exact ⟨ret_bool HE.out.symm, HB1.out⟩
set_option maxRecDepth 100000 in
set_option maxHeartbeats 8000000 in
theorem lopens_any (m : ByteArray) (after age : Int) (sg pr : List ByteArray) (SA PA : Option Addr) (sc pc : Nat) (pbf hsf : ByteArray → ByteArray) (hsg : ∀ s ∈ sg, VerOk s (pbf s) m) (hpr : ∀ x ∈ pr, HashOk x (hsf x)) (hsl : sg.length ≤ 16) (hpl : pr.length ≤ 16)
    (x : LockT) (cs : List Value) (w : World) (hr : lockB x = true) (hsm : smallT x) (hlc : LockC w x cs) (hSA : Cells w SA (strs sg)) (hPA : Cells w PA (strs pr)) (hv : VarsOk w) :
    Calls Tryz.prog 27 #[.agg cs.toArray, .agg #[.slice SA sg.length sc, .slice PA pr.length pc], .string m, .int .i64 after, .int .i64 age] w fun e w' => e = .returned (.bool (opB (sg.map pbf) (pr.map hsf) after age x)) ∧ Below w.heap.size w w' := by
  obtain ⟨B, cap, xs, rfl, hcx, hlx⟩ := hlc.shape
  obtain ⟨k, t, q, l⟩ := x
  simp only [LockT.kind, LockT.term, LockT.n, LockT.kids] at hcx hlx hlc ⊢
  have hb0 : Below w.heap.size w ((w.alloc (.cells #[.int .u8 k, .string t, .int .i64 q, .slice B l.length cap] 35)).alloc (.cells #[.slice SA sg.length sc, .slice PA pr.length pc] 69)) := ((Below.refl w.heap.size w).alloc (Nat.le_refl _) (.cells #[.int .u8 k, .string t, .int .i64 q, .slice B l.length cap] 35)).alloc (by simp) (.cells #[.slice SA sg.length sc, .slice PA pr.length pc] 69)
  have HB := Lib.hid hb0
  have HR := Lib.hid (lright_any (.node k t q l) _ ((w.alloc (.cells #[.int .u8 k, .string t, .int .i64 q, .slice B l.length cap] 35)).alloc (.cells #[.slice SA sg.length sc, .slice PA pr.length pc] 69)) hsm (LockC.below hb0 _ _ hlc) (hv.below hb0))
  rw [hr] at HR
  have HO := Lib.hid (fun W hW => opens_any m after age sg pr SA PA sc pc pbf hsf hsg hpr (by omega) (by omega) _ (.node k t q l) (Nat.le_refl _) _ W hsm (LockC.below hW _ _ (LockC.below hb0 _ _ hlc)) (Cells.below (hSA.below hb0) hW) (Cells.below (hPA.below hb0) hW) ((hv.below hb0).below hW))
  have c0 : ((w.alloc (.cells #[.int .u8 k, .string t, .int .i64 q, .slice B l.length cap] 35)).alloc (.cells #[.slice SA sg.length sc, .slice PA pr.length pc] 69)).cell? ⟨w.heap.size, 0, none⟩ = some (.int .u8 k) := cell_of (j := 0) (allocs_at [(.cells #[.int .u8 k, .string t, .int .i64 q, .slice B l.length cap] 35), (.cells #[.slice SA sg.length sc, .slice PA pr.length pc] 69)] w 0 _ rfl) rfl
  have c1 : ((w.alloc (.cells #[.int .u8 k, .string t, .int .i64 q, .slice B l.length cap] 35)).alloc (.cells #[.slice SA sg.length sc, .slice PA pr.length pc] 69)).cell? ⟨w.heap.size, 1, none⟩ = some (.string t) := cell_of (j := 1) (allocs_at [(.cells #[.int .u8 k, .string t, .int .i64 q, .slice B l.length cap] 35), (.cells #[.slice SA sg.length sc, .slice PA pr.length pc] 69)] w 0 _ rfl) rfl
  have c2 : ((w.alloc (.cells #[.int .u8 k, .string t, .int .i64 q, .slice B l.length cap] 35)).alloc (.cells #[.slice SA sg.length sc, .slice PA pr.length pc] 69)).cell? ⟨w.heap.size, 2, none⟩ = some (.int .i64 q) := cell_of (j := 2) (allocs_at [(.cells #[.int .u8 k, .string t, .int .i64 q, .slice B l.length cap] 35), (.cells #[.slice SA sg.length sc, .slice PA pr.length pc] 69)] w 0 _ rfl) rfl
  have c3 : ((w.alloc (.cells #[.int .u8 k, .string t, .int .i64 q, .slice B l.length cap] 35)).alloc (.cells #[.slice SA sg.length sc, .slice PA pr.length pc] 69)).cell? ⟨w.heap.size, 3, none⟩ = some (.slice B l.length cap) := cell_of (j := 3) (allocs_at [(.cells #[.int .u8 k, .string t, .int .i64 q, .slice B l.length cap] 35), (.cells #[.slice SA sg.length sc, .slice PA pr.length pc] 69)] w 0 _ rfl) rfl
  have u0 : ((w.alloc (.cells #[.int .u8 k, .string t, .int .i64 q, .slice B l.length cap] 35)).alloc (.cells #[.slice SA sg.length sc, .slice PA pr.length pc] 69)).cell? ⟨w.heap.size + 1, 0, none⟩ = some (.slice SA sg.length sc) := cell_of (j := 0) (allocs_at [(.cells #[.int .u8 k, .string t, .int .i64 q, .slice B l.length cap] 35), (.cells #[.slice SA sg.length sc, .slice PA pr.length pc] 69)] w 1 _ rfl) rfl
  have u1 : ((w.alloc (.cells #[.int .u8 k, .string t, .int .i64 q, .slice B l.length cap] 35)).alloc (.cells #[.slice SA sg.length sc, .slice PA pr.length pc] 69)).cell? ⟨w.heap.size + 1, 1, none⟩ = some (.slice PA pr.length pc) := cell_of (j := 1) (allocs_at [(.cells #[.int .u8 k, .string t, .int .i64 q, .slice B l.length cap] 35), (.cells #[.slice SA sg.length sc, .slice PA pr.length pc] 69)] w 1 _ rfl) rfl
  obtain ⟨R, hR⟩ : ∃ R, opB (sg.map pbf) (pr.map hsf) after age (.node k t q l) = R := ⟨_, rfl⟩
  rw [hR] at HO ⊢
  clear hb0 hv hSA hPA hsg hpr hcx hlx hlc hR
  go_enter Tryz.func27, Tryz.ntmps27
  go_wp2_with fail
  generalize ((w.alloc (.cells #[.int .u8 k, .string t, .int .i64 q, .slice B l.length cap] 35)).alloc (.cells #[.slice SA sg.length sc, .slice PA pr.length pc] 69)) = V at HB HR HO c0 c1 c2 c3 u0 u1 ⊢
  have hl1 : (sg.length : Int) ≤ 16 := by omega
  have hl2 : (pr.length : Int) ≤ 16 := by omega
  refine HR.out.mono ?_
  rintro e w1 ⟨rfl, hb1⟩
  have C0 := cell_below hb1 c0
  have C1 := cell_below hb1 c1
  have C2 := cell_below hb1 c2
  have C3 := cell_below hb1 c3
  have U0 := cell_below hb1 u0
  have U1 := cell_below hb1 u1
  have HO1 := Lib.hid (HO.out w1 hb1)
  have HB1 := Lib.hid (HB.out.trans (hb1.mono HB.out.size))
  clear hb1 c0 c1 c2 c3 u0 u1
  go_wp2_with fail
  refine HO1.out.mono ?_
  rintro e w2 ⟨rfl, hb2⟩
  have HB2 := Lib.hid (HB1.out.trans (hb2.mono HB1.out.size)); clear hb2
  go_wp2_with fail
  go_ret
  exact ⟨rfl, HB2.out⟩
end Go.Proofs.YtbiioifpeebjaaaGreatDoor
