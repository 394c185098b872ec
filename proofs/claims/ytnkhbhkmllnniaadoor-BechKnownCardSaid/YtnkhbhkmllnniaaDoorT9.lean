/- Bits at every argument: BitsRes. -/
import Derived.Test.YtnkhbhkmllnniaaDoorT8
namespace Go.Proofs.YtnkhbhkmllnniaaDoor
open Go.RowKit Bech

set_option maxHeartbeats 1000000 in
theorem bits_bad (l : List UInt8) (A : Option Addr) (c : Nat) (f t : Int) (pad : Bool) (w : World) (h : f < 1 ∨ 8 < f ∨ t < 1 ∨ 8 < t) :
    Calls Tryd.prog 14 #[.slice A l.length c, .int .i64 f, .int .i64 t, .bool pad] w (BitsPost l f t pad w) := by
  have hfin : BitsRes l f t pad [] 2 := .inl ⟨h, rfl, rfl⟩
  have HF := Lib.hid hfin; clear hfin
  by_cases h1 : f < 1
  · go_enter Tryd.func14, Tryd.ntmps14
    go_wp2_with fail
    go_ret2
    exact ⟨_, [], 2, rfl, HF.out, Own1.nil _ _ _, Below.refl _ _⟩
  by_cases h2 : 8 < f
  · go_enter Tryd.func14, Tryd.ntmps14
    go_wp2_with fail
    go_ret2
    exact ⟨_, [], 2, rfl, HF.out, Own1.nil _ _ _, Below.refl _ _⟩
  by_cases h3 : t < 1
  · go_enter Tryd.func14, Tryd.ntmps14
    go_wp2_with fail
    go_ret2
    exact ⟨_, [], 2, rfl, HF.out, Own1.nil _ _ _, Below.refl _ _⟩
  have h4 : 8 < t := by omega
  go_enter Tryd.func14, Tryd.ntmps14
  go_wp2_with fail
  go_ret2
  exact ⟨_, [], 2, rfl, HF.out, Own1.nil _ _ _, Below.refl _ _⟩

theorem bits_any (l : List UInt8) (A : Option Addr) (c : Nat) (f t : Int) (pad : Bool) (w : World) (hl : l.length ≤ 1000000) (hA : Cells w A (bv l)) :
    Calls Tryd.prog 14 #[.slice A l.length c, .int .i64 f, .int .i64 t, .bool pad] w (BitsPost l f t pad w) := by
  by_cases h : f < 1 ∨ 8 < f ∨ t < 1 ∨ 8 < t
  · exact bits_bad l A c f t pad w h
  · have hf : f = ((f.toNat : Nat) : Int) := by omega
    have ht : t = ((t.toNat : Nat) : Int) := by omega
    rw [hf, ht]
    exact bits_good l A c f.toNat t.toNat pad w hl hA (by omega) (by omega) (by omega) (by omega)
end Go.Proofs.YtnkhbhkmllnniaaDoor
