/- Total, at a ledger that is there. -/
import Derived.Test.YtmlcojhanimnpaaI19
namespace Go.Proofs.Ytmlcojhanimnpaa
open Go.RowKit

theorem tot_any (p c d : Nat) (v : Value) (vs : List Value) (s : Led) (w : World) (hs : Inv s) (h : LedAt w p c d v vs s) :
    Calls Try.prog 20 #[.pointer (some ⟨p, 0, none⟩)] w fun e w' => e = .returned (.int .i64 (total s)) ∧ Below w.heap.size w w' := by
  obtain ⟨e0, e1, -, -⟩ := h.cell
  have H := Lib.hid h
  have HS := Lib.hid hs
  clear h hs
  go_enter Try.func20, Try.ntmps20
  go_wp2_with fail
  refine (total_any c d s _ (mem_pos HS.out) (fun q hq => by have := (mem_ch HS.out q hq).cap; omega) HS.out.tot H.out.mc H.out.md).mono ?_
  rintro e w2 ⟨rfl, hb2⟩
  go_wp2_with fail
  go_ret
  exact ⟨rfl, hb2⟩
end Go.Proofs.Ytmlcojhanimnpaa
