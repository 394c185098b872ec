/- Copy. -/
import Derived.Test.YtmlcojhanimnpaaI21
import Derived.Deep.RegionHeld3
namespace Go.Proofs.Ytmlcojhanimnpaa
open Go.RowKit

/-- A ledger that lies in new blocks. -/
def CopyLP (w : World) (s : Led) (e : Ending) (w' : World) : Prop :=
  ∃ p c d v vs, e = .returned (.pointer (some ⟨p, 0, none⟩)) ∧ LedAt w' p c d v vs s ∧ (∀ i ∈ fp p c d v, w.heap.size ≤ i) ∧ Below w.heap.size w w'
theorem copy_fin {w w3 : World} {p c d c2 d2 : Nat} {v v3 : Value} {vs : List Value} {s : Led} {base : Nat} (h : LedAt w p c d v vs s) (hc : SMap w3 c2 (menc encI s.coins)) (hd : SMap w3 d2 (menc encC s.chans)) (hne : c2 ≠ d2) (hcg : w.heap.size ≤ c2) (hdg : w.heap.size ≤ d2)
    (hown : w3.ownsRow base 74 2 v3 s.holds.length vs) (hbase : w.heap.size ≤ base) (hb : Below w.heap.size w w3) :
    CopyLP w s (.returned (.pointer (some ⟨w3.heap.size, 0, none⟩))) (w3.alloc (.cells #[.map (some c2), .map (some d2), v3, .int .i64 s.last] 70)) := by
  have hb' := hb.alloc hb.size (.cells #[.map (some c2), .map (some d2), v3, .int .i64 s.last] 70)
  refine ⟨w3.heap.size, c2, d2, v3, vs, rfl, ⟨Go.heap_alloc_new w3 _, hc.alloc _, hd.alloc _, hne, ownsRow_block (own_zero hown) fun g hg => Go.heap_alloc_old w3 _ (World.ownsRow.lt hown g hg).2, (h.below hb').hv⟩, fun i hi => ?_, hb'⟩
  simp only [fp, List.mem_cons] at hi
  rcases hi with rfl | rfl | rfl | hi
  · exact hb.size
  · exact hcg
  · exact hdg
  · have := (World.ownsRow.lt hown i (by simpa using hi)).1
    omega
theorem LedAt.cell4A {w : World} {p c d : Nat} {v : Value} {vs : List Value} {s : Led} (h : LedAt w p c d v vs s) (o : Obj) : (w.alloc o).cell? ⟨p, 0, none⟩ = some (.map (some c)) ∧ (w.alloc o).cell? ⟨p, 1, none⟩ = some (.map (some d)) ∧ (w.alloc o).cell? ⟨p, 2, none⟩ = some v ∧ (w.alloc o).cell? ⟨p, 3, none⟩ = some (.int .i64 s.last) := (h.alloc o).cell
set_option maxRecDepth 100000 in
set_option maxHeartbeats 4000000 in
theorem copyL_any (p c d : Nat) (v : Value) (vs : List Value) (s : Led) (w : World) (hs : Inv s) (h : LedAt w p c d v vs s) :
    Calls Try.prog 12 #[.pointer (some ⟨p, 0, none⟩)] w (CopyLP w s) := by
  obtain ⟨A, cp, hv, -, hcells⟩ := own_shape h.own
  subst hv
  obtain ⟨e0, e1, e2, e3⟩ := h.cell
  have hlh := hs.lh
  have HLH := Lib.hid (show s.holds.length ≤ 100000 by omega)
  have HVL := Lib.hid h.hv.len
  have HV1 := Lib.hid h.hv.one
  have HCE := Lib.hid hcells
  have H := Lib.hid h
  have HD := Lib.hid (h.below (Below.refl _ _).drew : LedAt w.drew p c d (.slice A s.holds.length cp) vs s)
  have HCD := Lib.hid (show Cells w.drew A vs from hcells)
  clear h hs hcells hlh
  go_enter Try.func12, Try.ntmps12
  go_wp2_with fail
  go_region_held3 (fun w' => w'.cell? ⟨p, 0, none⟩ = some (.map (some c)) ∧ w'.cell? ⟨p, 1, none⟩ = some (.map (some d)) ∧ w'.cell? ⟨p, 2, none⟩ = some (.slice A s.holds.length cp) ∧ w'.cell? ⟨p, 3, none⟩ = some (.int .i64 s.last))
    (first | exact ⟨e0, e1, e2, e3⟩ | exact ⟨m0, m1, m2, m3⟩ | exact (HM.out _) | exact ⟨k0, k1, k2, k3⟩)
    (first
    | (go_at_call 34; refine (copy_any c d s _ ?_ ?_).mono ?_; exact HD.out.mc; exact HD.out.md; rintro e w2 ⟨c2, d2, rfl, hc2, hd2, hcg, hdg, hne, hb2⟩; obtain ⟨k0, k1, k2, k3⟩ := (HD.out.below hb2).cell)
    | (go_at_call 35; refine (cloneHolds vs s.holds.length A cp _ HLH.out HVL.out HV1.out ?_).mono ?_; exact Cells.below HCD.out hb2; rintro e w5 ⟨v5, rfl, hown5, hb5⟩; obtain ⟨A5, c5, rfl, -, -⟩ := own_shape hown5; obtain ⟨m0, m1, m2, m3⟩ := ((HD.out.below hb2).below hb5).cell; have HM := Lib.hid ((HD.out.below hb2).below hb5).cell4A))
  all_goals
    have hsz2 : w.heap.size ≤ w2.heap.size := hb2.size
    have hb25 : Below w.heap.size w w5 := (Below.refl _ _).drew.trans ((⟨hb2.os, hb2.tape, hb2.output, hb2.size, hb2.block⟩ : Below w.heap.size w.drew w2).trans (hb5.mono hsz2))
    have hfin := copy_fin H.out (hc2.block (hb5.block c2 hc2.lt)) (hd2.block (hb5.block d2 hd2.lt)) hne hcg hdg hown5 hsz2 hb25
    have HF := Lib.hid hfin
    clear hfin
    go_wp2_with fail
    go_ret
    exact HF.out
end Go.Proofs.Ytmlcojhanimnpaa
