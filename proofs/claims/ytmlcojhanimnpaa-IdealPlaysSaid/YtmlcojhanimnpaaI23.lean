/- Holds: what is told of all holds. -/
import Derived.Test.YtmlcojhanimnpaaI22
import Derived.Deep.RegionLaw
namespace Go.Proofs.Ytmlcojhanimnpaa
open Go.RowKit

/-- A row of holds in new blocks. -/
def HoldsLP (w : World) (l : List HoldR) (e : Ending) (w' : World) : Prop :=
  ∃ v vs, e = .returned v ∧ w'.ownsRow w.heap.size 74 2 v l.length vs ∧ HoldVs w' l vs ∧ Below w.heap.size w w'
theorem own_below {w w' : World} {base : Nat} {E : TypeId} {k : Nat} {v : Value} {n : Nat} {xs : List Value} (h : w.ownsRow base E k v n xs) (hb : Below w.heap.size w w') : w'.ownsRow base E k v n xs :=
  ownsRow_block h fun g hg => hb.block g (World.ownsRow.lt h g hg).2
theorem hv_below {w w' : World} {l : List HoldR} {vs : List Value} (h : HoldVs w l vs) (hb : Below w.heap.size w w') : HoldVs w' l vs := h.kept fun g _ hg => hb.block g (lt_of_block hg)
theorem own_kind' {w : World} {base : Nat} {v : Value} {n : Nat} {xs : List Value} (h : w.ownsRow base 74 2 v n xs) {g : Nat} (hg : v.ownBlock = some g) : ∃ cur, w.heap[g]? = some (.cells cur 74 (0, 0)) := own_kind (own_zero h) hg
theorem holds_step {w5 w6 : World} {l : List HoldR} {vs : List Value} {v : Value} {k base base2 : Nat} {legs : List Leg} {id : Int} {A5 : Option Addr} {c5 : Nat} {o : Obj}
    (hv : HoldVs w5 l vs) (hown : w5.ownsRow base 74 2 v k vs) (hown5 : w5.ownsRow base2 45 3 (.slice A5 legs.length c5) legs.length (legsC legs)) (hg6 : (w5.alloc o).grownBy w6 v.ownBlock) :
    HoldVs w6 (l ++ [⟨id, legs⟩]) (vs ++ [.int .i64 id, .slice A5 legs.length c5]) := by
  have hx : HoldVs w5 [⟨id, legs⟩] [.int .i64 id, .slice A5 legs.length c5] := ⟨A5, c5, [], rfl, own_zero hown5, rfl⟩
  refine (hv.append hx).kept fun g cur hg => ?_
  refine (hg6.block g (by have := lt_of_block hg; simp; omega) fun e => ?_).trans (Go.heap_alloc_old w5 o (lt_of_block hg))
  obtain ⟨cur', hh⟩ := own_kind' hown e.symm
  rw [hg] at hh
  cases hh
set_option maxRecDepth 100000 in
set_option maxHeartbeats 4000000 in
theorem holds_any (p c d : Nat) (v : Value) (vs : List Value) (s : Led) (w : World) (hs : Inv s) (h : LedAt w p c d v vs s) :
    Calls Try.prog 46 #[.pointer (some ⟨p, 0, none⟩)] w (HoldsLP w s.holds) := by
  obtain ⟨A, cp, hv, -, hcells⟩ := own_shape h.own
  subst hv
  obtain ⟨e0, e1, e2, e3⟩ := h.cell
  have hlh := hs.lh
  have HIN : HoldsIn w A s.holds vs := ⟨hcells, h.hv⟩
  have HHI := Lib.hid HIN
  have HS := Lib.hid hs
  clear h hs hcells HIN e0 e1 e3
  go_enter Try.func46, Try.ntmps46
  go_wp2_with fail
  go_loopw [3, 13] (fun u i wr => ∃ (k : Nat) (us : List Value), k ≤ s.holds.length ∧ i = .int .i64 k ∧ wr.ownsRow w.heap.size 74 2 u k us ∧ HoldVs wr (s.holds.take k) us ∧ Below w.heap.size w wr) (fun _ i _ => s.holds.length - (intOf i).toNat)
  case atStart => exact ⟨0, [], Nat.zero_le _, rfl, World.ownsRow_nil _ _ _ _, rfl, Below.refl _ _⟩
  case round =>
    obtain ⟨k, us, hk, rfl, hown, hvs, hb⟩ := hrel
    by_cases hkl : k < s.holds.length
    · obtain ⟨ad, Bl, c', rfl, hc0, hc1, hownl⟩ := (HHI.out.below hb).look hkl
      have hll := HS.out.hl _ (List.getElem_mem hkl)
      obtain ⟨z, hz⟩ : ∃ z, s.holds[k] = z := ⟨_, rfl⟩
      rw [hz] at hc0 hc1 hownl hll
      have htk : s.holds.take (k + 1) = s.holds.take k ++ [⟨z.id, z.legs⟩] := by rw [List.take_succ_eq_append_getElem hkl, hz]
      obtain ⟨Au, cu, hu, -, -⟩ := own_shape hown
      subst hu
      have HOW := Lib.hid hown
      have HVS := Lib.hid hvs
      have HBB := Lib.hid hb
      have HTK := Lib.hid htk
      have hlw : ∀ o, LegsIn (wr.alloc o).drew Bl z.legs := fun o => Cells.alloc (legs_of_own hownl) o
      have HLW := Lib.hid hlw
      have HL1 := Lib.hid (show z.legs.length ≤ 100000 by omega)
      have HN1 := Lib.hid (show (k + 1) * 32 ≤ 140737488355328 by omega)
      have HN2 := Lib.hid (show k + 1 ≤ 140737488355328 by omega)
      have HSZ := Lib.hid hb.size
      clear hown hvs hb htk hownl hlw hz
      go_wp2_with fail
      have hq0 : (wr.alloc (.cells #[.int .i64 z.id, .slice Bl z.legs.length c'] 74)).drew.cell? ⟨wr.heap.size, 0, none⟩ = some (.int .i64 z.id) := World.news_of_block (cs := #[.int .i64 z.id, .slice Bl z.legs.length c']) (Go.heap_alloc_new wr _) 0 _ rfl
      have HQ0 := Lib.hid hq0
      have hbA : ∀ o, Below wr.heap.size wr (wr.alloc o).drew := fun o => below_drewN ((Below.refl _ _).alloc (Nat.le_refl _) o) 1
      have HBA := Lib.hid hbA
      clear hq0 hbA
      go_region_law (first
        | (refine step_appk slHold rfl (.tmp 17) (.tmp 24) rfl w.heap.size (.slice Au k cu) k us (by rfl) (by exact own_below (own_below HOW.out hb5w) ((Below.refl _ _).alloc (Nat.le_refl _) _)) (some ⟨w5.heap.size, 0, none⟩) 1 1 [.int .i64 z.id, .slice A5 z.legs.length c5] (by rfl) (by rfl) (fun _ => ⟨_, rfl, fun j u hj => World.news_of_block (Go.heap_alloc_new w5 _) j u hj⟩) (by simp [Value.oneCell']) HN1.out HN2.out (by exact hsz5) ?_; intro v6 w6 hown6 hg6 hb6 hat6)
        | (go_simp; go_at_call 37; refine (cloneLegs z.legs Bl c' _ HL1.out ?_).mono ?_; exact HLW.out _; rintro e w5 ⟨A5, c5, rfl, hown5, hb5⟩; have k0 : w5.cell? ⟨wr.heap.size, 0, none⟩ = some (.int .i64 z.id) := cell_below hb5 HQ0.out; have hb5w : Below wr.heap.size wr w5 := (HBA.out _).trans (hb5.mono (HBA.out _).size); have hsz5 : w.heap.size ≤ (w5.alloc (.cells #[.int .i64 z.id, .slice A5 z.legs.length c5] 74)).heap.size := Nat.le_trans (Nat.le_trans HSZ.out hb5w.size) (by simp)))
      all_goals
        have hfin := holds_step (id := z.id) (hv_below HVS.out hb5w) (own_below HOW.out hb5w) hown5 hg6
        have hbf : Below w.heap.size w w6 := (HBB.out.trans (hb5w.mono HSZ.out)).trans (((Below.refl _ _).alloc (Nat.le_trans HSZ.out hb5w.size) _).trans hb6)
        have HF := Lib.hid hfin
        have HBF := Lib.hid hbf
        have HO6 := Lib.hid hown6
        clear hfin hbf hown6
        go_wp2_with fail
        go_roundw
        case rel => exact ⟨k + 1, _, by omega, by go_num, HO6.out, by rw [HTK.out]; exact HF.out, HBF.out⟩
        case measure => simp [intOf]; omega
    · have hke : k = s.holds.length := by omega
      subst hke
      rw [List.take_length] at hvs
      obtain ⟨Au, cu, hu, -, -⟩ := own_shape hown
      subst hu
      have hfin : ∃ v vs, Ending.returned (.slice Au s.holds.length cu) = .returned v ∧ wr.ownsRow w.heap.size 74 2 v s.holds.length vs ∧ HoldVs wr s.holds vs ∧ Below w.heap.size w wr := ⟨_, us, rfl, hown, hvs, hb⟩
      have HF := Lib.hid hfin
      clear hfin hown hvs hb
      go_wp2_with fail
      go_ret
      exact HF.out
end Go.Proofs.Ytmlcojhanimnpaa
