/- refs and sameLegs of the statements. · What Holds tells, with its blocks of legs apart. · Hold, and where the new legs lie. · The two ledgers side by side: what one call of each leaves. -/
import Derived.Test.YtmlcojhanimnpaaQ4
import Derived.BigQuiet
import Derived.Deep.QuietTactic
import Derived.Test.YtmlcojhanimnpaaI23
import Derived.Test.YtmlcojhanimnpaaI19
import Derived.Test.YtmlcojhanimnpaaQ5
namespace Go.Proofs.Ytmlcojhanimnpaa
open Go.RowKit

def RefsP (w : World) (l : List Leg) (e : Ending) (w' : World) : Prop :=
  ∃ A c, e = .returned (.slice A l.length c) ∧ w'.ownsRow w.heap.size 119 3 (.slice A l.length c) l.length (legsC l) ∧ Below w.heap.size w w'
theorem legsC_take_succ (l : List Leg) {k : Nat} (hk : k < l.length) : legsC (l.take (k + 1)) = legsC (l.take k) ++ [.string l[k].ch, .string l[k].src, .int .i64 l[k].amt] := by
  rw [List.take_succ_eq_append_getElem hk]
  unfold legsC
  rw [List.flatMap_append]; rfl
set_option maxRecDepth 100000 in
set_option maxHeartbeats 8000000 in
theorem refs_any (l : List Leg) (A : Option Addr) (c : Nat) (w : World) (hl : l.length ≤ 100000) (hA : LegsIn w A l) :
    Calls Try.prog 55 #[.slice A l.length c] w (RefsP w l) := by
  have HA := Lib.hid hA
  clear hA
  go_enter Try.func55, Try.ntmps55
  go_wp2_with fail
  go_loopw [3, 4] (fun u i wr => ∃ k : Nat, k ≤ l.length ∧ i = .int .i64 k ∧ wr.ownsRow w.heap.size 119 3 u k (legsC (l.take k)) ∧ Below w.heap.size w wr) (fun _ i _ => l.length - (intOf i).toNat)
  case atStart => exact ⟨0, Nat.zero_le _, rfl, World.ownsRow_nil _ _ _ _, Below.refl _ _⟩
  case round =>
    obtain ⟨k, hk, rfl, hown, hb⟩ := hrel
    obtain ⟨Au, cu, hu, -, -⟩ := own_shape hown
    subst hu
    have HOW := Lib.hid hown
    have HBB := Lib.hid hb
    by_cases hlt : k < l.length
    · obtain ⟨la, rfl, l0, l1, l2⟩ := (LegsIn.look (Cells.below HA.out hb) hlt)
      have htk := legsC_take_succ l hlt
      obtain ⟨Y, hY⟩ : ∃ Y, l[k] = Y := ⟨_, rfl⟩
      rw [hY] at l0 l1 l2 htk
      have HTK := Lib.hid htk
      have HN1 := Lib.hid (show (k + 1) * 40 ≤ 140737488355328 by omega)
      have HN2 := Lib.hid (show k + 1 ≤ 140737488355328 by omega)
      clear hown hb hY htk
      go_wp2_with fail
      have HSZ := Lib.hid (show w.heap.size ≤ (wr.alloc (.cells #[.string Y.ch, .string Y.src, .int .i64 Y.amt] 119)).drew.heap.size from Nat.le_trans HBB.out.size (by simp))
      go_region_law (refine step_appk slRLeg rfl (.tmp 11) (.tmp 28) rfl w.heap.size (.slice Au k cu) k (legsC (l.take k)) (by rfl) (by exact own_below HOW.out (((Below.refl _ _).alloc (Nat.le_refl _) _).drew)) (some ⟨wr.heap.size, 0, none⟩) 1 1 [.string Y.ch, .string Y.src, .int .i64 Y.amt] (by rfl) (by rfl) (fun _ => ⟨_, rfl, fun j u hj => World.news_of_block (Go.heap_alloc_new wr _) j u hj⟩) (by simp [Value.oneCell']) HN1.out HN2.out HSZ.out ?_; intro v6 w6 hown6 hg6 hb6 hat6)
      all_goals
        have HO6 := Lib.hid hown6
        have HB6 := Lib.hid hb6
        clear hown6 hg6 hb6 hat6
        go_wp2_with fail
        go_roundw
        case rel => exact ⟨k + 1, by omega, by go_num, by rw [HTK.out]; exact HO6.out, (HBB.out.alloc HBB.out.size _).drew.trans HB6.out⟩
        case measure => simp [intOf]; omega
    · have hke : k = l.length := by omega
      subst hke
      have hfin : RefsP w l (.returned (.slice Au l.length cu)) wr := by
        rw [List.take_length] at hown
        exact ⟨_, _, rfl, hown, hb⟩
      have HF := Lib.hid hfin
      clear hfin hown hb
      go_wp2_with fail
      go_ret
      exact HF.out
set_option maxRecDepth 100000 in
set_option maxHeartbeats 8000000 in
theorem sameLegs_any (l : List Leg) (A B : Option Addr) (c d : Nat) (w : World) (hl : l.length ≤ 100000) (hA : LegsIn w A l) (hB : LegsIn w B l) :
    Calls Try.prog 57 #[.slice A l.length c, .slice B l.length d] w fun e w' => e = .returned (.bool true) ∧ Below w.heap.size w w' := by
  have HA := Lib.hid hA
  have HB := Lib.hid hB
  clear hA hB
  go_enter Try.func57, Try.ntmps57
  go_wp2_with fail
  go_loopw [5] (fun i wr => ∃ k : Nat, k ≤ l.length ∧ i = .int .i64 k ∧ Below w.heap.size w wr) (fun i _ => l.length - (intOf i).toNat)
  case atStart => exact ⟨0, Nat.zero_le _, rfl, Below.refl _ _⟩
  case round =>
    obtain ⟨k, hk, rfl, hb⟩ := hrel
    have HBB := Lib.hid hb
    by_cases hlt : k < l.length
    · obtain ⟨la, rfl, l0, l1, l2⟩ := (LegsIn.look (Cells.below HA.out hb) hlt)
      obtain ⟨lb, rfl, m0, m1, m2⟩ := (LegsIn.look (Cells.below HB.out hb) hlt)
      obtain ⟨Y, hY⟩ : ∃ Y, l[k] = Y := ⟨_, rfl⟩
      rw [hY] at l0 l1 l2 m0 m1 m2
      clear hb hY
      go_wp2_with fail
      go_quiet (fail)
      go_wp2_with fail
      go_roundw
      case rel => exact ⟨k + 1, by omega, by go_num, below_drewN HBB.out _⟩
      case measure => simp [intOf]; omega
    · clear hb
      go_wp2_with fail
      go_ret
      exact ⟨rfl, HBB.out⟩
end Go.Proofs.Ytmlcojhanimnpaa

namespace Go.Proofs.Ytmlcojhanimnpaa
open Go.RowKit

def legBlocks (vs : List Value) : List Nat := vs.filterMap Value.ownBlock
theorem legBlocks_append (a b : List Value) : legBlocks (a ++ b) = legBlocks a ++ legBlocks b := List.filterMap_append
theorem HoldVs.kept2 {w w' : World} : ∀ {l : List HoldR} {vs : List Value}, HoldVs w l vs → (∀ g ∈ legBlocks vs, w'.heap[g]? = w.heap[g]?) → HoldVs w' l vs
  | [], vs, h, _ => h
  | x :: r, vs, h, hk => by
    obtain ⟨A, c, rest, rfl, ho, hr⟩ := h
    refine ⟨A, c, rest, rfl, ownsRow_block ho fun g hg => hk g ?_, HoldVs.kept2 hr fun g hg => hk g ?_⟩
    · unfold legBlocks
      rw [List.mem_filterMap]
      exact ⟨_, List.mem_cons_of_mem _ (List.mem_cons_self ..), hg⟩
    · unfold legBlocks at hg ⊢
      rw [List.mem_filterMap] at hg ⊢
      obtain ⟨u, hu, he⟩ := hg
      exact ⟨u, List.mem_cons_of_mem _ (List.mem_cons_of_mem _ hu), he⟩
/-- Blocks of legs that rise, between two sizes of the heap. -/
structure NB (lo hi : Nat) (us : List Value) : Prop where
  asc : (legBlocks us).Pairwise (· < ·)
  in_ : ∀ g ∈ legBlocks us, lo ≤ g ∧ g < hi
theorem NB.nil (lo hi : Nat) : NB lo hi [] := ⟨List.Pairwise.nil, fun g hg => by cases hg⟩
theorem NB.step {lo hi hi2 : Nat} {us : List Value} {v : Value} {id : Int} (h : NB lo hi us) (hl : lo ≤ hi) (h2 : hi ≤ hi2) (hv : ∀ g, v.ownBlock = some g → hi ≤ g ∧ g < hi2) : NB lo hi2 (us ++ [.int .i64 id, v]) := by
  have e : legBlocks (us ++ [.int .i64 id, v]) = legBlocks us ++ v.ownBlock.toList := by
    rw [legBlocks_append]
    congr 1
  refine ⟨?_, fun g hg => ?_⟩
  · rw [e, List.pairwise_append]
    refine ⟨h.asc, ?_, fun a ha b hb => ?_⟩
    · cases v.ownBlock <;> simp
    · have := h.in_ a ha
      have := hv b (by simpa using hb)
      omega
  · rw [e, List.mem_append] at hg
    rcases hg with hg | hg
    · have := h.in_ g hg; omega
    · have := hv g (by simpa using hg); omega
/-- A row of holds in new blocks, each hold's legs in a block of its own. -/
def HoldsLP2 (w : World) (l : List HoldR) (e : Ending) (w' : World) : Prop :=
  ∃ v vs, e = .returned v ∧ w'.ownsRow w.heap.size 74 2 v l.length vs ∧ HoldVs w' l vs ∧ Below w.heap.size w w' ∧ NB w.heap.size w'.heap.size vs
set_option maxRecDepth 100000 in
set_option maxHeartbeats 4000000 in
theorem holds_any2 (p c d : Nat) (v : Value) (vs : List Value) (s : Led) (w : World) (hs : Inv s) (h : LedAt w p c d v vs s) :
    Calls Try.prog 46 #[.pointer (some ⟨p, 0, none⟩)] w (HoldsLP2 w s.holds) := by
  obtain ⟨A, cp, hv, -, hcells⟩ := own_shape h.own
  subst hv
  obtain ⟨e0, e1, e2, e3⟩ := h.cell
  have hlh := hs.lh
  have HIN : HoldsIn w A s.holds vs := ⟨hcells, h.hv⟩
  have HHI := Lib.hid HIN
  have HS := Lib.hid hs
  clear h hs hcells HIN e0 e1 e3
  go_enter Try.func46, Try.ntmps46
  go_wp2_with fail
  go_loopw [3, 13] (fun u i wr => ∃ (k : Nat) (us : List Value), k ≤ s.holds.length ∧ i = .int .i64 k ∧ wr.ownsRow w.heap.size 74 2 u k us ∧ HoldVs wr (s.holds.take k) us ∧ Below w.heap.size w wr ∧ NB w.heap.size wr.heap.size us) (fun _ i _ => s.holds.length - (intOf i).toNat)
  case atStart => exact ⟨0, [], Nat.zero_le _, rfl, World.ownsRow_nil _ _ _ _, rfl, Below.refl _ _, NB.nil _ _⟩
  case round =>
    obtain ⟨k, us, hk, rfl, hown, hvs, hb, hnb⟩ := hrel
    by_cases hkl : k < s.holds.length
    · obtain ⟨ad, Bl, c', rfl, hc0, hc1, hownl⟩ := (HHI.out.below hb).look hkl
      have hll := HS.out.hl _ (List.getElem_mem hkl)
      obtain ⟨z, hz⟩ : ∃ z, s.holds[k] = z := ⟨_, rfl⟩
      rw [hz] at hc0 hc1 hownl hll
      have htk : s.holds.take (k + 1) = s.holds.take k ++ [⟨z.id, z.legs⟩] := by rw [List.take_succ_eq_append_getElem hkl, hz]
      obtain ⟨Au, cu, hu, -, -⟩ := own_shape hown
      subst hu
      have HOW := Lib.hid hown
      have HVS := Lib.hid hvs
      have HBB := Lib.hid hb
      have HTK := Lib.hid htk
      have hlw : ∀ o, LegsIn (wr.alloc o).drew Bl z.legs := fun o => Cells.alloc (legs_of_own hownl) o
      have HLW := Lib.hid hlw
      have HL1 := Lib.hid (show z.legs.length ≤ 100000 by omega)
      have HN1 := Lib.hid (show (k + 1) * 32 ≤ 140737488355328 by omega)
      have HN2 := Lib.hid (show k + 1 ≤ 140737488355328 by omega)
      have HSZ := Lib.hid hb.size
      have HNB := Lib.hid hnb
      clear hown hvs hb htk hownl hlw hz hnb
      go_wp2_with fail
      have hq0 : (wr.alloc (.cells #[.int .i64 z.id, .slice Bl z.legs.length c'] 74)).drew.cell? ⟨wr.heap.size, 0, none⟩ = some (.int .i64 z.id) := World.news_of_block (cs := #[.int .i64 z.id, .slice Bl z.legs.length c']) (Go.heap_alloc_new wr _) 0 _ rfl
      have HQ0 := Lib.hid hq0
      have hbA : ∀ o, Below wr.heap.size wr (wr.alloc o).drew := fun o => below_drewN ((Below.refl _ _).alloc (Nat.le_refl _) o) 1
      have HBA := Lib.hid hbA
      clear hq0 hbA
      go_region_law (first
        | (refine step_appk slHold rfl (.tmp 17) (.tmp 24) rfl w.heap.size (.slice Au k cu) k us (by rfl) (by exact own_below (own_below HOW.out hb5w) ((Below.refl _ _).alloc (Nat.le_refl _) _)) (some ⟨w5.heap.size, 0, none⟩) 1 1 [.int .i64 z.id, .slice A5 z.legs.length c5] (by rfl) (by rfl) (fun _ => ⟨_, rfl, fun j u hj => World.news_of_block (Go.heap_alloc_new w5 _) j u hj⟩) (by simp [Value.oneCell']) HN1.out HN2.out (by exact hsz5) ?_; intro v6 w6 hown6 hg6 hb6 hat6)
        | (go_simp; go_at_call 37; refine (cloneLegs z.legs Bl c' _ HL1.out ?_).mono ?_; exact HLW.out _; rintro e w5 ⟨A5, c5, rfl, hown5, hb5⟩; have k0 : w5.cell? ⟨wr.heap.size, 0, none⟩ = some (.int .i64 z.id) := cell_below hb5 HQ0.out; have hb5w : Below wr.heap.size wr w5 := (HBA.out _).trans (hb5.mono (HBA.out _).size); have hsz5 : w.heap.size ≤ (w5.alloc (.cells #[.int .i64 z.id, .slice A5 z.legs.length c5] 74)).heap.size := Nat.le_trans (Nat.le_trans HSZ.out hb5w.size) (by simp)))
      all_goals
        have hfin := holds_step (id := z.id) (hv_below HVS.out hb5w) (own_below HOW.out hb5w) hown5 hg6
        have hbf : Below w.heap.size w w6 := (HBB.out.trans (hb5w.mono HSZ.out)).trans (((Below.refl _ _).alloc (Nat.le_trans HSZ.out hb5w.size) _).trans hb6)
        have HNB2 := Lib.hid (HNB.out.step (id := z.id) HSZ.out (hi2 := w6.heap.size) (by have := hb5w.size; have := hg6.size; simp at this; omega) fun g hg => ⟨by have := (World.ownsRow.lt hown5 g hg).1; simp at this; omega, by have := (World.ownsRow.lt hown5 g hg).2; have := hg6.size; simp at this; omega⟩)
        have HF := Lib.hid hfin
        have HBF := Lib.hid hbf
        have HO6 := Lib.hid hown6
        clear hfin hbf hown6
        go_wp2_with fail
        go_roundw
        case rel => exact ⟨k + 1, _, by omega, by go_num, HO6.out, by rw [HTK.out]; exact HF.out, HBF.out, HNB2.out⟩
        case measure => simp [intOf]; omega
    · have hke : k = s.holds.length := by omega
      subst hke
      rw [List.take_length] at hvs
      obtain ⟨Au, cu, hu, -, -⟩ := own_shape hown
      subst hu
      have hfin : ∃ v vs, Ending.returned (.slice Au s.holds.length cu) = .returned v ∧ wr.ownsRow w.heap.size 74 2 v s.holds.length vs ∧ HoldVs wr s.holds vs ∧ Below w.heap.size w wr ∧ NB w.heap.size wr.heap.size vs := ⟨_, us, rfl, hown, hvs, hb, hnb⟩
      have HF := Lib.hid hfin
      clear hfin hown hvs hb hnb
      go_wp2_with fail
      go_ret
      exact HF.out
end Go.Proofs.Ytmlcojhanimnpaa

namespace Go.Proofs.Ytmlcojhanimnpaa
open Go.RowKit

def OpP2 (w : World) (p c d : Nat) (v : Value) (vs : List Value) (s' : Led) (w' : World) : Prop :=
  ∃ c' d' v' vs', LedAt w' p c' d' v' vs' s' ∧ Fr (fp p c d v) w w' ∧ (∀ i ∈ fp p c' d' v', i ∈ fp p c d v ∨ w.heap.size ≤ i) ∧ ∀ g ∈ legBlocks vs', g ∈ legBlocks vs ∨ w.heap.size ≤ g
def HoldP2 (w : World) (p c d : Nat) (v : Value) (vs : List Value) (r : Int × Int × Led) (e : Ending) (w' : World) : Prop :=
  e = .returned (.tuple #[.int .i64 r.1, .int .i64 r.2.1]) ∧ OpP2 w p c d v vs r.2.2 w'
theorem HoldP2.same {w w' : World} {p c d : Nat} {v : Value} {vs : List Value} {s : Led} {n err : Int} (h : LedAt w p c d v vs s) (hb : Below w.heap.size w w') : HoldP2 w p c d v vs (n, err, s) (.returned (.tuple #[.int .i64 n, .int .i64 err])) w' :=
  ⟨rfl, c, d, v, vs, h.below hb, Fr.below hb, fun _ hi => .inl hi, fun _ hi => .inl hi⟩
theorem hold_fin2 {w w5 w6 : World} {p c d c2 d2 : Nat} {v v0 : Value} {vs : List Value} {s : Led} {legs : List Leg} {id : Int} {A5 A6 : Option Addr} {c5 c6 n base : Nat} {o : Obj}
    (F0 : Fr (fp p c d v0) w w5) (L5 : LedAt w5 p c2 d2 v vs s) (hown5 : w5.ownsRow base 45 3 (.slice A5 legs.length c5) legs.length (legsC legs))
    (hown6 : w6.ownsRow 0 74 2 (.slice A6 n c6) n (vs ++ [.int .i64 id, .slice A5 legs.length c5])) (hg6 : (w5.alloc o).grownBy w6 v.ownBlock)
    (hat6 : (Value.slice A6 n c6).ownBlock = v.ownBlock ∨ (Value.slice A6 n c6).ownBlock = some (w5.alloc o).heap.size) (hn : n = s.holds.length + 1)
    (hc2 : w.heap.size ≤ c2) (hd2 : w.heap.size ≤ d2) (hv0 : ∀ g, v.ownBlock = some g → g ∈ fp p c d v0) (hbase : w.heap.size ≤ base) :
    OpP2 w p c d v0 vs { s with holds := s.holds ++ [⟨id, legs⟩] } (w6.setCell ⟨p, 2, none⟩ (.slice A6 n c6)) := by
  have hold5 : ∀ g, g < w5.heap.size → v.ownBlock ≠ some g → w6.heap[g]? = w5.heap[g]? := fun g hg hne => (hg6.block g (by simp; omega) (fun e => hne e.symm)).trans (Go.heap_alloc_old w5 o hg)
  have hpv : v.ownBlock ≠ some p := fun e => by
    obtain ⟨cur, hh⟩ := own_kind L5.own e
    rw [L5.blk] at hh; cases hh
  have hcv : v.ownBlock ≠ some c2 := fun e => by
    obtain ⟨cur, hh⟩ := own_kind L5.own e
    obtain ⟨es, k, hb, -⟩ := L5.mc
    rw [hb] at hh; cases hh
  have hdv : v.ownBlock ≠ some d2 := fun e => by
    obtain ⟨cur, hh⟩ := own_kind L5.own e
    obtain ⟨es, k, hb, -⟩ := L5.md
    rw [hb] at hh; cases hh
  have hcp : c2 ≠ p := by
    rintro rfl
    obtain ⟨es, k, hb, -⟩ := L5.mc
    rw [L5.blk] at hb; cases hb
  have hdp : d2 ≠ p := by
    rintro rfl
    obtain ⟨es, k, hb, -⟩ := L5.md
    rw [L5.blk] at hb; cases hb
  have hlp : p < w5.heap.size := lt_of_block L5.blk
  have hp6 := (hold5 p hlp hpv).trans L5.blk
  have hoth : ∀ g, g ≠ p → (w6.setCell ⟨p, 2, none⟩ (.slice A6 n c6)).heap[g]? = w6.heap[g]? := fun g hg => Below.heap_setCell w6 _ _ g hg
  have hsz6 : w5.heap.size ≤ w6.heap.size := Nat.le_trans (by simp) hg6.size
  refine ⟨c2, d2, .slice A6 n c6, vs ++ [.int .i64 id, .slice A5 legs.length c5], ⟨(setCell_cells hp6 2 _).trans rfl, L5.mc.block ((hoth c2 hcp).trans (hold5 c2 L5.mc.lt hcv)), L5.md.block ((hoth d2 hdp).trans (hold5 d2 L5.md.lt hdv)), L5.ne, ?_, ?_⟩, ?_, ?_, ?_⟩
  · show World.ownsRow _ 0 _ 2 (.slice A6 n c6) (s.holds ++ [(⟨id, legs⟩ : HoldR)]).length _
    rw [List.length_append]
    show World.ownsRow _ 0 _ 2 (.slice A6 n c6) (s.holds.length + 1) _
    rw [← hn]
    refine ownsRow_block hown6 fun g hg => hoth g ?_
    rintro rfl
    obtain ⟨cur, hh⟩ := own_kind hown6 hg
    rw [hp6] at hh; cases hh
  · have hx : HoldVs w5 [⟨id, legs⟩] [.int .i64 id, .slice A5 legs.length c5] := ⟨A5, c5, [], rfl, own_zero hown5, rfl⟩
    have h1 : HoldVs w5 (s.holds ++ [⟨id, legs⟩]) (vs ++ [.int .i64 id, .slice A5 legs.length c5]) := L5.hv.append hx
    refine h1.kept fun g cur hg => ?_
    have hgp : g ≠ p := by
      rintro rfl
      rw [L5.blk] at hg; cases hg
    refine (hoth g hgp).trans (hold5 g (lt_of_block hg) fun e => ?_)
    obtain ⟨cur', hh⟩ := own_kind L5.own e
    rw [hg] at hh
    cases hh
  · have f1 : Fr v.ownBlock.toList w5 w6 := ⟨hg6.os, hg6.tape, hg6.output, hsz6, fun g hg hn => hold5 g hg (fun e => hn (by rw [e]; simp))⟩
    have f2 : Fr [p] w6 (w6.setCell ⟨p, 2, none⟩ (.slice A6 n c6)) := ⟨rfl, rfl, rfl, by simp [World.setCell], fun g _ hg => hoth g (by simpa using hg)⟩
    exact (F0.trans f1 fun i hi _ => hv0 i (by simpa using hi)).trans f2 fun i hi _ => by simp at hi; subst hi; simp [fp]
  · intro g hg
    simp only [fp, List.mem_cons] at hg
    rcases hg with rfl | rfl | rfl | hg
    · exact .inl (by simp [fp])
    · exact .inr hc2
    · exact .inr hd2
    · have hg' : (Value.slice A6 n c6).ownBlock = some g := by simpa using hg
      rcases hat6 with h | h
      · exact .inl (hv0 g (by rw [← h]; exact hg'))
      · rw [h] at hg'
        injection hg' with hg'
        have := F0.size
        exact .inr (by simp at hg'; omega)
  · intro g hg
    have e : legBlocks (vs ++ [.int .i64 id, .slice A5 legs.length c5]) = legBlocks vs ++ (Value.slice A5 legs.length c5).ownBlock.toList := by
      rw [legBlocks_append]
      congr 1
    rw [e, List.mem_append] at hg
    rcases hg with hg | hg
    · exact .inl hg
    · have := (World.ownsRow.lt hown5 g (by simpa using hg)).1
      exact .inr (by omega)
set_option maxRecDepth 100000 in
set_option maxHeartbeats 8000000 in
theorem hold_any2 (p c d : Nat) (v : Value) (vs : List Value) (s : Led) (legs : List Leg) (A : Option Addr) (ca : Nat) (w : World) (hs : Inv s) (h : LedAt w p c d v vs s) (hlast : s.last ≤ 4611686018427387904) (hlen : legs.length ≤ 140737488355328) (hA : LegsIn w A legs) :
    Calls Try.prog 13 #[.pointer (some ⟨p, 0, none⟩), .slice A legs.length ca] w (HoldP2 w p c d v vs (hold s legs)) := by
  obtain ⟨R, hR⟩ : ∃ R, hold s legs = R := ⟨_, rfl⟩
  rw [hR]
  have HR := Lib.hid hR; clear hR
  obtain ⟨A2, cp, hv, -, -⟩ := own_shape h.own
  subst hv
  obtain ⟨e0, e1, e2, e3⟩ := h.cell
  have H := Lib.hid h
  have HS := Lib.hid hs
  have HL := Lib.hid hA
  have l0 := hs.l0
  have hlast' : ¬ 4611686018427387904 < s.last := by omega
  clear hlast
  obtain ⟨n, hn⟩ : ∃ n, legs.length = n := ⟨_, rfl⟩
  rw [hn] at hlen ⊢
  have HN := Lib.hid hn
  by_cases hz : legs.length = 0 ∨ 20 < legs.length
  · have hr : R = (0, 2, s) := by rw [← HR.out]; unfold hold; rw [if_pos hz]
    have HRR := Lib.hid hr
    rcases hz with hz | hz
    · obtain rfl : n = 0 := by omega
      clear h hs hA hr hz hlen hn
      go_enter Try.func13, Try.ntmps13
      go_wp2_with fail
      go_ret2
      rw [HRR.out]
      exact HoldP2.same H.out (Below.refl _ _)
    · have hz1 : ¬ n = 0 := by omega
      have hz3 : ¬ (n : Int) = 0 := by omega
      have hz2 : (20 : Int) < (n : Int) := by omega
      clear h hs hA hr hz hlen hn
      go_enter Try.func13, Try.ntmps13
      go_wp2_with fail
      go_ret2
      rw [HRR.out]
      exact HoldP2.same H.out (Below.refl _ _)
  · have hz1 : ¬ n = 0 := by omega
    have hz3 : ¬ (n : Int) = 0 := by omega
    have hz2 : ¬ (20 : Int) < (n : Int) := by omega
    have hz4 : n ≤ 20 := by omega
    have HZ := Lib.hid hz
    clear h hs hA hlen hz hn
    go_enter Try.func13, Try.ntmps13
    go_wp2_with fail
    refine (copy_any c d s _ H.out.mc H.out.md).mono ?_
    rintro e w1 ⟨c2, d2, rfl, hc2, hd2, hcg, hdg, hne, hb1⟩
    have HC2 := Lib.hid (hc2.alloc (.cells #[.map (some c2), .map (some d2)] 67))
    have HD2 := Lib.hid (hd2.alloc (.cells #[.map (some c2), .map (some d2)] 67))
    have hcl := hc2.lt
    have hdl := hd2.lt
    have HB1 := Lib.hid (hb1.alloc hb1.size (.cells #[.map (some c2), .map (some d2)] 67))
    have HNE := Lib.hid hne
    clear e0 e1 e2 e3 hc2 hd2 hb1 hne
    go_wp2_with fail
    go_loopw [29] (fun q wr => ∃ k : Nat, k ≤ n ∧ q = .int .i64 k ∧ (takeAll s.chans (legs.take k)).1 = 0 ∧ SMap wr c2 (menc encI s.coins) ∧ SMap wr d2 (menc encC (takeAll s.chans (legs.take k)).2) ∧ Below w.heap.size w wr ∧ wr.heap[w1.heap.size]? = some (.cells #[.map (some c2), .map (some d2)] 67)) (fun q _ => n - (intOf q).toNat)
    case atStart => exact ⟨0, Nat.zero_le _, rfl, rfl, HC2.out, HD2.out, HB1.out, Go.heap_alloc_new w1 _⟩
    case round =>
      obtain ⟨k, hk, rfl, htk, hmc, hmd, hbr, hbx⟩ := hrel
      have HTK := Lib.hid htk
      have HMC := Lib.hid hmc
      have HMD := Lib.hid hmd
      have HBR := Lib.hid hbr
      have HBX := Lib.hid hbx
      by_cases hkn : k < n
      · have hkl : k < legs.length := by rw [HN.out]; exact hkn
        obtain ⟨Y, hY⟩ : ∃ Y, legs[k] = Y := ⟨_, rfl⟩
        have hLr : LegsIn wr A legs := Cells.below HL.out hbr
        obtain ⟨la, rfl, l1, l2, l3⟩ := hLr.look hkl
        clear hLr
        rw [hY] at l1 l2 l3
        have hst := takeAll_step hkl htk
        rw [hY] at hst
        have hbd : ∀ k', mget (takeAll s.chans (legs.take k)).2 Y.ch = some k' → k'.hasA ≤ maxMoney ∧ k'.hasB ≤ maxMoney := fun k' hk' => take_bound HS.out htk hk'
        have HST := Lib.hid hst
        have HBD := Lib.hid hbd
        have b0 : ∀ o, (wr.alloc o).cell? ⟨w1.heap.size, 0, none⟩ = some (.map (some c2)) := fun o => cell_below ((Below.refl _ _).alloc (Nat.le_refl _) o) (by simp [World.cell?, hbx])
        have b1 : ∀ o, (wr.alloc o).cell? ⟨w1.heap.size, 1, none⟩ = some (.map (some d2)) := fun o => cell_below ((Below.refl _ _).alloc (Nat.le_refl _) o) (by simp [World.cell?, hbx])
        clear hst hbd htk hmc hmd hbr hbx hY
        go_wp2_with fail
        refine (take_any c2 d2 (takeAll s.chans (legs.take k)).2 Y _ (HMD.out.alloc _) HBD.out).mono ?_
        rintro e w2 ⟨rfl, hmd2, hg2⟩
        have hmc2 : SMap w2 c2 (menc encI s.coins) := (HMC.out.alloc _).block (hg2.block c2 (HMC.out.alloc _).lt (by intro e; injection e with e; exact HNE.out e))
        have hb2 : Below w.heap.size w w2 := (HBR.out.alloc HBR.out.size _).grown hg2 (by have := HBR.out.size; simp; omega) (fun j hj => by injection hj with hj; omega)
        have hbx2 : w2.heap[w1.heap.size]? = some (.cells #[.map (some c2), .map (some d2)] 67) := (hg2.block _ (by have := lt_of_block HBX.out; simp; omega) (by intro e; injection e with e; omega)).trans ((Go.heap_alloc_old wr _ (lt_of_block HBX.out)).trans HBX.out)
        have HMD2 := Lib.hid hmd2
        have HMC2 := Lib.hid hmc2
        have HB2 := Lib.hid hb2
        have HBX2 := Lib.hid hbx2
        obtain ⟨er, her⟩ : ∃ er, (take1 (takeAll s.chans (legs.take k)).2 Y).1 = er := ⟨_, rfl⟩
        rw [her]
        have HER := Lib.hid her
        clear hmd2 hg2 hmc2 hb2 hbx2 her b0 b1 l1 l2 l3
        by_cases he0 : er = 0
        · subst he0
          go_wp2_with fail
          go_roundw
          case rel =>
            obtain ⟨g1, g2⟩ := HST.out.1 HER.out
            exact ⟨k + 1, by omega, by go_num, g1, HMC2.out, by rw [g2]; exact HMD2.out, HB2.out, HBX2.out⟩
          case measure => simp [intOf]; omega
        · go_wp2_with fail
          go_ret2
          have hr : R = (0, er, s) := by
            have h1 := HST.out.2 (by rw [HER.out]; exact he0)
            rw [HER.out] at h1
            rw [← HR.out]; unfold hold; rw [if_neg HZ.out, if_pos (by rw [h1]; exact he0), h1]
          rw [hr]
          exact HoldP2.same H.out HB2.out
      · have hke : k = n := by omega
        subst hke
        have htk2 : (takeAll s.chans legs).1 = 0 := by rw [← HN.out, List.take_length] at htk; exact htk
        have hmd2 : SMap wr d2 (menc encC (takeAll s.chans legs).2) := by rw [← HN.out, List.take_length] at hmd; exact hmd
        have L := H.out.below hbr
        obtain ⟨e0, e1, e2, e3⟩ := L.cell
        have f0 := L.free 0
        have f1 := L.free 1
        have f2 := L.free 2
        have f3 := L.free 3
        have b0 : wr.cell? ⟨w1.heap.size, 0, none⟩ = some (.map (some c2)) := by simp [World.cell?, hbx]
        have b1 : wr.cell? ⟨w1.heap.size, 1, none⟩ = some (.map (some d2)) := by simp [World.cell?, hbx]
        have LR := Lib.hid L
        have HTK2 := Lib.hid htk2
        have HMD2 := Lib.hid hmd2
        clear L htk htk2 hmd hmd2 hmc hbr hbx
        by_cases h256 : 256 ≤ s.holds.length
        · have h256I : (256 : Int) ≤ ((s.holds.length : Nat) : Int) := by omega
          go_wp2_with fail
          go_ret2
          have hr : R = (0, 3, s) := by rw [← HR.out]; unfold hold; rw [if_neg HZ.out, if_neg (by rw [HTK2.out]; simp), if_pos h256]
          rw [hr]
          exact HoldP2.same H.out HBR.out
        · have h256I : ¬ (256 : Int) ≤ ((s.holds.length : Nat) : Int) := by omega
          go_upto_region 17 with fail
          have hcp : c2 ≠ p := by have := lt_of_block H.out.blk; omega
          have hdp : d2 ≠ p := by have := lt_of_block H.out.blk; omega
          have L3 : LedAt (held3 wr p c2 d2 (s.last + 1)) p c2 d2 (.slice A2 s.holds.length cp) vs { s with chans := (takeAll s.chans legs).2, last := s.last + 1 } := LR.out.held HMC.out HMD2.out HNE.out hcp hdp
          have F3 : Fr (fp p c d (.slice A2 s.holds.length cp)) w (held3 wr p c2 d2 (s.last + 1)) := (Fr.below HBR.out).trans (held3_fr wr p c2 d2 (s.last + 1)) fun i hi _ => by simp at hi; subst hi; simp [fp]
          have hsz3 : w.heap.size ≤ (held3 wr p c2 d2 (s.last + 1)).heap.size := F3.size
          have hlr : LegsIn wr A legs := Cells.below HL.out HBR.out
          have hl3 : LegsIn (held3 wr p c2 d2 (s.last + 1)) A legs := legs_held3 hlr (legs_apart LR.out hlr (by rw [HN.out]; omega))
          generalize hW : held3 wr p c2 d2 (s.last + 1) = W at L3 F3 hsz3 hl3
          unfold held3 at hW
          rw [hW]
          clear hW
          have hcon : Calls Try.prog 37 #[.slice A k ca] W.drew (LegsP W.drew legs) := by
            have h1 := cloneLegs legs A ca W.drew (by rw [HN.out]; omega) hl3
            rw [HN.out] at h1
            exact h1
          have LD : LedAt W.drew p c2 d2 (.slice A2 s.holds.length cp) vs { s with chans := (takeAll s.chans legs).2, last := s.last + 1 } := L3.below (Below.refl _ _).drew
          have k2 := L3.cell.2.2.1
          have k3 := L3.cell.2.2.2
          have HCON := Lib.hid hcon
          have HLD := Lib.hid LD
          have HF3 := Lib.hid F3
          have hb1' : (s.holds.length + 1) * 32 ≤ 140737488355328 := by omega
          have hb2' : s.holds.length + 1 ≤ 140737488355328 := by omega
          have HBB1 := Lib.hid hb1'
          have HBB2 := Lib.hid hb2'
          clear e0 e1 e2 e3 f0 f1 f2 f3 b0 b1 hlr hl3 hcon LD F3 L3 hb1' hb2'
          have hr : R = (s.last + 1, 0, { s with chans := (takeAll s.chans legs).2, holds := s.holds ++ [⟨s.last + 1, legs⟩], last := s.last + 1 }) := by
            rw [← HR.out]; unfold hold; rw [if_neg HZ.out, if_neg (by rw [HTK2.out]; simp), if_neg h256]
          have HRR := Lib.hid hr
          clear hr
          go_region_law (first
            | (refine step_appk slHold rfl (.tmp 61) (.tmp 69) rfl 0 (.slice A2 s.holds.length cp) s.holds.length vs (by rfl) (by exact ((HLD.out.below hb5).alloc _).own) (some ⟨w5.heap.size, 0, none⟩) 1 1 [.int .i64 (s.last + 1), .slice A5 legs.length c5] (by rfl) (by rfl) (fun _ => ⟨_, rfl, fun j u hj => World.news_of_block (Go.heap_alloc_new w5 _) j u hj⟩) (by simp [Value.oneCell']) HBB1.out HBB2.out (Nat.zero_le _) ?_; intro v6 w6 hown6 hg6 hb6 hat6; obtain ⟨A6, c6, rfl, -, -⟩ := own_shape hown6; obtain ⟨d5, d6, d7⟩ := hold_keep (HLD.out.below hb5) hg6)
            | (go_simp; go_at_call 37; refine HCON.out.mono ?_; rintro e w5 ⟨A5, c5, rfl, hown5, hb5⟩; have k25 : w5.cell? ⟨p, 2, none⟩ = some (.slice A2 s.holds.length cp) := (HLD.out.below hb5).cell.2.2.1; have k25A : ∀ o, (w5.alloc o).cell? ⟨p, 2, none⟩ = some (.slice A2 s.holds.length cp) := (HLD.out.below hb5).cellA.2.2.1; have k35 : w5.cell? ⟨p, 3, none⟩ = some (.int .i64 (s.last + 1)) := (HLD.out.below hb5).cell.2.2.2))
          all_goals
            have F5 : Fr (fp p c d (.slice A2 s.holds.length cp)) w w5 := HF3.out.trans (Fr.below (F := []) ⟨hb5.os, hb5.tape, hb5.output, hb5.size, hb5.block⟩) fun i hi _ => by cases hi
            have HF5 := Lib.hid F5
            have HO5 := Lib.hid hown5
            have HO6 := Lib.hid hown6
            have HG6 := Lib.hid hg6
            have HAT := Lib.hid hat6
            clear F5 hown5 hown6 hg6 hat6
            go_wp2_with fail
            go_ret2
            rw [HRR.out]
            exact ⟨rfl, hold_fin2 HF5.out (HLD.out.below hb5) HO5.out HO6.out HG6.out HAT.out rfl hcg hdg (fun g hg => by simp [fp, hg]) HF3.out.size⟩
end Go.Proofs.Ytmlcojhanimnpaa

namespace Go.Proofs.Ytmlcojhanimnpaa
open Go.RowKit

theorem fp_kind {w : World} {p c d : Nat} {v : Value} {vs : List Value} {s : Led} (h : LedAt w p c d v vs s) : ∀ i ∈ fp p c d v, (∃ es k, w.heap[i]? = some (.map es k)) ∨ (∃ cs, w.heap[i]? = some (.cells cs 70 (0, 0))) ∨ ∃ cs, w.heap[i]? = some (.cells cs 74 (0, 0)) := by
  intro i hi
  simp only [fp, List.mem_cons] at hi
  rcases hi with rfl | rfl | rfl | hi
  · exact .inr (.inl ⟨_, h.blk⟩)
  · obtain ⟨es, k, hb, -⟩ := h.mc
    exact .inl ⟨es, k, hb⟩
  · obtain ⟨es, k, hb, -⟩ := h.md
    exact .inl ⟨es, k, hb⟩
  · obtain ⟨cs, hh⟩ := own_kind h.own (show v.ownBlock = some i by simpa using hi)
    exact .inr (.inr ⟨cs, hh⟩)
theorem fpR_kind {w : World} {p : Nat} {va vc vh : Value} {vs : List Value} {A : List (ByteArray × Int)} {C : List Chan} {H : List HoldR} {n : Int} (h : RAt w p va vc vh vs A C H n) : ∀ i ∈ fpR p va vc vh, ∃ cs T, w.heap[i]? = some (.cells cs T (0, 0)) ∧ (T = 55 ∨ T = 94 ∨ T = 95 ∨ T = 97) := by
  intro i hi
  simp only [fpR, List.mem_cons, List.mem_append] at hi
  rcases hi with rfl | hi | hi | hi
  · exact ⟨_, _, h.blk, .inl rfl⟩
  · obtain ⟨c, hc⟩ := row_kind h.oa (show va.ownBlock = some i by simpa using hi)
    exact ⟨_, _, hc, .inr (.inl rfl)⟩
  · obtain ⟨c, hc⟩ := row_kind h.oc (show vc.ownBlock = some i by simpa using hi)
    exact ⟨_, _, hc, .inr (.inr (.inl rfl))⟩
  · obtain ⟨c, hc⟩ := row_kind h.oh (show vh.ownBlock = some i by simpa using hi)
    exact ⟨_, _, hc, .inr (.inr (.inr rfl))⟩
theorem led_not_rled {w : World} {p c d q : Nat} {v va vc vh : Value} {vs us : List Value} {s : Led} {A : List (ByteArray × Int)} {C : List Chan} {H : List HoldR} {n : Int} (hl : LedAt w p c d v vs s) (hm : RAt w q va vc vh us A C H n) : ∀ i ∈ fp p c d v, i ∉ fpR q va vc vh := by
  intro i hi hj
  obtain ⟨cs, T, hc, hT⟩ := fpR_kind hm i hj
  rcases fp_kind hl i hi with ⟨es, k, h⟩ | ⟨cs', h⟩ | ⟨cs', h⟩
  · rw [hc] at h; cases h
  · rw [hc] at h
    injection h with h
    injection h with h1 h2
    subst h2
    rcases hT with h | h | h | h <;> exact absurd h (by decide)
  · rw [hc] at h
    injection h with h
    injection h with h1 h2
    subst h2
    rcases hT with h | h | h | h <;> exact absurd h (by decide)
theorem RAt.led {w w' : World} {p c d q : Nat} {v va vc vh : Value} {vs us : List Value} {s : Led} {A : List (ByteArray × Int)} {C : List Chan} {H : List HoldR} {n : Int} (hm : RAt w q va vc vh us A C H n) (hl : LedAt w p c d v vs s) (hf : Fr (fp p c d v) w w') : RAt w' q va vc vh us A C H n :=
  hm.kept (fun i hi => hf.block i (hm.lts i hi) fun h => led_not_rled hl hm i h hi) fun g cur hg => hf.block g (lt_of_block hg) fun h => by
    rcases fp_kind hl g h with ⟨es, k, h1⟩ | ⟨cs', h1⟩ | ⟨cs', h1⟩
    · rw [hg] at h1; cases h1
    · rw [hg] at h1
      injection h1 with h1
      injection h1 with h1 h2
      exact absurd h2 (by decide)
    · rw [hg] at h1
      injection h1 with h1
      injection h1 with h1 h2
      exact absurd h2 (by decide)
theorem LedAt.rled {w w' : World} {p c d q : Nat} {v va vc vh : Value} {vs us : List Value} {s : Led} {A : List (ByteArray × Int)} {C : List Chan} {H : List HoldR} {n : Int} (hl : LedAt w p c d v vs s) (hm : RAt w q va vc vh us A C H n) (hf : Fr (fpR q va vc vh) w w') : LedAt w' p c d v vs s := by
  refine hl.kept (fun i hi => hf.block i ?_ fun h => led_not_rled hl hm i hi h) fun g cur hg => hf.block g (lt_of_block hg) fun h => ?_
  · rcases fp_kind hl i hi with ⟨es, k, h1⟩ | ⟨cs', h1⟩ | ⟨cs', h1⟩
    · exact (Array.getElem?_eq_some_iff.1 h1).1
    · exact lt_of_block h1
    · exact lt_of_block h1
  · obtain ⟨cs, T, hc, hT⟩ := fpR_kind hm g h
    rw [hg] at hc
    injection hc with h1
    injection h1 with h1 h2
    subst h2
    rcases hT with h | h | h | h <;> exact absurd h (by decide)
def fpB (p c d : Nat) (v : Value) (q : Nat) (va vc vh : Value) : List Nat := fp p c d v ++ fpR q va vc vh
/-- What a call of both ledgers leaves. -/
def BothP (w : World) (p c d : Nat) (v : Value) (q : Nat) (va vc vh : Value) (s' : Led) (w' : World) : Prop :=
  ∃ c' d' v' vs' va' vc' vh' us', LedAt w' p c' d' v' vs' s' ∧ RLed w' q va' vc' vh' us' s' ∧ Fr (fpB p c d v q va vc vh) w w' ∧ ∀ i ∈ fpB p c' d' v' q va' vc' vh', i ∈ fpB p c d v q va vc vh ∨ w.heap.size ≤ i
theorem both_op {w w1 w2 : World} {p c d q : Nat} {v va vc vh : Value} {vs us : List Value} {s s' : Led} {err err2 : Int} {e e2 : Ending} (hl : LedAt w p c d v vs s) (hm : RLed w q va vc vh us s) (h1 : OpP w p c d v err s' e w1) (h2 : ROp w1 q va vc vh err2 s' e2 w2) : BothP w p c d v q va vc vh s' w2 := by
  obtain ⟨-, c', d', v', vs', hl', hf, hn⟩ := h1
  have hm1 : RAt w1 q va vc vh us (accs s) (chs s) s.holds s.last := RAt.led hm hl hf
  obtain ⟨-, va', vc', vh', us', hm', hf2, hn2⟩ := h2
  refine ⟨c', d', v', vs', va', vc', vh', us', hl'.rled hm1 hf2, hm', ?_, fun i hi => ?_⟩
  · refine ⟨hf2.os.trans hf.os, hf2.tape.trans hf.tape, hf2.output.trans hf.output, Nat.le_trans hf.size hf2.size, fun i hi hn => ?_⟩
    unfold fpB at hn
    rw [List.mem_append] at hn
    exact (hf2.block i (Nat.lt_of_lt_of_le hi hf.size) fun h => hn (.inr h)).trans (hf.block i hi fun h => hn (.inl h))
  · unfold fpB at hi ⊢
    rw [List.mem_append] at hi ⊢
    rcases hi with hi | hi
    · rcases hn i hi with h | h
      · exact .inl (.inl h)
      · exact .inr h
    · rcases hn2 i hi with h | h
      · exact .inl (.inr h)
      · exact .inr (Nat.le_trans hf.size h)
theorem both_same {w w' : World} {p c d q : Nat} {v va vc vh : Value} {vs us : List Value} {s : Led} (hl : LedAt w p c d v vs s) (hm : RLed w q va vc vh us s) (hb : Below w.heap.size w w') : BothP w p c d v q va vc vh s w' :=
  ⟨c, d, v, vs, va, vc, vh, us, hl.below hb, RAt.below hm hb, Fr.below hb, fun _ hi => .inl hi⟩
theorem BothP.after {w w1 w' : World} {p c d q : Nat} {v va vc vh : Value} {s' : Led} (hb : Below w.heap.size w w1) (h : BothP w1 p c d v q va vc vh s' w') : BothP w p c d v q va vc vh s' w' := by
  obtain ⟨a1, a2, a3, a4, a5, a6, a7, a8, h1, h2, h3, h4⟩ := h
  exact ⟨a1, a2, a3, a4, a5, a6, a7, a8, h1, h2, (Fr.below hb).trans h3 fun i hi _ => hi, fun i hi => (h4 i hi).imp id fun h => Nat.le_trans hb.size h⟩
end Go.Proofs.Ytmlcojhanimnpaa
