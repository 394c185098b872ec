/- The end of a hold: settled. -/
import Derived.Test.YtmlcojhanimnpaaI14
import Derived.Deep.RegionHeld3
import Derived.Deep.CutRange
import Derived.IntWalk
namespace Go.Proofs.Ytmlcojhanimnpaa
open Go.RowKit

theorem cells_drop {w : World} {ad : Addr} {xs : List Value} (h : Cells w (some ad) xs) (k : Nat) : Cells w (some (ad.add k)) (xs.drop k) := fun hn => by
  obtain ⟨ad', e, hc⟩ := h (by rw [List.length_drop] at hn; omega)
  injection e with e
  subst e
  refine ⟨_, rfl, fun j u hj => ?_⟩
  rw [List.getElem?_drop] at hj
  have h1 := hc (k + j) u hj
  have h2 : (ad.add k).add j = ad.add (k + j) := by
    unfold Addr.add
    by_cases hk : k = 0
    · subst hk; simp
    · by_cases hj0 : j = 0
      · subst hj0; simp
      · rw [if_neg hk, if_neg hj0, if_neg (by omega)]; simp; omega
  rw [h2]; exact h1
theorem end_fin {w w1 wr w4 : World} {p c d : Nat} {ad : Addr} {cp : Nat} {vs : List Value} {s : Led} {C : List (ByteArray × Chan)} {i n : Nat} {o : Obj} {A4 : Option Addr} {c4 : Nat}
    (hb1 : Below w.heap.size w w1) (H : LedAt w p c d (.slice (some ad) s.holds.length cp) vs s) (HG : w1.grownBy wr (some d)) (L : LedAt wr p c d (.slice (some ad) s.holds.length cp) vs { s with chans := C }) (hi : i < s.holds.length)
    (hb4 : Below (wr.alloc o).drew.heap.size (wr.alloc o).drew w4) (hown : w4.ownsRow (wr.alloc o).drew.heap.size 74 2 (.slice A4 n c4) n (vs.take (i * 2) ++ vs.drop ((i + 1) * 2))) (hn : n = s.holds.length - 1) :
    OpP w p c d (.slice (some ad) s.holds.length cp) 0 { s with chans := C, holds := s.holds.eraseIdx i } (.returned (.int .i64 0)) (w4.setCell ⟨p, 2, none⟩ (.slice A4 n c4)) := by
  have hsz : (wr.alloc o).drew.heap.size = wr.heap.size + 1 := by simp
  have hb45 : Below wr.heap.size wr w4 := (((Below.refl _ _).alloc (Nat.le_refl _) o).drew).trans (hb4.mono (by omega))
  have L4 := L.below hb45
  have hp : p < wr.heap.size := lt_of_block L.blk
  have hoth : ∀ g, g ≠ p → (w4.setCell ⟨p, 2, none⟩ (.slice A4 n c4)).heap[g]? = w4.heap[g]? := fun g hg => Below.heap_setCell w4 _ _ g hg
  have hcp : c ≠ p := by
    rintro rfl
    obtain ⟨es, k, hb, -⟩ := L4.mc
    rw [L4.blk] at hb; cases hb
  have hdp : d ≠ p := by
    rintro rfl
    obtain ⟨es, k, hb, -⟩ := L4.md
    rw [L4.blk] at hb; cases hb
  have hle : s.holds.eraseIdx i = s.holds.take i ++ s.holds.drop (i + 1) := List.eraseIdx_eq_take_drop_succ ..
  have hlen : (s.holds.eraseIdx i).length = n := by rw [List.length_eraseIdx_of_lt hi, hn]
  have hblk : ∀ g, (Value.slice A4 n c4).ownBlock = some g → wr.heap.size + 1 ≤ g := fun g hg => by
    have := (World.ownsRow.lt hown g hg).1
    omega
  have hszw : w.heap.size ≤ wr.heap.size := Nat.le_trans hb1.size HG.size
  refine ⟨rfl, c, d, .slice A4 n c4, vs.take (i * 2) ++ vs.drop ((i + 1) * 2), ⟨(setCell_cells L4.blk 2 _).trans rfl, L4.mc.block (hoth c hcp), L4.md.block (hoth d hdp), L4.ne, ?_, ?_⟩, ?_, ?_⟩
  · show World.ownsRow _ 0 _ 2 (.slice A4 n c4) (s.holds.eraseIdx i).length _
    rw [hlen]
    refine ownsRow_block ⟨hown.1, ?_⟩ fun g hg => hoth g (by have := hblk g hg; omega)
    rcases hown.2 with h0 | ⟨g, cap, cur, hv, -, hr⟩
    · exact .inl h0
    · exact .inr ⟨g, cap, cur, hv, Nat.zero_le _, hr⟩
  · show HoldVs _ (s.holds.eraseIdx i) _
    rw [hle]
    refine ((L4.hv.take i).append (L4.hv.drop (i + 1))).kept fun g cur hg => hoth g ?_
    rintro rfl
    rw [L4.blk] at hg; cases hg
  · have f1 : Fr (fp p c d (.slice (some ad) s.holds.length cp)) w wr := (Fr.below hb1).trans (Fr.grown (F := [d]) HG fun k hk _ => by injection hk with hk; subst hk; simp) fun i hi _ => by simp at hi; subst hi; simp [fp]
    have f2 : Fr [p] w4 (w4.setCell ⟨p, 2, none⟩ (.slice A4 n c4)) := ⟨rfl, rfl, rfl, by simp [World.setCell], fun g _ hg => hoth g (by simpa using hg)⟩
    exact (f1.trans (Fr.below (F := []) hb45) fun i hi _ => by cases hi).trans f2 fun i hi _ => by simp at hi; subst hi; simp [fp]
  · intro g hg
    simp only [fp, List.mem_cons] at hg
    rcases hg with rfl | rfl | rfl | hg
    · exact .inl (by simp [fp])
    · exact .inl (by simp [fp])
    · exact .inl (by simp [fp])
    · have := hblk g (by simpa using hg)
      exact .inr (by omega)
theorem frozen_below {w w' : World} {B : Nat} {g j : Nat} {v : Value} (hb : Below B w w') (hB : B = w.heap.size) (h : w.cell? ⟨g, j, none⟩ = some v) : w'.frozen? ⟨g, j, none⟩ = w.frozen? ⟨g, j, none⟩ := by
  subst hB
  have h1 := hb.block g (cell_lt h)
  simp [World.frozen?, h1]
set_option maxRecDepth 100000 in
set_option maxHeartbeats 8000000 in
theorem endS (p c d : Nat) (v : Value) (vs : List Value) (s : Led) (id : Int) (w : World) (hs : Inv s) (h : LedAt w p c d v vs s) :
    Calls Try.prog 38 #[.pointer (some ⟨p, 0, none⟩), .int .i64 id, .func (.func 39) #[] #[]] w (OpP w p c d v (endH true s id).1 (endH true s id).2) := by
  obtain ⟨R, hR⟩ : ∃ R, endH true s id = R := ⟨_, rfl⟩
  rw [hR]
  have HR := Lib.hid hR; clear hR
  obtain ⟨A, cp, hv, hcp, hcells⟩ := own_shape h.own
  subst hv
  obtain ⟨e0, e1, e2, -⟩ := h.cellA
  have HIN : HoldsIn w A s.holds vs := ⟨hcells, h.hv⟩
  have HHI := Lib.hid HIN
  have H := Lib.hid h
  have HS := Lib.hid hs
  have hl := hs.lh
  clear h hs HIN hcells
  have hcl : (w.alloc (.cells #[.int .i64 id] 2)).cell? ⟨w.heap.size, 0, none⟩ = some (.int .i64 id) := World.news_of_block (cs := #[.int .i64 id]) (Go.heap_alloc_new w _) 0 _ rfl
  go_enter Try.func38, Try.ntmps38
  go_wp2_with fail
  refine (idxHoldsE w.heap.size (fun x => x.id == id) s.holds vs A cp _ (by omega) (HHI.out.below ((Below.refl _ _).alloc (Nat.le_refl _) _)) (fun k hk B c' W hb hB => end1_any s.holds[k] B c' _ w.heap.size id W (cell_below hb hcl))).mono ?_
  rintro e w1 ⟨rfl, hb1⟩
  have HB1 := Lib.hid (((Below.refl _ _).alloc (Nat.le_refl _) _).trans (hb1.mono (by simp)) : Below w.heap.size w w1)
  have H1 := Lib.hid (H.out.below HB1.out)
  clear hb1 hcl e0 e1 e2
  obtain ⟨pl, hpl⟩ : ∃ pl, s.holds.findIdx? (fun x => x.id == id) = pl := ⟨_, rfl⟩
  have HPL := Lib.hid hpl
  cases pl with
  | none =>
    have hi : idx (fun x : HoldR => x.id == id) s.holds = -1 := by unfold idx; rw [hpl]
    rw [hi]
    clear hi hpl
    go_wp2_with fail
    go_ret
    have hr : R = (5, s) := by rw [← HR.out]; unfold endH placeOf; rw [HPL.out]
    rw [hr]
    exact OpP.same H.out HB1.out
  | some i =>
    have hi : idx (fun x : HoldR => x.id == id) s.holds = i := by unfold idx; rw [hpl]
    rw [hi]
    have hlt : i < s.holds.length := (List.findIdx?_eq_some_iff_getElem.1 hpl).1
    obtain ⟨x, hx⟩ : ∃ x, s.holds[i] = x := ⟨_, rfl⟩
    have hxm : x ∈ s.holds := by rw [← hx]; exact List.getElem_mem hlt
    have hr : R = (0, { s with chans := giveAll true s.chans x.legs, holds := s.holds.eraseIdx i }) := by
      rw [← HR.out]; unfold endH placeOf; rw [HPL.out]; simp only []; rw [List.getElem?_eq_getElem hlt, hx]; rfl
    have hll := HS.out.hl x hxm
    obtain ⟨d0, d1, d2, -⟩ := H1.out.cell
    obtain ⟨B, cb, hv0, hv1, hown⟩ := H1.out.hv.at_ i hlt
    rw [hx] at hv0 hv1 hown
    have hlen := H1.out.hv.len
    have hcb : x.legs.length ≤ cb := by
      obtain ⟨A', c'', hv', hle, -⟩ := own_shape hown
      injection hv' with h1 h2 h3
      omega
    obtain ⟨A', c'', hv', -, hcells1⟩ := own_shape H1.out.own
    injection hv' with hv'1 hv'2 hv'3
    subst hv'1
    obtain ⟨ad, rfl, hcc⟩ := hcells1 (by rw [hlen]; omega)
    have f0 : w1.cell? (ad.add (i * 2)) = some (.int .i64 x.id) := hcc _ _ hv0
    have f1 : w1.cell? ⟨(ad.add (i * 2)).block, (ad.add (i * 2)).off + 1, none⟩ = some (.slice B x.legs.length cb) := by rw [next_add _ _ _ (by decide)]; exact hcc _ _ hv1
    have HXM := Lib.hid hxm
    have HX := Lib.hid hx
    have HRR := Lib.hid hr
    have HV1 := Lib.hid hv1
    have HOWN := Lib.hid hown
    clear hi hpl hx hxm hr hv0 hv1 hown hcc hv'2 hv'3 hlen hcells1
    go_wp2_with fail
    go_loopg [30] x.legs.length (fun m q wr => ∃ k : Nat, m + k = x.legs.length ∧ q = .int .i64 k ∧ LedAt wr p c d (.slice (some ad) s.holds.length cp) vs { s with chans := giveAll true s.chans (x.legs.take k) } ∧ w1.grownBy wr (some d))
    case atStart => exact ⟨0, rfl, rfl, H1.out, World.grownBy.refl _ _⟩
    case round =>
      obtain ⟨k, hk, rfl, hled, hgr⟩ := hrel
      have HK := Lib.hid hk
      have HLED := Lib.hid hled
      have HGR := Lib.hid hgr
      clear d0 d1 d2 f0 f1
      by_cases hkl : k < x.legs.length
      · obtain ⟨cc, n, hget, hhas, hne, hn0, hm0, hm1, hlo, hstep⟩ := give_step HS.out true HXM.out k hkl
        obtain ⟨Y, hY⟩ : ∃ Y, x.legs[k] = Y := ⟨_, rfl⟩
        rw [hY] at hget hhas hm0 hm1 hlo hstep
        have hL : LegsIn wr B x.legs := by
          obtain ⟨B', cb', -, hv1', hown'⟩ := hled.hv.at_ i hlt
          rw [HX.out] at hv1' hown'
          rw [HV1.out] at hv1'
          injection hv1' with hv1'
          injection hv1' with h1 h2 h3
          subst h1; subst h3
          exact legs_of_own hown'
        obtain ⟨la, rfl, l0, l1, l2⟩ := hL.look hkl
        rw [hY] at l0 l1 l2
        obtain ⟨j, hj, hside, hcj, hput⟩ := has_cell (wr.heap.size + 1) hhas
        unfold maxMoney at hm1
        have hm1' : ¬ 2100000000000000000 < n + Y.amt := by omega
        have hn1' : ¬ 2100000000000000000 < n := by omega
        have ha1' : ¬ 2100000000000000000 < Y.amt := by omega
        have a1 : ∀ o, (wr.alloc o).cell? ⟨p, 1, none⟩ = some (.map (some d)) := hled.cellA.2.1
        have hlk : ∀ o, (Instr.lookup 65 (.map (some d)) (.string Y.ch) false).run Try.prog (wr.alloc o).drew = .ok (.agg #[.string cc.name, .string cc.a, .string cc.b, .int .i64 cc.cap, .int .i64 cc.hasA, .int .i64 cc.hasB]) (wr.alloc o).drew := by
          intro o
          have h1 := look_chans (SMap.drew (hled.md.alloc o)) Y.ch false
          rw [hget] at h1
          exact h1
        have a1b : ∀ o o2, ((wr.alloc o).alloc o2).cell? ⟨p, 1, none⟩ = some (.map (some d)) := fun o o2 => (hled.alloc o).cellA.2.1 o2
        have hlk2 : ∀ o o2, (Instr.lookup 65 (.map (some d)) (.string Y.ch) false).run Try.prog ((wr.alloc o).alloc o2).drew = .ok (.agg #[.string cc.name, .string cc.a, .string cc.b, .int .i64 cc.cap, .int .i64 cc.hasA, .int .i64 cc.hasB]) ((wr.alloc o).alloc o2).drew := by
          intro o o2
          have h1 := look_chans (SMap.drew ((hled.md.alloc o).alloc o2)) Y.ch false
          rw [hget] at h1
          exact h1
        have HCJ := Lib.hid hcj
        have HPUT := Lib.hid hput
        have HSIDE := Lib.hid hside
        have HSTEP := Lib.hid hstep
        have HY := Lib.hid hY
        have HHAS := Lib.hid hhas
        clear hcj hput hside hstep hY hhas hm1 hled hgr hget hL
        go_wp2_with fail
        go_region
        clear hlk hlk2 a1 a1b l0 l1 l2
        generalize hW : ((wr.alloc (.cells #[.string Y.ch, .string Y.src, .int .i64 Y.amt] 45)).alloc (.cells #[.string cc.name, .string cc.a, .string cc.b, .int .i64 cc.cap, .int .i64 cc.hasA, .int .i64 cc.hasB] 87)).drew = W
        have hg9 : W.heap[wr.heap.size]? = some (.cells #[.string Y.ch, .string Y.src, .int .i64 Y.amt] 45) := by rw [← hW]; exact alloc2_old wr _ _
        have hg10 : W.heap[wr.heap.size + 1]? = some (.cells #[.string cc.name, .string cc.a, .string cc.b, .int .i64 cc.cap, .int .i64 cc.hasA, .int .i64 cc.hasB] 87) := by rw [← hW]; exact alloc2_new wr _ _
        have hbW : Below wr.heap.size wr W := by rw [← hW]; exact below_drewN (((Below.refl _ _).alloc (Nat.le_refl _) _).alloc (by simp) _) 1
        clear hW
        have q0 : W.cell? ⟨wr.heap.size, 0, none⟩ = some (.string Y.ch) := by simp [World.cell?, hg9]
        have q1 : W.cell? ⟨wr.heap.size, 1, none⟩ = some (.string Y.src) := by simp [World.cell?, hg9]
        have q2 : W.cell? ⟨wr.heap.size, 2, none⟩ = some (.int .i64 Y.amt) := by simp [World.cell?, hg9]
        have r1 : W.cell? ⟨wr.heap.size + 1, 1, none⟩ = some (.string cc.a) := by simp [World.cell?, hg10]
        have r2 : W.cell? ⟨wr.heap.size + 1, 2, none⟩ = some (.string cc.b) := by simp [World.cell?, hg10]
        have rj : W.cell? ⟨wr.heap.size + 1, j, none⟩ = some (.int .i64 n) := by simp only [World.cell?, hg10]; exact HCJ.out
        have rf : W.frozen? ⟨wr.heap.size + 1, j, none⟩ = false := by simp [World.frozen?, hg10]
        have hwr : IntKind.i64.wrap (n + Y.amt) = n + Y.amt := IntWalk.i64_in _ (by omega)
        have HG9 := Lib.hid hg9
        have HG10 := Lib.hid hg10
        have HBW := Lib.hid hbW
        clear hg9 hg10 hbW
        go_upto_region 10 with fail
        go_cut [30] from 30 to 60 (fun q wx => q = .int .i64 k ∧ ∃ w2, Below W.heap.size W w2 ∧ wx = w2.setCell ⟨wr.heap.size + 1, j, none⟩ (.int .i64 (n + Y.amt)))
        case first =>
          go_region_with
            (first
              | (go_at_call 39; refine (settle1_any (wr.heap.size + 1) cc Y _ ?_ ?_).mono ?_; exact r1; exact r2; rintro e w2 ⟨rfl, hb2⟩; have q22 : w2.cell? ⟨wr.heap.size, 2, none⟩ = some (.int .i64 Y.amt) := cell_below hb2 q2; have rj2 : w2.cell? ⟨wr.heap.size + 1, j, none⟩ = some (.int .i64 n) := cell_below hb2 rj; have rf2 : w2.frozen? ⟨wr.heap.size + 1, j, none⟩ = false := (frozen_below hb2 rfl rj).trans rf)
              | (go_at_call 70; refine (side_any (wr.heap.size + 1) cc (toSide true cc Y) _ ?_ ?_).mono ?_; exact cell_below hb2 r1; exact cell_below hb2 r2; rintro e w3 ⟨rfl, rfl⟩; rw [HSIDE.out]))
          all_goals (go_wp2_with fail; go_meet; exact ⟨rfl, w2, ⟨hb2.os, hb2.tape, hb2.output, hb2.size, hb2.block⟩, rfl⟩)
        case rest =>
          obtain ⟨rfl, w2, hb2, rfl⟩ := hcut
          clear q0 q1 q2 r1 r2 rj rf hwr
          have hszW : wr.heap.size ≤ W.heap.size := HBW.out.size
          have hg9 : w2.heap[wr.heap.size]? = some (.cells #[.string Y.ch, .string Y.src, .int .i64 Y.amt] 45) := (hb2.block _ (lt_of_block HG9.out)).trans HG9.out
          have hg10 : w2.heap[wr.heap.size + 1]? = some (.cells #[.string cc.name, .string cc.a, .string cc.b, .int .i64 cc.cap, .int .i64 cc.hasA, .int .i64 cc.hasB] 87) := (hb2.block _ (lt_of_block HG10.out)).trans HG10.out
          have hbb : Below wr.heap.size wr (w2.setCell ⟨wr.heap.size + 1, j, none⟩ (.int .i64 (n + Y.amt))) := (HBW.out.trans (hb2.mono hszW)).setCell (by simp) _
          have hx9 : (w2.setCell ⟨wr.heap.size + 1, j, none⟩ (.int .i64 (n + Y.amt))).heap[wr.heap.size]? = some (.cells #[.string Y.ch, .string Y.src, .int .i64 Y.amt] 45) := (Below.heap_setCell w2 _ _ _ (by simp)).trans hg9
          have hx10 : (w2.setCell ⟨wr.heap.size + 1, j, none⟩ (.int .i64 (n + Y.amt))).heap[wr.heap.size + 1]? = some (.cells #[.string (cc.put (toSide true cc Y) (n + Y.amt)).name, .string (cc.put (toSide true cc Y) (n + Y.amt)).a, .string (cc.put (toSide true cc Y) (n + Y.amt)).b, .int .i64 (cc.put (toSide true cc Y) (n + Y.amt)).cap, .int .i64 (cc.put (toSide true cc Y) (n + Y.amt)).hasA, .int .i64 (cc.put (toSide true cc Y) (n + Y.amt)).hasB] 87) := by
            rw [setCell_cells hg10 j _, HPUT.out]
          generalize w2.setCell ⟨wr.heap.size + 1, j, none⟩ (.int .i64 (n + Y.amt)) = W2 at hbb hx9 hx10 ⊢
          generalize cc.put (toSide true cc Y) (n + Y.amt) = c2 at hx10 HSTEP
          have L2 := HLED.out.below hbb
          obtain ⟨-, a1, -, -⟩ := L2.cell
          have y0 : W2.cell? ⟨wr.heap.size, 0, none⟩ = some (.string Y.ch) := by simp [World.cell?, hx9]
          have z0 : W2.cell? ⟨wr.heap.size + 1, 0, none⟩ = some (.string c2.name) := by simp [World.cell?, hx10]
          have z1 : W2.cell? ⟨wr.heap.size + 1, 1, none⟩ = some (.string c2.a) := by simp [World.cell?, hx10]
          have z2 : W2.cell? ⟨wr.heap.size + 1, 2, none⟩ = some (.string c2.b) := by simp [World.cell?, hx10]
          have z3 : W2.cell? ⟨wr.heap.size + 1, 3, none⟩ = some (.int .i64 c2.cap) := by simp [World.cell?, hx10]
          have z4 : W2.cell? ⟨wr.heap.size + 1, 4, none⟩ = some (.int .i64 c2.hasA) := by simp [World.cell?, hx10]
          have z5 : W2.cell? ⟨wr.heap.size + 1, 5, none⟩ = some (.int .i64 c2.hasB) := by simp [World.cell?, hx10]
          obtain ⟨w3, hup, hm3, hg3⟩ := (SMap.drew L2.md).upd Try.underlying65 Try.underlying9 Y.ch (encC c2)
          rw [mset_menc] at hm3
          have hg3' : W2.grownBy w3 (some d) := ⟨hg3.os, hg3.tape, hg3.output, hg3.size, hg3.block⟩
          have hup' : (Instr.mapUpdate 65 (.map (some d)) (.string Y.ch) (.agg #[.string c2.name, .string c2.a, .string c2.b, .int .i64 c2.cap, .int .i64 c2.hasA, .int .i64 c2.hasB])).run Try.prog W2.drew = .ok () w3 := hup
          have L3 : LedAt w3 p c d (.slice (some ad) s.holds.length cp) vs { s with chans := giveAll true s.chans (x.legs.take (k + 1)) } := by
            have h1 := L2.chans hm3 hg3'
            rw [HSTEP.out]
            exact h1
          have G3 : w1.grownBy w3 (some d) := (HGR.out.andThen (grown_of_below hbb (some d)) (fun _ hj => .inr hj)).andThen hg3' (fun _ hj => .inr hj)
          have HL3 := Lib.hid L3
          have HG3 := Lib.hid G3
          clear hg9 hg10 hbb hx9 hx10 L2 hm3 hg3 hg3' hup L3 G3 hb2 hszW
          go_wp2_with fail
          go_region
          go_wp2_with fail
          go_roundg (x.legs.length - (k + 1))
          case measure => have := HK.out; omega
          case rel => exact ⟨k + 1, by omega, by go_num, HL3.out, HG3.out⟩
      · have hke : k = x.legs.length := by have := HK.out; omega
        subst hke
        have hll2 : x.legs.take x.legs.length = x.legs := List.take_length
        rw [hll2] at hled
        have L := Lib.hid hled
        obtain ⟨d0, d1, d2, -⟩ := hled.cell
        have hi0 : (0 : Int) ≤ (i : Int) := by omega
        have hi1 : (i : Int) ≤ (cp : Int) := by omega
        have hi2 : (i : Int) + 1 ≤ (s.holds.length : Int) := by omega
        have hi3 : (s.holds.length : Int) ≤ (cp : Int) := by omega
        have hi4 : (i : Int) + 1 ≤ (cp : Int) := by omega
        have hi5 : (0 : Int) ≤ (i : Int) + 1 := by omega
        have hi6 : ((i : Int) + 1).toNat = i + 1 := by omega
        clear hled hk hll2
        have hlen := L.out.hv.len
        obtain ⟨A2, c2, hv2, -, hcells2⟩ := own_shape L.out.own
        injection hv2 with hv21 hv22 hv23
        subst hv21
        clear hv22 hv23
        have hcells3 : ∀ o, Cells (wr.alloc o).drew (some ad) vs := fun o => Cells.alloc hcells2 o
        have hct : ∀ o, Cells (wr.alloc o).drew (some ad) (vs.take (i * 2)) := fun o => (hcells3 o).take _
        have hcd : ∀ o, Cells (wr.alloc o).drew (some (ad.add ((i + 1) * 2))) (vs.drop ((i + 1) * 2)) := fun o => cells_drop (hcells3 o) _
        have hc0 : s.holds.length = i + 1 → vs.drop ((i + 1) * 2) = [] := fun he => List.drop_of_length_le (by rw [hlen]; show s.holds.length * 2 ≤ _; omega)
        have hone := L.out.hv.one
        have hfr : ∀ o, (wr.alloc o).drew.frozen? ⟨p, 2, none⟩ = false := fun o => (L.out.alloc o).free 2
        have hce2 : ∀ o, (wr.alloc o).drew.cell? ⟨p, 2, none⟩ = some (.slice (some ad) s.holds.length cp) := (L.out.cellA).2.2.1
        have hlen' : vs.length = s.holds.length * 2 := hlen
        clear hlen hcells2 hcells3
        have H1T := Lib.hid fun (u : Value) (hu : u ∈ vs.take (i * 2)) => hone u (List.mem_of_mem_take hu)
        have H1D := Lib.hid fun (u : Value) (hu : u ∈ vs.drop ((i + 1) * 2)) => hone u (List.mem_of_mem_drop hu)
        have HLT := Lib.hid (show (vs.take (i * 2)).length = i * 2 by rw [List.length_take, hlen']; omega)
        have HLD := Lib.hid (show (vs.drop ((i + 1) * 2)).length = (s.holds.length - (i + 1)) * 2 by rw [List.length_drop, hlen']; omega)
        have HCT := Lib.hid hct
        have HCD := Lib.hid hcd
        have HC0 := Lib.hid hc0
        have HN1 := Lib.hid (show i ≤ 1000 by omega)
        have HM1 := Lib.hid (show s.holds.length - (i + 1) ≤ 1000 by omega)
        have HNIL := Lib.hid (show ∀ u ∈ ([] : List Value), u.oneCell' = true from fun u hu => by cases hu)
        have HFR := Lib.hid hfr
        have HCE := Lib.hid hce2
        clear hone hlen' hct hcd hc0 hfr hce2
        by_cases hce : cp = i + 1
        · have hh0 : s.holds.length = i + 1 := by omega
          have HNN := Lib.hid (show i + 0 = s.holds.length - 1 by omega)
          have HCON := Lib.hid (concat_any (vs.take (i * 2)) [] i 0 (some ad) (some ad) (i + 1) 0 wr.heap.size (wr.alloc (.cells #[.slice (some ad) i (i + 1), .slice (some ad) 0 0] 68)).drew HN1.out (Nat.zero_le _) HLT.out rfl H1T.out HNIL.out (HCT.out _) (Cells.nil _ _) (Go.heap_alloc_new wr _))
          have hwr : IntKind.i64.wrap ((i : Int) + 1) = (i : Int) + 1 := IntWalk.i64_in _ (by omega)
          go_wp2_with fail
          go_region_with (first
            | (go_at_call 73; refine HCON.out.mono ?_; rintro e w4 ⟨v4, rfl, hown4, hb4⟩; obtain ⟨A4, c4, rfl, -, -⟩ := own_shape hown4; have d5 : w4.cell? ⟨p, 2, none⟩ = some (.slice (some ad) s.holds.length cp) := cell_below hb4 (HCE.out _); have d6 : w4.frozen? ⟨p, 2, none⟩ = false := (frozen_below hb4 rfl (HCE.out _)).trans (HFR.out _)))
          all_goals (go_wp2_with fail; go_ret; rw [HRR.out]; exact end_fin HB1.out H.out HGR.out L.out hlt hb4 (by rw [HC0.out hh0]; exact hown4) HNN.out)
        · have HNN := Lib.hid (show i + (s.holds.length - (i + 1)) = s.holds.length - 1 by omega)
          have HCON := Lib.hid (concat_any (vs.take (i * 2)) (vs.drop ((i + 1) * 2)) i (s.holds.length - (i + 1)) (some ad) (some (ad.add ((i + 1) * 2))) cp (cp - (i + 1)) wr.heap.size (wr.alloc (.cells #[.slice (some ad) i cp, .slice (some (ad.add ((i + 1) * 2))) (s.holds.length - (i + 1)) (cp - (i + 1))] 68)).drew HN1.out HM1.out HLT.out HLD.out H1T.out H1D.out (HCT.out _) (HCD.out _) (Go.heap_alloc_new wr _))
          have hwr : IntKind.i64.wrap ((i : Int) + 1) = (i : Int) + 1 := IntWalk.i64_in _ (by omega)
          go_wp2_with fail
          go_region_with (first
            | (go_at_call 73; refine HCON.out.mono ?_; rintro e w4 ⟨v4, rfl, hown4, hb4⟩; obtain ⟨A4, c4, rfl, -, -⟩ := own_shape hown4; have d5 : w4.cell? ⟨p, 2, none⟩ = some (.slice (some ad) s.holds.length cp) := cell_below hb4 (HCE.out _); have d6 : w4.frozen? ⟨p, 2, none⟩ = false := (frozen_below hb4 rfl (HCE.out _)).trans (HFR.out _)))
          all_goals (go_wp2_with fail; go_ret; rw [HRR.out]; exact end_fin HB1.out H.out HGR.out L.out hlt hb4 hown4 HNN.out)
end Go.Proofs.Ytmlcojhanimnpaa
