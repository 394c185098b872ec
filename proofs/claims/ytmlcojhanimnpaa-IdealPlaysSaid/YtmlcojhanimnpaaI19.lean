/- Hold. -/
import Derived.Test.YtmlcojhanimnpaaI18
import Derived.Deep.RegionLaw
import Derived.Deep.CutRange
import Derived.IntWalk
namespace Go.Proofs.Ytmlcojhanimnpaa
open Go.RowKit

set_option maxRecDepth 100000 in
set_option maxHeartbeats 8000000 in
theorem hold_any (p c d : Nat) (v : Value) (vs : List Value) (s : Led) (legs : List Leg) (A : Option Addr) (ca : Nat) (w : World) (hs : Inv s) (h : LedAt w p c d v vs s) (hlast : s.last ≤ 4611686018427387904) (hlen : legs.length ≤ 140737488355328) (hA : LegsIn w A legs) :
    Calls Try.prog 13 #[.pointer (some ⟨p, 0, none⟩), .slice A legs.length ca] w (HoldP w p c d v (hold s legs)) := by
  obtain ⟨R, hR⟩ : ∃ R, hold s legs = R := ⟨_, rfl⟩
  rw [hR]
  have HR := Lib.hid hR; clear hR
  obtain ⟨A2, cp, hv, -, -⟩ := own_shape h.own
  subst hv
  obtain ⟨e0, e1, e2, e3⟩ := h.cell
  have H := Lib.hid h
  have HS := Lib.hid hs
  have HL := Lib.hid hA
  have l0 := hs.l0
  have hlast' : ¬ 4611686018427387904 < s.last := by omega
  clear hlast
  obtain ⟨n, hn⟩ : ∃ n, legs.length = n := ⟨_, rfl⟩
  rw [hn] at hlen ⊢
  have HN := Lib.hid hn
  by_cases hz : legs.length = 0 ∨ 20 < legs.length
  · have hr : R = (0, 2, s) := by rw [← HR.out]; unfold hold; rw [if_pos hz]
    have HRR := Lib.hid hr
    rcases hz with hz | hz
    · obtain rfl : n = 0 := by omega
      clear h hs hA hr hz hlen hn
      go_enter Try.func13, Try.ntmps13
      go_wp2_with fail
      go_ret2
      rw [HRR.out]
      exact HoldP.same H.out (Below.refl _ _)
    · have hz1 : ¬ n = 0 := by omega
      have hz3 : ¬ (n : Int) = 0 := by omega
      have hz2 : (20 : Int) < (n : Int) := by omega
      clear h hs hA hr hz hlen hn
      go_enter Try.func13, Try.ntmps13
      go_wp2_with fail
      go_ret2
      rw [HRR.out]
      exact HoldP.same H.out (Below.refl _ _)
  · have hz1 : ¬ n = 0 := by omega
    have hz3 : ¬ (n : Int) = 0 := by omega
    have hz2 : ¬ (20 : Int) < (n : Int) := by omega
    have hz4 : n ≤ 20 := by omega
    have HZ := Lib.hid hz
    clear h hs hA hlen hz hn
    go_enter Try.func13, Try.ntmps13
    go_wp2_with fail
    refine (copy_any c d s _ H.out.mc H.out.md).mono ?_
    rintro e w1 ⟨c2, d2, rfl, hc2, hd2, hcg, hdg, hne, hb1⟩
    have HC2 := Lib.hid (hc2.alloc (.cells #[.map (some c2), .map (some d2)] 67))
    have HD2 := Lib.hid (hd2.alloc (.cells #[.map (some c2), .map (some d2)] 67))
    have hcl := hc2.lt
    have hdl := hd2.lt
    have HB1 := Lib.hid (hb1.alloc hb1.size (.cells #[.map (some c2), .map (some d2)] 67))
    have HNE := Lib.hid hne
    clear e0 e1 e2 e3 hc2 hd2 hb1 hne
    go_wp2_with fail
    go_loopw [29] (fun q wr => ∃ k : Nat, k ≤ n ∧ q = .int .i64 k ∧ (takeAll s.chans (legs.take k)).1 = 0 ∧ SMap wr c2 (menc encI s.coins) ∧ SMap wr d2 (menc encC (takeAll s.chans (legs.take k)).2) ∧ Below w.heap.size w wr ∧ wr.heap[w1.heap.size]? = some (.cells #[.map (some c2), .map (some d2)] 67)) (fun q _ => n - (intOf q).toNat)
    case atStart => exact ⟨0, Nat.zero_le _, rfl, rfl, HC2.out, HD2.out, HB1.out, Go.heap_alloc_new w1 _⟩
    case round =>
      obtain ⟨k, hk, rfl, htk, hmc, hmd, hbr, hbx⟩ := hrel
      have HTK := Lib.hid htk
      have HMC := Lib.hid hmc
      have HMD := Lib.hid hmd
      have HBR := Lib.hid hbr
      have HBX := Lib.hid hbx
      by_cases hkn : k < n
      · have hkl : k < legs.length := by rw [HN.out]; exact hkn
        obtain ⟨Y, hY⟩ : ∃ Y, legs[k] = Y := ⟨_, rfl⟩
        have hLr : LegsIn wr A legs := Cells.below HL.out hbr
        obtain ⟨la, rfl, l1, l2, l3⟩ := hLr.look hkl
        clear hLr
        rw [hY] at l1 l2 l3
        have hst := takeAll_step hkl htk
        rw [hY] at hst
        have hbd : ∀ k', mget (takeAll s.chans (legs.take k)).2 Y.ch = some k' → k'.hasA ≤ maxMoney ∧ k'.hasB ≤ maxMoney := fun k' hk' => take_bound HS.out htk hk'
        have HST := Lib.hid hst
        have HBD := Lib.hid hbd
        have b0 : ∀ o, (wr.alloc o).cell? ⟨w1.heap.size, 0, none⟩ = some (.map (some c2)) := fun o => cell_below ((Below.refl _ _).alloc (Nat.le_refl _) o) (by simp [World.cell?, hbx])
        have b1 : ∀ o, (wr.alloc o).cell? ⟨w1.heap.size, 1, none⟩ = some (.map (some d2)) := fun o => cell_below ((Below.refl _ _).alloc (Nat.le_refl _) o) (by simp [World.cell?, hbx])
        clear hst hbd htk hmc hmd hbr hbx hY
        go_wp2_with fail
        refine (take_any c2 d2 (takeAll s.chans (legs.take k)).2 Y _ (HMD.out.alloc _) HBD.out).mono ?_
        rintro e w2 ⟨rfl, hmd2, hg2⟩
        have hmc2 : SMap w2 c2 (menc encI s.coins) := (HMC.out.alloc _).block (hg2.block c2 (HMC.out.alloc _).lt (by intro e; injection e with e; exact HNE.out e))
        have hb2 : Below w.heap.size w w2 := (HBR.out.alloc HBR.out.size _).grown hg2 (by have := HBR.out.size; simp; omega) (fun j hj => by injection hj with hj; omega)
        have hbx2 : w2.heap[w1.heap.size]? = some (.cells #[.map (some c2), .map (some d2)] 67) := (hg2.block _ (by have := lt_of_block HBX.out; simp; omega) (by intro e; injection e with e; omega)).trans ((Go.heap_alloc_old wr _ (lt_of_block HBX.out)).trans HBX.out)
        have HMD2 := Lib.hid hmd2
        have HMC2 := Lib.hid hmc2
        have HB2 := Lib.hid hb2
        have HBX2 := Lib.hid hbx2
        obtain ⟨er, her⟩ : ∃ er, (take1 (takeAll s.chans (legs.take k)).2 Y).1 = er := ⟨_, rfl⟩
        rw [her]
        have HER := Lib.hid her
        clear hmd2 hg2 hmc2 hb2 hbx2 her b0 b1 l1 l2 l3
        by_cases he0 : er = 0
        · subst he0
          go_wp2_with fail
          go_roundw
          case rel =>
            obtain ⟨g1, g2⟩ := HST.out.1 HER.out
            exact ⟨k + 1, by omega, by go_num, g1, HMC2.out, by rw [g2]; exact HMD2.out, HB2.out, HBX2.out⟩
          case measure => simp [intOf]; omega
        · go_wp2_with fail
          go_ret2
          have hr : R = (0, er, s) := by
            have h1 := HST.out.2 (by rw [HER.out]; exact he0)
            rw [HER.out] at h1
            rw [← HR.out]; unfold hold; rw [if_neg HZ.out, if_pos (by rw [h1]; exact he0), h1]
          rw [hr]
          exact HoldP.same H.out HB2.out
      · have hke : k = n := by omega
        subst hke
        have htk2 : (takeAll s.chans legs).1 = 0 := by rw [← HN.out, List.take_length] at htk; exact htk
        have hmd2 : SMap wr d2 (menc encC (takeAll s.chans legs).2) := by rw [← HN.out, List.take_length] at hmd; exact hmd
        have L := H.out.below hbr
        obtain ⟨e0, e1, e2, e3⟩ := L.cell
        have f0 := L.free 0
        have f1 := L.free 1
        have f2 := L.free 2
        have f3 := L.free 3
        have b0 : wr.cell? ⟨w1.heap.size, 0, none⟩ = some (.map (some c2)) := by simp [World.cell?, hbx]
        have b1 : wr.cell? ⟨w1.heap.size, 1, none⟩ = some (.map (some d2)) := by simp [World.cell?, hbx]
        have LR := Lib.hid L
        have HTK2 := Lib.hid htk2
        have HMD2 := Lib.hid hmd2
        clear L htk htk2 hmd hmd2 hmc hbr hbx
        by_cases h256 : 256 ≤ s.holds.length
        · have h256I : (256 : Int) ≤ ((s.holds.length : Nat) : Int) := by omega
          go_wp2_with fail
          go_ret2
          have hr : R = (0, 3, s) := by rw [← HR.out]; unfold hold; rw [if_neg HZ.out, if_neg (by rw [HTK2.out]; simp), if_pos h256]
          rw [hr]
          exact HoldP.same H.out HBR.out
        · have h256I : ¬ (256 : Int) ≤ ((s.holds.length : Nat) : Int) := by omega
          go_upto_region 17 with fail
          have hcp : c2 ≠ p := by have := lt_of_block H.out.blk; omega
          have hdp : d2 ≠ p := by have := lt_of_block H.out.blk; omega
          have L3 : LedAt (held3 wr p c2 d2 (s.last + 1)) p c2 d2 (.slice A2 s.holds.length cp) vs { s with chans := (takeAll s.chans legs).2, last := s.last + 1 } := LR.out.held HMC.out HMD2.out HNE.out hcp hdp
          have F3 : Fr (fp p c d (.slice A2 s.holds.length cp)) w (held3 wr p c2 d2 (s.last + 1)) := (Fr.below HBR.out).trans (held3_fr wr p c2 d2 (s.last + 1)) fun i hi _ => by simp at hi; subst hi; simp [fp]
          have hsz3 : w.heap.size ≤ (held3 wr p c2 d2 (s.last + 1)).heap.size := F3.size
          have hlr : LegsIn wr A legs := Cells.below HL.out HBR.out
          have hl3 : LegsIn (held3 wr p c2 d2 (s.last + 1)) A legs := legs_held3 hlr (legs_apart LR.out hlr (by rw [HN.out]; omega))
          generalize hW : held3 wr p c2 d2 (s.last + 1) = W at L3 F3 hsz3 hl3
          unfold held3 at hW
          rw [hW]
          clear hW
          have hcon : Calls Try.prog 37 #[.slice A k ca] W.drew (LegsP W.drew legs) := by
            have h1 := cloneLegs legs A ca W.drew (by rw [HN.out]; omega) hl3
            rw [HN.out] at h1
            exact h1
          have LD : LedAt W.drew p c2 d2 (.slice A2 s.holds.length cp) vs { s with chans := (takeAll s.chans legs).2, last := s.last + 1 } := L3.below (Below.refl _ _).drew
          have k2 := L3.cell.2.2.1
          have k3 := L3.cell.2.2.2
          have HCON := Lib.hid hcon
          have HLD := Lib.hid LD
          have HF3 := Lib.hid F3
          have hb1' : (s.holds.length + 1) * 32 ≤ 140737488355328 := by omega
          have hb2' : s.holds.length + 1 ≤ 140737488355328 := by omega
          have HBB1 := Lib.hid hb1'
          have HBB2 := Lib.hid hb2'
          clear e0 e1 e2 e3 f0 f1 f2 f3 b0 b1 hlr hl3 hcon LD F3 L3 hb1' hb2'
          have hr : R = (s.last + 1, 0, { s with chans := (takeAll s.chans legs).2, holds := s.holds ++ [⟨s.last + 1, legs⟩], last := s.last + 1 }) := by
            rw [← HR.out]; unfold hold; rw [if_neg HZ.out, if_neg (by rw [HTK2.out]; simp), if_neg h256]
          have HRR := Lib.hid hr
          clear hr
          go_region_law (first
            | (refine step_appk slHold rfl (.tmp 61) (.tmp 69) rfl 0 (.slice A2 s.holds.length cp) s.holds.length vs (by rfl) (by exact ((HLD.out.below hb5).alloc _).own) (some ⟨w5.heap.size, 0, none⟩) 1 1 [.int .i64 (s.last + 1), .slice A5 legs.length c5] (by rfl) (by rfl) (fun _ => ⟨_, rfl, fun j u hj => World.news_of_block (Go.heap_alloc_new w5 _) j u hj⟩) (by simp [Value.oneCell']) HBB1.out HBB2.out (Nat.zero_le _) ?_; intro v6 w6 hown6 hg6 hb6 hat6; obtain ⟨A6, c6, rfl, -, -⟩ := own_shape hown6; obtain ⟨d5, d6, d7⟩ := hold_keep (HLD.out.below hb5) hg6)
            | (go_simp; go_at_call 37; refine HCON.out.mono ?_; rintro e w5 ⟨A5, c5, rfl, hown5, hb5⟩; have k25 : w5.cell? ⟨p, 2, none⟩ = some (.slice A2 s.holds.length cp) := (HLD.out.below hb5).cell.2.2.1; have k25A : ∀ o, (w5.alloc o).cell? ⟨p, 2, none⟩ = some (.slice A2 s.holds.length cp) := (HLD.out.below hb5).cellA.2.2.1; have k35 : w5.cell? ⟨p, 3, none⟩ = some (.int .i64 (s.last + 1)) := (HLD.out.below hb5).cell.2.2.2))
          all_goals
            have F5 : Fr (fp p c d (.slice A2 s.holds.length cp)) w w5 := HF3.out.trans (Fr.below (F := []) ⟨hb5.os, hb5.tape, hb5.output, hb5.size, hb5.block⟩) fun i hi _ => by cases hi
            have HF5 := Lib.hid F5
            have HO5 := Lib.hid hown5
            have HO6 := Lib.hid hown6
            have HG6 := Lib.hid hg6
            have HAT := Lib.hid hat6
            clear F5 hown5 hown6 hg6 hat6
            go_wp2_with fail
            go_ret2
            rw [HRR.out]
            exact ⟨rfl, hold_fin HF5.out (HLD.out.below hb5) HO5.out HO6.out HG6.out HAT.out rfl hcg hdg fun g hg => by simp [fp, hg]⟩
end Go.Proofs.Ytmlcojhanimnpaa
