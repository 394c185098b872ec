/- Write. -/
import Derived.Test.YtladknjmoahdoaaK12
set_option linter.all false
namespace Go.Proofs.Ytladknjmoahdoaa
open Go.RowKit

/-- The boxes of Write: the disk, the place, the bytes, the file. -/
structure WBoxes (w : World) (N bf : Nat) (sl : Value) (at_ : Int) (bl p : Nat) : Prop where
  d : BoxP w N p
  a : w.heap[N + 1]? = some (.cells #[.int .i64 at_] 3)
  b : w.heap[N + 1 + 1]? = some (.cells #[sl] 30)
  f : BoxF w bf bl
theorem WBoxes.fr {F : List Nat} {w w' : World} {N bf bl p : Nat} {at_ : Int} {sl : Value} (h : WBoxes w N bf sl at_ bl p) (hf : Fr F w w') (hF : ∀ i, N ≤ i → i ∉ F) (hN : N ≤ bf) : WBoxes w' N bf sl at_ bl p :=
  ⟨hf.kept (hF _ (Nat.le_refl _)) h.d, hf.kept (hF _ (by omega)) h.a, hf.kept (hF _ (by omega)) h.b, hf.kept (hF _ hN) h.f⟩
theorem WBoxes.cells {w : World} {N bf bl p : Nat} {at_ : Int} {sl : Value} (h : WBoxes w N bf sl at_ bl p) : w.cell? ⟨N, 0, none⟩ = some (.pointer (some ⟨p, 0, none⟩)) ∧ w.cell? ⟨N + 1, 0, none⟩ = some (.int .i64 at_) ∧ w.cell? ⟨N + 1 + 1, 0, none⟩ = some sl ∧ w.cell? ⟨bf, 0, none⟩ = some (.pointer (some ⟨bl, 0, none⟩)) :=
  ⟨cell_of (j := 0) h.d rfl, cell_of (j := 0) h.a rfl, cell_of (j := 0) h.b rfl, cell_of (j := 0) h.f rfl⟩
/-- Bytes lie apart from a disk's own block and its failure's. -/
theorem bytes_fr {w w1 : World} {p m : Nat} {sb : Option Nat} {es : List (ByteArray × FileM)} {d : DiskT} {A : Option Addr} {b : List UInt8} (h : DiskAt w p m sb es d) (hA : Cells w A (bv b)) (hf : Fr (p :: sb.toList) w w1) : Cells w1 A (bv b) := by
  intro hn
  obtain ⟨ad, e, hc⟩ := hA hn
  refine ⟨ad, e, fun j u hj => hf.cellKept (fun hi => ?_) (hc j u hj)⟩
  have hu : ∃ q : UInt8, u = .int .u8 (q.toNat : Int) := by
    have := List.mem_of_getElem? hj
    unfold bv at this
    obtain ⟨q, -, rfl⟩ := List.mem_map.1 this
    exact ⟨q, rfl⟩
  obtain ⟨q, rfl⟩ := hu
  have h1 := hc j _ hj
  have hmem : ∀ (B : Nat) (cs : Array Value) (T : TypeId), (ad.add j).block = B → w.heap[B]? = some (.cells cs T) → Value.int .u8 (q.toNat : Int) ∈ cs.toList := by
    intro B cs T hB hh
    unfold World.cell? at h1
    rw [hB, hh] at h1
    simp only at h1
    split at h1
    · cases h1
    · exact List.mem_of_getElem? (by simpa using h1)
  rcases List.mem_cons.1 hi with e1 | e1
  · have := hmem p _ _ e1 h.blk
    unfold headC setV at this
    simp at this
  · have e2 : sb = some (ad.add j).block := by simpa using e1
    have hs := h.set
    rw [e2] at hs
    cases hd : d.set with
    | none => rw [hd] at hs; exact hs.elim
    | some r =>
      rw [hd] at hs
      have := hmem _ _ _ rfl (show w.heap[(ad.add j).block]? = some (.cells #[.int .i64 r.1, .int .u64 r.2] 65) from hs)
      simp at this
theorem stepD_steps (d : DiskT) : (stepD d).2.steps ≤ d.steps + 1 := by
  unfold stepD
  split
  · exact Nat.le_refl _
  · exact Nat.le_succ _
  · exact Nat.le_refl _
set_option maxRecDepth 100000 in
set_option maxHeartbeats 8000000 in
theorem write_any (p m : Nat) (sb : Option Nat) (es : List (ByteArray × FileM)) (d : DiskT) (name : ByteArray) (at_ : Int) (b : List UInt8) (A : Option Addr) (nb c : Nat) (w : World) (h : DiskAt w p m sb es d) (hi : Inv d) (hst : d.steps ≤ 3999999999) (hA : Cells w A (bv b)) (hnb : b.length = nb) :
    Calls Try.prog 13 #[.pointer (some ⟨p, 0, none⟩), .string name, .int .i64 at_, .slice A nb c] w (OpP w p m sb es (writeD d name at_ b)) := by
  have HHO := Lib.hid h
  have HI := Lib.hid hi
  have hcs := findV_cases d es name h.eq
  have hb := three_below w (.cells #[.pointer (some ⟨p, 0, none⟩)] 22) (.cells #[.int .i64 at_] 3) (.cells #[.slice A nb c] 30)
  obtain ⟨x1, x2, x3⟩ := of_three w (.cells #[.pointer (some ⟨p, 0, none⟩)] 22) (.cells #[.int .i64 at_] 3) (.cells #[.slice A nb c] 30)
  have HB := Lib.hid hb
  have HH := Lib.hid (h.below hb)
  have HA := Lib.hid (Cells.below hA hb)
  have H1 := Lib.hid x1
  have H2 := Lib.hid x2
  have H3 := Lib.hid x3
  clear h hi hb x1 x2 x3 hA
  have HNB := Lib.hid hnb
  clear hnb
  rcases hcs with ⟨err, hv, hf, her⟩ | ⟨x, hx, hgd, hv, hf⟩
  · have HR := Lib.hid (show writeD d name at_ b = (err, d) by unfold writeD; rw [hf])
    have hF := find_any HH.out name
    rw [hv] at hF
    have HF := Lib.hid hF
    have HE := Lib.hid (show ¬ err = 0 by omega)
    have he0 : (err == 0) = false := by have := HE.out; simpa using this
    clear hv hf her hF
    go_enter Try.func13, Try.ntmps13
    go_wp2_with fail
    generalize (((w.alloc (.cells #[.pointer (some ⟨p, 0, none⟩)] 22)).alloc (.cells #[.int .i64 at_] 3)).alloc (.cells #[.slice A nb c] 30)) = W at *
    refine HF.out.mono ?_
    rintro e w' ⟨rfl, rfl⟩
    go_wp2_with fail
    all_goals first
      | (go_ret; rw [HR.out]; exact OpP.start HB.out (OpP.same HH.out (one_below W _)))
      | (exfalso; exact HE.out (by omega))
  · have hF := find_any HH.out name
    rw [hv] at hF
    have HF := Lib.hid hF
    have HX := Lib.hid hx
    have HGD := Lib.hid hgd
    obtain ⟨R, hR⟩ : ∃ R, writeD d name at_ b = R := ⟨_, rfl⟩
    rw [hR]
    have hR2 := hR
    unfold writeD at hR2
    rw [hf] at hR2
    simp only at hR2
    rw [HNB.out] at hR2
    have HR := Lib.hid hR2
    unfold encF at HF
    clear hv hf hF hgd hx hR hR2
    go_enter Try.func13, Try.ntmps13
    go_wp2_with fail
    generalize (((w.alloc (.cells #[.pointer (some ⟨p, 0, none⟩)] 22)).alloc (.cells #[.int .i64 at_] 3)).alloc (.cells #[.slice A nb c] 30)) = W at *
    refine HF.out.mono ?_
    rintro e w' ⟨rfl, rfl⟩
    have hb1 := one_below W (.cells #[.pointer (some ⟨x.bl, 0, none⟩)] 68)
    have HB1 := Lib.hid hb1
    have HV := Lib.hid (HH.out.below hb1)
    have HBX := Lib.hid (show WBoxes (W.alloc (.cells #[.pointer (some ⟨x.bl, 0, none⟩)] 68)) w.heap.size W.heap.size (.slice A nb c) at_ x.bl p from ⟨(hb1.block _ (lt_of_block H1.out)).trans H1.out, (hb1.block _ (lt_of_block H2.out)).trans H2.out, (hb1.block _ (lt_of_block H3.out)).trans H3.out, Go.heap_alloc_new W _⟩)
    have HAV := Lib.hid (Cells.below HA.out hb1)
    have d3 := fun o => cell_below (one_below W o) (show W.cell? ⟨w.heap.size + 1 + 1, 0, none⟩ = some (.slice A nb c) from cell_of (j := 0) H3.out rfl)
    clear hb1
    by_cases h256 : 256 < nb
    · have g256 : (256 : Int) < (nb : Int) := by omega
      have HRR := Lib.hid (show R = (2, d) by rw [← HR.out, if_pos h256])
      clear h256
      go_wp2_with fail
      go_ret
      rw [HRR.out]
      exact OpP.start HB.out (OpP.same HH.out HB1.out)
    · have g256 : ¬ (256 : Int) < (nb : Int) := by omega
      have N1 := Lib.hid h256
      clear h256
      have hfa := HV.out.files _ (mget_mem HX.out)
      dsimp only at hfa
      obtain ⟨f0, -, -⟩ := hfa.cell
      obtain ⟨An, cn, hvn, -, -⟩ := own_shape hfa.now
      obtain ⟨n, hn⟩ : ∃ n, x.f.now.length = n := ⟨_, rfl⟩
      rw [hn] at hvn
      rw [hvn] at f0
      have HN := Lib.hid hn
      have HVN := Lib.hid hvn
      obtain ⟨b0, b1, b2, b3⟩ := HBX.out.cells
      have HU := Lib.hid HV.out.cell
      clear hfa hvn hn
      go_wp2_with fail
      generalize W.alloc (.cells #[.pointer (some ⟨x.bl, 0, none⟩)] 68) = V at *
      by_cases hneg : at_ < 0
      · have g1 : decide (at_ < 0) = true := by simpa using hneg
        have HRR := Lib.hid (show R = (92, d) by rw [← HR.out, if_neg N1.out, if_pos (.inl hneg)])
        clear hneg
        go_quiet (fail)
        go_wp2_with fail
        go_ret
        rw [HRR.out]
        exact OpP.start HB.out (OpP.start HB1.out (OpP.same HV.out (below_drewN (Below.refl _ _) _)))
      · have g1 : decide (at_ < 0) = false := by simpa using hneg
        by_cases hbig : (n : Int) < at_
        · have g2 : decide ((n : Int) < at_) = true := by simpa using hbig
          have HRR := Lib.hid (show R = (92, d) by rw [← HR.out, if_neg N1.out, if_pos (.inr (by rw [HN.out]; exact hbig))])
          clear hneg hbig
          go_quiet (fail)
          go_wp2_with fail
          go_ret
          rw [HRR.out]
          exact OpP.start HB.out (OpP.start HB1.out (OpP.same HV.out (below_drewN (Below.refl _ _) _)))
        · have g2 : decide ((n : Int) < at_) = false := by simpa using hbig
          have N2 := Lib.hid (show ¬ (at_ < 0 ∨ (x.f.now.length : Int) < at_) by rw [HN.out]; omega)
          obtain ⟨k, hk⟩ : ∃ k : Nat, at_ = (k : Int) := ⟨at_.toNat, by omega⟩
          have HK := Lib.hid hk
          have HKN := Lib.hid (show k ≤ n by omega)
          clear hneg hbig hk
          go_quiet (fail)
          go_wp2_with fail
          have HV2 := Lib.hid (HV.out.drewN nq)
          have HBX2 := Lib.hid (show WBoxes (V.drewN nq) w.heap.size W.heap.size (.slice A nb c) at_ x.bl p from ⟨HBX.out.d, HBX.out.a, HBX.out.b, HBX.out.f⟩)
          have HAV2 := Lib.hid (show Cells (V.drewN nq) A (bv b) from HAV.out)
          have HB2 := Lib.hid (HB1.out.trans (below_drewN (Below.refl _ _) nq))
          clear b0 b1 b2 b3 f0 g1 g2 HV HBX HAV HB1
          generalize V.drewN nq = V at *
          have hfa := HV2.out.files _ (mget_mem HX.out)
          dsimp only at hfa
          obtain ⟨f0, -, -⟩ := hfa.cell
          rw [HVN.out] at f0
          obtain ⟨b0, b1, b2, b3⟩ := HBX2.out.cells
          obtain ⟨-, u1, u2, -⟩ := HV2.out.cell
          clear hfa
          have hfinish : ∀ V2 : World, Below V.heap.size V V2 → DiskAt V2 p m sb es d → WBoxes V2 w.heap.size W.heap.size (.slice A nb c) at_ x.bl p → Cells V2 A (bv b) → Calls Try.prog 38 #[.pointer (some ⟨p, 0, none⟩), .func (.func 41) #[] #[.pointer (some ⟨w.heap.size + 1 + 1, 0, none⟩), .pointer (some ⟨w.heap.size + 1, 0, none⟩), .pointer (some ⟨W.heap.size, 0, none⟩), .pointer (some ⟨w.heap.size, 0, none⟩)]] V2
              (StepP V2 p m sb es d (fun w' => ∃ es', OpL V2 p m sb es (wrD (stepD d).2 name x.f k (padP b)) sb es' w')) := by
            intro V2 hb2 hd2 hbx2 hc2
            refine step_write p m sb es d _ V2 _ hd2 HI.out (by omega) fun w1 hd hf _ => ?_
            have hbx1 := hbx2.fr hf (fun i hi => not_fp HHO.out hi) HB.out.size
            have hA1 : Cells w1 A (bv b) := bytes_fr hd2 hc2 hf
            have hw := write1_any p m (w.heap.size + 1 + 1) (w.heap.size + 1) W.heap.size w.heap.size w.heap.size sb es (stepD d).2 name x k b A c w1 hd HI.out.stepped (by have := stepD_steps d; omega) HX.out (by rw [HN.out]; exact HKN.out) (by rw [HNB.out]; have := N1.out; omega) HHO.out.lt (by omega) (by omega) HB.out.size (Nat.le_refl _) ⟨by rw [HNB.out]; exact hbx1.b, by rw [← HK.out]; exact hbx1.a, hbx1.f, hbx1.d⟩ hA1
            exact hw.mono (unit_from hd hf)
          have HFIN := Lib.hid hfinish
          clear hfinish
          have hfun : (fun d : DiskT => ({ d with used := if at_ = x.f.now.length then d.used + 1 else d.used, no := d.no + 1, files := mset d.files name ⟨layP x.f.now at_.toNat (padP b), x.f.settled, x.f.opens ++ [⟨d.no, at_.toNat, padP b⟩]⟩ } : DiskT)) = fun d => wrD d name x.f k (padP b) := by
            funext d
            have e1 : at_.toNat = k := by rw [HK.out]; exact Int.toNat_natCast k
            have e2 : (at_ = (x.f.now.length : Int)) = (k = x.f.now.length) := by rw [HK.out]; exact propext ⟨fun h => by omega, fun h => by omega⟩
            unfold wrD
            rw [e1]
            simp only [e2]
          have HFU := Lib.hid hfun
          clear hfun
          by_cases hend : k = n
          · have g3 : (at_ == (n : Int)) = true := by rw [HK.out, hend]; simp
            by_cases hfull : d.quota ≤ d.used
            · have g4 : (d.quota : Int) ≤ (d.used : Int) := by omega
              have g5 : decide ((d.used : Int) ≥ (d.quota : Int)) = true := by simpa using hfull
              have HRR := Lib.hid (show R = (93, d) by rw [← HR.out, if_neg N1.out, if_neg N2.out, if_pos ⟨by rw [HK.out, HN.out, hend], hfull⟩])
              clear hend hfull
              go_quiet (fail)
              go_wp2_with fail
              go_ret
              rw [HRR.out]
              exact OpP.start HB.out (OpP.start HB2.out (OpP.same HV2.out (below_drewN (Below.refl _ _) _)))
            · have g4 : ¬ (d.quota : Int) ≤ (d.used : Int) := by omega
              have g5 : decide ((d.used : Int) ≥ (d.quota : Int)) = false := by simpa using hfull
              have HRR := Lib.hid (show R = stepsD d fun d => wrD d name x.f k (padP b) by rw [← HR.out, if_neg N1.out, if_neg N2.out, if_neg (fun h => hfull h.2), HFU.out])
              clear hend hfull
              go_quiet (fail)
              go_wp2_with fail
              refine (HFIN.out _ (below_drewN (Below.refl _ _) _) (HV2.out.drewN _) ⟨HBX2.out.d, HBX2.out.a, HBX2.out.b, HBX2.out.f⟩ (HAV2.out.drewN _)).mono ?_
              rintro e w' hS
              obtain ⟨nn, hnn⟩ := hS.int
              have HS := Lib.hid hS
              subst hnn
              clear hS
              go_wp2_with fail
              go_ret
              rw [HRR.out]
              exact OpP.start HB.out (OpP.start HB2.out (OpP.start (below_drewN (Below.refl _ _) _) (stepsP (f := fun d => wrD d name x.f k (padP b)) HS.out)))
          · have g3 : (at_ == (n : Int)) = false := by rw [HK.out]; simp; omega
            have HRR := Lib.hid (show R = stepsD d fun d => wrD d name x.f k (padP b) by rw [← HR.out, if_neg N1.out, if_neg N2.out, if_neg (fun h => hend (by have h1 := h.1; rw [HK.out, HN.out] at h1; omega)), HFU.out])
            clear hend
            go_quiet (fail)
            go_wp2_with fail
            refine (HFIN.out _ (below_drewN (Below.refl _ _) _) (HV2.out.drewN _) ⟨HBX2.out.d, HBX2.out.a, HBX2.out.b, HBX2.out.f⟩ (HAV2.out.drewN _)).mono ?_
            rintro e w' hS
            obtain ⟨nn, hnn⟩ := hS.int
            have HS := Lib.hid hS
            subst hnn
            clear hS
            go_wp2_with fail
            go_ret
            rw [HRR.out]
            exact OpP.start HB.out (OpP.start HB2.out (OpP.start (below_drewN (Below.refl _ _) _) (stepsP (f := fun d => wrD d name x.f k (padP b)) HS.out)))
end Go.Proofs.Ytladknjmoahdoaa
