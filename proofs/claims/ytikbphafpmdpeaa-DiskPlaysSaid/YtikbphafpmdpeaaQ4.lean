/- The document's Write. · The document's On. -/
import Derived.Test.YtikbphafpmdpeaaQ3
import Derived.Lib.QuietBelow
import Derived.Test.YtikbphafpmdpeaaOn3
set_option linter.all false
namespace Go.Proofs.Ytikbphafpmdpeaa
open Go.RowKit Go Go.Sort

/-- A write behind the others. -/
theorem RfAt.add_write {p : Nat} {vf vo : Value} {vs : List Value} {m : RefT} {w w4 : World} {v4 : Value} {x : RWr} (h : RfAt w p vf vo vs m) (hf : Fr vo.ownBlock.toList w w4) (ho : w4.ownsRow 0 99 3 v4 (m.opens.length + 1) (m.opens.flatMap wrR ++ wrR x))
    (hat : v4.ownBlock = vo.ownBlock ∨ ∃ k, v4.ownBlock = some k ∧ w.heap.size ≤ k) :
    RfAt (w4.setCell ⟨p, 1, none⟩ v4) p vf v4 vs { m with opens := m.opens ++ [x] } ∧ Fr (fpR p vf vo) w (w4.setCell ⟨p, 1, none⟩ v4) ∧ ∀ i ∈ fpR p vf v4, i ∈ fpR p vf vo ∨ w.heap.size ≤ i := by
  refine ⟨h.set_opens hf (by rw [List.length_append, List.flatMap_append]; simpa using ho), (hf.mono fun i hi _ => by simp [fpR]; exact .inr (.inr (by simpa using hi))).put p 1 _ (.inl (by simp [fpR])), fun i hi => ?_⟩
  simp only [fpR, List.mem_cons, List.mem_append] at hi ⊢
  rcases hi with rfl | hi | hi
  · exact .inl (.inl rfl)
  · exact .inl (.inr (.inl hi))
  · rcases hat with e | ⟨k, e, hk⟩
    · exact .inl (.inr (.inr (by rw [← e]; exact hi)))
    · rw [e] at hi
      simp at hi
      subst hi
      exact .inr hk
theorem pad_bytes {b : List UInt8} {n : Nat} (h : b.length = n) (hn : n ≤ 256) : (⟨b.toArray⟩ ++ ⟨(List.replicate (256 - n) (0 : UInt8)).toArray⟩ : ByteArray) = ⟨(padP b).b.toArray⟩ := by
  rw [padP_b (by omega), h]
  apply ByteArray.ext
  simp
set_option maxRecDepth 100000 in
set_option maxHeartbeats 8000000 in
theorem rwrite_any {p : Nat} {vf vo : Value} {vs : List Value} {m : RefT} {w : World} (h : RfAt w p vf vo vs m) (hi : RInv m) (hc : m.count ≤ 3999999999) (name : ByteArray) (pg : Int) (b : List UInt8) (A : Option Addr) (nb c : Nat) (hA : Cells w A (bv b)) (hnb : b.length = nb) (hAF : ∀ ad, A = some ad → ad.block ∉ fpR p vf vo) :
    Calls Try.prog 31 #[.pointer (some ⟨p, 0, none⟩), .string name, .int .i64 pg, .slice A nb c] w (ROp w p vf vo (writeR m name pg b)) := by
  have c8 := h.cell.2.2.2.2.2.2.2.2
  have H := Lib.hid h
  have HI := Lib.hid hi
  have HF := Lib.hid (rfind_any name h (Nat.le_trans hi.files (by decide)))
  have HST := Lib.hid (fun (V : World) (hV : RfAt V p vf vo vs m) => rstep_any hV hc hi.inn)
  have hlf := hi.files
  obtain ⟨dn, hdn⟩ : ∃ dn, m.down = dn := ⟨_, rfl⟩
  rw [hdn] at c8
  have HD := Lib.hid hdn
  clear h hi hdn
  cases dn
  · cases hf : findR m.files name with
    | none =>
      rw [findI_none hf] at HF
      have hm1 : ((-1 : Int) < 0) := by omega
      have HR := Lib.hid (show writeR m name pg b = (91, m) from by unfold writeR; rw [if_neg (show ¬ m.down = true by rw [HD.out]; simp)]; rw [hf])
      clear hf
      go_enter Try.func31, Try.ntmps31
      go_wp2_with fail
      refine HF.out.mono ?_
      rintro e w1 ⟨rfl, rfl⟩
      go_wp2_with fail
      go_ret
      exact ROp.same H.out _ _ HR.out
    | some i =>
      rw [findI_some hf] at HF
      have hi0 : ¬ ((i : Int) < 0) := by omega
      obtain ⟨f, hfi, -, hlt⟩ := findR_some hf
      have hfe : m.files[i] = f := (List.getElem?_eq_some_iff.1 hfi).2
      have hrw : writeR m name pg b = (if 256 < b.length then (2, m) else if pg < 0 ∨ ((pagesR m f).length : Int) < pg then (92, m) else if pg = (pagesR m f).length ∧ m.quota ≤ usedR m then (93, m)
          else stepsR m fun m => { m with opens := m.opens ++ [⟨f.no, pg.toNat, padP b⟩] }) := by unfold writeR; rw [if_neg (show ¬ m.down = true by rw [HD.out]; simp)]; rw [hf]; simp only; rw [hfi]
      rw [hnb] at hrw
      have HRW := Lib.hid hrw
      have HFE := Lib.hid hfe
      clear hrw hf hfi hfe
      by_cases hbig : 256 < nb
      · have hbi : ((nb : Int) > 256) := by omega
        have HR := Lib.hid (show writeR m name pg b = (2, m) from by rw [HRW.out, if_pos hbig])
        go_enter Try.func31, Try.ntmps31
        go_wp2_with fail
        refine HF.out.mono ?_
        rintro e w1 ⟨rfl, rfl⟩
        go_wp2_with fail
        go_ret
        exact ROp.same H.out _ _ HR.out
      · have hbi : ¬ ((nb : Int) > 256) := by omega
        have hsm := HI.out.small (Nat.le_trans hc (by decide))
        have hpl := hsm.pages (List.getElem_mem hlt) m.opens.length
        rw [List.take_length, HFE.out] at hpl
        have hpl : (pagesR m f).length ≤ 4000000000 := hpl
        have hpa := pages_any H.out hsm hlt
        rw [HFE.out] at hpa
        have HPA := Lib.hid hpa
        have HSM := Lib.hid hsm
        obtain ⟨n, hn⟩ : ∃ n, (pagesR m f).length = n := ⟨_, rfl⟩
        rw [hn] at hpl
        have HRW2 := Lib.hid (show writeR m name pg b = (if pg < 0 ∨ (n : Int) < pg then (92, m) else if pg = n ∧ m.quota ≤ usedR m then (93, m) else stepsR m fun m => { m with opens := m.opens ++ [⟨f.no, pg.toNat, padP b⟩] }) by rw [HRW.out, if_neg hbig, hn])
        have HNP := Lib.hid hn
        clear hsm hpa hn
        by_cases hp0 : pg < 0
        · have HR := Lib.hid (show writeR m name pg b = (92, m) from by rw [HRW2.out, if_pos (.inl hp0)])
          go_enter Try.func31, Try.ntmps31
          go_wp2_with fail
          refine HF.out.mono ?_
          rintro e w1 ⟨rfl, rfl⟩
          go_wp2_with fail
          refine HPA.out.mono ?_
          rintro e w2 ⟨lv, rfl, hrow, hb2⟩
          obtain ⟨Al, cl, hsh, -, -⟩ := hrow.shape
          rw [List.length_map, HNP.out] at hsh
          subst hsh
          have HB2 := Lib.hid hb2
          have H2 := Lib.hid (H.out.below hb2)
          clear hrow hb2
          go_wp2_with fail
          go_ret
          rw [HR.out]
          exact ⟨rfl, RfP.here H2.out ((Fr.below HB2.out).mono fun _ hi _ => hi)⟩
        · by_cases hpn : (n : Int) < pg
          · have hpn2 : pg > (n : Int) := hpn
            have HR := Lib.hid (show writeR m name pg b = (92, m) from by rw [HRW2.out, if_pos (.inr hpn)])
            go_enter Try.func31, Try.ntmps31
            go_wp2_with fail
            refine HF.out.mono ?_
            rintro e w1 ⟨rfl, rfl⟩
            go_wp2_with fail
            refine HPA.out.mono ?_
            rintro e w2 ⟨lv, rfl, hrow, hb2⟩
            obtain ⟨Al, cl, hsh, -, -⟩ := hrow.shape
            rw [List.length_map, HNP.out] at hsh
            subst hsh
            have HB2 := Lib.hid hb2
            have H2 := Lib.hid (H.out.below hb2)
            clear hrow hb2
            go_wp2_with fail
            go_ret
            rw [HR.out]
            exact ⟨rfl, RfP.here H2.out ((Fr.below HB2.out).mono fun _ hi _ => hi)⟩
          · have hpn2 : ¬ pg > (n : Int) := hpn
            have HRW3 := Lib.hid (show writeR m name pg b = (if pg = n ∧ m.quota ≤ usedR m then (93, m) else stepsR m fun m => { m with opens := m.opens ++ [⟨f.no, pg.toNat, padP b⟩] }) by rw [HRW2.out, if_neg (by omega)])
            by_cases hpe : pg = n
            · by_cases hqq : m.quota ≤ usedR m
              · have HR := Lib.hid (show writeR m name pg b = (93, m) from by rw [HRW3.out, if_pos ⟨hpe, hqq⟩])
                go_enter Try.func31, Try.ntmps31
                go_wp2_with fail
                refine HF.out.mono ?_
                rintro e w1 ⟨rfl, rfl⟩
                go_wp2_with fail
                refine HPA.out.mono ?_
                rintro e w2 ⟨lv, rfl, hrow, hb2⟩
                obtain ⟨Al, cl, hsh, -, -⟩ := hrow.shape
                rw [List.length_map, HNP.out] at hsh
                subst hsh
                have HB2 := Lib.hid hb2
                have H2 := Lib.hid (H.out.below hb2)
                clear hrow hb2
                have hq3 : ∀ dd os, (grow (redrawn w2 dd) os).cell? ⟨p, 3, none⟩ = some (.int .i64 m.quota) := fun dd os => cell_regrown H2.out.cell.2.2.2.1 dd os
                have HUS := Lib.hid (fun dd os => rused_any (H2.out.below (below_regrown w2 dd os)) HSM.out)
                have hq3' := hq3
                have hul : usedR m ≤ 1024000000000 := by
                  have h1 : ∀ l : List RFile, (∀ g ∈ l, (pagesR m g).length ≤ 4000000000) → (l.map fun g => (pagesR m g).length).sum ≤ l.length * 4000000000 := by
                    intro l
                    induction l with
                    | nil => intro _; exact Nat.zero_le _
                    | cons g l ih =>
                      intro hg
                      rw [List.map_cons, List.sum_cons, List.length_cons, Nat.succ_mul]
                      have h2 := ih fun x hx => hg x (List.mem_cons_of_mem _ hx)
                      have h3 := hg g (List.mem_cons_self ..)
                      exact Nat.le_trans (Nat.add_le_add h3 h2) (Nat.le_of_eq (Nat.add_comm _ _))
                  have h2 := h1 m.files fun g hg => by
                    have h3 := HSM.out.pages hg m.opens.length
                    rw [List.take_length] at h3
                    exact h3
                  exact Nat.le_trans h2 (by have := hlf; omega)
                obtain ⟨us, hus⟩ : ∃ us, usedR m = us := ⟨_, rfl⟩
                rw [hus] at HUS hul
                obtain ⟨qu, hqu⟩ : ∃ qu, m.quota = qu := ⟨_, rfl⟩
                rw [hqu] at hq3
                have HQ := Lib.hid (And.intro hus hqu)
                have hql : qu ≤ 65536 := by rw [← hqu]; exact HI.out.quota
                clear hus hqu hq3' c8
                have hqq2 : ((us : Int) ≥ qu) := by have := HQ.out; omega
                go_wp2_with fail
                refine wp_region_quiet_below (by kernel_rfl) (by kernel_rfl) ?_
                repeat (quiet_step (first
                  | (go_at_call 54; exact Calls.regrown_of (HUS.out _ _))))
                refine wpQuiet_nil ?_
                intro _ hw'
                obtain ⟨⟨nq, osq⟩, hw''⟩ := hw'
                subst hw''
                have HB3 := Lib.hid (HB2.out.trans ((below_regrown w2 nq osq).mono HB2.out.size))
                have H3 := Lib.hid (H2.out.below (below_regrown w2 nq osq))
                generalize grow (redrawn w2 nq) osq = w3 at HB3 H3 ⊢
                clear HUS hq3
                go_wp2_with fail
                go_ret
                rw [HR.out]
                exact ⟨rfl, RfP.here H3.out ((Fr.below HB3.out).mono fun _ hi _ => hi)⟩
              · have HRS := Lib.hid (show writeR m name pg b = stepsR m fun m => { m with opens := m.opens ++ [⟨f.no, pg.toNat, padP b⟩] } by rw [HRW3.out, if_neg (fun h => hqq h.2)])
                obtain ⟨sb, hsb⟩ : ∃ sb, (stepR m).1 = sb := ⟨_, rfl⟩
                have HSB := Lib.hid hsb
                have hst := HST.out
                rw [hsb] at hst
                have HST2 := Lib.hid hst
                clear hsb hst
                cases sb
                · have HR := Lib.hid (show writeR m name pg b = (7, (stepR m).2) from by rw [HRS.out]; exact steps_no HSB.out)
                  go_enter Try.func31, Try.ntmps31
                  go_wp2_with fail
                  refine HF.out.mono ?_
                  rintro e w1 ⟨rfl, rfl⟩
                  go_wp2_with fail
                  refine HPA.out.mono ?_
                  rintro e w2 ⟨lv, rfl, hrow, hb2⟩
                  obtain ⟨Al, cl, hsh, -, -⟩ := hrow.shape
                  rw [List.length_map, HNP.out] at hsh
                  subst hsh
                  have HB2 := Lib.hid hb2
                  have H2 := Lib.hid (H.out.below hb2)
                  clear hrow hb2
                  have hq3 : ∀ dd os, (grow (redrawn w2 dd) os).cell? ⟨p, 3, none⟩ = some (.int .i64 m.quota) := fun dd os => cell_regrown H2.out.cell.2.2.2.1 dd os
                  have HUS := Lib.hid (fun dd os => rused_any (H2.out.below (below_regrown w2 dd os)) HSM.out)
                  have hq3' := hq3
                  have hul : usedR m ≤ 1024000000000 := by
                    have h1 : ∀ l : List RFile, (∀ g ∈ l, (pagesR m g).length ≤ 4000000000) → (l.map fun g => (pagesR m g).length).sum ≤ l.length * 4000000000 := by
                      intro l
                      induction l with
                      | nil => intro _; exact Nat.zero_le _
                      | cons g l ih =>
                        intro hg
                        rw [List.map_cons, List.sum_cons, List.length_cons, Nat.succ_mul]
                        have h2 := ih fun x hx => hg x (List.mem_cons_of_mem _ hx)
                        have h3 := hg g (List.mem_cons_self ..)
                        exact Nat.le_trans (Nat.add_le_add h3 h2) (Nat.le_of_eq (Nat.add_comm _ _))
                    have h2 := h1 m.files fun g hg => by
                      have h3 := HSM.out.pages hg m.opens.length
                      rw [List.take_length] at h3
                      exact h3
                    exact Nat.le_trans h2 (by have := hlf; omega)
                  obtain ⟨us, hus⟩ : ∃ us, usedR m = us := ⟨_, rfl⟩
                  rw [hus] at HUS hul
                  obtain ⟨qu, hqu⟩ : ∃ qu, m.quota = qu := ⟨_, rfl⟩
                  rw [hqu] at hq3
                  have HQ := Lib.hid (And.intro hus hqu)
                  have hql : qu ≤ 65536 := by rw [← hqu]; exact HI.out.quota
                  clear hus hqu hq3' c8
                  have hqq2 : ¬ ((us : Int) ≥ qu) := by have := HQ.out; omega
                  go_wp2_with fail
                  refine wp_region_quiet_below (by kernel_rfl) (by kernel_rfl) ?_
                  repeat (quiet_step (first
                    | (go_at_call 54; exact Calls.regrown_of (HUS.out _ _))))
                  refine wpQuiet_nil ?_
                  intro _ hw'
                  obtain ⟨⟨nq, osq⟩, hw''⟩ := hw'
                  subst hw''
                  have HB3 := Lib.hid (HB2.out.trans ((below_regrown w2 nq osq).mono HB2.out.size))
                  have H3 := Lib.hid (H2.out.below (below_regrown w2 nq osq))
                  generalize grow (redrawn w2 nq) osq = w3 at HB3 H3 ⊢
                  clear HUS hq3
                  go_wp2_with fail
                  refine (HST2.out _ H3.out).mono ?_
                  rintro e w4 ⟨rfl, hA, hB⟩
                  have HA := Lib.hid hA
                  have HB4 := Lib.hid (show Fr [p] w w4 from (Fr.below HB3.out).and hB)
                  clear hA hB
                  go_wp2_with fail
                  go_ret
                  rw [HR.out]
                  exact ⟨rfl, RfP.here HA.out HB4.out⟩
                · have HR := Lib.hid (show writeR m name pg b = (0, { (stepR m).2 with opens := (stepR m).2.opens ++ [⟨f.no, pg.toNat, padP b⟩] }) from by rw [HRS.out]; exact steps_yes HSB.out)
                  go_enter Try.func31, Try.ntmps31
                  go_wp2_with fail
                  refine HF.out.mono ?_
                  rintro e w1 ⟨rfl, rfl⟩
                  go_wp2_with fail
                  refine HPA.out.mono ?_
                  rintro e w2 ⟨lv, rfl, hrow, hb2⟩
                  obtain ⟨Al, cl, hsh, -, -⟩ := hrow.shape
                  rw [List.length_map, HNP.out] at hsh
                  subst hsh
                  have HB2 := Lib.hid hb2
                  have H2 := Lib.hid (H.out.below hb2)
                  clear hrow hb2
                  have hq3 : ∀ dd os, (grow (redrawn w2 dd) os).cell? ⟨p, 3, none⟩ = some (.int .i64 m.quota) := fun dd os => cell_regrown H2.out.cell.2.2.2.1 dd os
                  have HUS := Lib.hid (fun dd os => rused_any (H2.out.below (below_regrown w2 dd os)) HSM.out)
                  have hq3' := hq3
                  have hul : usedR m ≤ 1024000000000 := by
                    have h1 : ∀ l : List RFile, (∀ g ∈ l, (pagesR m g).length ≤ 4000000000) → (l.map fun g => (pagesR m g).length).sum ≤ l.length * 4000000000 := by
                      intro l
                      induction l with
                      | nil => intro _; exact Nat.zero_le _
                      | cons g l ih =>
                        intro hg
                        rw [List.map_cons, List.sum_cons, List.length_cons, Nat.succ_mul]
                        have h2 := ih fun x hx => hg x (List.mem_cons_of_mem _ hx)
                        have h3 := hg g (List.mem_cons_self ..)
                        exact Nat.le_trans (Nat.add_le_add h3 h2) (Nat.le_of_eq (Nat.add_comm _ _))
                    have h2 := h1 m.files fun g hg => by
                      have h3 := HSM.out.pages hg m.opens.length
                      rw [List.take_length] at h3
                      exact h3
                    exact Nat.le_trans h2 (by have := hlf; omega)
                  obtain ⟨us, hus⟩ : ∃ us, usedR m = us := ⟨_, rfl⟩
                  rw [hus] at HUS hul
                  obtain ⟨qu, hqu⟩ : ∃ qu, m.quota = qu := ⟨_, rfl⟩
                  rw [hqu] at hq3
                  have HQ := Lib.hid (And.intro hus hqu)
                  have hql : qu ≤ 65536 := by rw [← hqu]; exact HI.out.quota
                  clear hus hqu hq3' c8
                  have hqq2 : ¬ ((us : Int) ≥ qu) := by have := HQ.out; omega
                  go_wp2_with fail
                  refine wp_region_quiet_below (by kernel_rfl) (by kernel_rfl) ?_
                  repeat (quiet_step (first
                    | (go_at_call 54; exact Calls.regrown_of (HUS.out _ _))))
                  refine wpQuiet_nil ?_
                  intro _ hw'
                  obtain ⟨⟨nq, osq⟩, hw''⟩ := hw'
                  subst hw''
                  have HB3 := Lib.hid (HB2.out.trans ((below_regrown w2 nq osq).mono HB2.out.size))
                  have H3 := Lib.hid (H2.out.below (below_regrown w2 nq osq))
                  generalize grow (redrawn w2 nq) osq = w3 at HB3 H3 ⊢
                  clear HUS hq3
                  go_wp2_with fail
                  refine (HST2.out _ H3.out).mono ?_
                  rintro e w4 ⟨rfl, hA, hB⟩
                  have HA := Lib.hid hA
                  have HB4 := Lib.hid (show Fr [p] w w4 from (Fr.below HB3.out).and hB)
                  clear hA hB
                  obtain ⟨pn, rfl⟩ : ∃ pn : Nat, pg = pn := ⟨pg.toNat, by omega⟩
                  obtain rfl : pn = n := by omega
                  have hAc := hA
                  have hA4 : Cells w4 A (bv b) := fun hn => by
                    obtain ⟨ad, e, hcell⟩ := hAc hn
                    exact ⟨ad, e, fun j u hj => HB4.out.cellKept (fun hi => hAF ad e (by
                      have h1 : (ad.add j).block = p := by simpa using hi
                      have h2 : (ad.add j).block = ad.block := by unfold Addr.add; split <;> rfl
                      rw [← h2, h1]; simp [fpR])) (hcell j u hj)⟩
                  obtain ⟨Af, cf, hvf, -, hcf⟩ := HA.out.files
                  obtain ⟨Ao, co, hvo, -, -⟩ := HA.out.opens
                  subst hvf
                  subst hvo
                  have hlt1 : i < (stepR m).2.files.length := by rw [(stepR_files m).1]; exact hlt
                  obtain ⟨ad, sv, hAd, e0, -, -, -⟩ := file_look hcf HA.out.fv hlt1
                  subst hAd
                  have hfe1 : (stepR m).2.files[i] = f := by
                    have h1 := HFE.out
                    rw [List.getElem_eq_iff] at h1 ⊢
                    rw [(stepR_files m).1]; exact h1
                  rw [hfe1] at e0
                  obtain ⟨no, hno⟩ : ∃ no : Nat, f.no = no := ⟨_, rfl⟩
                  rw [hno] at e0
                  have HNO := Lib.hid hno
                  have hc0 := HA.out.cell.1
                  have hc1 := HA.out.cell.2.1
                  have how := HA.out.oo
                  obtain ⟨k, hk⟩ : ∃ k, 256 - nb = k := ⟨_, rfl⟩
                  have hkI : (256 : Int) - (nb : Int) = (k : Int) := by omega
                  have hcat : ¬ (9223372036854775807 < nb + k) := by omega
                  obtain ⟨bs, hbs⟩ : ∃ bs : ByteArray, (⟨b.toArray⟩ : ByteArray) = bs := ⟨_, rfl⟩
                  obtain ⟨zs, hzs⟩ : ∃ zs : ByteArray, (⟨(List.replicate k (0 : UInt8)).toArray⟩ : ByteArray) = zs := ⟨_, rfl⟩
                  have hpad : bs ++ zs = ⟨(padP b).b.toArray⟩ := by rw [← hbs, ← hzs, ← hk]; exact pad_bytes hnb (by omega)
                  have hbsz : bs.size = nb := by rw [← hbs]; show b.toArray.size = nb; simp [hnb]
                  have hzsz : zs.size = k := by rw [← hzs]; show (List.replicate k (0 : UInt8)).toArray.size = k; simp
                  have hap : p ∉ (Value.slice Ao (stepR m).2.opens.length co).ownBlock.toList := HA.out.not_o
                  have hsc : ∀ V : World, Fr (Value.slice Ao (stepR m).2.opens.length co).ownBlock.toList w4 V → V.cell? ⟨p, 0, none⟩ = some (.slice (some ad) (stepR m).2.files.length cf) ∧ V.cell? ⟨p, 1, none⟩ = some (.slice Ao (stepR m).2.opens.length co) ∧ V.cell? (ad.add (i * 3)) = some (.int .i64 (no : Int)) ∧
                      (convert 23 9 (.slice A nb c)).run Try.prog V = .ok (.string bs) V := fun V hV => by
                    refine ⟨hV.cellKept hap hc0, hV.cellKept hap hc1, hV.cellKept (fun hi => ?_) e0, ?_⟩
                    · have h1 : (ad.add (i * 3)).block = ad.block := by unfold Addr.add; split <;> rfl
                      exact HA.out.ne_fo (g := ad.block) rfl (by rw [← h1]; simpa using hi)
                    · rw [← hbs]
                      refine conv_bytes (fun hn => ?_) nb c hnb
                      obtain ⟨ad2, e, hcell⟩ := hA4 hn
                      exact ⟨ad2, e, fun j u hj => hV.cellKept (fun hi => hAF ad2 e (by
                        have h2 : (ad2.add j).block = ad2.block := by unfold Addr.add; split <;> rfl
                        rw [← h2]; simp [fpR]; exact .inr (.inr (by simpa using hi)))) (hcell j u hj)⟩
                  have SC := Lib.hid hsc
                  have HPAD := Lib.hid hpad
                  have HZS := Lib.hid hzs
                  have HOW := Lib.hid how
                  have hol : (stepR m).2.opens.length ≤ 4000000000 := by rw [(stepR_files m).2.1]; exact HSM.out.opens
                  have hlf1 : (stepR m).2.files.length ≤ 256 := by rw [(stepR_files m).1]; exact hlf
                  have hi1 : ((i : Nat) : Int) < (stepR m).2.files.length := by omega
                  clear hA hAc hA4 hcf hno hc0 hc1 how hbs hzs hpad hsc hap e0 hfe1
                  go_wp2_with fail
                  refine wp_region_noPanic ?_
                  refine wp_region_any (by kernel_rfl) (anyG_any (S := fun V : World => Fr (Value.slice Ao (stepR m).2.opens.length co).ownBlock.toList w4 V) (n := 27) _ _ _ _ ?_)
                  have hS : Fr (Value.slice Ao (stepR m).2.opens.length co).ownBlock.toList w4 w4.drew := (Fr.refl _ _).drew
                  change AnyG _ _ _ _ _ _ 28 (Array.replicate 28 false) _ w4.drew
                  refine anyG_take (i := 0) (oi := ⟨_, _, _, _, _, _⟩) (v := ?_) rfl rfl (by kernel_rfl) (by kernel_rfl) (by kernel_rfl) (by kernel_rfl) (by kernel_rfl) (fun _ _ _ h => h) (Or.inl ⟨by rfl, ?_⟩) hS ?_
                  rotate_left
                  · (intro w' hSw; skip; go_simp; (try with_reducible rfl))
                  try simp only [Act.put, List.setIfInBounds_toArray, List.set_cons_zero, List.set_cons_succ]
                  refine anyG_take (i := 1) (oi := ⟨_, _, _, _, _, _⟩) (v := ?_) rfl rfl (by kernel_rfl) (by kernel_rfl) (by kernel_rfl) (by kernel_rfl) (by kernel_rfl) (fun _ _ _ h => h) (Or.inl ⟨by rfl, ?_⟩) hS ?_
                  rotate_left
                  · (intro w' hSw; skip; go_simp; (try with_reducible rfl))
                  try simp only [Act.put, List.setIfInBounds_toArray, List.set_cons_zero, List.set_cons_succ]
                  refine anyG_take (i := 2) (oi := ⟨_, _, _, _, _, _⟩) (v := ?_) rfl rfl (by kernel_rfl) (by kernel_rfl) (by kernel_rfl) (by kernel_rfl) (by kernel_rfl) (fun _ _ _ h => h) (Or.inl ⟨by rfl, ?_⟩) hS ?_
                  rotate_left
                  · (intro w' hSw; skip; go_simp; (try with_reducible rfl))
                  try simp only [Act.put, List.setIfInBounds_toArray, List.set_cons_zero, List.set_cons_succ]
                  refine anyG_take (i := 3) (oi := ⟨_, _, _, _, _, _⟩) (v := ?_) rfl rfl (by kernel_rfl) (by kernel_rfl) (by kernel_rfl) (by kernel_rfl) (by kernel_rfl) (fun _ _ _ h => h) (Or.inl ⟨by rfl, ?_⟩) hS ?_
                  rotate_left
                  · (intro w' hSw; skip; go_simp; (try with_reducible rfl))
                  try simp only [Act.put, List.setIfInBounds_toArray, List.set_cons_zero, List.set_cons_succ]
                  refine anyG_take (i := 4) (oi := ⟨_, _, _, _, _, _⟩) (v := ?_) rfl rfl (by kernel_rfl) (by kernel_rfl) (by kernel_rfl) (by kernel_rfl) (by kernel_rfl) (fun _ _ _ h => h) (Or.inl ⟨by rfl, ?_⟩) hS ?_
                  rotate_left
                  · (intro w' hSw; obtain ⟨s1, s2, s3, s4⟩ := SC.out _ hSw; go_simp; (try with_reducible rfl))
                  try simp only [Act.put, List.setIfInBounds_toArray, List.set_cons_zero, List.set_cons_succ]
                  refine anyG_take (i := 5) (oi := ⟨_, _, _, _, _, _⟩) (v := ?_) rfl rfl (by kernel_rfl) (by kernel_rfl) (by kernel_rfl) (by kernel_rfl) (by kernel_rfl) (fun _ _ _ h => h) (Or.inl ⟨by rfl, ?_⟩) hS ?_
                  rotate_left
                  · (intro w' hSw; skip; go_simp; (try with_reducible rfl))
                  try simp only [Act.put, List.setIfInBounds_toArray, List.set_cons_zero, List.set_cons_succ]
                  refine anyG_take (i := 6) (oi := ⟨_, _, _, _, _, _⟩) (v := ?_) rfl rfl (by kernel_rfl) (by kernel_rfl) (by kernel_rfl) (by kernel_rfl) (by kernel_rfl) (fun _ _ _ h => h) (Or.inl ⟨by rfl, ?_⟩) hS ?_
                  rotate_left
                  · (intro w' hSw; skip; go_simp; (try with_reducible rfl))
                  try simp only [Act.put, List.setIfInBounds_toArray, List.set_cons_zero, List.set_cons_succ]
                  refine anyG_take (i := 7) (oi := ⟨_, _, _, _, _, _⟩) (v := ?_) rfl rfl (by kernel_rfl) (by kernel_rfl) (by kernel_rfl) (by kernel_rfl) (by kernel_rfl) (fun _ _ _ h => h) (Or.inl ⟨by rfl, ?_⟩) hS ?_
                  rotate_left
                  · (intro w' hSw; skip; go_simp; (try with_reducible rfl))
                  try simp only [Act.put, List.setIfInBounds_toArray, List.set_cons_zero, List.set_cons_succ]
                  refine anyG_take (i := 8) (oi := ⟨_, _, _, _, _, _⟩) (v := ?_) rfl rfl (by kernel_rfl) (by kernel_rfl) (by kernel_rfl) (by kernel_rfl) (by kernel_rfl) (fun _ _ _ h => h) (Or.inl ⟨by rfl, ?_⟩) hS ?_
                  rotate_left
                  · (intro w' hSw; obtain ⟨s1, s2, s3, s4⟩ := SC.out _ hSw; go_simp; (try with_reducible rfl))
                  try simp only [Act.put, List.setIfInBounds_toArray, List.set_cons_zero, List.set_cons_succ]
                  refine anyG_take (i := 9) (oi := ⟨_, _, _, _, _, _⟩) (v := ?_) rfl rfl (by kernel_rfl) (by kernel_rfl) (by kernel_rfl) (by kernel_rfl) (by kernel_rfl) (fun _ _ _ h => h) (Or.inl ⟨by rfl, ?_⟩) hS ?_
                  rotate_left
                  · (intro w' hSw; skip; go_simp; (try with_reducible rfl))
                  try simp only [Act.put, List.setIfInBounds_toArray, List.set_cons_zero, List.set_cons_succ]
                  refine anyG_take (i := 10) (oi := ⟨_, _, _, _, _, _⟩) (v := ?_) rfl rfl (by kernel_rfl) (by kernel_rfl) (by kernel_rfl) (by kernel_rfl) (by kernel_rfl) (fun _ _ _ h => h) (Or.inl ⟨by rfl, ?_⟩) hS ?_
                  rotate_left
                  · (intro w' hSw; skip; go_simp; (try with_reducible rfl))
                  try simp only [Act.put, List.setIfInBounds_toArray, List.set_cons_zero, List.set_cons_succ]
                  refine anyG_take (i := 11) (oi := ⟨_, _, _, _, _, _⟩) (v := ?_) rfl rfl (by kernel_rfl) (by kernel_rfl) (by kernel_rfl) (by kernel_rfl) (by kernel_rfl) (fun _ _ _ h => h) (Or.inl ⟨by rfl, ?_⟩) hS ?_
                  rotate_left
                  · (intro w' hSw; skip; go_simp; (try with_reducible rfl))
                  try simp only [Act.put, List.setIfInBounds_toArray, List.set_cons_zero, List.set_cons_succ]
                  refine anyG_take (i := 12) (oi := ⟨_, _, _, _, _, _⟩) (v := ?_) rfl rfl (by kernel_rfl) (by kernel_rfl) (by kernel_rfl) (by kernel_rfl) (by kernel_rfl) (fun _ _ _ h => h) (Or.inl ⟨by rfl, ?_⟩) hS ?_
                  rotate_left
                  · (intro w' hSw; obtain ⟨s1, s2, s3, s4⟩ := SC.out _ hSw; go_simp; (try with_reducible rfl))
                  try simp only [Act.put, List.setIfInBounds_toArray, List.set_cons_zero, List.set_cons_succ]
                  refine anyG_take (i := 13) (oi := ⟨_, _, _, _, _, _⟩) (v := ?_) rfl rfl (by kernel_rfl) (by kernel_rfl) (by kernel_rfl) (by kernel_rfl) (by kernel_rfl) (fun _ _ _ h => h) (Or.inl ⟨by rfl, ?_⟩) hS ?_
                  rotate_left
                  · (intro w' hSw; skip; go_simp; (try with_reducible rfl))
                  try simp only [Act.put, List.setIfInBounds_toArray, List.set_cons_zero, List.set_cons_succ]
                  refine anyG_take (i := 14) (oi := ⟨_, _, _, _, _, _⟩) (v := ?_) rfl rfl (by kernel_rfl) (by kernel_rfl) (by kernel_rfl) (by kernel_rfl) (by kernel_rfl) (fun _ _ _ h => h) (Or.inl ⟨by rfl, ?_⟩) hS ?_
                  rotate_left
                  · (intro w' hSw; skip; go_simp; (try with_reducible rfl))
                  try simp only [Act.put, List.setIfInBounds_toArray, List.set_cons_zero, List.set_cons_succ]
                  refine anyG_take (i := 15) (oi := ⟨_, _, _, _, _, _⟩) (v := ?_) rfl rfl (by kernel_rfl) (by kernel_rfl) (by kernel_rfl) (by kernel_rfl) (by kernel_rfl) (fun _ _ _ h => h) (Or.inl ⟨by rfl, ?_⟩) hS ?_
                  rotate_left
                  · (intro w' hSw; obtain ⟨s1, s2, s3, s4⟩ := SC.out _ hSw; go_simp; (try with_reducible rfl))
                  try simp only [Act.put, List.setIfInBounds_toArray, List.set_cons_zero, List.set_cons_succ]
                  refine anyG_take (i := 16) (oi := ⟨_, _, _, _, _, _⟩) (v := ?_) rfl rfl (by kernel_rfl) (by kernel_rfl) (by kernel_rfl) (by kernel_rfl) (by kernel_rfl) (fun _ _ _ h => h) (Or.inl ⟨by rfl, ?_⟩) hS ?_
                  rotate_left
                  · (intro w' hSw; skip; go_simp; (try with_reducible rfl))
                  try simp only [Act.put, List.setIfInBounds_toArray, List.set_cons_zero, List.set_cons_succ]
                  refine anyG_take (i := 17) (oi := ⟨_, _, _, _, _, _⟩) (v := ?_) rfl rfl (by kernel_rfl) (by kernel_rfl) (by kernel_rfl) (by kernel_rfl) (by kernel_rfl) (fun _ _ _ h => h) (Or.inl ⟨by rfl, ?_⟩) hS ?_
                  rotate_left
                  · (intro w' hSw; skip; go_simp; (try with_reducible rfl))
                  try simp only [Act.put, List.setIfInBounds_toArray, List.set_cons_zero, List.set_cons_succ]
                  refine anyG_take (i := 18) (oi := ⟨_, _, _, _, _, _⟩) (v := ?_) rfl rfl (by kernel_rfl) (by kernel_rfl) (by kernel_rfl) (by kernel_rfl) (by kernel_rfl) (fun _ _ _ h => h) (Or.inl ⟨by rfl, ?_⟩) hS ?_
                  rotate_left
                  · (intro w' hSw; skip; go_simp; (try with_reducible rfl))
                  try simp only [Act.put, List.setIfInBounds_toArray, List.set_cons_zero, List.set_cons_succ]
                  try rw [hkI]
                  try rw [show IntKind.i64.wrap ((k : Nat) : Int) = (k : Int) from IntWalk.i64_in _ (by omega)]
                  obtain ⟨wz, hmk, hcv, hbz⟩ := make_zeros w4.drew k (by omega)
                  rw [HZS.out, show w4.drew.heap.size = w4.heap.size from rfl] at hcv
                  refine anyG_all (rs := [19]) (by kernel_rfl) (by simp) (List.forall_mem_singleton.2 ?_)
                  refine wpOp_step (o := ⟨_, _, _, _, _, _⟩) rfl (fun K' hK => ?_)
                  have HK := Lib.hid hK
                  clear hK
                  rw [if_pos (by rfl)]
                  go_simp
                  have hS := hS.trans (Fr.below (F := (Value.slice Ao (stepR m).2.opens.length co).ownBlock.toList) hbz) fun i hi _ => hi
                  refine HK.out _ _ ⟨fun _ => hS, ?_⟩
                  clear HK
                  try simp only [Act.put, List.setIfInBounds_toArray, List.set_cons_zero, List.set_cons_succ]
                  refine anyG_all (rs := [20]) (by kernel_rfl) (by simp) (List.forall_mem_singleton.2 ?_)
                  refine wpOp_step (o := ⟨_, _, _, _, _, _⟩) rfl (fun K' hK => ?_)
                  have HK := Lib.hid hK
                  clear hK
                  rw [if_pos (by rfl)]
                  go_simp
                  refine HK.out _ _ ⟨fun _ => hS, ?_⟩
                  clear HK
                  try simp only [Act.put, List.setIfInBounds_toArray, List.set_cons_zero, List.set_cons_succ]
                  refine anyG_all (rs := [21]) (by kernel_rfl) (by simp) (List.forall_mem_singleton.2 ?_)
                  refine wpOp_step (o := ⟨_, _, _, _, _, _⟩) rfl (fun K' hK => ?_)
                  have HK := Lib.hid hK
                  clear hK
                  rw [if_pos (by rfl)]
                  go_simp
                  refine HK.out _ _ ⟨fun _ => hS, ?_⟩
                  clear HK
                  try simp only [Act.put, List.setIfInBounds_toArray, List.set_cons_zero, List.set_cons_succ]
                  refine anyG_all (rs := [22]) (by kernel_rfl) (by simp) (List.forall_mem_singleton.2 ?_)
                  refine wpOp_step (o := ⟨_, _, _, _, _, _⟩) rfl (fun K' hK => ?_)
                  have HK := Lib.hid hK
                  clear hK
                  rw [if_pos (by rfl)]
                  go_simp
                  refine HK.out _ _ ⟨fun _ => hS, ?_⟩
                  clear HK
                  try simp only [Act.put, List.setIfInBounds_toArray, List.set_cons_zero, List.set_cons_succ]
                  refine anyG_all (rs := [23]) (by kernel_rfl) (by simp) (List.forall_mem_singleton.2 ?_)
                  refine wpOp_step (o := ⟨_, _, _, _, _, _⟩) rfl (fun K' hK => ?_)
                  have HK := Lib.hid hK
                  clear hK
                  rw [if_pos (by rfl)]
                  go_simp
                  refine HK.out _ _ ⟨fun _ => hS.alloc _, ?_⟩
                  clear HK
                  have hS := hS.alloc (.cells #[.int .i64 (no : Int), .int .i64 (pn : Int), .string (bs ++ zs)] 99)
                  try simp only [Act.put, List.setIfInBounds_toArray, List.set_cons_zero, List.set_cons_succ]
                  refine anyG_all (rs := [24]) (by kernel_rfl) (by simp) (List.forall_mem_singleton.2 ?_)
                  refine wpOp_step (o := ⟨_, _, _, _, _, _⟩) rfl (fun K' hK => ?_)
                  have HK := Lib.hid hK
                  clear hK
                  rw [if_pos (by rfl)]
                  refine wp_appk slRWr _ _ rfl 0 (.slice Ao (stepR m).2.opens.length co) (stepR m).2.opens.length ((stepR m).2.opens.flatMap wrR) rfl (own_below HOW.out (((show Below w4.heap.size w4 wz from ⟨hbz.os, hbz.tape, hbz.output, hbz.size, hbz.block⟩)).alloc hbz.size _)) (some ⟨wz.heap.size, 0, none⟩) 1 1 [.int .i64 (no : Int), .int .i64 (pn : Int), .string (bs ++ zs)] rfl rfl (fresh_cells wz _ _) (by intro u hu; simp at hu; rcases hu with rfl | rfl | rfl <;> rfl) (by omega) (by omega) (Nat.zero_le _) ?_
                  intro v5 w5 ho5 hg5 hb5 hat5
                  obtain ⟨A5, c5, hv5, -, -⟩ := own_shape ho5
                  subst hv5
                  have hf5 : Fr (Value.slice Ao (stepR m).2.opens.length co).ownBlock.toList w4 w5 := hS.trans (Fr.grown hg5 fun k hk _ => by rw [hk]; simp) fun i hi _ => hi
                  have hD := HA.out.add_write (x := ⟨no, pn, padP b⟩) hf5 (by rw [HPAD.out] at ho5; exact ho5) (by
                    rcases hat5 with e | e
                    · exact .inl e
                    · exact .inr ⟨_, e, by have h1 : w4.heap.size ≤ wz.heap.size := hbz.size; simp; omega⟩)
                  have HF5 := Lib.hid hf5
                  have HDD := Lib.hid hD
                  have z0 := (SC.out _ hf5).2.1
                  have z1 : w5.frozen? ⟨p, 1, none⟩ = false := free_of ((hf5.block p (lt_of_block HA.out.blk) HA.out.not_o).trans HA.out.blk) 1
                  clear ho5 hg5 hb5 hat5 hf5 hD hS hmk hcv hbz
                  have hS := HF5.out
                  refine HK.out _ _ ⟨fun _ => hS, ?_⟩
                  clear HK
                  try simp only [Act.put, List.setIfInBounds_toArray, List.set_cons_zero, List.set_cons_succ]
                  refine anyG_all (rs := [25]) (by kernel_rfl) (by simp) (List.forall_mem_singleton.2 ?_)
                  refine wpOp_step (o := ⟨_, _, _, _, _, _⟩) rfl (fun K' hK => ?_)
                  have HK := Lib.hid hK
                  clear hK
                  rw [if_pos (by rfl)]
                  go_simp
                  refine HK.out _ _ ⟨fun _ => hS, ?_⟩
                  clear HK
                  try simp only [Act.put, List.setIfInBounds_toArray, List.set_cons_zero, List.set_cons_succ]
                  refine anyG_all (rs := [26]) (by kernel_rfl) (by simp) (List.forall_mem_singleton.2 ?_)
                  refine wpOp_step (o := ⟨_, _, _, _, _, _⟩) rfl (fun K' hK => ?_)
                  have HK := Lib.hid hK
                  clear hK
                  rw [if_pos (by rfl)]
                  go_simp
                  refine HK.out _ _ ⟨fun _ => hS, ?_⟩
                  clear HK
                  try simp only [Act.put, List.setIfInBounds_toArray, List.set_cons_zero, List.set_cons_succ]
                  refine anyG_all (rs := [27]) (by kernel_rfl) (by simp) (List.forall_mem_singleton.2 ?_)
                  refine wpOp_step (o := ⟨_, _, _, _, _, _⟩) rfl (fun K' hK => ?_)
                  have HK := Lib.hid hK
                  clear hK
                  rw [if_pos (by rfl)]
                  go_simp
                  refine HK.out _ _ ⟨fun h => absurd rfl h, anyG_done (by kernel_rfl) ?_⟩
                  clear HK
                  refine NoPanic.normal ?_
                  clear hS SC z0 z1
                  go_wp2_with fail
                  go_ret
                  rw [HR.out]
                  have h9 := HDD.out.1
                  simp only [← HNO.out] at h9
                  exact ⟨rfl, RfP.first HB4.out ⟨_, _, _, h9, HDD.out.2.1, HDD.out.2.2⟩⟩
            · have HRS := Lib.hid (show writeR m name pg b = stepsR m fun m => { m with opens := m.opens ++ [⟨f.no, pg.toNat, padP b⟩] } by rw [HRW3.out, if_neg (fun h => hpe h.1)])
              obtain ⟨sb, hsb⟩ : ∃ sb, (stepR m).1 = sb := ⟨_, rfl⟩
              have HSB := Lib.hid hsb
              have hst := HST.out
              rw [hsb] at hst
              have HST2 := Lib.hid hst
              clear hsb hst
              cases sb
              · have HR := Lib.hid (show writeR m name pg b = (7, (stepR m).2) from by rw [HRS.out]; exact steps_no HSB.out)
                go_enter Try.func31, Try.ntmps31
                go_wp2_with fail
                refine HF.out.mono ?_
                rintro e w1 ⟨rfl, rfl⟩
                go_wp2_with fail
                refine HPA.out.mono ?_
                rintro e w2 ⟨lv, rfl, hrow, hb2⟩
                obtain ⟨Al, cl, hsh, -, -⟩ := hrow.shape
                rw [List.length_map, HNP.out] at hsh
                subst hsh
                have HB2 := Lib.hid hb2
                have H2 := Lib.hid (H.out.below hb2)
                clear hrow hb2
                go_wp2_with fail
                go_quiet (fail)
                have HB3 := Lib.hid (below_drewN HB2.out nq)
                have H3 := Lib.hid (H2.out.heap (w' := w2.drewN nq) rfl)
                generalize w2.drewN nq = w3 at HB3 H3 ⊢
                go_wp2_with fail
                refine (HST2.out _ H3.out).mono ?_
                rintro e w4 ⟨rfl, hA, hB⟩
                have HA := Lib.hid hA
                have HB4 := Lib.hid (show Fr [p] w w4 from (Fr.below HB3.out).and hB)
                clear hA hB
                go_wp2_with fail
                go_ret
                rw [HR.out]
                exact ⟨rfl, RfP.here HA.out HB4.out⟩
              · have HR := Lib.hid (show writeR m name pg b = (0, { (stepR m).2 with opens := (stepR m).2.opens ++ [⟨f.no, pg.toNat, padP b⟩] }) from by rw [HRS.out]; exact steps_yes HSB.out)
                go_enter Try.func31, Try.ntmps31
                go_wp2_with fail
                refine HF.out.mono ?_
                rintro e w1 ⟨rfl, rfl⟩
                go_wp2_with fail
                refine HPA.out.mono ?_
                rintro e w2 ⟨lv, rfl, hrow, hb2⟩
                obtain ⟨Al, cl, hsh, -, -⟩ := hrow.shape
                rw [List.length_map, HNP.out] at hsh
                subst hsh
                have HB2 := Lib.hid hb2
                have H2 := Lib.hid (H.out.below hb2)
                clear hrow hb2
                go_wp2_with fail
                go_quiet (fail)
                have HB3 := Lib.hid (below_drewN HB2.out nq)
                have H3 := Lib.hid (H2.out.heap (w' := w2.drewN nq) rfl)
                generalize w2.drewN nq = w3 at HB3 H3 ⊢
                go_wp2_with fail
                refine (HST2.out _ H3.out).mono ?_
                rintro e w4 ⟨rfl, hA, hB⟩
                have HA := Lib.hid hA
                have HB4 := Lib.hid (show Fr [p] w w4 from (Fr.below HB3.out).and hB)
                clear hA hB
                obtain ⟨pn, rfl⟩ : ∃ pn : Nat, pg = pn := ⟨pg.toNat, by omega⟩
                have hAc := hA
                have hA4 : Cells w4 A (bv b) := fun hn => by
                  obtain ⟨ad, e, hcell⟩ := hAc hn
                  exact ⟨ad, e, fun j u hj => HB4.out.cellKept (fun hi => hAF ad e (by
                    have h1 : (ad.add j).block = p := by simpa using hi
                    have h2 : (ad.add j).block = ad.block := by unfold Addr.add; split <;> rfl
                    rw [← h2, h1]; simp [fpR])) (hcell j u hj)⟩
                obtain ⟨Af, cf, hvf, -, hcf⟩ := HA.out.files
                obtain ⟨Ao, co, hvo, -, -⟩ := HA.out.opens
                subst hvf
                subst hvo
                have hlt1 : i < (stepR m).2.files.length := by rw [(stepR_files m).1]; exact hlt
                obtain ⟨ad, sv, hAd, e0, -, -, -⟩ := file_look hcf HA.out.fv hlt1
                subst hAd
                have hfe1 : (stepR m).2.files[i] = f := by
                  have h1 := HFE.out
                  rw [List.getElem_eq_iff] at h1 ⊢
                  rw [(stepR_files m).1]; exact h1
                rw [hfe1] at e0
                obtain ⟨no, hno⟩ : ∃ no : Nat, f.no = no := ⟨_, rfl⟩
                rw [hno] at e0
                have HNO := Lib.hid hno
                have hc0 := HA.out.cell.1
                have hc1 := HA.out.cell.2.1
                have how := HA.out.oo
                obtain ⟨k, hk⟩ : ∃ k, 256 - nb = k := ⟨_, rfl⟩
                have hkI : (256 : Int) - (nb : Int) = (k : Int) := by omega
                have hcat : ¬ (9223372036854775807 < nb + k) := by omega
                obtain ⟨bs, hbs⟩ : ∃ bs : ByteArray, (⟨b.toArray⟩ : ByteArray) = bs := ⟨_, rfl⟩
                obtain ⟨zs, hzs⟩ : ∃ zs : ByteArray, (⟨(List.replicate k (0 : UInt8)).toArray⟩ : ByteArray) = zs := ⟨_, rfl⟩
                have hpad : bs ++ zs = ⟨(padP b).b.toArray⟩ := by rw [← hbs, ← hzs, ← hk]; exact pad_bytes hnb (by omega)
                have hbsz : bs.size = nb := by rw [← hbs]; show b.toArray.size = nb; simp [hnb]
                have hzsz : zs.size = k := by rw [← hzs]; show (List.replicate k (0 : UInt8)).toArray.size = k; simp
                have hap : p ∉ (Value.slice Ao (stepR m).2.opens.length co).ownBlock.toList := HA.out.not_o
                have hsc : ∀ V : World, Fr (Value.slice Ao (stepR m).2.opens.length co).ownBlock.toList w4 V → V.cell? ⟨p, 0, none⟩ = some (.slice (some ad) (stepR m).2.files.length cf) ∧ V.cell? ⟨p, 1, none⟩ = some (.slice Ao (stepR m).2.opens.length co) ∧ V.cell? (ad.add (i * 3)) = some (.int .i64 (no : Int)) ∧
                    (convert 23 9 (.slice A nb c)).run Try.prog V = .ok (.string bs) V := fun V hV => by
                  refine ⟨hV.cellKept hap hc0, hV.cellKept hap hc1, hV.cellKept (fun hi => ?_) e0, ?_⟩
                  · have h1 : (ad.add (i * 3)).block = ad.block := by unfold Addr.add; split <;> rfl
                    exact HA.out.ne_fo (g := ad.block) rfl (by rw [← h1]; simpa using hi)
                  · rw [← hbs]
                    refine conv_bytes (fun hn => ?_) nb c hnb
                    obtain ⟨ad2, e, hcell⟩ := hA4 hn
                    exact ⟨ad2, e, fun j u hj => hV.cellKept (fun hi => hAF ad2 e (by
                      have h2 : (ad2.add j).block = ad2.block := by unfold Addr.add; split <;> rfl
                      rw [← h2]; simp [fpR]; exact .inr (.inr (by simpa using hi)))) (hcell j u hj)⟩
                have SC := Lib.hid hsc
                have HPAD := Lib.hid hpad
                have HZS := Lib.hid hzs
                have HOW := Lib.hid how
                have hol : (stepR m).2.opens.length ≤ 4000000000 := by rw [(stepR_files m).2.1]; exact HSM.out.opens
                have hlf1 : (stepR m).2.files.length ≤ 256 := by rw [(stepR_files m).1]; exact hlf
                have hi1 : ((i : Nat) : Int) < (stepR m).2.files.length := by omega
                clear hA hAc hA4 hcf hno hc0 hc1 how hbs hzs hpad hsc hap e0 hfe1
                go_wp2_with fail
                refine wp_region_noPanic ?_
                refine wp_region_any (by kernel_rfl) (anyG_any (S := fun V : World => Fr (Value.slice Ao (stepR m).2.opens.length co).ownBlock.toList w4 V) (n := 27) _ _ _ _ ?_)
                have hS : Fr (Value.slice Ao (stepR m).2.opens.length co).ownBlock.toList w4 w4.drew := (Fr.refl _ _).drew
                change AnyG _ _ _ _ _ _ 28 (Array.replicate 28 false) _ w4.drew
                refine anyG_take (i := 0) (oi := ⟨_, _, _, _, _, _⟩) (v := ?_) rfl rfl (by kernel_rfl) (by kernel_rfl) (by kernel_rfl) (by kernel_rfl) (by kernel_rfl) (fun _ _ _ h => h) (Or.inl ⟨by rfl, ?_⟩) hS ?_
                rotate_left
                · (intro w' hSw; skip; go_simp; (try with_reducible rfl))
                try simp only [Act.put, List.setIfInBounds_toArray, List.set_cons_zero, List.set_cons_succ]
                refine anyG_take (i := 1) (oi := ⟨_, _, _, _, _, _⟩) (v := ?_) rfl rfl (by kernel_rfl) (by kernel_rfl) (by kernel_rfl) (by kernel_rfl) (by kernel_rfl) (fun _ _ _ h => h) (Or.inl ⟨by rfl, ?_⟩) hS ?_
                rotate_left
                · (intro w' hSw; skip; go_simp; (try with_reducible rfl))
                try simp only [Act.put, List.setIfInBounds_toArray, List.set_cons_zero, List.set_cons_succ]
                refine anyG_take (i := 2) (oi := ⟨_, _, _, _, _, _⟩) (v := ?_) rfl rfl (by kernel_rfl) (by kernel_rfl) (by kernel_rfl) (by kernel_rfl) (by kernel_rfl) (fun _ _ _ h => h) (Or.inl ⟨by rfl, ?_⟩) hS ?_
                rotate_left
                · (intro w' hSw; skip; go_simp; (try with_reducible rfl))
                try simp only [Act.put, List.setIfInBounds_toArray, List.set_cons_zero, List.set_cons_succ]
                refine anyG_take (i := 3) (oi := ⟨_, _, _, _, _, _⟩) (v := ?_) rfl rfl (by kernel_rfl) (by kernel_rfl) (by kernel_rfl) (by kernel_rfl) (by kernel_rfl) (fun _ _ _ h => h) (Or.inl ⟨by rfl, ?_⟩) hS ?_
                rotate_left
                · (intro w' hSw; skip; go_simp; (try with_reducible rfl))
                try simp only [Act.put, List.setIfInBounds_toArray, List.set_cons_zero, List.set_cons_succ]
                refine anyG_take (i := 4) (oi := ⟨_, _, _, _, _, _⟩) (v := ?_) rfl rfl (by kernel_rfl) (by kernel_rfl) (by kernel_rfl) (by kernel_rfl) (by kernel_rfl) (fun _ _ _ h => h) (Or.inl ⟨by rfl, ?_⟩) hS ?_
                rotate_left
                · (intro w' hSw; obtain ⟨s1, s2, s3, s4⟩ := SC.out _ hSw; go_simp; (try with_reducible rfl))
                try simp only [Act.put, List.setIfInBounds_toArray, List.set_cons_zero, List.set_cons_succ]
                refine anyG_take (i := 5) (oi := ⟨_, _, _, _, _, _⟩) (v := ?_) rfl rfl (by kernel_rfl) (by kernel_rfl) (by kernel_rfl) (by kernel_rfl) (by kernel_rfl) (fun _ _ _ h => h) (Or.inl ⟨by rfl, ?_⟩) hS ?_
                rotate_left
                · (intro w' hSw; skip; go_simp; (try with_reducible rfl))
                try simp only [Act.put, List.setIfInBounds_toArray, List.set_cons_zero, List.set_cons_succ]
                refine anyG_take (i := 6) (oi := ⟨_, _, _, _, _, _⟩) (v := ?_) rfl rfl (by kernel_rfl) (by kernel_rfl) (by kernel_rfl) (by kernel_rfl) (by kernel_rfl) (fun _ _ _ h => h) (Or.inl ⟨by rfl, ?_⟩) hS ?_
                rotate_left
                · (intro w' hSw; skip; go_simp; (try with_reducible rfl))
                try simp only [Act.put, List.setIfInBounds_toArray, List.set_cons_zero, List.set_cons_succ]
                refine anyG_take (i := 7) (oi := ⟨_, _, _, _, _, _⟩) (v := ?_) rfl rfl (by kernel_rfl) (by kernel_rfl) (by kernel_rfl) (by kernel_rfl) (by kernel_rfl) (fun _ _ _ h => h) (Or.inl ⟨by rfl, ?_⟩) hS ?_
                rotate_left
                · (intro w' hSw; skip; go_simp; (try with_reducible rfl))
                try simp only [Act.put, List.setIfInBounds_toArray, List.set_cons_zero, List.set_cons_succ]
                refine anyG_take (i := 8) (oi := ⟨_, _, _, _, _, _⟩) (v := ?_) rfl rfl (by kernel_rfl) (by kernel_rfl) (by kernel_rfl) (by kernel_rfl) (by kernel_rfl) (fun _ _ _ h => h) (Or.inl ⟨by rfl, ?_⟩) hS ?_
                rotate_left
                · (intro w' hSw; obtain ⟨s1, s2, s3, s4⟩ := SC.out _ hSw; go_simp; (try with_reducible rfl))
                try simp only [Act.put, List.setIfInBounds_toArray, List.set_cons_zero, List.set_cons_succ]
                refine anyG_take (i := 9) (oi := ⟨_, _, _, _, _, _⟩) (v := ?_) rfl rfl (by kernel_rfl) (by kernel_rfl) (by kernel_rfl) (by kernel_rfl) (by kernel_rfl) (fun _ _ _ h => h) (Or.inl ⟨by rfl, ?_⟩) hS ?_
                rotate_left
                · (intro w' hSw; skip; go_simp; (try with_reducible rfl))
                try simp only [Act.put, List.setIfInBounds_toArray, List.set_cons_zero, List.set_cons_succ]
                refine anyG_take (i := 10) (oi := ⟨_, _, _, _, _, _⟩) (v := ?_) rfl rfl (by kernel_rfl) (by kernel_rfl) (by kernel_rfl) (by kernel_rfl) (by kernel_rfl) (fun _ _ _ h => h) (Or.inl ⟨by rfl, ?_⟩) hS ?_
                rotate_left
                · (intro w' hSw; skip; go_simp; (try with_reducible rfl))
                try simp only [Act.put, List.setIfInBounds_toArray, List.set_cons_zero, List.set_cons_succ]
                refine anyG_take (i := 11) (oi := ⟨_, _, _, _, _, _⟩) (v := ?_) rfl rfl (by kernel_rfl) (by kernel_rfl) (by kernel_rfl) (by kernel_rfl) (by kernel_rfl) (fun _ _ _ h => h) (Or.inl ⟨by rfl, ?_⟩) hS ?_
                rotate_left
                · (intro w' hSw; skip; go_simp; (try with_reducible rfl))
                try simp only [Act.put, List.setIfInBounds_toArray, List.set_cons_zero, List.set_cons_succ]
                refine anyG_take (i := 12) (oi := ⟨_, _, _, _, _, _⟩) (v := ?_) rfl rfl (by kernel_rfl) (by kernel_rfl) (by kernel_rfl) (by kernel_rfl) (by kernel_rfl) (fun _ _ _ h => h) (Or.inl ⟨by rfl, ?_⟩) hS ?_
                rotate_left
                · (intro w' hSw; obtain ⟨s1, s2, s3, s4⟩ := SC.out _ hSw; go_simp; (try with_reducible rfl))
                try simp only [Act.put, List.setIfInBounds_toArray, List.set_cons_zero, List.set_cons_succ]
                refine anyG_take (i := 13) (oi := ⟨_, _, _, _, _, _⟩) (v := ?_) rfl rfl (by kernel_rfl) (by kernel_rfl) (by kernel_rfl) (by kernel_rfl) (by kernel_rfl) (fun _ _ _ h => h) (Or.inl ⟨by rfl, ?_⟩) hS ?_
                rotate_left
                · (intro w' hSw; skip; go_simp; (try with_reducible rfl))
                try simp only [Act.put, List.setIfInBounds_toArray, List.set_cons_zero, List.set_cons_succ]
                refine anyG_take (i := 14) (oi := ⟨_, _, _, _, _, _⟩) (v := ?_) rfl rfl (by kernel_rfl) (by kernel_rfl) (by kernel_rfl) (by kernel_rfl) (by kernel_rfl) (fun _ _ _ h => h) (Or.inl ⟨by rfl, ?_⟩) hS ?_
                rotate_left
                · (intro w' hSw; skip; go_simp; (try with_reducible rfl))
                try simp only [Act.put, List.setIfInBounds_toArray, List.set_cons_zero, List.set_cons_succ]
                refine anyG_take (i := 15) (oi := ⟨_, _, _, _, _, _⟩) (v := ?_) rfl rfl (by kernel_rfl) (by kernel_rfl) (by kernel_rfl) (by kernel_rfl) (by kernel_rfl) (fun _ _ _ h => h) (Or.inl ⟨by rfl, ?_⟩) hS ?_
                rotate_left
                · (intro w' hSw; obtain ⟨s1, s2, s3, s4⟩ := SC.out _ hSw; go_simp; (try with_reducible rfl))
                try simp only [Act.put, List.setIfInBounds_toArray, List.set_cons_zero, List.set_cons_succ]
                refine anyG_take (i := 16) (oi := ⟨_, _, _, _, _, _⟩) (v := ?_) rfl rfl (by kernel_rfl) (by kernel_rfl) (by kernel_rfl) (by kernel_rfl) (by kernel_rfl) (fun _ _ _ h => h) (Or.inl ⟨by rfl, ?_⟩) hS ?_
                rotate_left
                · (intro w' hSw; skip; go_simp; (try with_reducible rfl))
                try simp only [Act.put, List.setIfInBounds_toArray, List.set_cons_zero, List.set_cons_succ]
                refine anyG_take (i := 17) (oi := ⟨_, _, _, _, _, _⟩) (v := ?_) rfl rfl (by kernel_rfl) (by kernel_rfl) (by kernel_rfl) (by kernel_rfl) (by kernel_rfl) (fun _ _ _ h => h) (Or.inl ⟨by rfl, ?_⟩) hS ?_
                rotate_left
                · (intro w' hSw; skip; go_simp; (try with_reducible rfl))
                try simp only [Act.put, List.setIfInBounds_toArray, List.set_cons_zero, List.set_cons_succ]
                refine anyG_take (i := 18) (oi := ⟨_, _, _, _, _, _⟩) (v := ?_) rfl rfl (by kernel_rfl) (by kernel_rfl) (by kernel_rfl) (by kernel_rfl) (by kernel_rfl) (fun _ _ _ h => h) (Or.inl ⟨by rfl, ?_⟩) hS ?_
                rotate_left
                · (intro w' hSw; skip; go_simp; (try with_reducible rfl))
                try simp only [Act.put, List.setIfInBounds_toArray, List.set_cons_zero, List.set_cons_succ]
                try rw [hkI]
                try rw [show IntKind.i64.wrap ((k : Nat) : Int) = (k : Int) from IntWalk.i64_in _ (by omega)]
                obtain ⟨wz, hmk, hcv, hbz⟩ := make_zeros w4.drew k (by omega)
                rw [HZS.out, show w4.drew.heap.size = w4.heap.size from rfl] at hcv
                refine anyG_all (rs := [19]) (by kernel_rfl) (by simp) (List.forall_mem_singleton.2 ?_)
                refine wpOp_step (o := ⟨_, _, _, _, _, _⟩) rfl (fun K' hK => ?_)
                have HK := Lib.hid hK
                clear hK
                rw [if_pos (by rfl)]
                go_simp
                have hS := hS.trans (Fr.below (F := (Value.slice Ao (stepR m).2.opens.length co).ownBlock.toList) hbz) fun i hi _ => hi
                refine HK.out _ _ ⟨fun _ => hS, ?_⟩
                clear HK
                try simp only [Act.put, List.setIfInBounds_toArray, List.set_cons_zero, List.set_cons_succ]
                refine anyG_all (rs := [20]) (by kernel_rfl) (by simp) (List.forall_mem_singleton.2 ?_)
                refine wpOp_step (o := ⟨_, _, _, _, _, _⟩) rfl (fun K' hK => ?_)
                have HK := Lib.hid hK
                clear hK
                rw [if_pos (by rfl)]
                go_simp
                refine HK.out _ _ ⟨fun _ => hS, ?_⟩
                clear HK
                try simp only [Act.put, List.setIfInBounds_toArray, List.set_cons_zero, List.set_cons_succ]
                refine anyG_all (rs := [21]) (by kernel_rfl) (by simp) (List.forall_mem_singleton.2 ?_)
                refine wpOp_step (o := ⟨_, _, _, _, _, _⟩) rfl (fun K' hK => ?_)
                have HK := Lib.hid hK
                clear hK
                rw [if_pos (by rfl)]
                go_simp
                refine HK.out _ _ ⟨fun _ => hS, ?_⟩
                clear HK
                try simp only [Act.put, List.setIfInBounds_toArray, List.set_cons_zero, List.set_cons_succ]
                refine anyG_all (rs := [22]) (by kernel_rfl) (by simp) (List.forall_mem_singleton.2 ?_)
                refine wpOp_step (o := ⟨_, _, _, _, _, _⟩) rfl (fun K' hK => ?_)
                have HK := Lib.hid hK
                clear hK
                rw [if_pos (by rfl)]
                go_simp
                refine HK.out _ _ ⟨fun _ => hS, ?_⟩
                clear HK
                try simp only [Act.put, List.setIfInBounds_toArray, List.set_cons_zero, List.set_cons_succ]
                refine anyG_all (rs := [23]) (by kernel_rfl) (by simp) (List.forall_mem_singleton.2 ?_)
                refine wpOp_step (o := ⟨_, _, _, _, _, _⟩) rfl (fun K' hK => ?_)
                have HK := Lib.hid hK
                clear hK
                rw [if_pos (by rfl)]
                go_simp
                refine HK.out _ _ ⟨fun _ => hS.alloc _, ?_⟩
                clear HK
                have hS := hS.alloc (.cells #[.int .i64 (no : Int), .int .i64 (pn : Int), .string (bs ++ zs)] 99)
                try simp only [Act.put, List.setIfInBounds_toArray, List.set_cons_zero, List.set_cons_succ]
                refine anyG_all (rs := [24]) (by kernel_rfl) (by simp) (List.forall_mem_singleton.2 ?_)
                refine wpOp_step (o := ⟨_, _, _, _, _, _⟩) rfl (fun K' hK => ?_)
                have HK := Lib.hid hK
                clear hK
                rw [if_pos (by rfl)]
                refine wp_appk slRWr _ _ rfl 0 (.slice Ao (stepR m).2.opens.length co) (stepR m).2.opens.length ((stepR m).2.opens.flatMap wrR) rfl (own_below HOW.out (((show Below w4.heap.size w4 wz from ⟨hbz.os, hbz.tape, hbz.output, hbz.size, hbz.block⟩)).alloc hbz.size _)) (some ⟨wz.heap.size, 0, none⟩) 1 1 [.int .i64 (no : Int), .int .i64 (pn : Int), .string (bs ++ zs)] rfl rfl (fresh_cells wz _ _) (by intro u hu; simp at hu; rcases hu with rfl | rfl | rfl <;> rfl) (by omega) (by omega) (Nat.zero_le _) ?_
                intro v5 w5 ho5 hg5 hb5 hat5
                obtain ⟨A5, c5, hv5, -, -⟩ := own_shape ho5
                subst hv5
                have hf5 : Fr (Value.slice Ao (stepR m).2.opens.length co).ownBlock.toList w4 w5 := hS.trans (Fr.grown hg5 fun k hk _ => by rw [hk]; simp) fun i hi _ => hi
                have hD := HA.out.add_write (x := ⟨no, pn, padP b⟩) hf5 (by rw [HPAD.out] at ho5; exact ho5) (by
                  rcases hat5 with e | e
                  · exact .inl e
                  · exact .inr ⟨_, e, by have h1 : w4.heap.size ≤ wz.heap.size := hbz.size; simp; omega⟩)
                have HF5 := Lib.hid hf5
                have HDD := Lib.hid hD
                have z0 := (SC.out _ hf5).2.1
                have z1 : w5.frozen? ⟨p, 1, none⟩ = false := free_of ((hf5.block p (lt_of_block HA.out.blk) HA.out.not_o).trans HA.out.blk) 1
                clear ho5 hg5 hb5 hat5 hf5 hD hS hmk hcv hbz
                have hS := HF5.out
                refine HK.out _ _ ⟨fun _ => hS, ?_⟩
                clear HK
                try simp only [Act.put, List.setIfInBounds_toArray, List.set_cons_zero, List.set_cons_succ]
                refine anyG_all (rs := [25]) (by kernel_rfl) (by simp) (List.forall_mem_singleton.2 ?_)
                refine wpOp_step (o := ⟨_, _, _, _, _, _⟩) rfl (fun K' hK => ?_)
                have HK := Lib.hid hK
                clear hK
                rw [if_pos (by rfl)]
                go_simp
                refine HK.out _ _ ⟨fun _ => hS, ?_⟩
                clear HK
                try simp only [Act.put, List.setIfInBounds_toArray, List.set_cons_zero, List.set_cons_succ]
                refine anyG_all (rs := [26]) (by kernel_rfl) (by simp) (List.forall_mem_singleton.2 ?_)
                refine wpOp_step (o := ⟨_, _, _, _, _, _⟩) rfl (fun K' hK => ?_)
                have HK := Lib.hid hK
                clear hK
                rw [if_pos (by rfl)]
                go_simp
                refine HK.out _ _ ⟨fun _ => hS, ?_⟩
                clear HK
                try simp only [Act.put, List.setIfInBounds_toArray, List.set_cons_zero, List.set_cons_succ]
                refine anyG_all (rs := [27]) (by kernel_rfl) (by simp) (List.forall_mem_singleton.2 ?_)
                refine wpOp_step (o := ⟨_, _, _, _, _, _⟩) rfl (fun K' hK => ?_)
                have HK := Lib.hid hK
                clear hK
                rw [if_pos (by rfl)]
                go_simp
                refine HK.out _ _ ⟨fun h => absurd rfl h, anyG_done (by kernel_rfl) ?_⟩
                clear HK
                refine NoPanic.normal ?_
                clear hS SC z0 z1
                go_wp2_with fail
                go_ret
                rw [HR.out]
                have h9 := HDD.out.1
                simp only [← HNO.out] at h9
                exact ⟨rfl, RfP.first HB4.out ⟨_, _, _, h9, HDD.out.2.1, HDD.out.2.2⟩⟩
  · have HR := Lib.hid (show writeR m name pg b = (7, m) from by unfold writeR; rw [if_pos HD.out])
    go_enter Try.func31, Try.ntmps31
    go_wp2_with fail
    go_ret
    exact ROp.same H.out _ _ HR.out
end Go.Proofs.Ytikbphafpmdpeaa

set_option linter.all false
namespace Go.Proofs.Ytikbphafpmdpeaa
open Go.RowKit

theorem stayR_snoc (keep : Nat) (x : RWr) : ∀ (l : List RWr) (n : Nat), stayR keep n (l ++ [x]) = stayR keep n l ++ (if bitB keep (n + l.length) = true then [x] else [])
  | [], n => by simp [stayR]
  | y :: l, n => by
    have ih := stayR_snoc keep x l (n + 1)
    have e : n + 1 + l.length = n + (y :: l).length := by simp; omega
    rw [e] at ih
    show (if bitB keep n = true then y :: stayR keep (n + 1) (l ++ [x]) else stayR keep (n + 1) (l ++ [x])) = _
    rw [ih]
    by_cases h : bitB keep n = true
    · rw [if_pos h]
      show _ = (if bitB keep n = true then y :: stayR keep (n + 1) l else stayR keep (n + 1) l) ++ _
      rw [if_pos h]; rfl
    · rw [if_neg h]
      show _ = (if bitB keep n = true then y :: stayR keep (n + 1) l else stayR keep (n + 1) l) ++ _
      rw [if_neg h]
theorem stay_take (keep : Nat) (l : List RWr) {j : Nat} (hj : j < l.length) : stayR keep 0 (l.take (j + 1)) = stayR keep 0 (l.take j) ++ (if bitB keep j = true then [l[j]] else []) := by
  rw [List.take_add_one, List.getElem?_eq_getElem hj]
  show stayR keep 0 (l.take j ++ [l[j]]) = _
  rw [stayR_snoc, List.length_take, Nat.min_eq_left (Nat.le_of_lt hj), Nat.zero_add]
theorem stayR_len (keep : Nat) : ∀ (l : List RWr) (n : Nat), (stayR keep n l).length ≤ l.length
  | [], _ => Nat.le_refl _
  | x :: l, n => by
    unfold stayR
    have := stayR_len keep l (n + 1)
    split <;> simp <;> omega
/-- The first so many files settled. -/
def partR (M : RefT) (fs : List RFile) (j : Nat) : RefT := { M with files := (fs.take j).map (settleR M) ++ fs.drop j }
theorem part_len (M : RefT) (fs : List RFile) {j : Nat} (_ : j ≤ fs.length) : (partR M fs j).files.length = fs.length := by simp [partR]; omega
theorem part_get (s : RFile → RFile) (fs : List RFile) {j : Nat} (hj : j ≤ fs.length) (k : Nat) : ((fs.take j).map s ++ fs.drop j)[k]? = if k < j then fs[k]?.map s else fs[k]? := by
  have hl : ((fs.take j).map s).length = j := by simp; omega
  by_cases h : k < j
  · rw [if_pos h, List.getElem?_append_left (by omega), List.getElem?_map, List.getElem?_take, if_pos h]
  · rw [if_neg h, List.getElem?_append_right (by omega), hl, List.getElem?_drop]
    congr 1
    omega
theorem part_at (M : RefT) (fs : List RFile) {j : Nat} (hj : j < fs.length) : ∃ h : j < (partR M fs j).files.length, (partR M fs j).files[j] = fs[j] := by
  refine ⟨by rw [part_len M fs (Nat.le_of_lt hj)]; exact hj, ?_⟩
  have h2 : (partR M fs j).files[j]? = some fs[j] := (part_get _ fs (Nat.le_of_lt hj) j).trans (by rw [if_neg (Nat.lt_irrefl _)]; exact List.getElem?_eq_getElem hj)
  exact (List.getElem?_eq_some_iff.1 h2).2
theorem part_pages (M : RefT) (fs : List RFile) (j : Nat) (f : RFile) : pagesR (partR M fs j) f = pagesR M f := rfl
theorem part_next (M : RefT) (fs : List RFile) {j : Nat} (hj : j < fs.length) : { partR M fs j with files := (partR M fs j).files.modify j fun f => { f with settled := pagesR M fs[j] } } = partR M fs (j + 1) := by
  have hf : (partR M fs j).files.modify j (fun f => { f with settled := pagesR M fs[j] }) = (fs.take (j + 1)).map (settleR M) ++ fs.drop (j + 1) := by
    refine List.ext_getElem? fun k => ?_
    rw [List.getElem?_modify, part_get _ fs (show j + 1 ≤ fs.length from hj)]
    show (_ : RFile → RFile) <$> ((fs.take j).map (settleR M) ++ fs.drop j)[k]? = _
    rw [part_get _ fs (Nat.le_of_lt hj)]
    by_cases h1 : k < j
    · rw [if_pos h1, if_pos (by omega)]
      cases fs[k]? with
      | none => rfl
      | some g => simp [show ¬ j = k by omega]
    · rw [if_neg h1]
      by_cases h2 : j = k
      · subst h2
        rw [if_pos (by omega), List.getElem?_eq_getElem hj]
        simp [settleR]
      · rw [if_neg (by omega)]
        cases fs[k]? with
        | none => rfl
        | some g => simp [h2]
  have e : ∀ a b : List RFile, a = b → ({ partR M fs j with files := a } : RefT) = { M with files := b } := by
    rintro a b rfl; rfl
  exact e _ _ hf
theorem part_small {M : RefT} {fs : List RFile} (h : Small { M with files := fs }) (j : Nat) : Small (partR M fs j) := by
  refine ⟨?_, fun f hf => ?_, h.place, h.opens⟩
  · have h1 := h.files
    show ((fs.take j).map (settleR M) ++ fs.drop j).length ≤ 256
    have h2 : fs.length ≤ 256 := h1
    simp; omega
  · rcases List.mem_append.1 hf with hf | hf
    · obtain ⟨g, hg, rfl⟩ := List.mem_map.1 hf
      have h1 := h.pages (f := g) (List.mem_of_mem_take hg) M.opens.length
      have h2 : (layR g.no g.settled (M.opens.take M.opens.length)).length ≤ 4000000000 := h1
      rw [List.take_length] at h2
      exact h2
    · exact h.settled f (List.mem_of_mem_drop hf)
theorem RInv.smallStay {m : RefT} (h : Small m) (k : Nat) : Small { m with opens := stayR k 0 m.opens } :=
  ⟨h.files, h.settled, fun x hx => h.place x (stayR_mem hx), Nat.le_trans (stayR_len ..) h.opens⟩
set_option maxRecDepth 100000 in
set_option maxHeartbeats 8000000 in
theorem ron_any {p : Nat} {vf vo : Value} {vs : List Value} {m : RefT} {w : World} (h : RfAt w p vf vo vs m) (hi : RInv m) (hc : m.count ≤ 4000000000) :
    Calls Try.prog 38 #[.pointer (some ⟨p, 0, none⟩)] w fun e w' => e = .returned (.tuple #[]) ∧ RfP w p vf vo (onR m) w' := by
  obtain ⟨c0, c1, -, -, -, -, -, c7, c8⟩ := h.cell
  have H := Lib.hid h
  have hsm := hi.small hc
  have HSM := Lib.hid hsm
  have hkp := hi.keep
  have hlo := hsm.opens
  have hlf := hsm.files
  obtain ⟨dn, hdn⟩ : ∃ dn, m.down = dn := ⟨_, rfl⟩
  rw [hdn] at c8
  have HD := Lib.hid hdn
  clear h hi hdn hsm
  cases dn
  · have HR := Lib.hid (show onR m = m from by unfold onR; rw [if_pos HD.out])
    go_enter Try.func38, Try.ntmps38
    go_wp2_with fail
    refine bodyPost_ret (results_none rfl _ _ _) rfl ?_
    rw [HR.out]
    exact ⟨rfl, RfP.here H.out (Fr.refl _ _)⟩
  · obtain ⟨kp, hkpe⟩ : ∃ kp, m.keep = kp := ⟨_, rfl⟩
    rw [hkpe] at c7 hkp
    have HKP := Lib.hid hkpe
    obtain ⟨Ao, co, hvo, -, hco⟩ := H.out.opens
    subst hvo
    have HCO := Lib.hid hco
    have HC1 := Lib.hid c1
    have HC7 := Lib.hid c7
    clear hkpe hco
    go_enter Try.func38, Try.ntmps38
    go_wp2_with fail
    go_loopw [2, 3] (fun u k wr => ∃ j : Nat, j ≤ m.opens.length ∧ k = .int .i64 j ∧ wr.ownsRow w.heap.size 99 3 u (stayR kp 0 (m.opens.take j)).length ((stayR kp 0 (m.opens.take j)).flatMap wrR) ∧ Below w.heap.size w wr) (fun _ k _ => m.opens.length - (intOf k).toNat)
    case atStart => exact ⟨0, Nat.zero_le _, rfl, World.ownsRow_nil _ _ _ _, Below.refl _ _⟩
    case round =>
      obtain ⟨j, hj, rfl, hown, hbr⟩ := hrel
      obtain ⟨Au, cu, hu, -, -⟩ := own_shape hown
      subst hu
      have HB := Lib.hid hbr
      have HO := Lib.hid hown
      have d1 : wr.cell? _ = some _ := (Fr.below (F := []) HB.out).cellKept (by simp) HC1.out
      have d7 : wr.cell? _ = some _ := (Fr.below (F := []) HB.out).cellKept (by simp) HC7.out
      clear hbr hown
      by_cases hlt : j < m.opens.length
      · obtain ⟨ao, rfl, a0, a1, a2⟩ := wr_look HCO.out hlt
        have b0 : wr.cell? _ = some _ := (Fr.below (F := []) HB.out).cellKept (by simp) a0
        have b1 : wr.cell? _ = some _ := (Fr.below (F := []) HB.out).cellKept (by simp) a1
        have b2 : wr.cell? _ = some _ := (Fr.below (F := []) HB.out).cellKept (by simp) a2
        have hjl : ((j : Nat) : Int) < m.opens.length := by omega
        have HST := Lib.hid (stay_take kp m.opens hlt)
        have hlen : (stayR kp 0 (m.opens.take j)).length ≤ 4000000000 := Nat.le_trans (stayR_len ..) (by rw [List.length_take]; omega)
        obtain ⟨ts, hts⟩ : ∃ ts, pgS m.opens[j].text = .string ts := ⟨_, rfl⟩
        rw [hts] at b2
        have HTS := Lib.hid hts
        have hbt := bit_is j hkp
        clear hts a0 a1 a2
        cases hbb : bitB kp j
        · rw [hbb] at hbt
          have HBB := Lib.hid hbb
          clear hbb
          go_wp2_with fail
          go_roundw
          case rel =>
            refine ⟨j + 1, hlt, by go_num, ?_, HB.out⟩
            have h4 := HST.out
            rw [if_neg (by rw [HBB.out]; simp), List.append_nil] at h4
            rw [h4]
            exact HO.out
          case measure => simp [intOf]; omega
        · rw [hbb] at hbt
          have HBB := Lib.hid hbb
          clear hbb
          obtain ⟨fl, hfl⟩ : ∃ fl : Int, ((m.opens[j].file : Nat) : Int) = fl := ⟨_, rfl⟩
          obtain ⟨pg, hpg⟩ : ∃ pg : Int, ((m.opens[j].page : Nat) : Int) = pg := ⟨_, rfl⟩
          rw [hfl] at b0
          rw [hpg] at b1
          have HFL := Lib.hid hfl
          have HPG := Lib.hid hpg
          obtain ⟨n, hn⟩ : ∃ n, (stayR kp 0 (m.opens.take j)).length = n := ⟨_, rfl⟩
          rw [hn] at hlen HO ⊢
          have HN := Lib.hid hn
          have HCN := Lib.hid (fresh_cells wr #[.int .i64 fl, .int .i64 pg, .string ts] 99)
          have hb1 : Below wr.heap.size wr (wr.alloc (.cells #[.int .i64 fl, .int .i64 pg, .string ts] 99)) := (Below.refl _ _).alloc (Nat.le_refl _) _
          have HB1 := Lib.hid hb1
          have HO1 := Lib.hid (own_below HO.out hb1)
          have HS1 := Lib.hid (Nat.le_trans HB.out.size hb1.size)
          have H1 : ∀ u ∈ [Value.int .i64 fl, .int .i64 pg, .string ts], u.oneCell' = true := by
            intro u hu
            simp only [List.mem_cons, List.not_mem_nil, or_false] at hu
            rcases hu with rfl | rfl | rfl <;> rfl
          have H1 := Lib.hid H1
          clear hfl hpg hn hb1
          go_wp2_with (at_builtin; go_must (refine wpList_appk slRWr rfl _ _ rfl w.heap.size _ n _ rfl HO1.out (some ⟨wr.heap.size, 0, none⟩) 1 1 [.int .i64 fl, .int .i64 pg, .string ts] rfl rfl HCN.out H1.out (by omega) (by omega) HS1.out ?_); intro v3 w3 hown3 hg3 hb3 hat3)
          have HO3 := Lib.hid hown3
          have HB3 := Lib.hid ((HB.out.trans (HB1.out.mono HB.out.size)).trans hb3)
          clear hown3 hg3 hb3 hat3
          go_roundw
          case rel =>
            refine ⟨j + 1, hlt, by go_num, ?_, HB3.out⟩
            have h4 := HST.out
            rw [if_pos HBB.out] at h4
            have h5 := HO3.out
            rw [← HFL.out, ← HPG.out, ← HTS.out] at h5
            rw [h4, List.length_append, List.flatMap_append, HN.out]
            exact h5
          case measure => simp [intOf]; omega
      · have hjl : ¬ ((j : Nat) : Int) < m.opens.length := by omega
        have hje : j = m.opens.length := by omega
        have hown := HO.out
        obtain ⟨n, hn⟩ : ∃ n, (stayR kp 0 (m.opens.take j)).length = n := ⟨_, rfl⟩
        rw [hn] at hown HO ⊢
        simp only [hje, List.take_length] at hown hn
        have HR0 := Lib.hid (H.out.below HB.out)
        have q1 := HR0.out.free 1
        have hA := HR0.out.set_opens (w1 := wr) (os := stayR kp 0 m.opens) (Fr.refl _ _) (by rw [hn]; exact own_to hown (Nat.zero_le _))
        have HA := Lib.hid hA
        have hAf : Fr (fpR p vf (.slice Ao m.opens.length co)) w (wr.setCell ⟨p, 1, none⟩ (.slice Au n cu)) := (Fr.below HB.out).put p 1 _ (.inl (by simp [fpR]))
        have HAF := Lib.hid hAf
        have HNEW := Lib.hid (show ∀ i ∈ fpR p vf (.slice Au n cu), i ∈ fpR p vf (.slice Ao m.opens.length co) ∨ w.heap.size ≤ i from fun i hi => by
          simp only [fpR, List.mem_cons, List.mem_append] at hi ⊢
          rcases hi with rfl | hi | hi
          · exact .inl (.inl rfl)
          · exact .inl (.inr (.inl hi))
          · exact .inr (World.ownsRow.lt hown i (by simpa using hi)).1)
        have HSS := Lib.hid (RInv.smallStay HSM.out kp)
        clear hown hn hje HO hA hAf c0 c1 c7 c8 d7
        go_wp2_with fail
        generalize wr.setCell ⟨p, 1, none⟩ (.slice Au n cu) = wa at HA HAF ⊢
        obtain ⟨Af, cf, hvf, -, -⟩ := HA.out.files
        subst hvf
        go_loopw [4] (fun k wr => ∃ i : Nat, i ≤ m.files.length ∧ k = .int .i64 i ∧ ∃ vs', RfAt wr p (.slice Af m.files.length cf) (.slice Au n cu) vs' (partR { m with opens := stayR kp 0 m.opens } m.files i) ∧ Fr (fpR p (.slice Af m.files.length cf) (.slice Au n cu)) wa wr) (fun k _ => m.files.length - (intOf k).toNat)
        case atStart => exact ⟨0, Nat.zero_le _, rfl, vs, HA.out, Fr.refl _ _⟩
        case round =>
          obtain ⟨i, hil, rfl, vs', hT, hfr⟩ := hrel
          have HT := Lib.hid hT
          have HFR := Lib.hid hfr
          have k0 := hT.cell.1
          clear hT hfr
          by_cases hlt : i < m.files.length
          · obtain ⟨hlt2, hat⟩ := part_at { m with opens := stayR kp 0 m.opens } m.files hlt
            have hpg := fun (V : World) (hV : RfAt V p (.slice Af m.files.length cf) (.slice Au n cu) vs' (partR { m with opens := stayR kp 0 m.opens } m.files i)) => pages_any hV (part_small HSS.out i) hlt2
            rw [hat, part_pages] at hpg
            have HPG := Lib.hid hpg
            have hci : ((i : Nat) : Int) < m.files.length := by omega
            obtain ⟨ad, hAd⟩ : ∃ ad, Af = some ad := by
              obtain ⟨A', c', e, -, hcl⟩ := HT.out.files
              obtain ⟨ad, e2, -⟩ := hcl (by rw [HT.out.fv.len]; omega)
              injection e with e3 _ _
              exact ⟨ad, by rw [e3, e2]⟩
            subst hAd
            have HSC := Lib.hid (show ∀ V : World, Fr [] wr V → V.cell? ⟨p, 0, none⟩ = some (.slice (some ad) m.files.length cf) from fun V hV => hV.cellKept (by simp) k0)
            clear hpg hat
            go_wp2_with fail
            refine wp_region_noPanic ?_
            refine wp_region_any (by kernel_rfl) (anyG_any (S := fun V : World => Fr [] wr V) (n := 10) _ _ _ _ ?_)
            have hS : Fr [] wr wr.drew := (Fr.refl _ _).drew
            change AnyG _ _ _ _ _ _ 11 (Array.replicate 11 false) _ wr.drew
            refine anyG_take (i := 0) (oi := ⟨_, _, _, _, _, _⟩) (v := ?_) rfl rfl (by kernel_rfl) (by kernel_rfl) (by kernel_rfl) (by kernel_rfl) (by kernel_rfl) (fun _ _ _ h => h) (Or.inl ⟨by rfl, ?_⟩) hS ?_
            rotate_left
            · (intro w' hSw; skip; go_simp; (try with_reducible rfl))
            try simp only [Act.put, List.setIfInBounds_toArray, List.set_cons_zero, List.set_cons_succ]
            refine anyG_take (i := 1) (oi := ⟨_, _, _, _, _, _⟩) (v := ?_) rfl rfl (by kernel_rfl) (by kernel_rfl) (by kernel_rfl) (by kernel_rfl) (by kernel_rfl) (fun _ _ _ h => h) (Or.inl ⟨by rfl, ?_⟩) hS ?_
            rotate_left
            · (intro w' hSw; skip; go_simp; (try with_reducible rfl))
            try simp only [Act.put, List.setIfInBounds_toArray, List.set_cons_zero, List.set_cons_succ]
            refine anyG_take (i := 2) (oi := ⟨_, _, _, _, _, _⟩) (v := ?_) rfl rfl (by kernel_rfl) (by kernel_rfl) (by kernel_rfl) (by kernel_rfl) (by kernel_rfl) (fun _ _ _ h => h) (Or.inl ⟨by rfl, ?_⟩) hS ?_
            rotate_left
            · (intro w' hSw; skip; go_simp; (try with_reducible rfl))
            try simp only [Act.put, List.setIfInBounds_toArray, List.set_cons_zero, List.set_cons_succ]
            refine anyG_take (i := 3) (oi := ⟨_, _, _, _, _, _⟩) (v := ?_) rfl rfl (by kernel_rfl) (by kernel_rfl) (by kernel_rfl) (by kernel_rfl) (by kernel_rfl) (fun _ _ _ h => h) (Or.inl ⟨by rfl, ?_⟩) hS ?_
            rotate_left
            · (intro w' hSw; have s1 := HSC.out _ hSw; go_simp; (try with_reducible rfl))
            try simp only [Act.put, List.setIfInBounds_toArray, List.set_cons_zero, List.set_cons_succ]
            refine anyG_take (i := 4) (oi := ⟨_, _, _, _, _, _⟩) (v := ?_) rfl rfl (by kernel_rfl) (by kernel_rfl) (by kernel_rfl) (by kernel_rfl) (by kernel_rfl) (fun _ _ _ h => h) (Or.inl ⟨by rfl, ?_⟩) hS ?_
            rotate_left
            · (intro w' hSw; skip; go_simp; (try with_reducible rfl))
            try simp only [Act.put, List.setIfInBounds_toArray, List.set_cons_zero, List.set_cons_succ]
            refine anyG_take (i := 5) (oi := ⟨_, _, _, _, _, _⟩) (v := ?_) rfl rfl (by kernel_rfl) (by kernel_rfl) (by kernel_rfl) (by kernel_rfl) (by kernel_rfl) (fun _ _ _ h => h) (Or.inl ⟨by rfl, ?_⟩) hS ?_
            rotate_left
            · (intro w' hSw; skip; go_simp; (try with_reducible rfl))
            try simp only [Act.put, List.setIfInBounds_toArray, List.set_cons_zero, List.set_cons_succ]
            refine anyG_take (i := 6) (oi := ⟨_, _, _, _, _, _⟩) (v := ?_) rfl rfl (by kernel_rfl) (by kernel_rfl) (by kernel_rfl) (by kernel_rfl) (by kernel_rfl) (fun _ _ _ h => h) (Or.inl ⟨by rfl, ?_⟩) hS ?_
            rotate_left
            · (intro w' hSw; skip; go_simp; (try with_reducible rfl))
            try simp only [Act.put, List.setIfInBounds_toArray, List.set_cons_zero, List.set_cons_succ]
            refine anyG_all (rs := [7]) (by kernel_rfl) (by simp) (List.forall_mem_singleton.2 ?_)
            refine wpOp_step (o := ⟨_, _, _, _, _, _⟩) rfl (fun K' hK => ?_)
            have HK := Lib.hid hK
            clear hK
            rw [if_pos (by rfl)]
            go_simp
            refine (HPG.out wr.drew (HT.out.heap rfl)).mono ?_
            rintro e w7 ⟨lv, rfl, hrow, hb7⟩
            obtain ⟨Al, cl, hsh, -, -⟩ := hrow.shape
            rw [List.length_map] at hsh
            subst hsh
            have hb7' : Below wr.heap.size wr w7 := ⟨hb7.os, hb7.tape, hb7.output, hb7.size, hb7.block⟩
            have hS : Fr [] wr w7 := Fr.below hb7'
            have H7 := HT.out.below hb7'
            obtain ⟨x0, -, z0, z1, hput⟩ := H7.put_cell (j := i) (o := 2) hlt2 (by decide) (by decide)
            have hdone := hput _ ((partR { m with opens := stayR kp 0 m.opens } m.files i).files.modify i fun f => { f with settled := pagesR { m with opens := stayR kp 0 m.opens } m.files[i] }) (H7.fv.modSettled hrow i) (by simp)
            rw [part_next _ _ hlt] at hdone
            have HDN := Lib.hid hdone
            have HB7 := Lib.hid hb7'
            clear hrow hb7 hb7' hput hdone H7
            go_wp2_with fail
            refine HK.out _ _ ⟨fun _ => hS, ?_⟩
            clear HK
            try simp only [Act.put, List.setIfInBounds_toArray, List.set_cons_zero, List.set_cons_succ]
            refine anyG_all (rs := [8]) (by kernel_rfl) (by simp) (List.forall_mem_singleton.2 ?_)
            refine wpOp_step (o := ⟨_, _, _, _, _, _⟩) rfl (fun K' hK => ?_)
            have HK := Lib.hid hK
            clear hK
            rw [if_pos (by rfl)]
            go_simp
            refine HK.out _ _ ⟨fun _ => hS, ?_⟩
            clear HK
            try simp only [Act.put, List.setIfInBounds_toArray, List.set_cons_zero, List.set_cons_succ]
            refine anyG_all (rs := [9]) (by kernel_rfl) (by simp) (List.forall_mem_singleton.2 ?_)
            refine wpOp_step (o := ⟨_, _, _, _, _, _⟩) rfl (fun K' hK => ?_)
            have HK := Lib.hid hK
            clear hK
            rw [if_pos (by rfl)]
            go_simp
            refine HK.out _ _ ⟨fun _ => hS, ?_⟩
            clear HK
            try simp only [Act.put, List.setIfInBounds_toArray, List.set_cons_zero, List.set_cons_succ]
            refine anyG_all (rs := [10]) (by kernel_rfl) (by simp) (List.forall_mem_singleton.2 ?_)
            refine wpOp_step (o := ⟨_, _, _, _, _, _⟩) rfl (fun K' hK => ?_)
            have HK := Lib.hid hK
            clear hK
            rw [if_pos (by rfl)]
            go_simp
            refine HK.out _ _ ⟨fun h => absurd rfl h, anyG_done (by kernel_rfl) ?_⟩
            clear HK
            refine NoPanic.normal ?_
            clear hS HSC z0 z1
            go_wp2_with fail
            go_roundw
            case rel => exact ⟨i + 1, hlt, by go_num, _, HDN.out.1, HFR.out.trans ((Fr.below HB7.out).and HDN.out.2) fun _ hi _ => hi⟩
            case measure => simp [intOf]; omega
          · have hci : ¬ ((i : Nat) : Int) < m.files.length := by omega
            have hie : i = m.files.length := by omega
            have f1 := HT.out.free 1
            have f8 := HT.out.free 8
            have f5 := HT.out.free 5
            obtain ⟨-, k1, -, -, -, k5, -, -, k8⟩ := HT.out.cell
            go_wp2_with fail
            go_end0
            have h1 := HT.out.set_opens (w1 := wr) (vo' := .slice none 0 0) (os := []) (Fr.refl _ _) (World.ownsRow_nil _ _ _ _)
            have h2 := h1.field (m' := { partR { m with opens := stayR kp 0 m.opens } m.files i with opens := [], down := false }) 8 (.bool false) rfl rfl rfl
            have h3 := h2.field (m' := { partR { m with opens := stayR kp 0 m.opens } m.files i with opens := [], down := false, set := false }) 5 (.bool false) rfl rfl rfl
            have hr : onR m = { partR { m with opens := stayR kp 0 m.opens } m.files i with opens := [], down := false, set := false } := by
              unfold onR
              rw [if_neg (by rw [HD.out]; simp), HKP.out, hie]
              unfold partR
              rw [List.take_length, List.drop_length, List.append_nil]
            rw [hr]
            refine ⟨rfl, RfP.trans HAF.out HNEW.out ⟨_, _, _, h3, ?_, fun i hi => .inl ?_⟩⟩
            · exact ((HFR.out.put p 1 _ (.inl (by simp [fpR]))).put p 8 _ (.inl (by simp [fpR]))).put p 5 _ (.inl (by simp [fpR]))
            · simp only [fpR, List.mem_cons, List.mem_append, Value.ownBlock] at hi ⊢
              rcases hi with rfl | hi | hi
              · exact .inl rfl
              · exact .inr (.inl hi)
              · simp at hi
end Go.Proofs.Ytikbphafpmdpeaa
