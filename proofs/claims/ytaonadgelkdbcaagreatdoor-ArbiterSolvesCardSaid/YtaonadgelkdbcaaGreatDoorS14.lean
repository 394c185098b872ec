/- ArbiterSolves: the statement's walk. -/
import Derived.Test.YtaonadgelkdbcaaGreatDoorS11
import Derived.Test.YtaonadgelkdbcaaGreatDoorS12
import Derived.Test.YtaonadgelkdbcaaGreatDoorS13
import Derived.Test.YtaonadgelkdbcaaGreatDoorQ18
namespace Go.Proofs.YtaonadgelkdbcaaGreatDoor
open Go.RowKit

theorem ins_small : ∀ (l : List InT) (c : Int), 0 ≤ c → insN l 150 c ≤ 150 → (∀ x ∈ l, x.tx.size ≤ 9664) ∧ (l.length : Int) + c ≤ insN l 150 c
  | [], c, _, _ => ⟨by simp, by unfold insN; simp⟩
  | x :: r, c, h0, h => by
    by_cases hc : c ≤ 150
    · rw [insN_next hc] at h ⊢
      have hz : 0 ≤ (x.tx.size : Int) / 64 := by omega
      obtain ⟨h1, h2⟩ := ins_small r (c + 1 + (x.tx.size : Int) / 64) (by omega) h
      refine ⟨fun y hy => ?_, by rw [List.length_cons]; push_cast; omega⟩
      rcases List.mem_cons.1 hy with rfl | hy
      · omega
      · exact h1 y hy
    · rw [insN_stop hc] at h
      omega
theorem outs_small : ∀ (l : List OutT) (c : Int), 1 ≤ c → outsN l 150 c ≤ 150 → (∀ o ∈ l, lsizeT o.lock 150 ≤ 150) ∧ (l.length : Int) + c ≤ outsN l 150 c
  | [], c, _, _ => ⟨by simp, by unfold outsN; simp⟩
  | x :: r, c, h0, h => by
    by_cases hc : c ≤ 150
    · rw [outsN_next hc] at h ⊢
      have hz := lsizeT_ge x.lock 150 (by omega)
      obtain ⟨h1, h2⟩ := outs_small r (c + lsizeT x.lock 150) (by omega) h
      have h3 := outsN_ge r 150 (c + lsizeT x.lock 150) (by omega)
      refine ⟨fun y hy => ?_, by rw [List.length_cons]; push_cast; omega⟩
      rcases List.mem_cons.1 hy with rfl | hy
      · omega
      · exact h1 y hy
    · rw [outsN_stop hc] at h
      omega
theorem txN_small {t : TxT} (hwf : ∀ x ∈ t.ins, (Lit.int .i64 x.pn).wf = true) (h : txN t 150 ≤ 150) : smallTx t := by
  have h1 : outsN t.outs 150 (insN t.ins 150 1) ≤ 150 := by
    have h0 : min (outsN t.outs 150 (insN t.ins 150 1)) (150 + 1) ≤ 150 := h
    omega
  have h2 := insN_ge t.ins 150 1
  have h3 := outsN_ge t.outs 150 (insN t.ins 150 1) (by omega)
  obtain ⟨a1, a2⟩ := ins_small t.ins 1 (by omega) (by omega)
  obtain ⟨b1, b2⟩ := outs_small t.outs (insN t.ins 150 1) h2 h1
  refine ⟨fun x hx => ⟨⟨by have := a1 x hx; unfold maxLen; omega, hwf x hx⟩, by have := a1 x hx; omega⟩, fun o ho => lsize_small (sizeT o.lock) o.lock (Nat.le_refl _) (b1 o ho), by omega, by omega⟩
theorem wayP_out {R : Option ClaimR} {w w' : World} {e : Ending} (h : WayP R w e w') : ∃ (K : Option Addr) (kc : Nat) (P : Option Addr) (pc : Nat), e = .returned (.tuple #[claimV (R.getD claim0).after (R.getD claim0).age (.slice K (R.getD claim0).keys.length kc) (.slice P (R.getD claim0).pres.length pc), .bool R.isSome]) ∧ Cells w' K (strs (R.getD claim0).keys) ∧ Cells w' P (strs (R.getD claim0).pres) ∧ Below w.heap.size w w' := by
  unfold WayP at h
  cases R with
  | none =>
    obtain ⟨K, kc, P, pc, rfl, hb⟩ := h
    exact ⟨K, kc, P, pc, rfl, Cells.nil _ _, Cells.nil _ _, hb⟩
  | some c =>
    obtain ⟨K, kc, P, pc, rfl, h1, h2, -, hb⟩ := h
    exact ⟨K, kc, P, pc, rfl, row_cells h1, row_cells h2, hb⟩
theorem one_strs (l : List ByteArray) : ∀ u ∈ strs l, u.oneCell' = true := fun u hu => by
  unfold strs at hu
  obtain ⟨x, -, rfl⟩ := List.mem_map.1 hu
  rfl
/-- The k-th claim of a row: its cells. -/
theorem claim_at {w : World} {A : Option Addr} {l : List ClaimX} {xs : List Value} (hc : Cells w A xs) (h : ClaimsC w l xs) {k : Nat} (hk : k < l.length) : ∃ (ad : Addr) (C : Option Addr) (cp : Nat) (K : Option Addr) (kc : Nat) (P : Option Addr) (pc : Nat), A = some ad ∧
    w.cell? (ad.add (k * 10)) = some (.int .i64 l[k].1) ∧ w.cell? ⟨(ad.add (k * 10)).block, (ad.add (k * 10)).off + 1, none⟩ = some (.int .i64 l[k].2.1.value) ∧ w.cell? ⟨(ad.add (k * 10)).block, (ad.add (k * 10)).off + 2, none⟩ = some (.int .u8 l[k].2.1.lock.kind) ∧ w.cell? ⟨(ad.add (k * 10)).block, (ad.add (k * 10)).off + 3, none⟩ = some (.string l[k].2.1.lock.term) ∧ w.cell? ⟨(ad.add (k * 10)).block, (ad.add (k * 10)).off + 4, none⟩ = some (.int .i64 l[k].2.1.lock.n) ∧ w.cell? ⟨(ad.add (k * 10)).block, (ad.add (k * 10)).off + 5, none⟩ = some (.slice C l[k].2.1.lock.kids.length cp) ∧ w.cell? ⟨(ad.add (k * 10)).block, (ad.add (k * 10)).off + 6, none⟩ = some (.int .i64 l[k].2.2.after) ∧ w.cell? ⟨(ad.add (k * 10)).block, (ad.add (k * 10)).off + 7, none⟩ = some (.int .i64 l[k].2.2.age) ∧ w.cell? ⟨(ad.add (k * 10)).block, (ad.add (k * 10)).off + 8, none⟩ = some (.slice K l[k].2.2.keys.length kc) ∧ w.cell? ⟨(ad.add (k * 10)).block, (ad.add (k * 10)).off + 9, none⟩ = some (.slice P l[k].2.2.pres.length pc) ∧
    ClaimC w l[k].1 l[k].2.1 l[k].2.2 [.int .i64 l[k].1, .int .i64 l[k].2.1.value, .int .u8 l[k].2.1.lock.kind, .string l[k].2.1.lock.term, .int .i64 l[k].2.1.lock.n, .slice C l[k].2.1.lock.kids.length cp, .int .i64 l[k].2.2.after, .int .i64 l[k].2.2.age, .slice K l[k].2.2.keys.length kc, .slice P l[k].2.2.pres.length pc] := by
  obtain ⟨ad, he, hcc⟩ := hc (by rw [h.len]; omega)
  obtain ⟨cs, h1, h3⟩ := h.at_ k hk
  have h1' := h1
  obtain ⟨C, cp, K, kc, P, pc, rfl, -⟩ := h1
  refine ⟨ad, C, cp, K, kc, P, pc, he, hcc _ _ (h3 0 (by decide)), ?_, ?_, ?_, ?_, ?_, ?_, ?_, ?_, ?_, h1'⟩
  · rw [add_next _ _ _ (by decide)]; exact hcc _ _ (h3 1 (by decide))
  · rw [add_next _ _ _ (by decide)]; exact hcc _ _ (h3 2 (by decide))
  · rw [add_next _ _ _ (by decide)]; exact hcc _ _ (h3 3 (by decide))
  · rw [add_next _ _ _ (by decide)]; exact hcc _ _ (h3 4 (by decide))
  · rw [add_next _ _ _ (by decide)]; exact hcc _ _ (h3 5 (by decide))
  · rw [add_next _ _ _ (by decide)]; exact hcc _ _ (h3 6 (by decide))
  · rw [add_next _ _ _ (by decide)]; exact hcc _ _ (h3 7 (by decide))
  · rw [add_next _ _ _ (by decide)]; exact hcc _ _ (h3 8 (by decide))
  · rw [add_next _ _ _ (by decide)]; exact hcc _ _ (h3 9 (by decide))
set_option maxRecDepth 100000 in
set_option maxHeartbeats 16000000 in
theorem solves_law (ins : List InT) (outs : List OutT) (after tag : Int) (A B : Option Addr) (ca cb : Nat) (ks ps : List ByteArray) (SA : Option Addr) (sc : Nat) (PA : Option Addr) (pc : Nat) (w : World) (hbd : boundTx ⟨ins, outs, after, tag⟩) (hwf : ∀ x ∈ ins, (Lit.int .i64 x.pn).wf = true) (hc : TxC w ⟨ins, outs, after, tag⟩ A B)
    (hkl : ks.length ≤ 140737488355328) (hpl : ps.length ≤ 140737488355328) (hkx : ∀ x ∈ ks, x.size ≤ 140737488355328) (hpx : ∀ x ∈ ps, x.size ≤ 140737488355328) (hk : Cells w SA (strs ks)) (hp : Cells w PA (strs ps)) (hv : VarsOk w) :
    Calls Tryz.prog 3 #[.agg #[.slice A ins.length ca, .slice B outs.length cb, .int .i64 after, .int .i64 tag], .slice SA ks.length sc, .slice PA ps.length pc] w fun e w' => e = .returned (.bool true) ∧ Below w.heap.size w w' := by
  have hb0 : Below w.heap.size w (w.alloc (.cells #[.slice A ins.length ca, .slice B outs.length cb, .int .i64 after, .int .i64 tag] 25)) := (Below.refl _ _).alloc (Nat.le_refl _) _
  have hbx : TxBox (w.alloc (.cells #[.slice A ins.length ca, .slice B outs.length cb, .int .i64 after, .int .i64 tag] 25)) w.heap.size A ins.length ca B outs.length cb after tag := Go.heap_alloc_new w _
  obtain ⟨p0, p1, p2, p3⟩ := hbx.cells
  have HB := Lib.hid hb0
  have HX := Lib.hid hbx
  have HC := Lib.hid hc
  have HSK := Lib.hid hk
  have HSP := Lib.hid hp
  have HV := Lib.hid hv
  have HTS := Lib.hid (txsize_any ins outs after tag A B ca cb 150 (w.alloc (.cells #[.slice A ins.length ca, .slice B outs.length cb, .int .i64 after, .int .i64 tag] 25)) (by omega) (by omega) hbd (hc.below hb0))
  have HSM := Lib.hid (fun h => txN_small (t := ⟨ins, outs, after, tag⟩) hwf h)
  obtain ⟨N, hN⟩ : ∃ N, txN ⟨ins, outs, after, tag⟩ 150 = N := ⟨_, rfl⟩
  rw [hN] at HTS HSM
  clear hN hb0 hbx hc hk hp hv hwf hbd
  cases g1 : decide ((150 : Int) < N) with
  | true =>
    clear HSM
    go_enter Tryz.func3, Tryz.ntmps3
    go_wp2_with fail
    refine HTS.out.mono ?_
    rintro e w1 ⟨rfl, hb1⟩
    have HB1 := Lib.hid (HB.out.trans (hb1.mono HB.out.size))
    clear hb1
    go_wp2_with fail
    go_ret
    exact ⟨rfl, HB1.out⟩
  | false =>
    have HS := Lib.hid (HSM.out (by have := of_decide_eq_false g1; omega))
    clear HSM
    cases hq : largeB2 ks ps with
    | true =>
      go_enter Tryz.func3, Tryz.ntmps3
      go_wp2_with fail
      refine HTS.out.mono ?_
      rintro e w1 ⟨rfl, hb1⟩
      have hb2 : Below w1.heap.size w1 (w1.alloc (.cells #[.slice SA ks.length sc, .slice PA ps.length pc] 26)) := (Below.refl _ _).alloc (Nat.le_refl _) _
      have hbw := HB.out.trans ((hb1.trans (hb2.mono hb1.size)).mono HB.out.size)
      have HB1 := Lib.hid hbw
      have hls : (w1.alloc (.cells #[.slice SA ks.length sc, .slice PA ps.length pc] 26)).heap[w1.heap.size]? = some (.cells #[.slice SA ks.length sc, .slice PA ps.length pc] 26 (0, 0)) := Go.heap_alloc_new w1 _
      have hLG := large2_any ks ps SA PA sc pc w1.heap.size 2 (w1.alloc (.cells #[.slice SA ks.length sc, .slice PA ps.length pc] 26)) hkl hpl hkx hpx (HSK.out.below hbw) (HSP.out.below hbw) (cell_of hls rfl) (cell_of hls rfl)
      rw [hq] at hLG
      have HLG := Lib.hid hLG
      clear hb1 hb2 hbw hls hLG
      go_wp2_with fail
      refine HLG.out.mono ?_
      rintro e w2 ⟨rfl, rfl⟩
      go_wp2_with fail
      go_ret
      exact ⟨rfl, HB1.out⟩
    | false =>
      obtain ⟨l1, l2, l3, l4⟩ := not_large2 hq
      have HO := Lib.hid (show EnvOk ks ps from ⟨by omega, by omega, fun x hx => by have := l3 x hx; omega, fun x hx => by have := l4 x hx; omega⟩)
      have HN1 := Lib.hid (show (0 + ks.length) * 16 ≤ 140737488355328 by omega)
      have HN2 := Lib.hid (show 0 + ks.length ≤ 140737488355328 by omega)
      have HN3 := Lib.hid (show (0 + ps.length) * 16 ≤ 140737488355328 by omega)
      have HN4 := Lib.hid (show 0 + ps.length ≤ 140737488355328 by omega)
      have HK9 := Lib.hid (show ks.length ≤ 1000000 by omega)
      have HP9 := Lib.hid (show ps.length ≤ 1000000 by omega)
      have HLK := Lib.hid (show (strs ks).length = ks.length * 1 by simp [strs])
      have HLP := Lib.hid (show (strs ps).length = ps.length * 1 by simp [strs])
      clear l3 l4
      go_enter Tryz.func3, Tryz.ntmps3
      go_wp2_with fail
      refine HTS.out.mono ?_
      rintro e w1 ⟨rfl, hb1⟩
      have hb2 : Below w1.heap.size w1 (w1.alloc (.cells #[.slice SA ks.length sc, .slice PA ps.length pc] 26)) := (Below.refl _ _).alloc (Nat.le_refl _) _
      have hb12 := hb1.trans (hb2.mono hb1.size)
      have hbw := HB.out.trans (hb12.mono HB.out.size)
      have HB1 := Lib.hid hbw
      have HX1 := Lib.hid (HX.out.below hb12)
      have hls : (w1.alloc (.cells #[.slice SA ks.length sc, .slice PA ps.length pc] 26)).heap[w1.heap.size]? = some (.cells #[.slice SA ks.length sc, .slice PA ps.length pc] 26 (0, 0)) := Go.heap_alloc_new w1 _
      have hLG := large2_any ks ps SA PA sc pc w1.heap.size 2 (w1.alloc (.cells #[.slice SA ks.length sc, .slice PA ps.length pc] 26)) hkl hpl hkx hpx (HSK.out.below hbw) (HSP.out.below hbw) (cell_of hls rfl) (cell_of hls rfl)
      rw [hq] at hLG
      have HLG := Lib.hid hLG
      clear hb1 hb2 hb12 hbw hls hLG p0 p1 p2 p3 hq hkl hpl hkx hpx
      go_wp2_with fail
      refine HLG.out.mono ?_
      rintro e w2 ⟨rfl, rfl⟩
      generalize w1.alloc (.cells #[.slice SA ks.length sc, .slice PA ps.length pc] 26) = w2 at HB1 HX1 ⊢
      clear HLG HTS HX
      go_upto_region 4 with fail
      have HSK2 := Lib.hid (HSK.out.below HB1.out)
      have HSP2 := Lib.hid (HSP.out.below HB1.out)
      go_upto_region 5 with (at_builtin; go_must (refine wpList_appk slTerm rfl _ _ rfl w2.heap.size _ 0 [] rfl (World.ownsRow_nil _ _ _ _) SA ks.length sc (strs ks) rfl HLK.out HSK2.out (one_strs ks) HN1.out HN2.out (Nat.le_refl _) ?_); intro v1 u1 hown1 hg1 hb1 hat1)
      rw [Nat.zero_add] at hown1
      obtain ⟨K1, kc1, rfl, -, hck⟩ := own_shape hown1
      rw [List.nil_append] at hck
      have HCK := Lib.hid hck
      have HB2 := Lib.hid (HB1.out.trans (hb1.mono HB1.out.size))
      have HX2 := Lib.hid (HX1.out.below hb1)
      have HSP3 := Lib.hid (HSP2.out.below hb1)
      clear hown1 hg1 hb1 hat1 hck
      go_wp2_with (at_builtin; go_must (refine wpList_appk slTerm rfl _ _ rfl u1.heap.size _ 0 [] rfl (World.ownsRow_nil _ _ _ _) PA ps.length pc (strs ps) rfl HLP.out HSP3.out (one_strs ps) HN3.out HN4.out (Nat.le_refl _) ?_); intro v2 u2 hown2 hg2 hb2 hat2)
      rw [Nat.zero_add] at hown2
      obtain ⟨P1, pc1, rfl, -, hcp⟩ := own_shape hown2
      rw [List.nil_append] at hcp
      have HCP := Lib.hid hcp
      have HCK := Lib.hid (HCK.out.below hb2)
      have HB3 := Lib.hid (HB2.out.trans (hb2.mono HB2.out.size))
      have HX3 := Lib.hid (HX2.out.below hb2)
      clear hown2 hg2 hb2 hat2 hcp
      go_loopw [9] (fun i wr => ∃ j : Nat, j ≤ outs.length ∧ i = .int .i64 (j : Int) ∧ Below u2.heap.size u2 wr) (fun i _ => outs.length - (intOf i).toNat)
      case atStart => exact ⟨0, Nat.zero_le _, rfl, Below.refl _ _⟩
      case round =>
        obtain ⟨j, hj, rfl, hbu⟩ := hrel
        have hbr := HB3.out.trans (hbu.mono HB3.out.size)
        obtain ⟨q0, q1, q2, q3⟩ := (HX3.out.below hbu).cells
        obtain ⟨-, -, -, s4⟩ := HS.out
        simp only at s4
        by_cases hlt : j < outs.length
        · obtain ⟨-, ys, hy1, hy2⟩ := HC.out.below hbr
          obtain ⟨bd, C, cp, rfl, n0, n1, n2, n3, n4, hlk⟩ := out_at hy1 hy2 hlt
          have hsm := HS.out.2.1 outs[j] (List.getElem_mem hlt)
          obtain ⟨x, hx⟩ : ∃ x, outs[j] = x := ⟨_, rfl⟩
          rw [hx] at n0 n1 n2 n3 n4 hlk hsm
          have hcall := solve_any x.lock _ ks ps K1 kc1 P1 pc1 wr HO.out hsm hlk (HCK.out.below hbu) (HCP.out.below hbu) (HV.out.below hbr)
          have hcall := hcall.mono (fun e w' h => wayP_out h)
          have HCALL := Lib.hid hcall
          have HLKX := Lib.hid hlk
          have HBR := Lib.hid hbr
          have HBU := Lib.hid hbu
          have HSMX := Lib.hid hsm
          have hcl : ∀ c, solveT ks ps x.lock = some c → c.keys.length ≤ 64 ∧ c.pres.length ≤ 64 := fun c h => solveT_len h
          have HRS := Lib.hid (fun W (h : Below wr.heap.size wr W) => (rsolve_any x.lock _ ks ps SA sc PA pc W HO.out hsm (LockC.below h _ _ hlk) (HSK.out.below (hbr.trans (h.mono hbr.size))) (HSP.out.below (hbr.trans (h.mono hbr.size))) (HV.out.below (hbr.trans (h.mono hbr.size)))).mono (fun e w' h => wayP_out h))
          obtain ⟨S, hS⟩ : ∃ S, solveT ks ps x.lock = S := ⟨_, rfl⟩
          rw [hS] at HCALL HRS hcl
          have hcl2 : (S.getD claim0).keys.length ≤ 64 ∧ (S.getD claim0).pres.length ≤ 64 := by
            cases S with
            | none => exact ⟨by decide, by decide⟩
            | some c => exact hcl c rfl
          obtain ⟨c, hcc⟩ : ∃ c, S.getD claim0 = c := ⟨_, rfl⟩
          obtain ⟨b, hbb⟩ : ∃ b, S.isSome = b := ⟨_, rfl⟩
          rw [hcc, hbb] at HCALL
          rw [hcc] at hcl2
          have HRS := Lib.hid (fun W h => by have := HRS.out W h; rw [hcc, hbb] at this; exact this)
          have HCL2 := Lib.hid hcl2
          clear hcall hlk hbr hbu hsm hcl hS hcc hbb hcl2 hy1 hy2 hx
          unfold claimV at HCALL HRS
          go_wp2_with fail
          refine HCALL.out.mono ?_
          rintro e w4 ⟨K1, kc1, P1, pc1, rfl, hk1, hp1, hb4⟩
          have hba : Below w4.heap.size w4 (w4.alloc (.cells #[.int .i64 0, .int .i64 0, .int .u8 0, .string ⟨#[]⟩, .int .i64 0, .slice none 0 0, .int .i64 c.after, .int .i64 c.age, .slice K1 c.keys.length kc1, .slice P1 c.pres.length pc1] 36)) := (Below.refl _ _).alloc (Nat.le_refl _) _
          have hb5 := hb4.trans (hba.mono hb4.size)
          have HRS2 := Lib.hid (HRS.out _ hb5)
          have HCA := Lib.hid (show (w4.alloc (.cells #[.int .i64 0, .int .i64 0, .int .u8 0, .string ⟨#[]⟩, .int .i64 0, .slice none 0 0, .int .i64 c.after, .int .i64 c.age, .slice K1 c.keys.length kc1, .slice P1 c.pres.length pc1] 36)).heap[w4.heap.size]? = some (.cells #[.int .i64 0, .int .i64 0, .int .u8 0, .string ⟨#[]⟩, .int .i64 0, .slice none 0 0, .int .i64 c.after, .int .i64 c.age, .slice K1 c.keys.length kc1, .slice P1 c.pres.length pc1] 36 (0, 0)) from Go.heap_alloc_new w4 _)
          have HK1 := Lib.hid (hk1.below hba)
          have HP1 := Lib.hid (hp1.below hba)
          have HB5 := Lib.hid hb5
          have m0 := cell_below hb5 n0
          have m1 := cell_below hb5 n1
          have m2 := cell_below hb5 n2
          have m3 := cell_below hb5 n3
          have m4 := cell_below hb5 n4
          have r1 := cell_below hb5 q1
          clear hb4 hba hb5 hk1 hp1 n0 n1 n2 n3 n4 q0 q1 q2 q3 HRS HCALL
          go_wp2_with fail
          refine HRS2.out.mono ?_
          rintro e w6 ⟨K2, kc2, P2, pc2, rfl, hk2, hp2, hb6⟩
          have hbb : Below w6.heap.size w6 (w6.alloc (.cells #[.int .i64 0, .int .i64 0, .int .u8 0, .string ⟨#[]⟩, .int .i64 0, .slice none 0 0, .int .i64 c.after, .int .i64 c.age, .slice K2 c.keys.length kc2, .slice P2 c.pres.length pc2] 39)) := (Below.refl _ _).alloc (Nat.le_refl _) _
          have hb7 := hb6.trans (hbb.mono hb6.size)
          have ha7 := (hb7.block _ (lt_of_block HCA.out)).trans HCA.out
          have hb8 : (w6.alloc (.cells #[.int .i64 0, .int .i64 0, .int .u8 0, .string ⟨#[]⟩, .int .i64 0, .slice none 0 0, .int .i64 c.after, .int .i64 c.age, .slice K2 c.keys.length kc2, .slice P2 c.pres.length pc2] 39)).heap[w6.heap.size]? = some (.cells #[.int .i64 0, .int .i64 0, .int .u8 0, .string ⟨#[]⟩, .int .i64 0, .slice none 0 0, .int .i64 c.after, .int .i64 c.age, .slice K2 c.keys.length kc2, .slice P2 c.pres.length pc2] 39 (0, 0)) := Go.heap_alloc_new w6 _
          have e0 : (w6.alloc (.cells #[.int .i64 0, .int .i64 0, .int .u8 0, .string ⟨#[]⟩, .int .i64 0, .slice none 0 0, .int .i64 c.after, .int .i64 c.age, .slice K2 c.keys.length kc2, .slice P2 c.pres.length pc2] 39)).cell? ⟨w4.heap.size, 0, none⟩ = some (.int .i64 0) := cell_of ha7 rfl
          have e1 : (w6.alloc (.cells #[.int .i64 0, .int .i64 0, .int .u8 0, .string ⟨#[]⟩, .int .i64 0, .slice none 0 0, .int .i64 c.after, .int .i64 c.age, .slice K2 c.keys.length kc2, .slice P2 c.pres.length pc2] 39)).cell? ⟨w4.heap.size, 1, none⟩ = some (.int .i64 0) := cell_of ha7 rfl
          have e2 : (w6.alloc (.cells #[.int .i64 0, .int .i64 0, .int .u8 0, .string ⟨#[]⟩, .int .i64 0, .slice none 0 0, .int .i64 c.after, .int .i64 c.age, .slice K2 c.keys.length kc2, .slice P2 c.pres.length pc2] 39)).cell? ⟨w4.heap.size, 2, none⟩ = some (.int .u8 0) := cell_of ha7 rfl
          have e3 : (w6.alloc (.cells #[.int .i64 0, .int .i64 0, .int .u8 0, .string ⟨#[]⟩, .int .i64 0, .slice none 0 0, .int .i64 c.after, .int .i64 c.age, .slice K2 c.keys.length kc2, .slice P2 c.pres.length pc2] 39)).cell? ⟨w4.heap.size, 3, none⟩ = some (.string ⟨#[]⟩) := cell_of ha7 rfl
          have e4 : (w6.alloc (.cells #[.int .i64 0, .int .i64 0, .int .u8 0, .string ⟨#[]⟩, .int .i64 0, .slice none 0 0, .int .i64 c.after, .int .i64 c.age, .slice K2 c.keys.length kc2, .slice P2 c.pres.length pc2] 39)).cell? ⟨w4.heap.size, 4, none⟩ = some (.int .i64 0) := cell_of ha7 rfl
          have e5 : (w6.alloc (.cells #[.int .i64 0, .int .i64 0, .int .u8 0, .string ⟨#[]⟩, .int .i64 0, .slice none 0 0, .int .i64 c.after, .int .i64 c.age, .slice K2 c.keys.length kc2, .slice P2 c.pres.length pc2] 39)).cell? ⟨w4.heap.size, 5, none⟩ = some (.slice none 0 0) := cell_of ha7 rfl
          have e6 : (w6.alloc (.cells #[.int .i64 0, .int .i64 0, .int .u8 0, .string ⟨#[]⟩, .int .i64 0, .slice none 0 0, .int .i64 c.after, .int .i64 c.age, .slice K2 c.keys.length kc2, .slice P2 c.pres.length pc2] 39)).cell? ⟨w4.heap.size, 6, none⟩ = some (.int .i64 c.after) := cell_of ha7 rfl
          have e7 : (w6.alloc (.cells #[.int .i64 0, .int .i64 0, .int .u8 0, .string ⟨#[]⟩, .int .i64 0, .slice none 0 0, .int .i64 c.after, .int .i64 c.age, .slice K2 c.keys.length kc2, .slice P2 c.pres.length pc2] 39)).cell? ⟨w4.heap.size, 7, none⟩ = some (.int .i64 c.age) := cell_of ha7 rfl
          have e8 : (w6.alloc (.cells #[.int .i64 0, .int .i64 0, .int .u8 0, .string ⟨#[]⟩, .int .i64 0, .slice none 0 0, .int .i64 c.after, .int .i64 c.age, .slice K2 c.keys.length kc2, .slice P2 c.pres.length pc2] 39)).cell? ⟨w4.heap.size, 8, none⟩ = some (.slice K1 c.keys.length kc1) := cell_of ha7 rfl
          have e9 : (w6.alloc (.cells #[.int .i64 0, .int .i64 0, .int .u8 0, .string ⟨#[]⟩, .int .i64 0, .slice none 0 0, .int .i64 c.after, .int .i64 c.age, .slice K2 c.keys.length kc2, .slice P2 c.pres.length pc2] 39)).cell? ⟨w4.heap.size, 9, none⟩ = some (.slice P1 c.pres.length pc1) := cell_of ha7 rfl
          have f0 : (w6.alloc (.cells #[.int .i64 0, .int .i64 0, .int .u8 0, .string ⟨#[]⟩, .int .i64 0, .slice none 0 0, .int .i64 c.after, .int .i64 c.age, .slice K2 c.keys.length kc2, .slice P2 c.pres.length pc2] 39)).cell? ⟨w6.heap.size, 0, none⟩ = some (.int .i64 0) := cell_of hb8 rfl
          have f1 : (w6.alloc (.cells #[.int .i64 0, .int .i64 0, .int .u8 0, .string ⟨#[]⟩, .int .i64 0, .slice none 0 0, .int .i64 c.after, .int .i64 c.age, .slice K2 c.keys.length kc2, .slice P2 c.pres.length pc2] 39)).cell? ⟨w6.heap.size, 1, none⟩ = some (.int .i64 0) := cell_of hb8 rfl
          have f2 : (w6.alloc (.cells #[.int .i64 0, .int .i64 0, .int .u8 0, .string ⟨#[]⟩, .int .i64 0, .slice none 0 0, .int .i64 c.after, .int .i64 c.age, .slice K2 c.keys.length kc2, .slice P2 c.pres.length pc2] 39)).cell? ⟨w6.heap.size, 2, none⟩ = some (.int .u8 0) := cell_of hb8 rfl
          have f3 : (w6.alloc (.cells #[.int .i64 0, .int .i64 0, .int .u8 0, .string ⟨#[]⟩, .int .i64 0, .slice none 0 0, .int .i64 c.after, .int .i64 c.age, .slice K2 c.keys.length kc2, .slice P2 c.pres.length pc2] 39)).cell? ⟨w6.heap.size, 3, none⟩ = some (.string ⟨#[]⟩) := cell_of hb8 rfl
          have f4 : (w6.alloc (.cells #[.int .i64 0, .int .i64 0, .int .u8 0, .string ⟨#[]⟩, .int .i64 0, .slice none 0 0, .int .i64 c.after, .int .i64 c.age, .slice K2 c.keys.length kc2, .slice P2 c.pres.length pc2] 39)).cell? ⟨w6.heap.size, 4, none⟩ = some (.int .i64 0) := cell_of hb8 rfl
          have f5 : (w6.alloc (.cells #[.int .i64 0, .int .i64 0, .int .u8 0, .string ⟨#[]⟩, .int .i64 0, .slice none 0 0, .int .i64 c.after, .int .i64 c.age, .slice K2 c.keys.length kc2, .slice P2 c.pres.length pc2] 39)).cell? ⟨w6.heap.size, 5, none⟩ = some (.slice none 0 0) := cell_of hb8 rfl
          have f6 : (w6.alloc (.cells #[.int .i64 0, .int .i64 0, .int .u8 0, .string ⟨#[]⟩, .int .i64 0, .slice none 0 0, .int .i64 c.after, .int .i64 c.age, .slice K2 c.keys.length kc2, .slice P2 c.pres.length pc2] 39)).cell? ⟨w6.heap.size, 6, none⟩ = some (.int .i64 c.after) := cell_of hb8 rfl
          have f7 : (w6.alloc (.cells #[.int .i64 0, .int .i64 0, .int .u8 0, .string ⟨#[]⟩, .int .i64 0, .slice none 0 0, .int .i64 c.after, .int .i64 c.age, .slice K2 c.keys.length kc2, .slice P2 c.pres.length pc2] 39)).cell? ⟨w6.heap.size, 7, none⟩ = some (.int .i64 c.age) := cell_of hb8 rfl
          have f8 : (w6.alloc (.cells #[.int .i64 0, .int .i64 0, .int .u8 0, .string ⟨#[]⟩, .int .i64 0, .slice none 0 0, .int .i64 c.after, .int .i64 c.age, .slice K2 c.keys.length kc2, .slice P2 c.pres.length pc2] 39)).cell? ⟨w6.heap.size, 8, none⟩ = some (.slice K2 c.keys.length kc2) := cell_of hb8 rfl
          have f9 : (w6.alloc (.cells #[.int .i64 0, .int .i64 0, .int .u8 0, .string ⟨#[]⟩, .int .i64 0, .slice none 0 0, .int .i64 c.after, .int .i64 c.age, .slice K2 c.keys.length kc2, .slice P2 c.pres.length pc2] 39)).cell? ⟨w6.heap.size, 9, none⟩ = some (.slice P2 c.pres.length pc2) := cell_of hb8 rfl
          have hsame := sameC_any (w := w6.alloc (.cells #[.int .i64 0, .int .i64 0, .int .u8 0, .string ⟨#[]⟩, .int .i64 0, .slice none 0 0, .int .i64 c.after, .int .i64 c.age, .slice K2 c.keys.length kc2, .slice P2 c.pres.length pc2] 39)) (n := 0) (o := out0) (c := c) small0 (by have := HCL2.out.1; omega) (by have := HCL2.out.2; omega) (ClaimC.mk0 (K := K1) (P := P1) (kc := kc1) (pc := pc1) (HK1.out.below hb7) (HP1.out.below hb7)) (ClaimC.mk0 (K := K2) (P := P2) (kc := kc2) (pc := pc2) (hk2.below hbb) (hp2.below hbb))
          have HSAME := Lib.hid hsame
          have HB7 := Lib.hid (HBU.out.trans ((HB5.out.trans (hb7.mono HB5.out.size)).mono HBU.out.size))
          have gbb : (b != b) = false := by cases b <;> rfl
          clear hb6 hbb hb7 ha7 hb8 hsame hk2 hp2 m0 m1 m2 m3 m4 r1 HRS2 HCA
          go_wp2_with fail
          refine HSAME.out.mono ?_
          rintro e w8 ⟨rfl, hb8⟩
          have HB8 := Lib.hid (HB7.out.trans (hb8.mono HB7.out.size))
          clear hb8 e0 f0 e1 f1 e2 f2 e3 f3 e4 f4 e5 f5 e6 f6 e7 f7 e8 f8 e9 f9
          go_wp2_with fail
          go_roundw
          case rel => exact ⟨j + 1, by omega, by go_num, HB8.out⟩
          case measure => simp [intOf]; omega
        · have gj : decide ((j : Int) < (outs.length : Int)) = false := decide_eq_false (by omega)
          have HBR := Lib.hid hbr
          have HBU := Lib.hid hbu
          have HCLM := Lib.hid (claims_any ins outs after tag A B ca cb ks ps K1 kc1 P1 pc1 wr HO.out HS.out (HC.out.below hbr) (HCK.out.below hbu) (HCP.out.below hbu) (HV.out.below hbr))
          have HRCL := Lib.hid (fun W (h : Below wr.heap.size wr W) => rclaims_any ins outs after tag A B ca cb ks ps SA sc PA pc W HO.out HS.out (HC.out.below (hbr.trans (h.mono hbr.size))) (HSK.out.below (hbr.trans (h.mono hbr.size))) (HSP.out.below (hbr.trans (h.mono hbr.size))) (HV.out.below (hbr.trans (h.mono hbr.size))))
          have hlen : (claimsE ks ps ⟨ins, outs, after, tag⟩).2.length ≤ 1000 := by
            unfold claimsE
            split
            · have := claimsL_len ks ps outs 0
              show (claimsL ks ps 0 outs).length ≤ 1000
              omega
            · simp
          have hmem : ∀ x ∈ (claimsE ks ps ⟨ins, outs, after, tag⟩).2, smallT x.2.1.lock ∧ x.2.2.keys.length ≤ 64 ∧ x.2.2.pres.length ≤ 64 := by
            unfold claimsE
            split
            · intro x hx
              obtain ⟨h1, h2⟩ := claimsL_mem ks ps outs 0 x hx
              exact ⟨HS.out.2.1 x.2.1 h1, solveT_len h2⟩
            · simp
          obtain ⟨R, hR⟩ : ∃ R, claimsE ks ps ⟨ins, outs, after, tag⟩ = R := ⟨_, rfl⟩
          rw [hR] at HCLM HRCL hlen hmem
          obtain ⟨er, L⟩ := R
          simp only at hlen hmem
          unfold ClaimsP at HCLM HRCL
          simp only at HCLM HRCL
          have HM := Lib.hid hmem
          clear hR hbr hbu hmem
          go_wp2_with fail
          refine HCLM.out.mono ?_
          rintro e w4 ⟨A1, c1, xs, rfl, hx1, hx2, hb4⟩
          obtain ⟨t0, t1, t2, t3⟩ := (HX3.out.below (HBU.out.trans (hb4.mono HBU.out.size))).cells
          have HRC2 := Lib.hid (HRCL.out w4 hb4)
          have HX1 := Lib.hid hx1
          have HX2 := Lib.hid hx2
          have HB4 := Lib.hid (HBU.out.trans (hb4.mono HBU.out.size))
          clear q0 q1 q2 q3 HRCL HCLM hb4 hx1 hx2
          go_wp2_with fail
          refine HRC2.out.mono ?_
          rintro e w5 ⟨A2, c2, ys, rfl, hy1, hy2, hb5⟩
          have HX1 := Lib.hid (HX1.out.below hb5)
          have HX2 := Lib.hid (ClaimsC.below hb5 _ _ HX2.out)
          have HY1 := Lib.hid hy1
          have HY2 := Lib.hid hy2
          have HB5 := Lib.hid (HB4.out.trans (hb5.mono HB4.out.size))
          clear hb5 hy1 hy2 HRC2 t0 t1 t2 t3
          have hbw := HB3.out.trans (HB5.out.mono HB3.out.size)
          have HST := Lib.hid (sameTerms_eq ks K1 SA kc1 sc w5 HK9.out (HCK.out.below HB5.out) (HSK.out.below hbw))
          have HSQ := Lib.hid (fun m => sameTerms_eq ps P1 PA pc1 pc (w5.drewN m) HP9.out ((HCP.out.below HB5.out).drewN m) ((HSP.out.below hbw).drewN m))
          have gee : (er != er) = false := by simp
          have gll : ((L.length : Int) != (L.length : Int)) = false := by simp
          clear hbw
          go_wp2_with fail
          refine HST.out.mono ?_
          rintro e w6 ⟨rfl, m6, rfl⟩
          go_wp2_with fail
          refine (HSQ.out m6).mono ?_
          rintro e w7 ⟨rfl, m7, hw7⟩
          have hb57 : Below w5.heap.size w5 w7 := by rw [hw7]; exact below_drewN (below_drewN (Below.refl _ _) _) _
          have HX1 := Lib.hid (HX1.out.below hb57)
          have HX2 := Lib.hid (ClaimsC.below hb57 _ _ HX2.out)
          have HY1 := Lib.hid (HY1.out.below hb57)
          have HY2 := Lib.hid (ClaimsC.below hb57 _ _ HY2.out)
          have HB7 := Lib.hid (HB3.out.trans ((HB5.out.trans (hb57.mono HB5.out.size)).mono HB3.out.size))
          clear hb57 hw7 HST HSQ HB4 HB5 HBU HBR gee gll
          go_wp2_with fail
          go_loopw [18] (fun i wr => ∃ k : Nat, k ≤ L.length ∧ i = .int .i64 (k : Int) ∧ Below w7.heap.size w7 wr) (fun i _ => L.length - (intOf i).toNat)
          case atStart => exact ⟨0, Nat.zero_le _, rfl, Below.refl _ _⟩
          case round =>
            obtain ⟨k, hk, rfl, hbr⟩ := hrel
            have HBR := Lib.hid hbr
            by_cases hlk : k < L.length
            · obtain ⟨ad, C, cp, K, kc, P, pc, rfl, x0, x1, x2, x3, x4, x5, x6, x7, x8, x9, hcx⟩ := claim_at (HX1.out.below hbr) (ClaimsC.below hbr _ _ HX2.out) hlk
              obtain ⟨bd, D, dp, M, mc, Q, qc, rfl, y0, y1, y2, y3, y4, y5, y6, y7, y8, y9, hcy⟩ := claim_at (HY1.out.below hbr) (ClaimsC.below hbr _ _ HY2.out) hlk
              have hsm := HM.out L[k] (List.getElem_mem hlk)
              have hbd : Below wr.heap.size wr wr.drew := (Below.refl _ _).drew
              have HG := Lib.hid (sameC_any (w := wr.drew) hsm.1 (by omega) (by omega) (hcx.below hbd) (hcy.below hbd))
              have HBD := Lib.hid hbr.drew
              clear hcx hcy hsm hbd hbr
              generalize L[k] = x at x0 y0 x1 y1 x2 y2 x3 y3 x4 y4 x5 y5 x6 y6 x7 y7 x8 y8 x9 y9 HG
              go_upto_region 20 with fail
              go_still_tail 8, (by kernel_rfl)
              change wpList _ _ _ _ _ wr.drew
              generalize hdr : wr.drew = wd at HG HBD ⊢
              go_wp2_with (go_at_call 9; refine HG.out.mono ?_; rintro e w8 ⟨rfl, hb8⟩)
              have HB8 := Lib.hid (HBD.out.trans (hb8.mono HBD.out.size))
              clear hb8 hdr
              go_wp2_with fail
              go_roundw
              case rel => exact ⟨k + 1, by omega, by go_num, HB8.out⟩
              case measure => simp [intOf]; omega
            · have gk : decide ((k : Int) < (L.length : Int)) = false := decide_eq_false (by omega)
              have HV8 := Lib.hid (HV.out.below (HB7.out.trans (hbr.mono HB7.out.size)))
              have HB8 := Lib.hid (HB7.out.trans (hbr.mono HB7.out.size))
              clear hbr
              go_wp2_with fail
              refine (works_any _ HV8.out).mono ?_
              rintro e w9 ⟨rfl, hb9⟩
              have HB9 := Lib.hid (HB8.out.trans (hb9.mono HB8.out.size))
              clear hb9
              go_wp2_with fail
              go_ret
              exact ⟨rfl, HB9.out⟩
end Go.Proofs.YtaonadgelkdbcaaGreatDoor
