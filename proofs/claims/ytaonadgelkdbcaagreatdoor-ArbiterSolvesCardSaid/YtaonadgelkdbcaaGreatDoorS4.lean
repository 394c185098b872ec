/- The program's right transactions. -/
import Derived.Test.YtaonadgelkdbcaaGreatDoorS3
import Derived.Test.YtaonadgelkdbcaaGreatDoorQ17
import Derived.Test.YtaonadgelkdbcaaGreatDoorQ14
import Derived.Deep.DrawnRows
namespace Go.Proofs.YtaonadgelkdbcaaGreatDoor
open Go.RowKit

/-- Nothing of a transaction is too long. -/
def smallTx (t : TxT) : Prop := (∀ x ∈ t.ins, ptOk x ∧ x.tx.size ≤ 1125899906842624) ∧ (∀ o ∈ t.outs, smallT o.lock) ∧ t.ins.length ≤ 1000 ∧ t.outs.length ≤ 1000
def TxBox (w : World) (b : Nat) (A : Option Addr) (n ca : Nat) (B : Option Addr) (m cb : Nat) (after tag : Int) : Prop := w.heap[b]? = some (.cells #[.slice A n ca, .slice B m cb, .int .i64 after, .int .i64 tag] 25 (0, 0))
theorem TxBox.cells {w : World} {b : Nat} {A : Option Addr} {n ca : Nat} {B : Option Addr} {m cb : Nat} {after tag : Int} (h : TxBox w b A n ca B m cb after tag) : w.cell? ⟨b, 0, none⟩ = some (.slice A n ca) ∧ w.cell? ⟨b, 1, none⟩ = some (.slice B m cb) ∧ w.cell? ⟨b, 2, none⟩ = some (.int .i64 after) ∧ w.cell? ⟨b, 3, none⟩ = some (.int .i64 tag) := by
  unfold TxBox at h
  exact ⟨by simp [World.cell?, h], by simp [World.cell?, h], by simp [World.cell?, h], by simp [World.cell?, h]⟩
theorem TxBox.fr {F : List Nat} {w w' : World} {b : Nat} {A : Option Addr} {n ca : Nat} {B : Option Addr} {m cb : Nat} {after tag : Int} (h : TxBox w b A n ca B m cb after tag) (hf : Fr F w w') (hb : b ∉ F) : TxBox w' b A n ca B m cb after tag := (hf.block b (lt_of_block h) hb).trans h
theorem TxBox.below {w w' : World} {b : Nat} {A : Option Addr} {n ca : Nat} {B : Option Addr} {m cb : Nat} {after tag : Int} (h : TxBox w b A n ca B m cb after tag) (hb : Below w.heap.size w w') : TxBox w' b A n ca B m cb after tag := h.fr (Fr.below (F := []) hb) (by simp)
theorem headB_eq (ins : List InT) (outs : List OutT) (after tag : Int) : headB ⟨ins, outs, after, tag⟩ = (!(decide ((64 : Int) < (ins.length : Int))) && !((outs.length : Int) == 0) && !(decide ((64 : Int) < (outs.length : Int))) && !(decide (after < 0)) && !(decide (1073741824 ≤ after)) && !(decide (tag < 0)) && !(decide (4611686018427387904 < tag))) := by
  unfold headB timeB
  simp only
  generalize ins.length = a
  generalize outs.length = b
  by_cases h1 : a ≤ 64 <;> by_cases h2 : 1 ≤ b <;> by_cases h3 : b ≤ 64 <;> by_cases h4 : 0 ≤ after <;> by_cases h5 : after < 1073741824 <;> by_cases h6 : 0 ≤ tag <;> by_cases h7 : tag ≤ 4611686018427387904 <;> simp [h1, h2, h3, h4, h5, h6, h7] <;> omega
set_option maxRecDepth 100000 in
set_option maxHeartbeats 16000000 in
theorem txright_any (ins : List InT) (outs : List OutT) (after tag : Int) (A B : Option Addr) (ca cb : Nat) (w : World) (hs : smallTx ⟨ins, outs, after, tag⟩) (hc : TxC w ⟨ins, outs, after, tag⟩ A B) (hv : VarsOk w) :
    Calls Tryz.prog 29 #[.agg #[.slice A ins.length ca, .slice B outs.length cb, .int .i64 after, .int .i64 tag]] w fun e w' => e = .returned (.bool (txB ⟨ins, outs, after, tag⟩)) ∧ Below w.heap.size w w' := by
  have hb0 : Below w.heap.size w (w.alloc (.cells #[.slice A ins.length ca, .slice B outs.length cb, .int .i64 after, .int .i64 tag] 25)) := (Below.refl _ _).alloc (Nat.le_refl _) _
  have hbx : TxBox (w.alloc (.cells #[.slice A ins.length ca, .slice B outs.length cb, .int .i64 after, .int .i64 tag] 25)) w.heap.size A ins.length ca B outs.length cb after tag := Go.heap_alloc_new w _
  obtain ⟨p0, p1, p2, p3⟩ := hbx.cells
  have HB := Lib.hid hb0
  have HX := Lib.hid hbx
  have HC := Lib.hid hc
  have HS := Lib.hid hs
  have HV := Lib.hid hv
  obtain ⟨R, hR⟩ : ∃ R, txB ⟨ins, outs, after, tag⟩ = R := ⟨_, rfl⟩
  rw [hR]
  have HR := Lib.hid (show (headB ⟨ins, outs, after, tag⟩ && insB [] ins && outsB maxCoin outs) = R by rw [← hR]; rfl)
  have HH := Lib.hid (headB_eq ins outs after tag)
  clear hR hb0 hbx hc hs hv
  cases g1 : decide ((64 : Int) < (ins.length : Int)) with
  | true =>
    have HN := Lib.hid (show R = false by rw [← HR.out, HH.out, g1]; simp)
    go_enter Tryz.func29, Tryz.ntmps29
    go_wp2_with fail
    go_ret
    rw [HN.out]
    exact ⟨rfl, HB.out⟩
  | false =>
    cases g2 : ((outs.length : Int) == 0) with
    | true =>
      have HN := Lib.hid (show R = false by rw [← HR.out, HH.out, g1, g2]; simp)
      go_enter Tryz.func29, Tryz.ntmps29
      go_wp2_with fail
      go_ret
      rw [HN.out]
      exact ⟨rfl, HB.out⟩
    | false =>
      cases g3 : decide ((64 : Int) < (outs.length : Int)) with
      | true =>
        have HN := Lib.hid (show R = false by rw [← HR.out, HH.out, g1, g2, g3]; simp)
        go_enter Tryz.func29, Tryz.ntmps29
        go_wp2_with fail
        go_ret
        rw [HN.out]
        exact ⟨rfl, HB.out⟩
      | false =>
        cases g4 : decide (after < 0) with
        | true =>
          have HN := Lib.hid (show R = false by rw [← HR.out, HH.out, g1, g2, g3, g4]; simp)
          go_enter Tryz.func29, Tryz.ntmps29
          go_wp2_with fail
          go_ret
          rw [HN.out]
          exact ⟨rfl, HB.out⟩
        | false =>
          cases g5 : decide (1073741824 ≤ after) with
          | true =>
            have HN := Lib.hid (show R = false by rw [← HR.out, HH.out, g1, g2, g3, g4, g5]; simp)
            go_enter Tryz.func29, Tryz.ntmps29
            go_wp2_with fail
            go_ret
            rw [HN.out]
            exact ⟨rfl, HB.out⟩
          | false =>
            cases g6 : decide (tag < 0) with
            | true =>
              have HN := Lib.hid (show R = false by rw [← HR.out, HH.out, g1, g2, g3, g4, g5, g6]; simp)
              go_enter Tryz.func29, Tryz.ntmps29
              go_wp2_with fail
              go_ret
              rw [HN.out]
              exact ⟨rfl, HB.out⟩
            | false =>
              cases g7 : decide (4611686018427387904 < tag) with
              | true =>
                have HN := Lib.hid (show R = false by rw [← HR.out, HH.out, g1, g2, g3, g4, g5, g6, g7]; simp)
                go_enter Tryz.func29, Tryz.ntmps29
                go_wp2_with fail
                go_ret
                rw [HN.out]
                exact ⟨rfl, HB.out⟩
              | false =>
                have HN := Lib.hid (show (insB [] ins && outsB maxCoin outs) = R by rw [← HR.out, HH.out, g1, g2, g3, g4, g5, g6, g7]; simp)
                obtain ⟨s1, s2, s3, s4⟩ := HS.out
                have S1 := Lib.hid s1
                have S2 := Lib.hid s2
                have hmm := @run_makeMap Tryz.prog
                have hL1 : ins.length ≤ 64 := by have := of_decide_eq_false g1; omega
                have hL2 : outs.length ≤ 64 := by have := of_decide_eq_false g3; omega
                have hm0 := Met.start (w.alloc (.cells #[.slice A ins.length ca, .slice B outs.length cb, .int .i64 after, .int .i64 tag] 25))
                have hbm : Below (w.alloc (.cells #[.slice A ins.length ca, .slice B outs.length cb, .int .i64 after, .int .i64 tag] 25)).heap.size (w.alloc (.cells #[.slice A ins.length ca, .slice B outs.length cb, .int .i64 after, .int .i64 tag] 25)) ((w.alloc (.cells #[.slice A ins.length ca, .slice B outs.length cb, .int .i64 after, .int .i64 tag] 25)).alloc (.map #[] 0)) := (Below.refl _ _).alloc (Nat.le_refl _) _
                have hsz0 : (w.alloc (.cells #[.slice A ins.length ca, .slice B outs.length cb, .int .i64 after, .int .i64 tag] 25)).heap.size = w.heap.size + 1 := by simp
                rw [hsz0] at hm0
                have HM := Lib.hid hm0
                have HX1 := Lib.hid (HX.out.below hbm)
                have HB1 := Lib.hid (HB.out.trans (hbm.mono HB.out.size))
                obtain ⟨q0, q1, q2, q3⟩ := HX1.out.cells
                clear s1 s2 s3 s4 hm0 hbm
                go_enter Tryz.func29, Tryz.ntmps29
                go_wp2_with fail
                go_loopw [49] (fun i wr => ∃ j : Nat, j ≤ ins.length ∧ i = .int .i64 (j : Int) ∧ (insB (ins.take j) (ins.drop j) && outsB maxCoin outs) = R ∧ Met wr (w.heap.size + 1) (ins.take j) ∧ TxBox wr w.heap.size A ins.length ca B outs.length cb after tag ∧ Below w.heap.size w wr) (fun i _ => ins.length - (intOf i).toNat)
                case atStart => exact ⟨0, Nat.zero_le _, rfl, by rw [List.drop_zero, List.take_zero]; exact HN.out, by rw [List.take_zero]; exact HM.out, HX1.out, HB1.out⟩
                case round =>
                  obtain ⟨j, hj, rfl, hrest, hmet, hbox, hbr⟩ := hrel
                  clear p0 p1 p2 p3 q0 q1 q2 q3 hmm
                  by_cases hlt : j < ins.length
                  · obtain ⟨ad, rfl, x0, x1, x2⟩ := in_at (HC.out.below hbr).1 hlt
                    have hdrop : ins.drop j = ins[j] :: ins.drop (j + 1) := List.drop_eq_getElem_cons hlt
                    have htake : ins.take (j + 1) = ins.take j ++ [ins[j]] := List.take_succ_eq_append_getElem hlt
                    rw [hdrop] at hrest
                    have hpt := (S1.out ins[j] (List.getElem_mem hlt)).1
                    obtain ⟨x, hx⟩ : ∃ x, ins[j] = x := ⟨_, rfl⟩
                    rw [hx] at x0 x1 x2 hrest htake hpt
                    have HT := Lib.hid htake
                    have hbn : Below wr.heap.size wr (wr.alloc (.cells #[.string x.tx, .int .i64 x.pn, .int .i64 x.age] 61)) := (Below.refl _ _).alloc (Nat.le_refl _) _
                    have HMR := Lib.hid hmet
                    obtain ⟨c, v0, st, u1, u2, hc0, l0, e1, l1, hg1, e2, hg2, l2, hnext⟩ := Met.step (w := (wr.alloc (.cells #[.string x.tx, .int .i64 x.pn, .int .i64 x.age] 61)).drew) (show Met (wr.alloc (.cells #[.string x.tx, .int .i64 x.pn, .int .i64 x.age] 61)).drew (w.heap.size + 1) (ins.take j) from hmet.below hbn.drew) (by rw [List.length_take]; omega) hpt
                    have y0 : (wr.alloc (.cells #[.string x.tx, .int .i64 x.pn, .int .i64 x.age] 61)).cell? ⟨wr.heap.size, 0, none⟩ = some (.string x.tx) := alloc_cells 0 _ rfl
                    have y1 : (wr.alloc (.cells #[.string x.tx, .int .i64 x.pn, .int .i64 x.age] 61)).cell? ⟨wr.heap.size, 1, none⟩ = some (.int .i64 x.pn) := alloc_cells 1 _ rfl
                    have y2 : (wr.alloc (.cells #[.string x.tx, .int .i64 x.pn, .int .i64 x.age] 61)).cell? ⟨wr.heap.size, 2, none⟩ = some (.int .i64 x.age) := alloc_cells 2 _ rfl
                    have hbi : (wr.alloc (.cells #[.string x.tx, .int .i64 x.pn, .int .i64 x.age] 61)).heap[wr.heap.size]? = some (.cells #[.string x.tx, .int .i64 x.pn, .int .i64 x.age] 61 (0, 0)) := Go.heap_alloc_new wr _
                    have hml : w.heap.size + 1 < wr.heap.size := Met.lt hmet
                    have hbi1 := (grown_fr hg1).block wr.heap.size (lt_of_block hbi) (by simp; omega)
                    have hbi2 := (grown_fr hg2).block wr.heap.size (lt_of_block hbi) (by simp; omega)
                    have HU1 := Lib.hid (show u1.heap[wr.heap.size]? = _ from hbi1.trans hbi)
                    have HU2 := Lib.hid (show u2.heap[wr.heap.size]? = _ from hbi2.trans hbi)
                    have HXU := Lib.hid ((hbox.below hbn.drew).fr (grown_fr hg2) (by simp))
                    have HBU := Lib.hid ((hbr.trans (hbn.drew.mono hbr.size)).trans ((grown_fr hg2).toBelowOf (B := w.heap.size) ((hbr.trans (hbn.drew.mono hbr.size)).size) (by simp)))
                    have HC0 := Lib.hid hc0
                    have HNX := Lib.hid hnext
                    have HREST := Lib.hid hrest
                    unfold ptV at l0 e1 l1 l2
                    have L0 := Lib.hid l0
                    have L1 := Lib.hid l1
                    have L2 := Lib.hid l2
                    have E1 := Lib.hid e1
                    have hwr : IntKind.i64.wrap (c + 1) = c + 1 := IntWalk.i64_in _ (by rcases if_one hc0.symm with ⟨-, h⟩ | ⟨-, h⟩ <;> omega)
                    have E2 := Lib.hid (show (Instr.entryStore 83 (.map (some (w.heap.size + 1))) (.int .i64 (st : Int)) (.int .i64 (c + 1))).run Tryz.prog u1 = .ok () u2 from e2)
                    clear hbn hc0 hnext hrest hmet hbox hbr hg1 hg2 hbi hbi1 hbi2 htake hdrop hpt hml l0 e1 l1 e2 l2 hx
                    go_upto_region 7 with fail
                    have hS : (fun V => V.cell? ⟨wr.heap.size, 0, none⟩ = some (.string x.tx) ∧ V.cell? ⟨wr.heap.size, 1, none⟩ = some (.int .i64 x.pn) ∧ (Instr.lookup 83 (.map (some (w.heap.size + 1))) (.agg #[.string x.tx, .int .i64 x.pn]) false).run Tryz.prog V = .ok (.int .i64 c) V) (wr.alloc (.cells #[.string x.tx, .int .i64 x.pn, .int .i64 x.age] 61)).drew := ⟨y0, y1, L0.out⟩
                    refine wp_region_noPanic ?_
                    refine wp_region_any (by kernel_rfl) (anyG_any (S := (fun V => V.cell? ⟨wr.heap.size, 0, none⟩ = some (.string x.tx) ∧ V.cell? ⟨wr.heap.size, 1, none⟩ = some (.int .i64 x.pn) ∧ (Instr.lookup 83 (.map (some (w.heap.size + 1))) (.agg #[.string x.tx, .int .i64 x.pn]) false).run Tryz.prog V = .ok (.int .i64 c) V)) (n := 7) _ _ _ _ ?_)
                    change AnyG _ _ _ _ _ _ 8 (Array.replicate 8 false) _ (wr.alloc (.cells #[.string x.tx, .int .i64 x.pn, .int .i64 x.age] 61)).drew
                    refine anyG_take (i := 0) (v := ?_) rfl rfl (by kernel_rfl) (by kernel_rfl) (by kernel_rfl) (by kernel_rfl) (by kernel_rfl) (fun _ _ _ h => h) (Or.inl ⟨by rfl, ?_⟩) hS ?_
                    rotate_left
                    · (intro w' hSw; (try dsimp only at hSw); go_simp; (try with_reducible rfl))
                    try simp only [Act.put, List.setIfInBounds_toArray, List.set_cons_zero, List.set_cons_succ]
                    refine anyG_take (i := 1) (v := ?_) rfl rfl (by kernel_rfl) (by kernel_rfl) (by kernel_rfl) (by kernel_rfl) (by kernel_rfl) (fun _ _ _ h => h) (Or.inl ⟨by rfl, ?_⟩) hS ?_
                    rotate_left
                    · (intro w' hSw; (try dsimp only at hSw); go_simp; (try with_reducible rfl))
                    try simp only [Act.put, List.setIfInBounds_toArray, List.set_cons_zero, List.set_cons_succ]
                    refine anyG_take (i := 2) (v := ?_) rfl rfl (by kernel_rfl) (by kernel_rfl) (by kernel_rfl) (by kernel_rfl) (by kernel_rfl) (fun _ _ _ h => h) (Or.inl ⟨by rfl, ?_⟩) hS ?_
                    rotate_left
                    · (intro w' hSw; (try dsimp only at hSw); go_simp; (try with_reducible rfl))
                    try simp only [Act.put, List.setIfInBounds_toArray, List.set_cons_zero, List.set_cons_succ]
                    refine anyG_take (i := 3) (v := ?_) rfl rfl (by kernel_rfl) (by kernel_rfl) (by kernel_rfl) (by kernel_rfl) (by kernel_rfl) (fun _ _ _ h => h) (Or.inl ⟨by rfl, ?_⟩) hS ?_
                    rotate_left
                    · (intro w' hSw; (try dsimp only at hSw); go_simp; (try with_reducible rfl))
                    try simp only [Act.put, List.setIfInBounds_toArray, List.set_cons_zero, List.set_cons_succ]
                    refine anyG_take (i := 4) (v := ?_) rfl rfl (by kernel_rfl) (by kernel_rfl) (by kernel_rfl) (by kernel_rfl) (by kernel_rfl) (fun _ _ _ h => h) (Or.inl ⟨by rfl, ?_⟩) hS ?_
                    rotate_left
                    · (intro w' hSw; (try dsimp only at hSw); go_simp; (try with_reducible rfl))
                    try simp only [Act.put, List.setIfInBounds_toArray, List.set_cons_zero, List.set_cons_succ]
                    clear hS
                    refine anyG_all (rs := [5]) (by kernel_rfl) (by simp) (List.forall_mem_singleton.2 ?_)
                    refine wpOp_step rfl (fun K' hK => ?_)
                    have HK := Lib.hid hK
                    clear hK
                    rw [if_pos (by rfl)]
                    have e1 := E1.out
                    go_simp
                    clear e1
                    refine HK.out _ _ ⟨fun _ => ⟨cell_of HU1.out rfl, cell_of HU1.out rfl, L1.out⟩, ?_⟩
                    clear HK
                    try simp only [Act.put, List.setIfInBounds_toArray, List.set_cons_zero, List.set_cons_succ]
                    refine anyG_all (rs := [6]) (by kernel_rfl) (by simp) (List.forall_mem_singleton.2 ?_)
                    refine wpOp_step rfl (fun K' hK => ?_)
                    have HK := Lib.hid hK
                    clear hK
                    rw [if_pos (by rfl)]
                    go_simp
                    refine HK.out _ _ ⟨fun _ => ⟨cell_of HU1.out rfl, cell_of HU1.out rfl, L1.out⟩, ?_⟩
                    clear HK
                    try simp only [Act.put, List.setIfInBounds_toArray, List.set_cons_zero, List.set_cons_succ]
                    refine anyG_all (rs := [7]) (by kernel_rfl) (by simp) (List.forall_mem_singleton.2 ?_)
                    refine wpOp_step rfl (fun K' hK => ?_)
                    have HK := Lib.hid hK
                    clear hK
                    rw [if_pos (by rfl)]
                    have e2 := E2.out
                    go_simp
                    clear e2
                    refine HK.out _ _ ⟨fun h => absurd rfl h, anyG_done (by kernel_rfl) ?_⟩
                    clear HK
                    refine NoPanic.normal ?_
                    clear y0 y1 y2 x0 x1 x2 HMR L0 L1 E1 HU1 HX HB HM HX1 HB1 hsz0 E2 hwr
                    have l2 := L2.out
                    have y0 : u2.cell? ⟨wr.heap.size, 0, none⟩ = some (.string x.tx) := cell_of HU2.out rfl
                    have y1 : u2.cell? ⟨wr.heap.size, 1, none⟩ = some (.int .i64 x.pn) := cell_of HU2.out rfl
                    have y2 : u2.cell? ⟨wr.heap.size, 2, none⟩ = some (.int .i64 x.age) := cell_of HU2.out rfl
                    rcases if_one HC0.out.symm with ⟨hany, hc0⟩ | ⟨hany, hc0⟩
                    · subst hc0
                      have HN2 := Lib.hid (show R = false by rw [← HREST.out, insB_met hany]; rfl)
                      go_wp2_with fail
                      go_ret
                      rw [HN2.out]
                      exact ⟨rfl, HBU.out⟩
                    · subst hc0
                      have HMN := Lib.hid (show Met u2 (w.heap.size + 1) (ins.take (j + 1)) by rw [HT.out]; exact HNX.out rfl)
                      have HNM := Lib.hid (txname_any x.tx u2)
                      have HIB := Lib.hid (show inB x = (idB x.tx && decide (0 ≤ x.pn) && decide (x.pn < 64) && decide (0 ≤ x.age) && decide (x.age < 1073741824)) from rfl)
                      have HNA := Lib.hid hany
                      clear hany
                      obtain ⟨q, hq⟩ : ∃ q, idB x.tx = q := ⟨_, rfl⟩
                      rw [hq] at HNM HIB
                      clear hq
                      go_wp2_with fail
                      refine HNM.out.mono ?_
                      rintro e w3 ⟨rfl, hb3⟩
                      have z0 := cell_below hb3 y0
                      have z1 := cell_below hb3 y1
                      have z2 := cell_below hb3 y2
                      have HM3 := Lib.hid (HMN.out.below hb3)
                      have HX3 := Lib.hid (HXU.out.below hb3)
                      have HB3 := Lib.hid (HBU.out.trans (hb3.mono HBU.out.size))
                      clear hb3 y0 y1 y2 l2
                      cases q with
                      | false =>
                        have HN2 := Lib.hid (show R = false by rw [← HREST.out, insB_bad (show inB x = false by rw [HIB.out]; rfl)]; rfl)
                        go_wp2_with fail
                        go_ret
                        rw [HN2.out]
                        exact ⟨rfl, HB3.out⟩
                      | true =>
                        cases k1 : decide (x.pn < 0) with
                        | true =>
                          have mk1 : decide (0 ≤ x.pn) = false := decide_eq_false (by have := of_decide_eq_true k1; omega)
                          have HN2 := Lib.hid (show R = false by rw [← HREST.out, insB_bad (show inB x = false by rw [HIB.out, mk1]; simp)]; rfl)
                          go_wp2_with fail
                          go_ret
                          rw [HN2.out]
                          exact ⟨rfl, HB3.out⟩
                        | false =>
                          have mk1 : decide (0 ≤ x.pn) = true := decide_eq_true (by have := of_decide_eq_false k1; omega)
                          cases k2 : decide (64 ≤ x.pn) with
                          | true =>
                            have mk2 : decide (x.pn < 64) = false := decide_eq_false (by have := of_decide_eq_true k2; omega)
                            have HN2 := Lib.hid (show R = false by rw [← HREST.out, insB_bad (show inB x = false by rw [HIB.out, mk2]; simp)]; rfl)
                            go_wp2_with fail
                            go_ret
                            rw [HN2.out]
                            exact ⟨rfl, HB3.out⟩
                          | false =>
                            have mk2 : decide (x.pn < 64) = true := decide_eq_true (by have := of_decide_eq_false k2; omega)
                            cases k3 : decide (x.age < 0) with
                            | true =>
                              have mk3 : decide (0 ≤ x.age) = false := decide_eq_false (by have := of_decide_eq_true k3; omega)
                              have HN2 := Lib.hid (show R = false by rw [← HREST.out, insB_bad (show inB x = false by rw [HIB.out, mk3]; simp)]; rfl)
                              go_wp2_with fail
                              go_ret
                              rw [HN2.out]
                              exact ⟨rfl, HB3.out⟩
                            | false =>
                              have mk3 : decide (0 ≤ x.age) = true := decide_eq_true (by have := of_decide_eq_false k3; omega)
                              cases k4 : decide (1073741824 ≤ x.age) with
                              | true =>
                                have mk4 : decide (x.age < 1073741824) = false := decide_eq_false (by have := of_decide_eq_true k4; omega)
                                have HN2 := Lib.hid (show R = false by rw [← HREST.out, insB_bad (show inB x = false by rw [HIB.out, mk4]; simp)]; rfl)
                                go_wp2_with fail
                                go_ret
                                rw [HN2.out]
                                exact ⟨rfl, HB3.out⟩
                              | false =>
                                have mk4 : decide (x.age < 1073741824) = true := decide_eq_true (by have := of_decide_eq_false k4; omega)
                                have HN2 := Lib.hid (show (insB (ins.take (j + 1)) (ins.drop (j + 1)) && outsB maxCoin outs) = R by rw [HT.out, ← HREST.out, insB_next (show inB x = true by rw [HIB.out, mk1, mk2, mk3, mk4]; rfl) HNA.out])
                                clear mk1 mk2 mk3 mk4
                                go_wp2_with fail
                                go_roundw
                                case rel => exact ⟨j + 1, by omega, by go_num, HN2.out, HM3.out, HX3.out, HB3.out⟩
                                case measure => simp [intOf]; omega
                  · have HD := Lib.hid (show outsB maxCoin outs = R by rw [← hrest, List.drop_of_length_le (by omega)]; rfl)
                    have HXX := Lib.hid hbox
                    have HBB := Lib.hid hbr
                    obtain ⟨q0, q1, q2, q3⟩ := hbox.cells
                    have gj : decide ((j : Int) < (ins.length : Int)) = false := decide_eq_false (by omega)
                    clear hrest hmet hbox hbr
                    go_wp2_with fail
                    go_loopw [98, 6] (fun i lf wr => ∃ (j : Nat) (left : Int), j ≤ outs.length ∧ i = .int .i64 (j : Int) ∧ lf = .int .i64 left ∧ 0 ≤ left ∧ left ≤ 2100000000000000 ∧ outsB left (outs.drop j) = R ∧ TxBox wr w.heap.size A ins.length ca B outs.length cb after tag ∧ Below w.heap.size w wr) (fun i _ _ => outs.length - (intOf i).toNat)
                    case atStart => exact ⟨0, 2100000000000000, Nat.zero_le _, rfl, rfl, by omega, Int.le_refl _, by rw [List.drop_zero]; exact HD.out, HXX.out, HBB.out⟩
                    case round =>
                      clear HXX HBB HD q0 q1 q2 q3 gj
                      obtain ⟨j2, left, hj2, rfl, rfl, hl0, hl1, hrest, hbox, hbr⟩ := hrel
                      by_cases hlt2 : j2 < outs.length
                      · obtain ⟨-, ys, hy1, hy2⟩ := HC.out.below hbr
                        obtain ⟨bd, C, cp, rfl, o0, o1, o2, o3, o4, hlk⟩ := out_at hy1 hy2 hlt2
                        have hdrop : outs.drop j2 = outs[j2] :: outs.drop (j2 + 1) := List.drop_eq_getElem_cons hlt2
                        rw [hdrop] at hrest
                        have hsm := S2.out outs[j2] (List.getElem_mem hlt2)
                        obtain ⟨x, hx⟩ : ∃ x, outs[j2] = x := ⟨_, rfl⟩
                        rw [hx] at o0 o1 o2 o3 o4 hlk hrest hsm
                        have hbn : Below wr.heap.size wr (wr.alloc (.cells #[.int .i64 x.value, .int .u8 x.lock.kind, .string x.lock.term, .int .i64 x.lock.n, .slice C x.lock.kids.length cp] 34)) := (Below.refl _ _).alloc (Nat.le_refl _) _
                        have y0 : (wr.alloc (.cells #[.int .i64 x.value, .int .u8 x.lock.kind, .string x.lock.term, .int .i64 x.lock.n, .slice C x.lock.kids.length cp] 34)).cell? ⟨wr.heap.size, 0, none⟩ = some (.int .i64 x.value) := alloc_cells 0 _ rfl
                        have y1 : (wr.alloc (.cells #[.int .i64 x.value, .int .u8 x.lock.kind, .string x.lock.term, .int .i64 x.lock.n, .slice C x.lock.kids.length cp] 34)).cell? ⟨wr.heap.size, 1, none⟩ = some (.int .u8 x.lock.kind) := alloc_cells 1 _ rfl
                        have y2 : (wr.alloc (.cells #[.int .i64 x.value, .int .u8 x.lock.kind, .string x.lock.term, .int .i64 x.lock.n, .slice C x.lock.kids.length cp] 34)).cell? ⟨wr.heap.size, 2, none⟩ = some (.string x.lock.term) := alloc_cells 2 _ rfl
                        have y3 : (wr.alloc (.cells #[.int .i64 x.value, .int .u8 x.lock.kind, .string x.lock.term, .int .i64 x.lock.n, .slice C x.lock.kids.length cp] 34)).cell? ⟨wr.heap.size, 3, none⟩ = some (.int .i64 x.lock.n) := alloc_cells 3 _ rfl
                        have y4 : (wr.alloc (.cells #[.int .i64 x.value, .int .u8 x.lock.kind, .string x.lock.term, .int .i64 x.lock.n, .slice C x.lock.kids.length cp] 34)).cell? ⟨wr.heap.size, 4, none⟩ = some (.slice C x.lock.kids.length cp) := alloc_cells 4 _ rfl
                        have HBN := Lib.hid (hbr.trans (hbn.mono hbr.size))
                        have HXN := Lib.hid (hbox.below hbn)
                        have HLR := Lib.hid (lright_any x.lock _ (wr.alloc (.cells #[.int .i64 x.value, .int .u8 x.lock.kind, .string x.lock.term, .int .i64 x.lock.n, .slice C x.lock.kids.length cp] 34)) hsm (LockC.below hbn _ _ hlk) (HV.out.below (hbr.trans (hbn.mono hbr.size))))
                        have HREST := Lib.hid hrest
                        clear hbn hlk hrest hbox hbr hy1 hy2 hdrop hsm hx
                        cases k1 : decide (x.value < 1) with
                        | true =>
                          have m1 : decide (1 ≤ x.value) = false := decide_eq_false (by have := of_decide_eq_true k1; omega)
                          have HN2 := Lib.hid (show R = false by rw [← HREST.out]; unfold outsB; rw [m1]; rfl)
                          go_wp2_with fail
                          go_ret
                          rw [HN2.out]
                          exact ⟨rfl, HBN.out⟩
                        | false =>
                          have m1 : 1 ≤ x.value := by have := of_decide_eq_false k1; omega
                          cases k2 : decide (left < x.value) with
                          | true =>
                            have m2 : decide (x.value ≤ left) = false := decide_eq_false (by have := of_decide_eq_true k2; omega)
                            have HN2 := Lib.hid (show R = false by rw [← HREST.out]; unfold outsB; rw [m2]; simp)
                            go_wp2_with fail
                            go_ret
                            rw [HN2.out]
                            exact ⟨rfl, HBN.out⟩
                          | false =>
                            have m2 : x.value ≤ left := by have := of_decide_eq_false k2; omega
                            cases k3 : lockB x.lock with
                            | false =>
                              rw [k3] at HLR
                              have HN2 := Lib.hid (show R = false by rw [← HREST.out]; unfold outsB; rw [k3]; simp)
                              go_wp2_with fail
                              refine HLR.out.mono ?_
                              rintro e w3 ⟨rfl, hb3⟩
                              have HB3 := Lib.hid (HBN.out.trans (hb3.mono HBN.out.size))
                              clear hb3
                              go_wp2_with fail
                              go_ret
                              rw [HN2.out]
                              exact ⟨rfl, HB3.out⟩
                            | true =>
                              rw [k3] at HLR
                              have HN2 := Lib.hid (show outsB (left - x.value) (outs.drop (j2 + 1)) = R by rw [← HREST.out]; exact (outsB_next m1 m2 k3).symm)
                              go_wp2_with fail
                              refine HLR.out.mono ?_
                              rintro e w3 ⟨rfl, hb3⟩
                              have HB3 := Lib.hid (HBN.out.trans (hb3.mono HBN.out.size))
                              have HX3 := Lib.hid (HXN.out.below hb3)
                              have z0 := cell_below hb3 y0
                              clear hb3 y0 y1 y2 y3 y4
                              go_wp2_with fail
                              go_roundw
                              case rel => exact ⟨j2 + 1, left - x.value, by omega, by go_num, by go_num, by omega, by omega, HN2.out, HX3.out, HB3.out⟩
                              case measure => simp [intOf]; omega
                      · have HN2 := Lib.hid (show R = true by rw [← hrest, List.drop_of_length_le (by omega)]; rfl)
                        have HBB := Lib.hid hbr
                        have gj : decide ((j2 : Int) < (outs.length : Int)) = false := decide_eq_false (by omega)
                        clear hrest hbox hbr
                        go_wp2_with fail
                        go_ret
                        rw [HN2.out]
                        exact ⟨rfl, HBB.out⟩
end Go.Proofs.YtaonadgelkdbcaaGreatDoor
