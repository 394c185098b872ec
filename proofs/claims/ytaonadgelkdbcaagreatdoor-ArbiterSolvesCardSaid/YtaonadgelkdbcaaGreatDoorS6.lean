/- The document's right transactions. -/
import Derived.Test.YtaonadgelkdbcaaGreatDoorS4
import Derived.Test.YtaonadgelkdbcaaGreatDoorS5
import Derived.Laws.StructEq
namespace Go.Proofs.YtaonadgelkdbcaaGreatDoor
open Go.RowKit
theorem ptEq_comm (x y : InT) : ptEq x y = ptEq y x := by
  unfold ptEq
  rw [show (x.tx.toList == y.tx.toList) = (y.tx.toList == x.tx.toList) from Bool.beq_comm .., show (x.pn == y.pn) = (y.pn == x.pn) from Bool.beq_comm ..]
theorem any_pt (l : List InT) (x : InT) : l.any (ptEq x) = l.any (fun y => ptEq y x) := by
  congr 1
  funext y
  exact ptEq_comm x y
@[go_sem] theorem eqPt (x y : InT) (w : World) : (Op.equalIn 10000 59 (.agg #[.string x.tx, .int .i64 x.pn]) (.agg #[.string y.tx, .int .i64 y.pn])).run Tryz.prog w = .ok (ptEq x y) w := by
  have u1 := Tryz.underlying9
  have u2 := Tryz.underlying3
  have hS : Tryz.prog.underlying 59 = some (.struct (Tryz.prog.fieldsOf 59)) := by kernel_rfl
  rw [run_equalIn_agg w 9999 _ _ _ hS (by kernel_rfl)]
  simp only [Program.fieldsOf, Tryz.underlying59]
  go_simp
  unfold ptEq
  cases h1 : (x.tx.toList == y.tx.toList) <;> cases h2 : (x.pn == y.pn) <;> simp_all
theorem binPt (x y : InT) (w : World) : (binOp .eql 59 (.agg #[.string x.tx, .int .i64 x.pn]) (.agg #[.string y.tx, .int .i64 y.pn])).run Tryz.prog w = .ok (.bool (ptEq x y)) w := by
  have h := eqPt x y w
  simp [binOp, Op.equal, Op.maxDepth, h, Result.andThen]
theorem headB_ref (ins : List InT) (outs : List OutT) (after tag : Int) : headB ⟨ins, outs, after, tag⟩ = (!(decide ((64 : Int) < (ins.length : Int))) && !(decide ((outs.length : Int) < 1)) && !(decide ((64 : Int) < (outs.length : Int))) && timeB after && !(decide (tag < 0)) && !(decide (4611686018427387904 < tag))) := by
  unfold headB
  simp only
  generalize ins.length = a
  generalize outs.length = b
  generalize timeB after = q
  by_cases h1 : a ≤ 64 <;> by_cases h2 : 1 ≤ b <;> by_cases h3 : b ≤ 64 <;> by_cases h6 : 0 ≤ tag <;> by_cases h7 : tag ≤ 4611686018427387904 <;> cases q <;> simp [h1, h2, h3, h6, h7] <;> omega
theorem any_take_in {l : List InT} {p : InT → Bool} {k : Nat} (hk : k < l.length) : (l.take (k + 1)).any p = ((l.take k).any p || p l[k]) := by
  rw [List.take_succ_eq_append_getElem hk, List.any_append]
  simp
theorem any_take_mem {l : List InT} {p : InT → Bool} {j k : Nat} (hk : k < l.length) (hj : k < j) (h : p l[k] = true) : (l.take j).any p = true := by
  rw [List.any_eq_true]
  exact ⟨l[k], by rw [List.mem_take_iff_getElem]; exact ⟨k, by omega, rfl⟩, h⟩
theorem TxBox.drewN {w : World} {b : Nat} {A : Option Addr} {n ca : Nat} {B : Option Addr} {m cb : Nat} {after tag : Int} (h : TxBox w b A n ca B m cb after tag) (q : Nat) : TxBox (w.drewN q) b A n ca B m cb after tag := h
set_option maxRecDepth 100000 in
set_option maxHeartbeats 16000000 in
theorem rtxright_any (ins : List InT) (outs : List OutT) (after tag : Int) (A B : Option Addr) (ca cb : Nat) (w : World) (hs : smallTx ⟨ins, outs, after, tag⟩) (hc : TxC w ⟨ins, outs, after, tag⟩ A B) :
    Calls Tryz.prog 30 #[.agg #[.slice A ins.length ca, .slice B outs.length cb, .int .i64 after, .int .i64 tag]] w fun e w' => e = .returned (.bool (txB ⟨ins, outs, after, tag⟩)) ∧ Below w.heap.size w w' := by
  have hb0 : Below w.heap.size w (w.alloc (.cells #[.slice A ins.length ca, .slice B outs.length cb, .int .i64 after, .int .i64 tag] 25)) := (Below.refl _ _).alloc (Nat.le_refl _) _
  have hbx : TxBox (w.alloc (.cells #[.slice A ins.length ca, .slice B outs.length cb, .int .i64 after, .int .i64 tag] 25)) w.heap.size A ins.length ca B outs.length cb after tag := Go.heap_alloc_new w _
  obtain ⟨p0, p1, p2, p3⟩ := hbx.cells
  have HB := Lib.hid hb0
  have HX := Lib.hid hbx
  have HC := Lib.hid hc
  have HS := Lib.hid hs
  have HTM := Lib.hid (rtime_any after (w.alloc (.cells #[.slice A ins.length ca, .slice B outs.length cb, .int .i64 after, .int .i64 tag] 25)))
  obtain ⟨R, hR⟩ : ∃ R, txB ⟨ins, outs, after, tag⟩ = R := ⟨_, rfl⟩
  rw [hR]
  have HR := Lib.hid (show (headB ⟨ins, outs, after, tag⟩ && insB [] ins && outsR 0 outs) = R by rw [txB_ref, hR])
  have HH := Lib.hid (headB_ref ins outs after tag)
  clear hR hb0 hbx hc hs
  cases g1 : decide ((64 : Int) < (ins.length : Int)) with
  | true =>
    have HN := Lib.hid (show R = false by rw [← HR.out, HH.out, g1]; simp)
    go_enter Tryz.func30, Tryz.ntmps30
    go_wp2_with fail
    go_ret
    rw [HN.out]
    exact ⟨rfl, HB.out⟩
  | false =>
    cases g2 : decide ((outs.length : Int) < 1) with
    | true =>
      have HN := Lib.hid (show R = false by rw [← HR.out, HH.out, g1, g2]; simp)
      go_enter Tryz.func30, Tryz.ntmps30
      go_wp2_with fail
      go_ret
      rw [HN.out]
      exact ⟨rfl, HB.out⟩
    | false =>
      cases g3 : decide ((64 : Int) < (outs.length : Int)) with
      | true =>
        have HN := Lib.hid (show R = false by rw [← HR.out, HH.out, g1, g2, g3]; simp)
        go_enter Tryz.func30, Tryz.ntmps30
        go_wp2_with fail
        go_ret
        rw [HN.out]
        exact ⟨rfl, HB.out⟩
      | false =>
        cases g4 : timeB after with
        | false =>
          have HN := Lib.hid (show R = false by rw [← HR.out, HH.out, g1, g2, g3, g4]; simp)
          rw [g4] at HTM
          go_enter Tryz.func30, Tryz.ntmps30
          go_wp2_with fail
          refine HTM.out.mono ?_
          rintro e w1 ⟨rfl, rfl⟩
          go_wp2_with fail
          go_ret
          rw [HN.out]
          exact ⟨rfl, HB.out⟩
        | true =>
          rw [g4] at HTM
          cases g6 : decide (tag < 0) with
          | true =>
            have HN := Lib.hid (show R = false by rw [← HR.out, HH.out, g1, g2, g3, g4, g6]; simp)
            go_enter Tryz.func30, Tryz.ntmps30
            go_wp2_with fail
            refine HTM.out.mono ?_
            rintro e w1 ⟨rfl, rfl⟩
            go_wp2_with fail
            go_ret
            rw [HN.out]
            exact ⟨rfl, HB.out⟩
          | false =>
            cases g7 : decide (4611686018427387904 < tag) with
            | true =>
              have HN := Lib.hid (show R = false by rw [← HR.out, HH.out, g1, g2, g3, g4, g6, g7]; simp)
              go_enter Tryz.func30, Tryz.ntmps30
              go_wp2_with fail
              refine HTM.out.mono ?_
              rintro e w1 ⟨rfl, rfl⟩
              go_wp2_with fail
              go_ret
              rw [HN.out]
              exact ⟨rfl, HB.out⟩
            | false =>
              have HN := Lib.hid (show (insB [] ins && outsR 0 outs) = R by rw [← HR.out, HH.out, g1, g2, g3, g4, g6, g7]; simp)
              obtain ⟨s1, s2, s3, s4⟩ := HS.out
              have S1 := Lib.hid s1
              have S2 := Lib.hid s2
              have hL1 : ins.length ≤ 64 := by have := of_decide_eq_false g1; omega
              have hL2 : outs.length ≤ 64 := by have := of_decide_eq_false g3; omega
              clear s1 s2 s3 s4
              go_enter Tryz.func30, Tryz.ntmps30
              go_wp2_with fail
              refine HTM.out.mono ?_
              rintro e w1 ⟨rfl, rfl⟩
              go_wp2_with fail
              go_loopw [3] (fun i wr => ∃ j : Nat, j ≤ ins.length ∧ i = .int .i64 (j : Int) ∧ (insB (ins.take j) (ins.drop j) && outsR 0 outs) = R ∧ TxBox wr w.heap.size A ins.length ca B outs.length cb after tag ∧ Below w.heap.size w wr) (fun i _ => ins.length - (intOf i).toNat)
              case atStart => exact ⟨0, Nat.zero_le _, rfl, by rw [List.drop_zero, List.take_zero]; exact HN.out, HX.out, HB.out⟩
              case round =>
                obtain ⟨j, hj, rfl, hrest, hbox, hbr⟩ := hrel
                clear p0 p1 p2 p3
                obtain ⟨q0, q1, q2, q3⟩ := hbox.cells
                by_cases hlt : j < ins.length
                · obtain ⟨ad, rfl, x0, x1, x2⟩ := in_at (HC.out.below hbr).1 hlt
                  have hdrop : ins.drop j = ins[j] :: ins.drop (j + 1) := List.drop_eq_getElem_cons hlt
                  have htake : ins.take (j + 1) = ins.take j ++ [ins[j]] := List.take_succ_eq_append_getElem hlt
                  rw [hdrop] at hrest
                  have hpt := (S1.out ins[j] (List.getElem_mem hlt)).2
                  obtain ⟨x, hx⟩ : ∃ x, ins[j] = x := ⟨_, rfl⟩
                  rw [hx] at x0 x1 x2 hrest htake hpt
                  have HT := Lib.hid htake
                  have hbn : Below wr.heap.size wr (wr.alloc (.cells #[.string x.tx, .int .i64 x.pn, .int .i64 x.age] 61)) := (Below.refl _ _).alloc (Nat.le_refl _) _
                  have y0 : (wr.alloc (.cells #[.string x.tx, .int .i64 x.pn, .int .i64 x.age] 61)).cell? ⟨wr.heap.size, 0, none⟩ = some (.string x.tx) := alloc_cells 0 _ rfl
                  have y1 : (wr.alloc (.cells #[.string x.tx, .int .i64 x.pn, .int .i64 x.age] 61)).cell? ⟨wr.heap.size, 1, none⟩ = some (.int .i64 x.pn) := alloc_cells 1 _ rfl
                  have y2 : (wr.alloc (.cells #[.string x.tx, .int .i64 x.pn, .int .i64 x.age] 61)).cell? ⟨wr.heap.size, 2, none⟩ = some (.int .i64 x.age) := alloc_cells 2 _ rfl
                  have u0 := cell_below hbn q0
                  have HCJ := Lib.hid (HC.out.below (hbr.trans (hbn.mono hbr.size)))
                  have HXN := Lib.hid (hbox.below hbn)
                  have HBN := Lib.hid (hbr.trans (hbn.mono hbr.size))
                  have HID := Lib.hid (rid_any x.tx (wr.alloc (.cells #[.string x.tx, .int .i64 x.pn, .int .i64 x.age] 61)) hpt)
                  have HTA := Lib.hid (rtime_any x.age (wr.alloc (.cells #[.string x.tx, .int .i64 x.pn, .int .i64 x.age] 61)))
                  have HIB := Lib.hid (show inB x = (idB x.tx && decide (0 ≤ x.pn) && decide (x.pn < 64) && timeB x.age) by unfold inB timeB; simp only [Bool.and_assoc])
                  have HREST := Lib.hid hrest
                  clear hbn hrest hbox hbr htake hdrop hpt hx
                  obtain ⟨q, hq⟩ : ∃ q, idB x.tx = q := ⟨_, rfl⟩
                  rw [hq] at HID HIB
                  clear hq
                  cases q with
                  | false =>
                    have HN2 := Lib.hid (show R = false by rw [← HREST.out, insB_bad (show inB x = false by rw [HIB.out]; rfl)]; rfl)
                    go_wp2_with fail
                    refine HID.out.mono ?_
                    rintro e w1 ⟨rfl, rfl⟩
                    go_wp2_with fail
                    go_ret
                    rw [HN2.out]
                    exact ⟨rfl, HBN.out⟩
                  | true =>
                    cases k1 : decide (x.pn < 0) with
                    | true =>
                      have mk1 : decide (0 ≤ x.pn) = false := decide_eq_false (by have := of_decide_eq_true k1; omega)
                      have HN2 := Lib.hid (show R = false by rw [← HREST.out, insB_bad (show inB x = false by rw [HIB.out, mk1]; simp)]; rfl)
                      go_wp2_with fail
                      refine HID.out.mono ?_
                      rintro e w1 ⟨rfl, rfl⟩
                      go_wp2_with fail
                      go_ret
                      rw [HN2.out]
                      exact ⟨rfl, HBN.out⟩
                    | false =>
                      have mk1 : decide (0 ≤ x.pn) = true := decide_eq_true (by have := of_decide_eq_false k1; omega)
                      cases k2 : decide (64 ≤ x.pn) with
                      | true =>
                        have mk2 : decide (x.pn < 64) = false := decide_eq_false (by have := of_decide_eq_true k2; omega)
                        have HN2 := Lib.hid (show R = false by rw [← HREST.out, insB_bad (show inB x = false by rw [HIB.out, mk2]; simp)]; rfl)
                        go_wp2_with fail
                        refine HID.out.mono ?_
                        rintro e w1 ⟨rfl, rfl⟩
                        go_wp2_with fail
                        go_ret
                        rw [HN2.out]
                        exact ⟨rfl, HBN.out⟩
                      | false =>
                        have mk2 : decide (x.pn < 64) = true := decide_eq_true (by have := of_decide_eq_false k2; omega)
                        cases mk4 : timeB x.age with
                        | false =>
                          rw [mk4] at HTA
                          have HN2 := Lib.hid (show R = false by rw [← HREST.out, insB_bad (show inB x = false by rw [HIB.out, mk4]; simp)]; rfl)
                          go_wp2_with fail
                          refine HID.out.mono ?_
                          rintro e w1 ⟨rfl, rfl⟩
                          go_wp2_with fail
                          refine HTA.out.mono ?_
                          rintro e w1 ⟨rfl, rfl⟩
                          go_wp2_with fail
                          go_ret
                          rw [HN2.out]
                          exact ⟨rfl, HBN.out⟩
                        | true =>
                          rw [mk4] at HTA
                          go_wp2_with fail
                          refine HID.out.mono ?_
                          rintro e w1 ⟨rfl, rfl⟩
                          go_wp2_with fail
                          refine HTA.out.mono ?_
                          rintro e w1 ⟨rfl, rfl⟩
                          go_wp2_with fail
                          go_loopw [5] (fun i wq => ∃ k m : Nat, k ≤ j ∧ i = .int .i64 (k : Int) ∧ wq = (wr.alloc (.cells #[.string x.tx, .int .i64 x.pn, .int .i64 x.age] 61)).drewN m ∧ (ins.take k).any (fun y => ptEq y x) = false) (fun i _ => j - (intOf i).toNat)
                          case atStart => exact ⟨0, 0, Nat.zero_le _, rfl, rfl, rfl⟩
                          case round =>
                            obtain ⟨k, m, hk, rfl, rfl, hno⟩ := hrel
                            by_cases hlk : k < j
                            · have hkl : k < ins.length := by omega
                              obtain ⟨ad2, he2, v0, v1, v2⟩ := in_at HCJ.out.1 hkl
                              injection he2 with he2
                              subst he2
                              obtain ⟨y, hy⟩ : ∃ y, ins[k] = y := ⟨_, rfl⟩
                              have hstep := any_take_in (p := fun y => ptEq y x) hkl
                              rw [hy] at v0 v1 v2 hstep
                              rw [hno, Bool.false_or] at hstep
                              cases hq : ptEq y x with
                              | true =>
                                have HN2 := Lib.hid (show R = false by rw [← HREST.out, insB_met (show (ins.take j).any (ptEq x) = true by rw [any_pt]; exact any_take_mem hkl hlk (by rw [hy]; exact hq))]; rfl)
                                clear hstep hy hno
                                go_upto_region 12 with fail
                                have hbp := fun W => binPt y x W
                                rw [hq] at hbp
                                go_quiet (fail)
                                clear hbp
                                go_wp2_with fail
                                go_ret
                                rw [HN2.out]
                                exact ⟨rfl, below_drewN (below_drewN HBN.out _) _⟩
                              | false =>
                                rw [hq] at hstep
                                have HST := Lib.hid hstep
                                clear hstep hy hno
                                go_upto_region 12 with fail
                                have hbp := fun W => binPt y x W
                                rw [hq] at hbp
                                go_quiet (fail)
                                clear hbp
                                go_wp2_with fail
                                go_roundw
                                case rel => exact ⟨k + 1, _, by omega, by go_num, rfl, HST.out⟩
                                case measure => simp [intOf]; omega
                            · have hkj : k = j := by omega
                              subst hkj
                              have HNA := Lib.hid (show (ins.take k).any (ptEq x) = false by rw [any_pt]; exact hno)
                              have HN2 := Lib.hid (show (insB (ins.take (k + 1)) (ins.drop (k + 1)) && outsR 0 outs) = R by rw [HT.out, ← HREST.out, insB_next (show inB x = true by rw [HIB.out, mk1, mk2, mk4]; rfl) HNA.out])
                              have gk : decide ((k : Int) < (k : Int)) = false := decide_eq_false (by omega)
                              clear hno
                              go_wp2_with fail
                              go_roundw
                              case rel => exact ⟨k + 1, by omega, by go_num, HN2.out, TxBox.drewN HXN.out _, below_drewN HBN.out _⟩
                              case measure => simp [intOf]; omega
                · have HD := Lib.hid (show outsR 0 outs = R by rw [← hrest, List.drop_of_length_le (by omega)]; rfl)
                  have HXX := Lib.hid hbox
                  have HBB := Lib.hid hbr
                  have gj : decide ((j : Int) < (ins.length : Int)) = false := decide_eq_false (by omega)
                  clear hrest hbox hbr
                  go_wp2_with fail
                  go_loopw [7, 6] (fun i lf wr => ∃ (j : Nat) (sum : Int), j ≤ outs.length ∧ i = .int .i64 (j : Int) ∧ lf = .int .i64 sum ∧ 0 ≤ sum ∧ sum ≤ 2100000000000000 * (j : Int) ∧ outsR sum (outs.drop j) = R ∧ TxBox wr w.heap.size A ins.length ca B outs.length cb after tag ∧ Below w.heap.size w wr) (fun i _ _ => outs.length - (intOf i).toNat)
                  case atStart => exact ⟨0, 0, Nat.zero_le _, rfl, rfl, by omega, by omega, by rw [List.drop_zero]; exact HD.out, HXX.out, HBB.out⟩
                  case round =>
                    clear HXX HBB HD q0 q1 q2 q3 gj
                    obtain ⟨j2, sum, hj2, rfl, rfl, hl0, hl1, hrest, hbox, hbr⟩ := hrel
                    obtain ⟨q0, q1, q2, q3⟩ := hbox.cells
                    by_cases hlt2 : j2 < outs.length
                    · obtain ⟨-, ys, hy1, hy2⟩ := HC.out.below hbr
                      obtain ⟨bd, C, cp, rfl, o0, o1, o2, o3, o4, hlk⟩ := out_at hy1 hy2 hlt2
                      have hdrop : outs.drop j2 = outs[j2] :: outs.drop (j2 + 1) := List.drop_eq_getElem_cons hlt2
                      rw [hdrop] at hrest
                      have hsm := S2.out outs[j2] (List.getElem_mem hlt2)
                      obtain ⟨x, hx⟩ : ∃ x, outs[j2] = x := ⟨_, rfl⟩
                      rw [hx] at o0 o1 o2 o3 o4 hlk hrest hsm
                      have hbn : Below wr.heap.size wr (wr.alloc (.cells #[.int .i64 x.value, .int .u8 x.lock.kind, .string x.lock.term, .int .i64 x.lock.n, .slice C x.lock.kids.length cp] 34)) := (Below.refl _ _).alloc (Nat.le_refl _) _
                      have y0 : (wr.alloc (.cells #[.int .i64 x.value, .int .u8 x.lock.kind, .string x.lock.term, .int .i64 x.lock.n, .slice C x.lock.kids.length cp] 34)).cell? ⟨wr.heap.size, 0, none⟩ = some (.int .i64 x.value) := alloc_cells 0 _ rfl
                      have y1 : (wr.alloc (.cells #[.int .i64 x.value, .int .u8 x.lock.kind, .string x.lock.term, .int .i64 x.lock.n, .slice C x.lock.kids.length cp] 34)).cell? ⟨wr.heap.size, 1, none⟩ = some (.int .u8 x.lock.kind) := alloc_cells 1 _ rfl
                      have y2 : (wr.alloc (.cells #[.int .i64 x.value, .int .u8 x.lock.kind, .string x.lock.term, .int .i64 x.lock.n, .slice C x.lock.kids.length cp] 34)).cell? ⟨wr.heap.size, 2, none⟩ = some (.string x.lock.term) := alloc_cells 2 _ rfl
                      have y3 : (wr.alloc (.cells #[.int .i64 x.value, .int .u8 x.lock.kind, .string x.lock.term, .int .i64 x.lock.n, .slice C x.lock.kids.length cp] 34)).cell? ⟨wr.heap.size, 3, none⟩ = some (.int .i64 x.lock.n) := alloc_cells 3 _ rfl
                      have y4 : (wr.alloc (.cells #[.int .i64 x.value, .int .u8 x.lock.kind, .string x.lock.term, .int .i64 x.lock.n, .slice C x.lock.kids.length cp] 34)).cell? ⟨wr.heap.size, 4, none⟩ = some (.slice C x.lock.kids.length cp) := alloc_cells 4 _ rfl
                      have HBN := Lib.hid (hbr.trans (hbn.mono hbr.size))
                      have HXN := Lib.hid (hbox.below hbn)
                      have HLR := Lib.hid (rlockright_any x.lock _ (wr.alloc (.cells #[.int .i64 x.value, .int .u8 x.lock.kind, .string x.lock.term, .int .i64 x.lock.n, .slice C x.lock.kids.length cp] 34)) hsm (LockC.below hbn _ _ hlk))
                      have HREST := Lib.hid hrest
                      clear hbn hlk hrest hbox hbr hy1 hy2 hdrop hsm hx
                      cases k1 : decide (x.value < 1) with
                      | true =>
                        have m1 : decide (1 ≤ x.value) = false := decide_eq_false (by have := of_decide_eq_true k1; omega)
                        have HN2 := Lib.hid (show R = false by rw [← HREST.out]; unfold outsR; rw [m1]; rfl)
                        go_wp2_with fail
                        go_ret
                        rw [HN2.out]
                        exact ⟨rfl, HBN.out⟩
                      | false =>
                        have m1 : 1 ≤ x.value := by have := of_decide_eq_false k1; omega
                        cases k2 : decide ((2100000000000000 : Int) < x.value) with
                        | true =>
                          have m2 : decide (x.value ≤ maxCoin) = false := decide_eq_false (by have := of_decide_eq_true k2; unfold maxCoin; omega)
                          have HN2 := Lib.hid (show R = false by rw [← HREST.out]; unfold outsR; rw [m2]; simp)
                          go_wp2_with fail
                          go_ret
                          rw [HN2.out]
                          exact ⟨rfl, HBN.out⟩
                        | false =>
                          have m2 : x.value ≤ 2100000000000000 := by have := of_decide_eq_false k2; omega
                          cases k3 : lockB x.lock with
                          | false =>
                            rw [k3] at HLR
                            have HN2 := Lib.hid (show R = false by rw [← HREST.out]; unfold outsR; rw [k3]; simp)
                            go_wp2_with fail
                            refine HLR.out.mono ?_
                            rintro e w3 ⟨rfl, hb3⟩
                            have HB3 := Lib.hid (HBN.out.trans (hb3.mono HBN.out.size))
                            clear hb3
                            go_wp2_with fail
                            go_ret
                            rw [HN2.out]
                            exact ⟨rfl, HB3.out⟩
                          | true =>
                            rw [k3] at HLR
                            have HN2 := Lib.hid (show outsR (sum + x.value) (outs.drop (j2 + 1)) = R by rw [← HREST.out]; exact (outsR_next m1 (show x.value ≤ maxCoin from m2) k3).symm)
                            go_wp2_with fail
                            refine HLR.out.mono ?_
                            rintro e w3 ⟨rfl, hb3⟩
                            have HB3 := Lib.hid (HBN.out.trans (hb3.mono HBN.out.size))
                            have HX3 := Lib.hid (HXN.out.below hb3)
                            have z0 := cell_below hb3 y0
                            clear hb3 y0 y1 y2 y3 y4
                            go_wp2_with fail
                            go_roundw
                            case rel => exact ⟨j2 + 1, sum + x.value, by omega, by go_num, by go_num, by omega, by omega, HN2.out, HX3.out, HB3.out⟩
                            case measure => simp [intOf]; omega
                    · have HN2 := Lib.hid (show decide (sum ≤ 2100000000000000) = R by rw [← hrest, List.drop_of_length_le (by omega)]; rfl)
                      have HBB := Lib.hid hbr
                      have gj : decide ((j2 : Int) < (outs.length : Int)) = false := decide_eq_false (by omega)
                      clear hrest hbox hbr
                      go_wp2_with fail
                      go_ret
                      exact ⟨ret_bool HN2.out, HBB.out⟩
end Go.Proofs.YtaonadgelkdbcaaGreatDoor
