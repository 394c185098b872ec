/- CommitDeals: any deal is right or not, any fee is told, any payment is left out or not, as the document says: the row's statement and its tied card, no condition beyond the row's own (the variables that it lists read as they are laid). -/
import Derived.Test.YtncniomiplnaaaaGreatDoorQ0
import Derived.Test.YtncniomiplnaaaaGreatDoorQ1
import Derived.Test.YtncniomiplnaaaaGreatDoorQ2
import Derived.Test.YtncniomiplnaaaaGreatDoorQ3
import Derived.Test.YtncniomiplnaaaaGreatDoorQ4
import Derived.Test.YtncniomiplnaaaaGreatDoorQ5
import Derived.Test.YtncniomiplnaaaaGreatDoorQ6
import Derived.Test.YtncniomiplnaaaaGreatDoorQ7
import Derived.Test.YtncniomiplnaaaaGreatDoorQ8
import Derived.Test.YtncniomiplnaaaaGreatDoorQ9
import Derived.Test.YtncniomiplnaaaaGreatDoorQ10
import Derived.Test.YtncniomiplnaaaaGreatDoorQ11
import Derived.Test.YtncniomiplnaaaaGreatDoorQ12
import Derived.Test.YtncniomiplnaaaaGreatDoorQ13
import Derived.Test.YtncniomiplnaaaaGreatDoorQ14
import Derived.Test.YtncniomiplnaaaaGreatDoorQ15
import Derived.Test.YtncniomiplnaaaaGreatDoorQ16
import Derived.Test.YtncniomiplnaaaaGreatDoorQ17
import Derived.Test.YtncniomiplnaaaaGreatDoorQ18
import Derived.Test.YtncniomiplnaaaaGreatDoorQ19
import Derived.Test.YtncniomiplnaaaaGreatDoorQ20
import Derived.Test.YtncniomiplnaaaaGreatDoorQ21
import Derived.Lib.QuietBelow
import Derived.SizedLaws
import Derived.Stop.LaidErr
import Derived.Stop.LaidTwo
import Derived.Lib.LaidTab
set_option linter.all false
namespace Go.Proofs.YtncniomiplnaaaaGreatDoor
open Go.RowKit Go.Sort
set_option maxRecDepth 100000 in
set_option maxHeartbeats 16000000 in
theorem deals_law (d : DealR) (h : PayR) (rate n : Int) (w : World) (hv : VarsOk w) (ht : TabOk w) : Calls Tryz.prog 3 #[dealV d, htlcV h, .int .i64 rate, .int .i64 n] w fun e w' => e = .returned (.bool true) ∧ Below w.heap.size w w' := by
  have hb0 : Below w.heap.size w ((w.alloc (.cells #[.int .i64 d.cap, .int .i64 d.push, .int .i64 d.dust, .int .i64 d.res, .int .i64 d.rate, .int .i64 d.delay, .int .i64 d.maxH, .int .i64 d.flight, .int .i64 d.minH] 23)).alloc (.cells #[.bool h.mine, .int .i64 h.id, .int .i64 h.amt, .string h.hash, .int .i64 h.exp] 26)) := ((Below.refl w.heap.size w).alloc (Nat.le_refl _) (.cells #[.int .i64 d.cap, .int .i64 d.push, .int .i64 d.dust, .int .i64 d.res, .int .i64 d.rate, .int .i64 d.delay, .int .i64 d.maxH, .int .i64 d.flight, .int .i64 d.minH] 23)).alloc (by simp) (.cells #[.bool h.mine, .int .i64 h.id, .int .i64 h.amt, .string h.hash, .int .i64 h.exp] 26)
  have HB := Lib.hid hb0
  have H0 := Lib.hid (show ((w.alloc (.cells #[.int .i64 d.cap, .int .i64 d.push, .int .i64 d.dust, .int .i64 d.res, .int .i64 d.rate, .int .i64 d.delay, .int .i64 d.maxH, .int .i64 d.flight, .int .i64 d.minH] 23)).alloc (.cells #[.bool h.mine, .int .i64 h.id, .int .i64 h.amt, .string h.hash, .int .i64 h.exp] 26)).heap[w.heap.size]? = some (.cells #[.int .i64 d.cap, .int .i64 d.push, .int .i64 d.dust, .int .i64 d.res, .int .i64 d.rate, .int .i64 d.delay, .int .i64 d.maxH, .int .i64 d.flight, .int .i64 d.minH] 23) from allocs_at [(.cells #[.int .i64 d.cap, .int .i64 d.push, .int .i64 d.dust, .int .i64 d.res, .int .i64 d.rate, .int .i64 d.delay, .int .i64 d.maxH, .int .i64 d.flight, .int .i64 d.minH] 23), (.cells #[.bool h.mine, .int .i64 h.id, .int .i64 h.amt, .string h.hash, .int .i64 h.exp] 26)] w 0 _ rfl)
  have H1 := Lib.hid (show ((w.alloc (.cells #[.int .i64 d.cap, .int .i64 d.push, .int .i64 d.dust, .int .i64 d.res, .int .i64 d.rate, .int .i64 d.delay, .int .i64 d.maxH, .int .i64 d.flight, .int .i64 d.minH] 23)).alloc (.cells #[.bool h.mine, .int .i64 h.id, .int .i64 h.amt, .string h.hash, .int .i64 h.exp] 26)).heap[w.heap.size + 1]? = some (.cells #[.bool h.mine, .int .i64 h.id, .int .i64 h.amt, .string h.hash, .int .i64 h.exp] 26) from allocs_at [(.cells #[.int .i64 d.cap, .int .i64 d.push, .int .i64 d.dust, .int .i64 d.res, .int .i64 d.rate, .int .i64 d.delay, .int .i64 d.maxH, .int .i64 d.flight, .int .i64 d.minH] 23), (.cells #[.bool h.mine, .int .i64 h.id, .int .i64 h.amt, .string h.hash, .int .i64 h.exp] 26)] w 1 _ rfl)
  have HF := Lib.hid (fun W => fee_any rate n W)
  have HG := Lib.hid (fun W => rfee_any rate n W)
  have HR := Lib.hid (fun W => right_deal d W)
  have HS := Lib.hid (fun W => rright_deal d W)
  have HT := Lib.hid (fun W => trim_any d h W)
  have HU := Lib.hid (fun W => rtrim_any d h W)
  have HV := Lib.hid hv
  have HX := Lib.hid ht
  clear hb0 hv ht
  unfold dealV htlcV at *
  obtain ⟨fa, fb, hfe⟩ : ∃ fa fb, feeE rate n = (fa, fb) := ⟨_, _, rfl⟩
  rw [hfe] at HF HG
  obtain ⟨de, hde⟩ : ∃ de, dealE d = de := ⟨_, rfl⟩
  rw [hde] at HR HS
  obtain ⟨tr, htr⟩ : ∃ tr, trimB d h.mine h.amt = tr := ⟨_, rfl⟩
  rw [htr] at HT HU
  clear hfe hde htr
  have e1 : (fa == fa) = true := by simp
  have e2 : (fb == fb) = true := by simp
  have e3 : (de == de) = true := by simp
  have e4 : (tr == tr) = true := by simp
  go_enter Tryz.func3, Tryz.ntmps3
  go_wp2_with fail
  generalize ((w.alloc (.cells #[.int .i64 d.cap, .int .i64 d.push, .int .i64 d.dust, .int .i64 d.res, .int .i64 d.rate, .int .i64 d.delay, .int .i64 d.maxH, .int .i64 d.flight, .int .i64 d.minH] 23)).alloc (.cells #[.bool h.mine, .int .i64 h.id, .int .i64 h.amt, .string h.hash, .int .i64 h.exp] 26)) = V at HB H0 H1 ⊢
  refine (HF.out _).mono ?_
  rintro e w1 ⟨rfl, hb1⟩
  have HB1 := Lib.hid hb1
  clear hb1
  go_wp2_with fail
  refine (HG.out _).mono ?_
  rintro e w2 ⟨rfl, m, rfl⟩
  have hb2 : Below V.heap.size V (w1.drewN m) := ⟨HB1.out.os, HB1.out.tape, HB1.out.output, HB1.out.size, HB1.out.block⟩
  generalize w1.drewN m = w2 at hb2 ⊢
  have HB2 := Lib.hid (HB.out.trans (hb2.mono HB.out.size))
  have x0 := (hb2.block _ (lt_of_block H0.out)).trans H0.out
  have x1 := (hb2.block _ (lt_of_block H1.out)).trans H1.out
  have d0 : ∀ dd os, (grow (redrawn w2 dd) os).cell? ⟨w.heap.size, 0, none⟩ = some (.int .i64 d.cap) := fun dd os => cell_regrown (cell_of (j := 0) x0 rfl) dd os
  have d1 : ∀ dd os, (grow (redrawn w2 dd) os).cell? ⟨w.heap.size, 1, none⟩ = some (.int .i64 d.push) := fun dd os => cell_regrown (cell_of (j := 1) x0 rfl) dd os
  have d2 : ∀ dd os, (grow (redrawn w2 dd) os).cell? ⟨w.heap.size, 2, none⟩ = some (.int .i64 d.dust) := fun dd os => cell_regrown (cell_of (j := 2) x0 rfl) dd os
  have d3 : ∀ dd os, (grow (redrawn w2 dd) os).cell? ⟨w.heap.size, 3, none⟩ = some (.int .i64 d.res) := fun dd os => cell_regrown (cell_of (j := 3) x0 rfl) dd os
  have d4 : ∀ dd os, (grow (redrawn w2 dd) os).cell? ⟨w.heap.size, 4, none⟩ = some (.int .i64 d.rate) := fun dd os => cell_regrown (cell_of (j := 4) x0 rfl) dd os
  have d5 : ∀ dd os, (grow (redrawn w2 dd) os).cell? ⟨w.heap.size, 5, none⟩ = some (.int .i64 d.delay) := fun dd os => cell_regrown (cell_of (j := 5) x0 rfl) dd os
  have d6 : ∀ dd os, (grow (redrawn w2 dd) os).cell? ⟨w.heap.size, 6, none⟩ = some (.int .i64 d.maxH) := fun dd os => cell_regrown (cell_of (j := 6) x0 rfl) dd os
  have d7 : ∀ dd os, (grow (redrawn w2 dd) os).cell? ⟨w.heap.size, 7, none⟩ = some (.int .i64 d.flight) := fun dd os => cell_regrown (cell_of (j := 7) x0 rfl) dd os
  have d8 : ∀ dd os, (grow (redrawn w2 dd) os).cell? ⟨w.heap.size, 8, none⟩ = some (.int .i64 d.minH) := fun dd os => cell_regrown (cell_of (j := 8) x0 rfl) dd os
  have h0 : ∀ dd os, (grow (redrawn w2 dd) os).cell? ⟨w.heap.size + 1, 0, none⟩ = some (.bool h.mine) := fun dd os => cell_regrown (cell_of (j := 0) x1 rfl) dd os
  have h1 : ∀ dd os, (grow (redrawn w2 dd) os).cell? ⟨w.heap.size + 1, 1, none⟩ = some (.int .i64 h.id) := fun dd os => cell_regrown (cell_of (j := 1) x1 rfl) dd os
  have h2 : ∀ dd os, (grow (redrawn w2 dd) os).cell? ⟨w.heap.size + 1, 2, none⟩ = some (.int .i64 h.amt) := fun dd os => cell_regrown (cell_of (j := 2) x1 rfl) dd os
  have h3 : ∀ dd os, (grow (redrawn w2 dd) os).cell? ⟨w.heap.size + 1, 3, none⟩ = some (.string h.hash) := fun dd os => cell_regrown (cell_of (j := 3) x1 rfl) dd os
  have h4 : ∀ dd os, (grow (redrawn w2 dd) os).cell? ⟨w.heap.size + 1, 4, none⟩ = some (.int .i64 h.exp) := fun dd os => cell_regrown (cell_of (j := 4) x1 rfl) dd os
  have HW := Lib.hid (fun dd os => works_any (grow (redrawn w2 dd) os) (HV.out.below (HB2.out.trans ((below_regrown w2 dd os).mono HB2.out.size))) (HX.out.below (HB2.out.trans ((below_regrown w2 dd os).mono HB2.out.size))))
  clear hb2 x0 x1 HB1 H0 H1 HF HG
  go_wp2_with fail
  refine wp_region_quiet_below (by kernel_rfl) (by kernel_rfl) ?_
  repeat (quiet_step (first
    | (go_at_call 10; exact Calls.regrown_of (HR.out _))
    | (go_at_call 11; exact Calls.regrown_of (HS.out _))
    | (go_at_call 12; exact Calls.regrown_of (HT.out _))
    | (go_at_call 13; exact Calls.regrown_of (HU.out _))
    | (go_at_call 14; exact Calls.regrown_of (HW.out _ _))))
  refine wpQuiet_nil ?_
  intro _ hw'
  obtain ⟨⟨nq, osq⟩, hw''⟩ := hw'
  subst hw''
  have HBF := Lib.hid (HB2.out.trans ((below_regrown w2 nq osq).mono HB2.out.size))
  go_wp2_with fail
  go_ret
  exact ⟨rfl, HBF.out⟩
end Go.Proofs.YtncniomiplnaaaaGreatDoor
namespace Go.Proofs.YtncniomiplnaaaaGreatDoor
open Go.ChangeShapes Go.WideShapes Go.ChangeAt Go.RowKit Go.WideMaps Go.WideElems
section
variable {H : Type} {enc : TypeId × Value → H} {W : World} {base : Nat}
set_option maxRecDepth 100000 in
theorem open_pay {v : Value} {d : DataW H} {p : List MemPlace} (hval : Value.okWide Tryz.prog W .any base 26 v) (h : DataW.Trod enc Tryz.prog W 0 (fun _ => true) true 26 v d p) (hB : ∀ n ∈ d.weights Tryz.prog 26, n ≤ reachBytes) :
    ∃ h : PayR, v = htlcV h ∧ h.hash.size ≤ reachBytes := by
  obtain ⟨cs, rfl, hsz⟩ := okWide_struct Tryz.underlying26 hval
  obtain ⟨c0, c1, c2, c3, c4, rfl⟩ := arrayN5 (hsz.trans (show Tryz.prog.cellsOf 26 = 5 by kernel_rfl))
  obtain ⟨fuel, hf⟩ := h
  obtain ⟨xs, n, -, hx, hl, hlen, hfi⟩ := DataW.trod_struct Tryz.underlying26 hf
  obtain ⟨y0, y1, y2, y3, y4, rfl⟩ : ∃ y0 y1 y2 y3 y4, xs = [y0, y1, y2, y3, y4] := by
    match xs, hlen with
    | [y0, y1, y2, y3, y4], _ => exact ⟨_, _, _, _, _, rfl⟩
  have hc0 : Tryz.prog.cellsOf 4 = 1 := by kernel_rfl
  have hc1 : Tryz.prog.cellsOf 3 = 1 := by kernel_rfl
  have hc2 : Tryz.prog.cellsOf 2 = 1 := by kernel_rfl
  have hc3 : Tryz.prog.cellsOf 24 = 1 := by kernel_rfl
  have t0 := hfi 0 _ rfl
  have t1 := hfi 1 _ rfl
  have t2 := hfi 2 _ rfl
  have t3 := hfi 3 _ rfl
  have t4 := hfi 4 _ rfl
  simp only [Value.cells, hc0, hc1, hc2, hc3] at t0 t1 t2 t3 t4
  obtain ⟨s0, e0, q0⟩ := DataW.trod_bool Tryz.underlying4 t0
  obtain ⟨s1, e1, q1, -⟩ := DataW.trod_int Tryz.underlying2 t1
  obtain ⟨s2, e2, q2, -⟩ := DataW.trod_int Tryz.underlying2 t2
  obtain ⟨s3, e3, q3, -⟩ := DataW.trod_string Tryz.underlying24 t3
  obtain ⟨s4, e4, q4, -⟩ := DataW.trod_int Tryz.underlying3 t4
  subst q0; subst q1; subst q2; subst q3; subst q4
  simp [hc0, hc1, hc2, hc3] at e0 e1 e2 e3 e4
  subst e0; subst e1; subst e2; subst e3; subst e4
  simp only [Prod.mk.injEq, List.map_cons, List.map_nil] at hx
  obtain ⟨hx1, -⟩ := hx
  subst hx1
  have z3 := weight_agg (fs := _) Tryz.underlying26 hB 3 _ _ rfl rfl
  exact ⟨⟨s0, s1, s2, s3, s4⟩, rfl, weight_string z3⟩
end
end Go.Proofs.YtncniomiplnaaaaGreatDoor
namespace Go.Proofs.YtncniomiplnaaaaGreatDoor
open Go.ChangeShapes Go.WideShapes Go.ChangeAt Go.RowKit Go.WideMaps Go.WideElems
open Go.ChangeMaps (open_string shut_string)
theorem vars_of {W : World} (h : laidMetH Tryz.prog Rows.commitDealsRow.laid W) : VarsOk W := by
  rw [MakeChecks.laidMetH_plain _ _ _ (by kernel_rfl)] at h
  exact laid_vars h
theorem tab_of {W : World} (h : laidMetH Tryz.prog Rows.commitDealsRow.laid W) : TabOk W := by
  rw [MakeChecks.laidMetH_plain _ _ _ (by kernel_rfl)] at h
  exact laid_tab h
set_option maxRecDepth 100000 in
set_option maxHeartbeats 4000000 in
theorem commitDeals_lifted (os : Os) (started : os.Started) (H : Type) (enc : TypeId × Value → H) :
    ReturnsInHanded {} Tryz.checked os 3 .any (fun w args => (Rows.commitDealsSpec.pre enc Tryz.prog Tryz.f3 Rows.commitDealsRow.domain false w args ∧ laidMetH Tryz.prog Rows.commitDealsRow.laid w) ∧ sizedMet enc Tryz.prog Tryz.f3 (OpenSpec.ofChange Rows.commitDealsSpec) false w args)
      (Rows.commitDealsSpec.post enc Tryz.prog Tryz.f3 false true false false) := by
  refine returnsInHanded_of_change_and (C := Tryz.checked) (X := fun w _ => laidMetH Tryz.prog Rows.commitDealsRow.laid w) (fun _ _ _ hh h => h.of_heap hh) own started (by kernel_rfl) Tryz.func3
    (ChangeSpec.witness_shaped (enc := enc) (C := Tryz.checked) (os := os) (X := fun w _ => laidMetH Tryz.prog Rows.commitDealsRow.laid w) false (World.laidAll Tryz.prog os Rows.commitDealsRow.laid) #[.agg #[.int .i64 0, .int .i64 0, .int .i64 0, .int .i64 0, .int .i64 0, .int .i64 0, .int .i64 0, .int .i64 0, .int .i64 0], .agg #[.bool false, .int .i64 0, .int .i64 0, .string ⟨#[]⟩, .int .i64 0], .int .i64 0, .int .i64 0] 8 (World.laidAll_os _ _ _)
      (World.shaped_of_ZipB (by kernel_rfl) (by kernel_rfl)) (by kernel_rfl) (by kernel_rfl) (by kernel_rfl)
      (by rw [MakeChecks.laidMetH_plain _ _ _ (by kernel_rfl)]; exact laidMet_laidAll _ (by kernel_rfl) (by kernel_rfl))) ?_
  intro W base args ds gs before hval0 hW hc hz0 hL _
  have hval : ∀ (j : Nat) t v, Tryz.f3.params[j]? = some t → args[j]? = some v → Value.okWide Tryz.prog W .any base t v := hval0
  have hz1 : ∀ n ∈ DataW.weightsEach Tryz.prog (Tryz.f3.params.toList ++ Rows.commitDealsSpec.plain.varTypes Tryz.prog) (ds ++ gs), n ≤ reachBytes := fun n hn => of_decide_eq_true (List.all_eq_true.1 hz0 n hn)
  have hW' := hW
  obtain ⟨p, q, hA0, hV, rfl, _, _⟩ := hW
  have hA : DataW.TrodAll enc Tryz.prog W 0 (fun _ => true) true Tryz.f3.params.toList args.toList ds p := hA0
  rw [Tryz.params3] at hA hval
  obtain ⟨v0, vs0, d0, ds0, p0, q0, hargs, rfl, rfl, h0, r0⟩ := trodAll_cons hA
  obtain ⟨v1, vs1, d1, ds1, p1, q1, rfl, rfl, rfl, h1, r1⟩ := trodAll_cons r0
  obtain ⟨v2, vs2, d2, ds2, p2, q2, rfl, rfl, rfl, h2, r2⟩ := trodAll_cons r1
  obtain ⟨v3, vs3, d3, ds3, p3, q3, rfl, rfl, rfl, h3, r3⟩ := trodAll_cons r2
  obtain ⟨rfl, rfl, rfl⟩ := trodAll_nil r3
  obtain rfl : args = #[v0, v1, v2, v3] := by cases args; simp_all
  obtain ⟨rfl, rfl⟩ := trodVars_none hV
  have z0 := weightsEach_le hz1 0 23 d0 rfl rfl
  have z1 := weightsEach_le hz1 1 26 d1 rfl rfl
  have z2 := weightsEach_le hz1 2 2 d2 rfl rfl
  have z3 := weightsEach_le hz1 3 3 d3 rfl rfl
  obtain ⟨d, rfl⟩ := open_deal (hval 0 23 v0 rfl rfl) h0 z0
  obtain ⟨h, rfl, hsm⟩ := open_pay (hval 1 26 v1 rfl rfl) h1 z1
  obtain ⟨n2, rfl⟩ := okWide_int Tryz.underlying2 (hval 2 2 v2 rfl rfl)
  obtain ⟨n3, rfl⟩ := okWide_int Tryz.underlying3 (hval 3 3 v3 rfl rfl)
  refine (deals_law d h n2 n3 W (vars_of hL) (tab_of hL)).mono fun e W' ⟨he, hb⟩ => ?_
  subst he
  refine ⟨_, rfl, post_true hW' rfl ?_ rfl rfl hb⟩
  rw [Tryz.params3]
  intro t ht
  have ht2 : t ∈ [23, 26, 2, 3] := ht
  simp only [List.mem_cons, List.not_mem_nil, or_false] at ht2
  rcases ht2 with rfl | rfl | rfl | rfl <;> exact ⟨by kernel_rfl, of_decide_eq_true (by kernel_rfl)⟩
theorem commitDeals_holds : Rows.CommitDealsSaid :=
  OpenClaim.holds_of_wide 3 Tryz.f3 rfl rfl rfl rfl rfl rfl rfl ⟨rfl, rfl, rfl, rfl, rfl⟩ rfl rfl rfl rfl rfl (by kernel_rfl) Tryz.func3 (by kernel_rfl)
    (of_decide_eq_true (by kernel_rfl)) (by unfold Func.isWrapper; first | (rw [if_pos (by decide +kernel)]; kernel_rfl) | (rw [if_neg (by decide +kernel)]; exact ⟨rfl, rfl⟩))
    (fun os started H enc _ => commitDeals_lifted os started H enc)
theorem commitDeals_card : Rows.CommitDealsCardSaid :=
  Claim7.holds_tied_plain_at .later [] _ _ _ _ commitDeals_holds (fun _ h => by cases h) (by kernel_rfl) (fun _ h => by cases h) commitDeals_row_tie rfl ⟨rfl, rfl⟩ (by kernel_rfl) rfl
    (fun f fn hf hfn => by
      obtain rfl : f = 3 := Option.some.inj ((show Tryz.prog.funcNamed "sluiceway/sluicewaylaw18.CommitDeals" = some 3 by kernel_rfl).symm.trans hf) |>.symm
      obtain rfl : fn = Tryz.f3 := (Option.some.inj (Tryz.func3.symm.trans hfn)).symm
      exact ⟨by kernel_rfl, fun j t ht => by
        rw [Tryz.params3] at ht
        have hm : t ∈ [23, 26, 2, 3] := by simpa using Array.mem_of_getElem? ht
        have hall : ([23, 26, 2, 3].all fun u => !Tryz.prog.wantsStandIn u) = true := by kernel_rfl
        exact (show Tryz.prog.wantsStandIn t = false by simpa using List.all_eq_true.1 hall t hm)⟩)
    (by kernel_rfl)
end Go.Proofs.YtncniomiplnaaaaGreatDoor
#print axioms Go.Proofs.YtncniomiplnaaaaGreatDoor.commitDeals_card
