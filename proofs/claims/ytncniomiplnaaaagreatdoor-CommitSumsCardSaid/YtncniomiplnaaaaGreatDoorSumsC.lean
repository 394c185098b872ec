/- CommitSums: a commitment that is built pays its sides just what they have, the opener less the fee, its outputs in order, and each payment that is not left out: the row's statement and its tied card, no condition beyond the row's own (the variables that it lists read as they are laid). -/
import Derived.Test.YtncniomiplnaaaaGreatDoorSumsL
import Derived.Test.YtncniomiplnaaaaGreatDoorQ21
import Derived.Test.YtncniomiplnaaaaGreatDoorQ34
import Derived.Test.YtncniomiplnaaaaGreatDoorQ47
set_option linter.all false
namespace Go.Proofs.YtncniomiplnaaaaGreatDoor
open Go.ChangeShapes Go.WideShapes Go.ChangeAt Go.RowKit Go.WideMaps Go.WideElems
open Go.ChangeMaps (open_string shut_string)

theorem vars_of {W : World} (h : laidMetH Tryz.prog Rows.commitSumsRow.laid W) : VarsOk W := by
  rw [MakeChecks.laidMetH_plain _ _ _ (by kernel_rfl)] at h
  exact laid_vars h
theorem tab_of {W : World} (h : laidMetH Tryz.prog Rows.commitSumsRow.laid W) : TabOk W := by
  rw [MakeChecks.laidMetH_plain _ _ _ (by kernel_rfl)] at h
  exact laid_tab h
set_option maxRecDepth 100000 in
set_option maxHeartbeats 4000000 in
theorem commitSums_lifted (os : Os) (started : os.Started) (H : Type) (enc : TypeId × Value → H) :
    ReturnsInHanded {} Tryz.checked os 6 .any (fun w args => (Rows.commitSumsSpec.pre enc Tryz.prog Tryz.f6 Rows.commitSumsRow.domain false w args ∧ laidMetH Tryz.prog Rows.commitSumsRow.laid w) ∧ sizedMet enc Tryz.prog Tryz.f6 (OpenSpec.ofChange Rows.commitSumsSpec) false w args)
      (Rows.commitSumsSpec.post enc Tryz.prog Tryz.f6 false true false false) := by
  refine returnsInHanded_of_change_and (C := Tryz.checked) (X := fun w _ => laidMetH Tryz.prog Rows.commitSumsRow.laid w) (fun _ _ _ hh h => h.of_heap hh) own started (by kernel_rfl) Tryz.func6
    (ChangeSpec.witness_shaped (enc := enc) (C := Tryz.checked) (os := os) (X := fun w _ => laidMetH Tryz.prog Rows.commitSumsRow.laid w) false (World.laidAll Tryz.prog os Rows.commitSumsRow.laid) #[.agg #[.int .i64 0, .int .i64 0, .int .i64 0, .int .i64 0, .int .i64 0, .int .i64 0, .int .i64 0, .int .i64 0, .int .i64 0], .bool false, .agg #[.int .i64 0, .int .i64 0, .int .i64 0, .slice none 0 0]] 8 (World.laidAll_os _ _ _)
      (World.shaped_of_ZipB (by kernel_rfl) (by kernel_rfl)) (by kernel_rfl) (by kernel_rfl) (by kernel_rfl)
      (by rw [MakeChecks.laidMetH_plain _ _ _ (by kernel_rfl)]; exact laidMet_laidAll _ (by kernel_rfl) (by kernel_rfl))) ?_
  intro W base args ds gs before hval0 hW hc hz0 hL _
  have hval : ∀ (j : Nat) t v, Tryz.f6.params[j]? = some t → args[j]? = some v → Value.okWide Tryz.prog W .any base t v := hval0
  have hz1 : ∀ n ∈ DataW.weightsEach Tryz.prog (Tryz.f6.params.toList ++ Rows.commitSumsSpec.plain.varTypes Tryz.prog) (ds ++ gs), n ≤ reachBytes := fun n hn => of_decide_eq_true (List.all_eq_true.1 hz0 n hn)
  have hW' := hW
  obtain ⟨p, q, hA0, hV, rfl, _, _⟩ := hW
  have hA : DataW.TrodAll enc Tryz.prog W 0 (fun _ => true) true Tryz.f6.params.toList args.toList ds p := hA0
  rw [Tryz.params6] at hA hval
  obtain ⟨v0, vs0, d0, ds0, p0, q0, hargs, rfl, rfl, h0, r0⟩ := trodAll_cons hA
  obtain ⟨v1, vs1, d1, ds1, p1, q1, rfl, rfl, rfl, h1, r1⟩ := trodAll_cons r0
  obtain ⟨v2, vs2, d2, ds2, p2, q2, rfl, rfl, rfl, h2, r2⟩ := trodAll_cons r1
  obtain ⟨rfl, rfl, rfl⟩ := trodAll_nil r2
  obtain rfl : args = #[v0, v1, v2] := by cases args; simp_all
  obtain ⟨rfl, rfl⟩ := trodVars_none hV
  have z0 := weightsEach_le hz1 0 23 d0 rfl rfl
  have z1 := weightsEach_le hz1 1 4 d1 rfl rfl
  have z2 := weightsEach_le hz1 2 38 d2 rfl rfl
  obtain ⟨d, rfl⟩ := open_deal (hval 0 23 v0 rfl rfl) h0 z0
  obtain ⟨opener, rfl⟩ := okWide_bool Tryz.underlying4 (hval 1 4 v1 rfl rfl)
  obtain ⟨n, own, other, hs, A, cap, rfl, hc, hh, hl⟩ := open_state (hval 2 38 v2 rfl rfl) h2 z2
  have hrb : reachBytes ≤ 140737488355328 := by decide
  refine (sums_law d opener n own other hs A cap W (by omega) (fun h hm => Nat.le_trans (hh h hm) hrb) hc (vars_of hL) (tab_of hL)).mono fun e W' ⟨he, hb⟩ => ?_
  subst he
  refine ⟨_, rfl, post_true hW' rfl ?_ rfl rfl hb⟩
  rw [Tryz.params6]
  intro t ht
  have ht2 : t ∈ [23, 4, 38] := ht
  simp only [List.mem_cons, List.not_mem_nil, or_false] at ht2
  rcases ht2 with rfl | rfl | rfl <;> exact ⟨by kernel_rfl, of_decide_eq_true (by kernel_rfl)⟩

theorem commitSums_holds : Rows.CommitSumsSaid :=
  OpenClaim.holds_of_wide 6 Tryz.f6 rfl rfl rfl rfl rfl rfl rfl ⟨rfl, rfl, rfl, rfl, rfl⟩ rfl rfl rfl rfl rfl (by kernel_rfl) Tryz.func6 (by kernel_rfl)
    (of_decide_eq_true (by kernel_rfl)) (by unfold Func.isWrapper; first | (rw [if_pos (by decide +kernel)]; kernel_rfl) | (rw [if_neg (by decide +kernel)]; exact ⟨rfl, rfl⟩))
    (fun os started H enc _ => commitSums_lifted os started H enc)
theorem commitSums_card : Rows.CommitSumsCardSaid :=
  Claim7.holds_tied_plain_at .later [] _ _ _ _ commitSums_holds (fun _ h => by cases h) (by kernel_rfl) (fun _ h => by cases h) commitSums_row_tie rfl ⟨rfl, rfl⟩ (by kernel_rfl) rfl
    (fun f fn hf hfn => by
      obtain rfl : f = 6 := Option.some.inj ((show Tryz.prog.funcNamed "sluiceway/sluicewaylaw18.CommitSums" = some 6 by kernel_rfl).symm.trans hf) |>.symm
      obtain rfl : fn = Tryz.f6 := (Option.some.inj (Tryz.func6.symm.trans hfn)).symm
      exact ⟨by kernel_rfl, fun j t ht => by
        rw [Tryz.params6] at ht
        have hm : t ∈ [23, 4, 38] := by simpa using Array.mem_of_getElem? ht
        have hall : ([23, 4, 38].all fun u => !Tryz.prog.wantsStandIn u) = true := by kernel_rfl
        exact (show Tryz.prog.wantsStandIn t = false by simpa using List.all_eq_true.1 hall t hm)⟩)
    (by kernel_rfl)
#print axioms commitSums_card
end Go.Proofs.YtncniomiplnaaaaGreatDoor
