/- CommitLocks: the locks of any keys, deal and payment are the document's (at most 4000 bytes of keys): the row's statement and its tied card, no condition beyond the row's own (the variables that it lists read as they are laid). -/
import Derived.Test.YtncniomiplnaaaaGreatDoorQ26
import Derived.Test.YtncniomiplnaaaaGreatDoorQ21
namespace Go.Proofs.YtncniomiplnaaaaGreatDoor
open Go.ChangeShapes Go.WideShapes Go.ChangeAt Go.RowKit Go.WideMaps Go.WideElems
open Go.ChangeMaps (open_string shut_string)

theorem vars_of {W : World} (h : laidMetH Tryz.prog Rows.commitLocksRow.laid W) : VarsOk W := by
  rw [MakeChecks.laidMetH_plain _ _ _ (by kernel_rfl)] at h
  exact laid_vars h
theorem tab_of {W : World} (h : laidMetH Tryz.prog Rows.commitLocksRow.laid W) : TabOk W := by
  rw [MakeChecks.laidMetH_plain _ _ _ (by kernel_rfl)] at h
  exact laid_tab h
set_option maxRecDepth 100000 in
set_option maxHeartbeats 4000000 in
theorem commitLocks_lifted (os : Os) (started : os.Started) (H : Type) (enc : TypeId × Value → H) :
    ReturnsInHanded {} Tryz.checked os 5 .any (fun w args => (Rows.commitLocksSpec.pre enc Tryz.prog Tryz.f5 Rows.commitLocksRow.domain false w args ∧ laidMetH Tryz.prog Rows.commitLocksRow.laid w) ∧ sizedMet enc Tryz.prog Tryz.f5 (OpenSpec.ofChange Rows.commitLocksSpec) false w args)
      (Rows.commitLocksSpec.post enc Tryz.prog Tryz.f5 false true false false) := by
  refine returnsInHanded_of_change_and (C := Tryz.checked) (X := fun w _ => laidMetH Tryz.prog Rows.commitLocksRow.laid w) (fun _ _ _ hh h => h.of_heap hh) own started (by kernel_rfl) Tryz.func5
    (ChangeSpec.witness_shaped (enc := enc) (C := Tryz.checked) (os := os) (X := fun w _ => laidMetH Tryz.prog Rows.commitLocksRow.laid w) false (World.laidAll Tryz.prog os Rows.commitLocksRow.laid) #[.agg #[.int .i64 0, .int .i64 0, .int .i64 0, .int .i64 0, .int .i64 0, .int .i64 0, .int .i64 0, .int .i64 0, .int .i64 0], .agg #[.string ⟨#[]⟩, .string ⟨#[]⟩, .string ⟨#[]⟩, .string ⟨#[]⟩, .string ⟨#[]⟩], .agg #[.bool false, .int .i64 0, .int .i64 0, .string ⟨#[]⟩, .int .i64 0]] 8 (World.laidAll_os _ _ _)
      (World.shaped_of_ZipB (by kernel_rfl) (by kernel_rfl)) (by kernel_rfl) (by kernel_rfl) (by kernel_rfl)
      (by rw [MakeChecks.laidMetH_plain _ _ _ (by kernel_rfl)]; exact laidMet_laidAll _ (by kernel_rfl) (by kernel_rfl))) ?_
  intro W base args ds gs before hval0 hW hc hz0 hL _
  have hval : ∀ (j : Nat) t v, Tryz.f5.params[j]? = some t → args[j]? = some v → Value.okWide Tryz.prog W .any base t v := hval0
  have hz1 : ∀ n ∈ DataW.weightsEach Tryz.prog (Tryz.f5.params.toList ++ Rows.commitLocksSpec.plain.varTypes Tryz.prog) (ds ++ gs), n ≤ reachBytes := fun n hn => of_decide_eq_true (List.all_eq_true.1 hz0 n hn)
  have hW' := hW
  obtain ⟨p, q, hA0, hV, rfl, _, _⟩ := hW
  have hA : DataW.TrodAll enc Tryz.prog W 0 (fun _ => true) true Tryz.f5.params.toList args.toList ds p := hA0
  rw [Tryz.params5] at hA hval
  obtain ⟨v0, vs0, d0, ds0, p0, q0, hargs, rfl, rfl, h0, r0⟩ := trodAll_cons hA
  obtain ⟨v1, vs1, d1, ds1, p1, q1, rfl, rfl, rfl, h1, r1⟩ := trodAll_cons r0
  obtain ⟨v2, vs2, d2, ds2, p2, q2, rfl, rfl, rfl, h2, r2⟩ := trodAll_cons r1
  obtain ⟨rfl, rfl, rfl⟩ := trodAll_nil r2
  obtain rfl : args = #[v0, v1, v2] := by cases args; simp_all
  obtain ⟨rfl, rfl⟩ := trodVars_none hV
  have z0 := weightsEach_le hz1 0 23 d0 rfl rfl
  have z1 := weightsEach_le hz1 1 40 d1 rfl rfl
  have z2 := weightsEach_le hz1 2 26 d2 rfl rfl
  obtain ⟨d, rfl⟩ := open_deal (hval 0 23 v0 rfl rfl) h0 z0
  obtain ⟨k, rfl, k1, k2, k3, k4, k5⟩ := open_keys (hval 1 40 v1 rfl rfl) h1 z1
  obtain ⟨h, rfl, hsm⟩ := open_pay (hval 2 26 v2 rfl rfl) h2 z2
  have hrb : reachBytes ≤ 140737488355328 := by decide
  refine (locks_law d k h W (by omega) (by omega) (by omega) (by omega) (by omega) (by omega) (vars_of hL) (tab_of hL)).mono fun e W' ⟨he, hb⟩ => ?_
  subst he
  refine ⟨_, rfl, post_true hW' rfl ?_ rfl rfl hb⟩
  rw [Tryz.params5]
  intro t ht
  have ht2 : t ∈ [23, 40, 26] := ht
  simp only [List.mem_cons, List.not_mem_nil, or_false] at ht2
  rcases ht2 with rfl | rfl | rfl <;> exact ⟨by kernel_rfl, of_decide_eq_true (by kernel_rfl)⟩

theorem commitLocks_holds : Rows.CommitLocksSaid :=
  OpenClaim.holds_of_wide 5 Tryz.f5 rfl rfl rfl rfl rfl rfl rfl ⟨rfl, rfl, rfl, rfl, rfl⟩ rfl rfl rfl rfl rfl (by kernel_rfl) Tryz.func5 (by kernel_rfl)
    (of_decide_eq_true (by kernel_rfl)) (by unfold Func.isWrapper; first | (rw [if_pos (by decide +kernel)]; kernel_rfl) | (rw [if_neg (by decide +kernel)]; exact ⟨rfl, rfl⟩))
    (fun os started H enc _ => commitLocks_lifted os started H enc)
theorem commitLocks_card : Rows.CommitLocksCardSaid :=
  Claim7.holds_tied_plain_at .later [] _ _ _ _ commitLocks_holds (fun _ h => by cases h) (by kernel_rfl) (fun _ h => by cases h) commitLocks_row_tie rfl ⟨rfl, rfl⟩ (by kernel_rfl) rfl
    (fun f fn hf hfn => by
      obtain rfl : f = 5 := Option.some.inj ((show Tryz.prog.funcNamed "sluiceway/sluicewaylaw18.CommitLocks" = some 5 by kernel_rfl).symm.trans hf) |>.symm
      obtain rfl : fn = Tryz.f5 := (Option.some.inj (Tryz.func5.symm.trans hfn)).symm
      exact ⟨by kernel_rfl, fun j t ht => by
        rw [Tryz.params5] at ht
        have hm : t ∈ [23, 40, 26] := by simpa using Array.mem_of_getElem? ht
        have hall : ([23, 40, 26].all fun u => !Tryz.prog.wantsStandIn u) = true := by kernel_rfl
        exact (show Tryz.prog.wantsStandIn t = false by simpa using List.all_eq_true.1 hall t hm)⟩)
    (by kernel_rfl)
#print axioms commitLocks_card
end Go.Proofs.YtncniomiplnaaaaGreatDoor
