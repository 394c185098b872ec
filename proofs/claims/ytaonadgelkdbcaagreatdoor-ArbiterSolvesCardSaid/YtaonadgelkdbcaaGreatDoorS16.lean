/- ArbiterSolves: the way to open any lock with any secrets and preimages is the document's, or there is none; so for all outputs of any transaction (at most 150 parts; 20 terms of 4000 bytes in all; what is handed in stays): the row's statement and its tied card, no condition beyond the row's own (the variables that it lists read as they are laid). -/
import Derived.Test.YtaonadgelkdbcaaGreatDoorS14
import Derived.Test.YtaonadgelkdbcaaGreatDoorS15
import Derived.SizedLaws
import Derived.Stop.LaidErr
import Derived.Stop.LaidTwo
namespace Go.Proofs.YtaonadgelkdbcaaGreatDoor
open Go.ChangeShapes Go.WideShapes Go.ChangeAt Go.RowKit Go.WideMaps Go.WideElems
open Go.ChangeMaps (open_string shut_string)

theorem starErr : "*" ++ "errors.errorString" = "*errors.errorString" := by decide
theorem rowErr (u : TypeId) (h : Tryz.prog.typeName? 3 u = some "*errors.errorString") : u = 171 :=
  typeName_ptr_named (nm := "errors.errorString") (by rw [starErr]; kernel_rfl) (by kernel_rfl) (by decide) u (by rw [starErr]; exact h)
theorem vars_of {W : World} (h : laidMetH Tryz.prog Rows.arbiterSolvesRow.laid W) : VarsOk W := by
  rw [MakeChecks.laidMetH_plain _ _ _ (by kernel_rfl)] at h
  obtain ⟨a0, a1, s0, s1, c0, c1, t0, t1, h0, h1, -⟩ := laid_sentinels2 (h.tail.tail.tail) gRange (by kernel_rfl) gSyntax (by kernel_rfl) Tryz.underlying107 rowErr Tryz.underlying171 Tryz.underlying173 rfl rfl Tryz.underlying9 (by kernel_rfl) (by kernel_rfl)
  exact ⟨⟨_, _, h1⟩, _, _, h0⟩
set_option maxRecDepth 100000 in
theorem arbiterSolves_lifted (os : Os) (started : os.Started) (H : Type) (enc : TypeId × Value → H) :
    ReturnsInHanded {} Tryz.checked os 3 .any (fun w args => (Rows.arbiterSolvesSpec.pre enc Tryz.prog Tryz.f3 Rows.arbiterSolvesRow.domain false w args ∧ laidMetH Tryz.prog Rows.arbiterSolvesRow.laid w) ∧ sizedMet enc Tryz.prog Tryz.f3 (OpenSpec.ofChange Rows.arbiterSolvesSpec) false w args)
      (Rows.arbiterSolvesSpec.post enc Tryz.prog Tryz.f3 false true false false) := by
  refine returnsInHanded_of_change_and (C := Tryz.checked) (X := fun w _ => laidMetH Tryz.prog Rows.arbiterSolvesRow.laid w) (fun _ _ _ hh h => h.of_heap hh) own started (by kernel_rfl) Tryz.func3
    (ChangeSpec.witness_shaped (enc := enc) (C := Tryz.checked) (os := os) (X := fun w _ => laidMetH Tryz.prog Rows.arbiterSolvesRow.laid w) false (World.laidAll Tryz.prog os Rows.arbiterSolvesRow.laid) #[.agg #[.slice none 0 0, .slice none 0 0, .int .i64 0, .int .i64 0], .slice none 0 0, .slice none 0 0] 8 (World.laidAll_os _ _ _)
      (World.shaped_of_ZipB (by kernel_rfl) (by kernel_rfl)) (by kernel_rfl) (by kernel_rfl) (by kernel_rfl)
      (by rw [MakeChecks.laidMetH_plain _ _ _ (by kernel_rfl)]; exact laidMet_laidAll _ (by kernel_rfl) (by kernel_rfl))) ?_
  intro W base args ds gs before hval0 hW hc hz0 hL _
  have hval : ∀ (j : Nat) t v, Tryz.f3.params[j]? = some t → args[j]? = some v → Value.okWide Tryz.prog W .any base t v := hval0
  have hz1 : ∀ n ∈ DataW.weightsEach Tryz.prog (Tryz.f3.params.toList ++ Rows.arbiterSolvesSpec.plain.varTypes Tryz.prog) (ds ++ gs), n ≤ reachBytes := fun n hn => of_decide_eq_true (List.all_eq_true.1 hz0 n hn)
  have hW' := hW
  obtain ⟨p, q, hA0, hV, rfl, _, _⟩ := hW
  have hA : DataW.TrodAll enc Tryz.prog W 0 (fun _ => true) true Tryz.f3.params.toList args.toList ds p := hA0
  rw [Tryz.params3] at hA hval
  obtain ⟨v0, vs0, d0, ds0, p0, q0, hargs, rfl, rfl, h0, r0⟩ := trodAll_cons hA
  obtain ⟨v1, vs1, d1, ds1, p1, q1, rfl, rfl, rfl, h1, r1⟩ := trodAll_cons r0
  obtain ⟨v2, vs2, d2, ds2, p2, q2, rfl, rfl, rfl, h2, r2⟩ := trodAll_cons r1
  obtain ⟨rfl, rfl, rfl⟩ := trodAll_nil r2
  obtain rfl : args = #[v0, v1, v2] := by cases args; simp_all
  obtain ⟨rfl, rfl⟩ := trodVars_none hV
  have z0 := weightsEach_le hz1 0 25 d0 rfl rfl
  have z1 := weightsEach_le hz1 1 26 d1 rfl rfl
  have z2 := weightsEach_le hz1 2 26 d2 rfl rfl
  obtain ⟨ins, outs, after, tag, A, B, ca, cb, rfl, htc, hbd, hwf⟩ := open_tx (hval 0 25 v0 rfl rfl) h0 z0
  obtain ⟨A1, l1, c1, rfl, hcell1, hm1, hw1⟩ := open_terms (hval 1 26 v1 rfl rfl) h1 z1
  obtain ⟨A2, l2, c2, rfl, hcell2, hm2, hw2⟩ := open_terms (hval 2 26 v2 rfl rfl) h2 z2
  have hrb : reachBytes ≤ 140737488355328 := by decide
  refine (solves_law ins outs after tag A B ca cb l1 l2 A1 c1 A2 c2 W hbd hwf htc (by omega) (by omega) (fun x hx => Nat.le_trans (hw1 x hx) hrb) (fun x hx => Nat.le_trans (hw2 x hx) hrb) hcell1 hcell2 (vars_of hL)).mono fun e W' ⟨he, hb⟩ => ?_
  subst he
  refine ⟨_, rfl, post_true hW' rfl ?_ rfl rfl hb⟩
  rw [Tryz.params3]
  intro t ht
  have ht2 : t ∈ [25, 26, 26] := ht
  simp only [List.mem_cons, List.not_mem_nil, or_false] at ht2
  rcases ht2 with rfl | rfl | rfl <;> exact ⟨by kernel_rfl, of_decide_eq_true (by kernel_rfl)⟩

theorem arbiterSolves_holds : Rows.ArbiterSolvesSaid :=
  OpenClaim.holds_of_wide 3 Tryz.f3 rfl rfl rfl rfl rfl rfl rfl ⟨rfl, rfl, rfl, rfl, rfl⟩ rfl rfl rfl rfl rfl (by kernel_rfl) Tryz.func3 (by kernel_rfl)
    (of_decide_eq_true (by kernel_rfl)) (by unfold Func.isWrapper; first | (rw [if_pos (by decide +kernel)]; kernel_rfl) | (rw [if_neg (by decide +kernel)]; exact ⟨rfl, rfl⟩))
    (fun os started H enc _ => arbiterSolves_lifted os started H enc)
theorem arbiterSolves_card : Rows.ArbiterSolvesCardSaid :=
  Claim7.holds_tied_plain_at .later [] _ _ _ _ arbiterSolves_holds (fun _ h => by cases h) (by kernel_rfl) (fun _ h => by cases h) arbiterSolves_row_tie rfl ⟨rfl, rfl⟩ (by kernel_rfl) rfl
    (fun f fn hf hfn => by
      obtain rfl : f = 3 := Option.some.inj ((show Tryz.prog.funcNamed "sluiceway/sluicewaylaw27.ArbiterSolves" = some 3 by kernel_rfl).symm.trans hf) |>.symm
      obtain rfl : fn = Tryz.f3 := (Option.some.inj (Tryz.func3.symm.trans hfn)).symm
      exact ⟨by kernel_rfl, fun j t ht => by
        rw [Tryz.params3] at ht
        have hm : t ∈ [25, 26, 26] := by simpa using Array.mem_of_getElem? ht
        have hall : ([25, 26, 26].all fun u => !Tryz.prog.wantsStandIn u) = true := by kernel_rfl
        exact (show Tryz.prog.wantsStandIn t = false by simpa using List.all_eq_true.1 hall t hm)⟩)
    (by kernel_rfl)
#print axioms arbiterSolves_card
end Go.Proofs.YtaonadgelkdbcaaGreatDoor
