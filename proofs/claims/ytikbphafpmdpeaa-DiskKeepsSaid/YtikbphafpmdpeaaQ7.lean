/- DiskKeeps: the row's statement. -/
import Derived.Test.YtikbphafpmdpeaaQ6
import Derived.Test.YtikbphafpmdpeaaFrame
set_option linter.all false
namespace Go.Proofs.Ytikbphafpmdpeaa
open Go.ChangeShapes Go.WideShapes Go.ChangeAt Go.RowKit Go.WideMaps Go.WideElems
open Go.ChangeMaps (open_string)

theorem one_u8 : Try.prog.cellsOf 5 = 1 := by kernel_rfl
set_option maxRecDepth 100000 in
theorem open_bytes {H : Type} {enc : TypeId × Value → H} {W : World} {base : Nat} {v : Value} {d : DataW H} {p : List MemPlace} (hval : Value.okWide Try.prog W .any base 23 v) (h : DataW.Trod enc Try.prog W 0 (fun _ => true) true 23 v d p) (hB : ∀ n ∈ d.weights Try.prog 23, n ≤ reachBytes) :
    ∃ A l n c, v = .slice A n c ∧ l.length = n ∧ n ≤ c ∧ c ≤ reachBytes ∧ Cells W A (bv l) := by
  obtain ⟨a1, len, cap, rfl⟩ := okWide_slice Try.underlying23 hval
  obtain ⟨fuel, hf⟩ := h
  rcases open_ints Try.underlying23 Try.underlying5 one_u8 hf with ⟨hcs, hx⟩ | ⟨a, len', cap', zs, hcs, _, hl, hm, hz, hx, hcell, hwz⟩
  · simp [Value.cells] at hcs
    obtain ⟨rfl, rfl, rfl⟩ := hcs
    exact ⟨none, [], 0, 0, rfl, rfl, Nat.le_refl _, Nat.zero_le _, Cells.nil _ _⟩
  · simp [Value.cells] at hcs
    obtain ⟨rfl, rfl, rfl⟩ := hcs
    simp only [if_true] at hz
    injection hx with hx1 hx2
    subst hx1
    obtain ⟨hw, -⟩ := weight_slice Try.underlying23 (show Try.prog.bytesOf 5 = 1 by kernel_rfl) hB
    have hlits : ∀ l : List Int, (lits .u8 l : List (DataW H)).length = l.length := fun l => by simp [lits]
    rw [hlits, hlits, List.length_take, List.length_drop] at hw
    have hlen : ((zs.take len).map fun n => UInt8.ofNat n.toNat).length = len := by simp; omega
    refine ⟨some a, (zs.take len).map fun n => UInt8.ofNat n.toNat, len, cap, rfl, hlen, hl, by omega, ?_⟩
    intro hn
    refine ⟨a, rfl, fun j u hj => ?_⟩
    have hjl : j < len := by
      have := (List.getElem?_eq_some_iff.1 hj).1
      rw [bv_length, hlen] at this
      exact this
    have hjz : j < zs.length := by omega
    have hc := hcell j hjz
    rw [List.getD_eq_getElem?_getD, List.getElem?_eq_getElem hjz] at hc
    have hb := bounds_u8 (hwz _ (List.getElem_mem hjz))
    rw [hc]
    have hu : u = .int .u8 zs[j] := by
      rw [bv, List.getElem?_map, List.getElem?_map, List.getElem?_take, if_pos hjl, List.getElem?_eq_getElem hjz] at hj
      simp only [Option.map_some, Option.some.injEq] at hj
      rw [← hj, UInt8.toNat_ofNat']
      congr 1
      have : ((zs[j].toNat % 2 ^ 8 : Nat) : Int) = zs[j] := by omega
      exact this
    rw [hu]
    rfl

set_option maxRecDepth 100000 in
theorem diskKeeps_lifted (os : Os) (started : os.Started) (H : Type) (enc : TypeId × Value → H) :
    ReturnsInHanded {} Try.checked os 3 .any (Rows.diskKeepsSpec.pre6 enc Try.prog Try.f3 Rows.diskKeepsRow.domain false) (Rows.diskKeepsSpec.post enc Try.prog Try.f3 false true false false) := by
  refine returnsInHanded_of_change_sized (C := Try.checked) own started (by kernel_rfl) Try.func3
    (ChangeSpec.witness6 (enc := enc) (C := Try.checked) false ⟨#[], #[.slice none 0 0, .slice none 0 0, .string ⟨#[]⟩, .slice none 0 0, .int .u64 0], []⟩ 8 (by kernel_rfl) (by kernel_rfl) (by kernel_rfl) (by kernel_rfl)) ?_
  intro W base args ds gs before hval0 hW _ hz0 _
  have hval : ∀ (j : Nat) t v, Try.f3.params[j]? = some t → args[j]? = some v → Value.okWide Try.prog W .any base t v := hval0
  have hz1 : ∀ n ∈ DataW.weightsEach Try.prog (Try.f3.params.toList ++ Rows.diskKeepsSpec.plain.varTypes Try.prog) (ds ++ gs), n ≤ reachBytes := fun n hn => of_decide_eq_true (List.all_eq_true.1 hz0 n hn)
  have hW' := hW
  obtain ⟨p, q, hA0, hV, rfl, _, _⟩ := hW
  have hA : DataW.TrodAll enc Try.prog W 0 (fun _ => true) true Try.f3.params.toList args.toList ds p := hA0
  rw [Try.params3] at hA hval
  obtain ⟨v0, vs0, d0, ds0, p0, q0, hargs, rfl, rfl, h0, r0⟩ := trodAll_cons hA
  obtain ⟨v1, vs1, d1, ds1, p1, q1, rfl, rfl, rfl, h1, r1⟩ := trodAll_cons r0
  obtain ⟨v2, vs2, d2, ds2, p2, q2, rfl, rfl, rfl, h2, r2⟩ := trodAll_cons r1
  obtain ⟨v3, vs3, d3, ds3, p3, q3, rfl, rfl, rfl, h3, r3⟩ := trodAll_cons r2
  obtain ⟨v4, vs4, d4, ds4, p4, q4, rfl, rfl, rfl, h4, r4⟩ := trodAll_cons r3
  obtain ⟨rfl, rfl, rfl⟩ := trodAll_nil r4
  obtain rfl : args = #[v0, v1, v2, v3, v4] := by cases args; simp_all
  obtain ⟨rfl, rfl⟩ := trodVars_none hV
  have z0 := weightsEach_le hz1 0 22 d0 rfl rfl
  obtain ⟨A0, a0, c0, rfl, hcell0, hm0, hw0⟩ := open_ops (hval 0 22 v0 rfl rfl) h0 z0
  have z1 := weightsEach_le hz1 1 22 d1 rfl rfl
  obtain ⟨A1, a1, c1, rfl, hcell1, hm1, hw1⟩ := open_ops (hval 1 22 v1 rfl rfl) h1 z1
  obtain ⟨a2, rfl, rfl, rfl, wf2⟩ := open_string Try.underlying9 (hval 2 9 v2 rfl rfl) h2
  have z3 := weightsEach_le hz1 3 23 d3 rfl rfl
  obtain ⟨A3, a3, n3, c3, rfl, hl3, hc3, hm3, hcell3⟩ := open_bytes (hval 3 23 v3 rfl rfl) h3 z3
  obtain ⟨a4, rfl, rfl, rfl, wf4⟩ := open_int Try.underlying24 (hval 4 24 v4 rfl rfl) h4
  have b4 := bounds_u64 wf4
  obtain ⟨k4, rfl⟩ : ∃ k : Nat, a4 = k := ⟨a4.toNat, by omega⟩
  have hrb : reachBytes ≤ 140737488355328 := by decide
  refine (keeps_law hcell0 hcell1 hcell3 hl3 hc3 hw0 hw1 (Nat.le_trans hm0 hrb) (Nat.le_trans hm1 hrb) (Nat.le_trans hm3 hrb) (by omega)).mono fun e W' ⟨he, hb⟩ => ?_
  subst he
  refine ⟨_, rfl, post_true hW' rfl ?_ rfl rfl hb⟩
  rw [Try.params3]
  intro t ht
  have ht2 : t ∈ [22, 22, 9, 23, 24] := ht
  simp only [List.mem_cons, List.not_mem_nil, or_false] at ht2
  rcases ht2 with rfl | rfl | rfl | rfl | rfl <;> exact ⟨by kernel_rfl, of_decide_eq_true (by kernel_rfl)⟩

theorem diskKeeps_holds : Rows.DiskKeepsSaid :=
  OpenClaim.holds_of_wide 3 Try.f3 rfl rfl rfl rfl rfl rfl rfl ⟨rfl, rfl, rfl, rfl, rfl⟩ rfl rfl rfl rfl rfl (by kernel_rfl) Try.func3 (by kernel_rfl)
    (of_decide_eq_true (by kernel_rfl)) (by unfold Func.isWrapper; first | (rw [if_pos (by decide +kernel)]; kernel_rfl) | (rw [if_neg (by decide +kernel)]; exact ⟨rfl, rfl⟩))
    (fun os started H enc _ => diskKeeps_lifted os started H enc)
#print axioms diskKeeps_holds
end Go.Proofs.Ytikbphafpmdpeaa
