/- LogCreated: the walk. · A log whose Open the power broke off is one without entries, behind it: for every step, every row of bits kept and every name. -/
import Derived.Test.YtladknjmoahdoaaQ6
import Derived.Test.YtladknjmoahdoaaFrame
set_option linter.all false
namespace Go.Proofs.Ytladknjmoahdoaa
open Go.RowKit Go

set_option maxRecDepth 100000 in
set_option maxHeartbeats 8000000 in
theorem created_walk (n : Int) (k : Nat) (name : ByteArray) (w : World) (hn : n < 9223372036854775808) (hk : k < 18446744073709551616) : Calls Try.prog 5 #[.int .i64 n, .int .u64 (k : Int), .string name] w fun e w' => e = .returned (.bool true) ∧ Below w.heap.size w w' := by
  have hfr := (new_fresh (q := 9) (by decide) name).fail hn hk
  have hfl : (failD (newD 9) n k).files = [] ∧ (failD (newD 9) n k).steps = 0 := ⟨rfl, rfl⟩
  have HN0 := Lib.hid (fun V => new_o 9 V)
  obtain ⟨d0, hd0⟩ : ∃ d0, newD 9 = d0 := ⟨_, rfl⟩
  rw [hd0] at hfr hfl
  simp only [hd0] at HN0
  have HFA := Lib.hid (fun V p F (hV : DkO V p F d0) => hV.fail hn hk)
  obtain ⟨d1, hd1⟩ : ∃ d1, failD d0 n k = d1 := ⟨_, rfl⟩
  rw [hd1] at hfr hfl
  simp only [hd1] at HFA
  have HFR := Lib.hid hfr
  have HFL := Lib.hid hfl
  have HCL := Lib.hid (fun hh => created_law hfr hh)
  have HOB := Lib.hid (fun (hh : namedB name = false) => open_bad hfr.2.1 hfl.1 hh)
  have HST := Lib.hid (open_steps d1 name)
  obtain ⟨⟨e1, d2, o1⟩, hr1⟩ : ∃ r1, openL d1 name = r1 := ⟨_, rfl⟩
  have HR1 := Lib.hid hr1
  have hcl := HCL.out
  have hob := HOB.out
  have hst := HST.out
  rw [hr1] at hcl hob hst
  have HCL := Lib.hid hcl
  have HOB := Lib.hid hob
  have HST := Lib.hid hst
  clear hd0 hd1 hfr hfl hr1 hcl hob hst
  go_enter Try.func5, Try.ntmps5
  go_wp2_with fail
  refine (HN0.out _).mono ?_
  rintro e w1 ⟨p, F0, rfl, h1, hb1, hlo⟩
  have HB1 := Lib.hid hb1
  have HLO := Lib.hid hlo
  have HD0 := Lib.hid h1
  clear h1 hb1 hlo HN0
  go_wp2_with fail
  refine (HFA.out _ _ _ HD0.out).mono ?_
  rintro e w2 ⟨rfl, F1, hL⟩
  have HL1 := Lib.hid hL
  have hF1 := hL.new.ge HLO.out HB1.out.size
  have HB2 := Lib.hid (HB1.out.trans (hL.fr.toBelowOf HB1.out.size HLO.out))
  have HF1 := Lib.hid hF1
  clear hL hF1 HFA
  go_wp2_with fail
  refine (open_any (d := d1) (name := name) HL1.out.at_ (by rw [HFL.out.2]; decide)).mono ?_
  rintro e w3 hP
  rw [HR1.out] at hP
  by_cases hnm : namedB name = true
  · obtain ⟨hx, hy1, hy2⟩ := HCL.out hnm
    have HY := Lib.hid (And.intro hy1 hy2)
    clear hy1 hy2
    rcases hx with ⟨rfl, rfl⟩ | ⟨rfl, rfl, hoff⟩
    · obtain ⟨F3, hL, lp, v, vs, rfl, hlp, hlf, hown, hev, hla⟩ := hP
      obtain ⟨Av, cv, hv, -, -⟩ := own_shape hown
      dsimp only at hv hL
      rw [show ([] : List (List UInt8)).length = 0 from rfl] at hv
      subst hv
      have HL3 := Lib.hid hL
      have hF3 := hL.new.ge HF1.out HB2.out.size
      have HB3 := Lib.hid (HB2.out.trans (hL.fr.toBelowOf HB2.out.size HF1.out))
      have HF3 := Lib.hid hF3
      clear hL hF3 hlp hlf hown hev hla
      go_wp2_with fail
      refine (DkO.on (d := d2) HL3.out.at_ (by have := HST.out; have := HFL.out.2; omega)).mono ?_
      rintro e w4 ⟨rfl, F4, hL⟩
      have HL4 := Lib.hid hL
      have hF4 := hL.new.ge HF3.out HB3.out.size
      have HB4 := Lib.hid (HB3.out.trans (hL.fr.toBelowOf HB3.out.size HF3.out))
      have HF4 := Lib.hid hF4
      clear hL hF4
      go_wp2_with fail
      refine (DkO.fail (d := onD d2) (n := 1073741824) (k := 0) HL4.out.at_ (by decide) (by decide)).mono ?_
      rintro e w5 ⟨rfl, F5, hL⟩
      have HL5 := Lib.hid hL
      have hF5 := hL.new.ge HF4.out HB4.out.size
      have HB5 := Lib.hid (HB4.out.trans (hL.fr.toBelowOf HB4.out.size HF4.out))
      have HF5 := Lib.hid hF5
      clear hL hF5
      go_wp2_with fail
      refine (open_any (d := failD (onD d2) 1073741824 0) (name := name) HL5.out.at_ (by rw [fail_steps, on_steps]; have := HST.out; have := HFL.out.2; omega)).mono ?_
      have HY1 := Lib.hid HY.out.1
      have HY2 := Lib.hid HY.out.2
      obtain ⟨⟨e6, d6, o6⟩, hr6⟩ : ∃ r6, openL (failD (onD d2) 1073741824 0) name = r6 := ⟨_, rfl⟩
      have hy := HY.out
      try dsimp only at hy
      rw [hr6] at hy
      obtain ⟨h61, h62⟩ := hy
      try dsimp only at h61 h62
      subst h61 h62
      rw [hr6]
      clear hr6 HY1 HY2
      rintro e w6 ⟨F6, hL, lp6, v6, vs6, rfl, hlp6, hlf6, hown6, hev6, hla6⟩
      obtain ⟨A6, c6, hv6, -, -⟩ := own_shape hown6
      dsimp only at hv6 hL hla6
      rw [show ([] : List (List UInt8)).length = 0 from rfl] at hv6 hla6
      subst hv6
      have HLA6 := Lib.hid hla6
      have HB6 := Lib.hid (HB5.out.trans (hL.fr.toBelowOf HB5.out.size HF5.out))
      clear hL hlp6 hlf6 hown6 hev6 hla6
      go_wp2_with fail
      refine (count_any HLA6.out).mono ?_
      rintro e w6' ⟨rfl, rfl⟩
      go_wp2_with fail
      refine (works_any _).mono ?_
      rintro e w9 ⟨rfl, hb9⟩
      go_wp2_with fail
      go_ret
      exact ⟨rfl, HB6.out.trans (hb9.mono HB6.out.size)⟩
    · obtain ⟨F3, hL, rfl⟩ := hP
      dsimp only at hL
      have HL3 := Lib.hid hL
      have hF3 := hL.new.ge HF1.out HB2.out.size
      have HB3 := Lib.hid (HB2.out.trans (hL.fr.toBelowOf HB2.out.size HF1.out))
      have HF3 := Lib.hid hF3
      have HO5 := Lib.hid hoff
      clear hL hF3 hoff
      go_wp2_with fail
      refine (DkO.off (d := d2) HL3.out.at_).mono ?_
      rintro e w3' ⟨rfl, rfl⟩
      rw [show d2.off = true from HO5.out]
      go_wp2_with fail
      refine (DkO.on (d := d2) HL3.out.at_ (by have := HST.out; have := HFL.out.2; omega)).mono ?_
      rintro e w4 ⟨rfl, F4, hL⟩
      have HL4 := Lib.hid hL
      have hF4 := hL.new.ge HF3.out HB3.out.size
      have HB4 := Lib.hid (HB3.out.trans (hL.fr.toBelowOf HB3.out.size HF3.out))
      have HF4 := Lib.hid hF4
      clear hL hF4
      go_wp2_with fail
      refine (DkO.fail (d := onD d2) (n := 1073741824) (k := 0) HL4.out.at_ (by decide) (by decide)).mono ?_
      rintro e w5 ⟨rfl, F5, hL⟩
      have HL5 := Lib.hid hL
      have hF5 := hL.new.ge HF4.out HB4.out.size
      have HB5 := Lib.hid (HB4.out.trans (hL.fr.toBelowOf HB4.out.size HF4.out))
      have HF5 := Lib.hid hF5
      clear hL hF5
      go_wp2_with fail
      refine (open_any (d := failD (onD d2) 1073741824 0) (name := name) HL5.out.at_ (by rw [fail_steps, on_steps]; have := HST.out; have := HFL.out.2; omega)).mono ?_
      have HY1 := Lib.hid HY.out.1
      have HY2 := Lib.hid HY.out.2
      obtain ⟨⟨e6, d6, o6⟩, hr6⟩ : ∃ r6, openL (failD (onD d2) 1073741824 0) name = r6 := ⟨_, rfl⟩
      have hy := HY.out
      try dsimp only at hy
      rw [hr6] at hy
      obtain ⟨h61, h62⟩ := hy
      try dsimp only at h61 h62
      subst h61 h62
      rw [hr6]
      clear hr6 HY1 HY2
      rintro e w6 ⟨F6, hL, lp6, v6, vs6, rfl, hlp6, hlf6, hown6, hev6, hla6⟩
      obtain ⟨A6, c6, hv6, -, -⟩ := own_shape hown6
      dsimp only at hv6 hL hla6
      rw [show ([] : List (List UInt8)).length = 0 from rfl] at hv6 hla6
      subst hv6
      have HLA6 := Lib.hid hla6
      have HB6 := Lib.hid (HB5.out.trans (hL.fr.toBelowOf HB5.out.size HF5.out))
      clear hL hlp6 hlf6 hown6 hev6 hla6
      go_wp2_with fail
      refine (count_any HLA6.out).mono ?_
      rintro e w6' ⟨rfl, rfl⟩
      go_wp2_with fail
      refine (works_any _).mono ?_
      rintro e w9 ⟨rfl, hb9⟩
      go_wp2_with fail
      go_ret
      exact ⟨rfl, HB6.out.trans (hb9.mono HB6.out.size)⟩
  · have hnf : namedB name = false := by simpa using hnm
    have ho := HOB.out hnf
    injection ho with h1 h2
    injection h2 with h2 h3
    subst h1 h2 h3
    obtain ⟨F3, hL, rfl⟩ := hP
    dsimp only at hL
    have HB3 := Lib.hid (HB2.out.trans (hL.fr.toBelowOf HB2.out.size HF1.out))
    clear hL hnm
    by_cases h0 : name.size = 0
    · have hs := str_none name h0
      subst hs
      clear h0
      go_wp2_with fail
      refine (works_any _).mono ?_
      rintro e w9 ⟨rfl, hb9⟩
      go_wp2_with fail
      go_ret
      exact ⟨rfl, HB3.out.trans (hb9.mono HB3.out.size)⟩
    · obtain ⟨hs1, hs2⟩ := str_empty name (by omega)
      have h3 : ¬ name.size ≤ 100 := fun h => by unfold namedB at hnf; simp at hnf; omega
      go_wp2_with fail
      refine (works_any _).mono ?_
      rintro e w9 ⟨rfl, hb9⟩
      go_wp2_with fail
      go_ret
      exact ⟨rfl, HB3.out.trans (hb9.mono HB3.out.size)⟩
end Go.Proofs.Ytladknjmoahdoaa

set_option linter.all false
namespace Go.Proofs.Ytladknjmoahdoaa
open Go.ChangeShapes Go.WideShapes Go.ChangeAt Go.RowKit Go.WideMaps Go.WideElems
open Go.ChangeMaps (open_string)

set_option maxRecDepth 100000 in
theorem logCreated_lifted (os : Os) (started : os.Started) (H : Type) (enc : TypeId × Value → H) :
    ReturnsInHanded {} Try.checked os 5 .any (Rows.logCreatedSpec.pre6 enc Try.prog Try.f5 Rows.logCreatedRow.domain false) (Rows.logCreatedSpec.post enc Try.prog Try.f5 false true false false) := by
  refine returnsInHanded_of_change_sized (C := Try.checked) own started (by kernel_rfl) Try.func5
    (ChangeSpec.witness6 (enc := enc) (C := Try.checked) false ⟨#[], #[.int .i64 0, .int .u64 0, .string ⟨#[]⟩], []⟩ 8 (by kernel_rfl) (by kernel_rfl) (by kernel_rfl) (by kernel_rfl)) ?_
  intro W base args ds gs before hval0 hW _ hz0 _
  have hval : ∀ (j : Nat) t v, Try.f5.params[j]? = some t → args[j]? = some v → Value.okWide Try.prog W .any base t v := hval0
  have hW' := hW
  obtain ⟨p, q, hA0, hV, rfl, _, _⟩ := hW
  have hA : DataW.TrodAll enc Try.prog W 0 (fun _ => true) true Try.f5.params.toList args.toList ds p := hA0
  rw [Try.params5] at hA hval
  obtain ⟨v0, vs0, d0, ds0, p0, q0, hargs, rfl, rfl, h0, r0⟩ := trodAll_cons hA
  obtain ⟨v1, vs1, d1, ds1, p1, q1, rfl, rfl, rfl, h1, r1⟩ := trodAll_cons r0
  obtain ⟨v2, vs2, d2, ds2, p2, q2, rfl, rfl, rfl, h2, r2⟩ := trodAll_cons r1
  obtain ⟨rfl, rfl, rfl⟩ := trodAll_nil r2
  obtain rfl : args = #[v0, v1, v2] := by cases args; simp_all
  obtain ⟨rfl, rfl⟩ := trodVars_none hV
  obtain ⟨a0, rfl, rfl, rfl, wf0⟩ := open_int Try.underlying3 (hval 0 3 v0 rfl rfl) h0
  have b0 := bounds_i64 wf0
  obtain ⟨a1, rfl, rfl, rfl, wf1⟩ := open_int Try.underlying32 (hval 1 32 v1 rfl rfl) h1
  have b1 := bounds_u64 wf1
  obtain ⟨k1, rfl⟩ : ∃ k : Nat, a1 = k := ⟨a1.toNat, by omega⟩
  obtain ⟨a2, rfl, rfl, rfl, wf2⟩ := open_string Try.underlying9 (hval 2 9 v2 rfl rfl) h2
  refine (created_walk a0 k1 a2 W (by omega) (by omega)).mono fun e W' ⟨he, hb⟩ => ?_
  subst he
  refine ⟨_, rfl, post_true hW' rfl ?_ rfl rfl hb⟩
  rw [Try.params5]
  intro t ht
  have ht2 : t ∈ [3, 32, 9] := ht
  simp only [List.mem_cons, List.not_mem_nil, or_false] at ht2
  rcases ht2 with rfl | rfl | rfl <;> exact ⟨by kernel_rfl, of_decide_eq_true (by kernel_rfl)⟩

theorem logCreated_holds : Rows.LogCreatedSaid :=
  OpenClaim.holds_of_wide 5 Try.f5 rfl rfl rfl rfl rfl rfl rfl ⟨rfl, rfl, rfl, rfl, rfl⟩ rfl rfl rfl rfl rfl (by kernel_rfl) Try.func5 (by kernel_rfl)
    (of_decide_eq_true (by kernel_rfl)) (by unfold Func.isWrapper; first | (rw [if_pos (by decide +kernel)]; kernel_rfl) | (rw [if_neg (by decide +kernel)]; exact ⟨rfl, rfl⟩))
    (fun os started H enc _ => logCreated_lifted os started H enc)
#print axioms logCreated_holds
end Go.Proofs.Ytladknjmoahdoaa
