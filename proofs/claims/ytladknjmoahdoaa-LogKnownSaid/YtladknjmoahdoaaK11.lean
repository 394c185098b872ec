/- Create and Remove. -/
import Derived.Test.YtladknjmoahdoaaK10
set_option linter.all false
namespace Go.Proofs.Ytladknjmoahdoaa
open Go.RowKit

theorem step_here {W w1 : World} {p m : Nat} {sb : Option Nat} {es : List (ByteArray × FileM)} {d1 : DiskT} (hd : DiskAt w1 p m sb es d1) (hf : Fr (p :: sb.toList) W w1) : OpL W p m sb es d1 sb es w1 :=
  ⟨hd, hf.mono fun i hi _ => by
    rcases List.mem_cons.1 hi with e | e
    · rw [e]; exact mem_p
    · exact mem_sb (by simpa using e), NewFp.refl _ _⟩
/-- What a closure leaves, told from the step's beginning. -/
theorem unit_from {W w1 : World} {p m : Nat} {sb : Option Nat} {es : List (ByteArray × FileM)} {d1 d2 : DiskT} (hd : DiskAt w1 p m sb es d1) (hf : Fr (p :: sb.toList) W w1) (e : Ending) (w' : World) (h : UnitP (fun w' => ∃ es', OpL w1 p m sb es d2 sb es' w') e w') : UnitP (fun w' => ∃ es', OpL W p m sb es d2 sb es' w') e w' := by
  obtain ⟨he, es', hO⟩ := h
  exact ⟨he, es', (step_here hd hf).trans hO⟩
theorem stepsP {W w' : World} {p m : Nat} {sb : Option Nat} {es : List (ByteArray × FileM)} {d : DiskT} {f : DiskT → DiskT} {e : Ending} (h : StepP W p m sb es d (fun w' => ∃ es', OpL W p m sb es (f (stepD d).2) sb es' w') e w') : OpP W p m sb es (stepsD d f) e w' := by
  unfold stepsD
  rcases h with ⟨h1, he, hR⟩ | ⟨h1, he, hd, hf⟩
  · rw [if_pos h1]; exact ⟨he, hR⟩
  · rw [if_neg (by rw [h1]; simp)]; exact ⟨he, es, step_here hd hf⟩
theorem OpP.start {w W w' : World} {p m : Nat} {sb : Option Nat} {es : List (ByteArray × FileM)} {r : Int × DiskT} {e : Ending} (hb : Below w.heap.size w W) (h : OpP W p m sb es r e w') : OpP w p m sb es r e w' := by
  obtain ⟨he, es', hO⟩ := h
  exact ⟨he, es', OpL.start hb hO⟩
theorem StepP.int {W w' : World} {p m : Nat} {sb : Option Nat} {es : List (ByteArray × FileM)} {d : DiskT} {R : World → Prop} {e : Ending} (h : StepP W p m sb es d R e w') : ∃ n : Int, e = .returned (.int .i64 n) := by
  rcases h with ⟨-, he, -⟩ | ⟨-, he, -⟩
  · exact ⟨0, he⟩
  · exact ⟨7, he⟩
theorem boxP_alloc (w : World) (p : Nat) : BoxP (w.alloc (.cells #[.pointer (some ⟨p, 0, none⟩)] 22)) w.heap.size p := Go.heap_alloc_new w _
theorem two_below (w : World) (a b : Obj) : Below w.heap.size w ((w.alloc a).alloc b) := ((Below.refl _ _).alloc (Nat.le_refl _) a).alloc (by simp) b
theorem first_of_two (w : World) (a b : Obj) : ((w.alloc a).alloc b).heap[w.heap.size]? = some a := (Below.heap_alloc (w.alloc a) b w.heap.size (by simp)).trans (Go.heap_alloc_new w a)
theorem second_of_two (w : World) (a b : Obj) : ((w.alloc a).alloc b).heap[w.heap.size + 1]? = some b := by
  have := Go.heap_alloc_new (w.alloc a) b
  rwa [show (w.alloc a).heap.size = w.heap.size + 1 by simp] at this
theorem not_fp {w : World} {p m b : Nat} {sb : Option Nat} {es : List (ByteArray × FileM)} {d : DiskT} (h : DiskAt w p m sb es d) (hb : w.heap.size ≤ b) : b ∉ p :: sb.toList := fun hi => by
  rcases List.mem_cons.1 hi with e | e
  · have := h.lt p mem_p; omega
  · have := h.lt b (mem_sb (by simpa using e)); omega
set_option maxRecDepth 100000 in
set_option maxHeartbeats 8000000 in
theorem create_any (p m : Nat) (sb : Option Nat) (es : List (ByteArray × FileM)) (d : DiskT) (name : ByteArray) (w : World) (h : DiskAt w p m sb es d) (hi : Inv d) (hst : d.steps ≤ 3999999999) :
    Calls Try.prog 12 #[.pointer (some ⟨p, 0, none⟩), .string name] w (OpP w p m sb es (createD d name)) := by
  obtain ⟨R, hR⟩ : ∃ R, createD d name = R := ⟨_, rfl⟩
  rw [hR]
  have HR := Lib.hid hR; clear hR
  have hb := two_below w (.cells #[.pointer (some ⟨p, 0, none⟩)] 22) (.cells #[.string name] 9)
  have x1 := first_of_two w (.cells #[.pointer (some ⟨p, 0, none⟩)] 22) (.cells #[.string name] 9)
  have x2 := second_of_two w (.cells #[.pointer (some ⟨p, 0, none⟩)] 22) (.cells #[.string name] 9)
  have HB := Lib.hid hb
  have HHO := Lib.hid h
  have HH := Lib.hid (h.below hb)
  have HI := Lib.hid hi
  have H1 := Lib.hid x1
  have H2 := Lib.hid x2
  clear h hi hb x1 x2
  go_enter Try.func12, Try.ntmps12
  go_wp2_with fail
  generalize (w.alloc (.cells #[.pointer (some ⟨p, 0, none⟩)] 22)).alloc (.cells #[.string name] 9) = W at *
  refine (up_any HH.out).mono ?_
  rintro e w' ⟨rfl, rfl⟩
  have c1 : W.cell? ⟨w.heap.size, 0, none⟩ = some (.pointer (some ⟨p, 0, none⟩)) := cell_of (j := 0) H1.out rfl
  have c2 : W.cell? ⟨w.heap.size + 1, 0, none⟩ = some (.string name) := cell_of (j := 0) H2.out rfl
  cases ho : d.off with
  | true =>
    have hr : R = (7, d) := by rw [← HR.out]; unfold createD; rw [if_pos ho]
    have HRR := Lib.hid hr
    clear ho hr
    go_wp2_with fail
    go_ret
    rw [HRR.out]
    exact ⟨rfl, es, OpL.start HB.out (OpL.here HH.out)⟩
  | false =>
    have hn1 : ¬ d.off = true := by rw [ho]; simp
    have N1 := Lib.hid hn1
    clear ho hn1
    obtain ⟨c0, -⟩ := HH.out.cell
    have hl := fun n => look_files (HH.out.drewN n) name true
    simp only [if_true] at hl
    simp only [mget_menc] at hl
    obtain ⟨th, hth⟩ : ∃ th, (mget es name).isSome = th := ⟨_, rfl⟩
    obtain ⟨pv, hpv⟩ : ∃ pv : Option Addr, ((mget es name).map encF).getD (.pointer none) = .pointer pv := by
      cases mget es name with
      | none => exact ⟨none, rfl⟩
      | some x => exact ⟨some ⟨x.bl, 0, none⟩, rfl⟩
    simp only [hpv, Option.isSome_map, hth] at hl
    have hth2 : (mget d.files name).isSome = th := by rw [HH.out.get, Option.isSome_map]; exact hth
    have HTH := Lib.hid hth2
    have HTE := Lib.hid hth
    clear hth hpv hth2
    go_wp2_with fail
    go_quiet (fail)
    go_wp2_with fail
    have HHN := Lib.hid (HH.out.drewN nq)
    have HBN := Lib.hid (below_drewN HB.out nq)
    have H1N := Lib.hid (show BoxP (W.drewN nq) w.heap.size p from H1.out)
    have H2N := Lib.hid (show BoxS (W.drewN nq) (w.heap.size + 1) name from H2.out)
    clear hl c0 c1 c2
    generalize W.drewN nq = V at *
    have c1 : V.cell? ⟨w.heap.size, 0, none⟩ = some (.pointer (some ⟨p, 0, none⟩)) := cell_of (j := 0) H1N.out rfl
    have c2 : V.cell? ⟨w.heap.size + 1, 0, none⟩ = some (.string name) := cell_of (j := 0) H2N.out rfl
    obtain ⟨c0, -⟩ := HHN.out.cell
    refine (named_any _ _).mono ?_
    rintro e w' ⟨rfl, rfl⟩
    cases hn : namedB name with
    | false =>
      have hr : R = (2, d) := by rw [← HR.out]; unfold createD; rw [if_neg N1.out, if_pos hn]
      have HRR := Lib.hid hr
      clear hn hr
      go_wp2_with fail
      go_ret
      rw [HRR.out]
      exact ⟨rfl, es, OpL.start HBN.out (OpL.here HHN.out)⟩
    | true =>
      have N2 := Lib.hid (show ¬ namedB name = false by rw [hn]; simp)
      clear hn
      cases th with
      | true =>
        have HRR := Lib.hid (show R = (90, d) by rw [← HR.out]; unfold createD; rw [if_neg N1.out, if_neg N2.out, if_pos HTH.out])
        go_wp2_with fail
        go_ret
        rw [HRR.out]
        exact ⟨rfl, es, OpL.start HBN.out (OpL.here HHN.out)⟩
      | false =>
        have N3 := Lib.hid (show ¬ (mget d.files name).isSome = true by rw [HTH.out]; simp)
        have hlen := fun ty => HHN.out.map.len Try.underlying45 ty
        rw [menc_len] at hlen
        have hle : d.files.length = es.length := by rw [HHN.out.eq, menc_len]
        have HLE := Lib.hid hle
        by_cases h256 : 256 ≤ es.length
        · have h256I : (256 : Int) ≤ (es.length : Int) := by omega
          have HRR := Lib.hid (show R = (3, d) by rw [← HR.out]; unfold createD; rw [if_neg N1.out, if_neg N2.out, if_neg N3.out, if_pos (by rw [hle]; exact h256)])
          clear hle h256
          go_wp2_with fail
          go_ret
          rw [HRR.out]
          exact ⟨rfl, es, OpL.start HBN.out (OpL.here HHN.out)⟩
        · have h256I : ¬ (256 : Int) ≤ (es.length : Int) := by omega
          have HRR := Lib.hid (show R = stepsD d fun d => { d with files := mset d.files name file0 } by rw [← HR.out]; unfold createD; rw [if_neg N1.out, if_neg N2.out, if_neg N3.out, if_neg (by rw [hle]; exact h256)])
          have hno : mget es name = none := by
            have := HTE.out
            cases hg : mget es name with
            | none => rfl
            | some x => rw [hg] at this; cases this
          have hC := step_create p m sb es d #[.pointer (some ⟨w.heap.size, 0, none⟩), .pointer (some ⟨w.heap.size + 1, 0, none⟩)] V (fun w' => ∃ es', OpL V p m sb es { (stepD d).2 with files := mset (stepD d).2.files name file0 } sb es' w') HHN.out HI.out (by omega)
            (fun w1 hd hf _ => (create1_any p m w.heap.size (w.heap.size + 1) sb es (stepD d).2 name w1 hd hno
              (hf.kept (not_fp HHO.out (Nat.le_refl _)) H1N.out) (hf.kept (not_fp HHO.out (Nat.le_succ _)) H2N.out)).mono (unit_from hd hf))
          have HC := Lib.hid hC
          clear hC hle h256 hno
          go_wp2_with fail
          refine HC.out.mono ?_
          rintro e w' hS
          obtain ⟨nn, hnn⟩ := hS.int
          have HS := Lib.hid hS
          subst hnn
          clear hS
          go_wp2_with fail
          go_ret
          rw [HRR.out]
          exact OpP.start HBN.out (stepsP HS.out)
/-- A call that looks a file up ahead of its step: the errors. -/
theorem findV_cases (d : DiskT) (es : List (ByteArray × FileM)) (name : ByteArray) (he : d.files = menc FileM.f es) :
    (∃ err, findV d es name = .tuple #[.pointer none, .int .i64 err] ∧ findD d name = .inl err ∧ (err = 7 ∨ err = 91)) ∨ ∃ x, mget es name = some x ∧ mget d.files name = some x.f ∧ findV d es name = .tuple #[encF x, .int .i64 0] ∧ findD d name = .inr x.f := by
  unfold findV findD
  by_cases ho : d.off = true
  · rw [if_pos ho, if_pos ho]; exact .inl ⟨7, rfl, rfl, .inl rfl⟩
  · rw [if_neg ho, if_neg ho, he, mget_menc]
    cases mget es name with
    | none => exact .inl ⟨91, rfl, rfl, .inr rfl⟩
    | some x => exact .inr ⟨x, rfl, rfl, rfl, rfl⟩
end Go.Proofs.Ytladknjmoahdoaa
