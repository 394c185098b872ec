/- Sync and Rename. -/
import Derived.Test.YtikbphafpmdpeaaK11
set_option linter.all false
namespace Go.Proofs.Ytikbphafpmdpeaa
open Go.RowKit

theorem one_below (w : World) (a : Obj) : Below w.heap.size w (w.alloc a) := (Below.refl _ _).alloc (Nat.le_refl _) a
set_option maxRecDepth 100000 in
set_option maxHeartbeats 8000000 in
theorem sync_any (p m : Nat) (sb : Option Nat) (es : List (ByteArray × FileM)) (d : DiskT) (name : ByteArray) (w : World) (h : DiskAt w p m sb es d) (hi : Inv d) (hst : d.steps ≤ 3999999999) :
    Calls Try.prog 16 #[.pointer (some ⟨p, 0, none⟩), .string name] w (OpP w p m sb es (syncD d name)) := by
  have HHO := Lib.hid h
  have HI := Lib.hid hi
  have hcs := findV_cases d es name h.eq
  have hF := find_any h name
  clear h hi
  rcases hcs with ⟨err, hv, hf, her⟩ | ⟨x, hx, hgd, hv, hf⟩
  · have HR := Lib.hid (show syncD d name = (err, d) by unfold syncD; rw [hf])
    rw [hv] at hF
    have HF := Lib.hid hF
    have HE := Lib.hid (show ¬ err = 0 by omega)
    have he0 : (err == 0) = false := by have := HE.out; simpa using this
    clear hv hf her hF
    go_enter Try.func16, Try.ntmps16
    go_wp2_with fail
    refine HF.out.mono ?_
    rintro e w' ⟨rfl, rfl⟩
    go_wp2_with fail
    all_goals first
      | (go_ret; rw [HR.out]; exact OpP.same HHO.out (one_below w _))
      | (exfalso; exact HE.out (by omega))
  · have HR := Lib.hid (show syncD d name = stepsD d fun d => { d with files := mset d.files name ⟨x.f.now, x.f.now, []⟩ } by unfold syncD; rw [hf])
    rw [hv] at hF
    have HF := Lib.hid hF
    have HX := Lib.hid hx
    unfold encF at HF
    clear hv hf hF hgd hx
    go_enter Try.func16, Try.ntmps16
    go_wp2_with fail
    refine HF.out.mono ?_
    rintro e w' ⟨rfl, rfl⟩
    have hb := one_below w (.cells #[.pointer (some ⟨x.bl, 0, none⟩)] 66)
    have hbx : BoxF (w.alloc (.cells #[.pointer (some ⟨x.bl, 0, none⟩)] 66)) w.heap.size x.bl := Go.heap_alloc_new w _
    have HH := Lib.hid (HHO.out.below hb)
    have hC := step_sync p m sb es d #[.pointer (some ⟨w.heap.size, 0, none⟩)] _ (fun w' => ∃ es', OpL (w.alloc (.cells #[.pointer (some ⟨x.bl, 0, none⟩)] 66)) p m sb es { (stepD d).2 with files := mset (stepD d).2.files name ⟨x.f.now, x.f.now, []⟩ } sb es' w') HH.out HI.out (by omega)
      (fun w1 hd hf _ => (sync1_any p m w.heap.size sb es (stepD d).2 name x w1 hd HI.out.stepped HX.out (fun hi => absurd (HHO.out.lt _ hi) (Nat.lt_irrefl _)) (hf.kept (not_fp HHO.out (Nat.le_refl _)) hbx)).mono (unit_from hd hf))
    have HC := Lib.hid hC
    have HB := Lib.hid hb
    clear hC hb hbx
    go_wp2_with fail
    refine HC.out.mono ?_
    rintro e w' hS
    obtain ⟨nn, hnn⟩ := hS.int
    have HS := Lib.hid hS
    subst hnn
    clear hS
    go_wp2_with fail
    go_ret
    rw [HR.out]
    exact OpP.start HB.out (stepsP HS.out)
theorem three_below (w : World) (a b c : Obj) : Below w.heap.size w (((w.alloc a).alloc b).alloc c) := (two_below w a b).alloc (by simp; omega) c
theorem of_three (w : World) (a b c : Obj) : (((w.alloc a).alloc b).alloc c).heap[w.heap.size]? = some a ∧ (((w.alloc a).alloc b).alloc c).heap[w.heap.size + 1]? = some b ∧ (((w.alloc a).alloc b).alloc c).heap[w.heap.size + 1 + 1]? = some c := by
  have hs : ((w.alloc a).alloc b).heap.size = w.heap.size + 1 + 1 := by simp
  refine ⟨(Below.heap_alloc _ c w.heap.size (by omega)).trans (first_of_two w a b), (Below.heap_alloc _ c (w.heap.size + 1) (by omega)).trans (second_of_two w a b), ?_⟩
  have := Go.heap_alloc_new ((w.alloc a).alloc b) c
  rwa [hs] at this
set_option maxRecDepth 100000 in
set_option maxHeartbeats 8000000 in
theorem rename_any (p m : Nat) (sb : Option Nat) (es : List (ByteArray × FileM)) (d : DiskT) (src dst : ByteArray) (w : World) (h : DiskAt w p m sb es d) (hi : Inv d) (hst : d.steps ≤ 3999999999) :
    Calls Try.prog 28 #[.pointer (some ⟨p, 0, none⟩), .string src, .string dst] w (OpP w p m sb es (renameD d src dst)) := by
  have HHO := Lib.hid h
  have HI := Lib.hid hi
  have hcs := findV_cases d es src h.eq
  have hb := three_below w (.cells #[.pointer (some ⟨p, 0, none⟩)] 29) (.cells #[.string src] 9) (.cells #[.string dst] 9)
  obtain ⟨x1, x2, x3⟩ := of_three w (.cells #[.pointer (some ⟨p, 0, none⟩)] 29) (.cells #[.string src] 9) (.cells #[.string dst] 9)
  have HSZ := Lib.hid (show (((w.alloc (.cells #[.pointer (some ⟨p, 0, none⟩)] 29)).alloc (.cells #[.string src] 9)).alloc (.cells #[.string dst] 9)).heap.size = w.heap.size + 1 + 1 + 1 by simp)
  have HB := Lib.hid hb
  have HH := Lib.hid (h.below hb)
  have H1 := Lib.hid x1
  have H2 := Lib.hid x2
  have H3 := Lib.hid x3
  clear h hi hb x1 x2 x3
  rcases hcs with ⟨err, hv, hf, her⟩ | ⟨x, hx, hgd, hv, hf⟩
  · have HR := Lib.hid (show renameD d src dst = (err, d) by unfold renameD; rw [hf])
    have hF := find_any HH.out src
    rw [hv] at hF
    have HF := Lib.hid hF
    have HE := Lib.hid (show ¬ err = 0 by omega)
    have he0 : (err == 0) = false := by have := HE.out; simpa using this
    clear hv hf her hF
    go_enter Try.func28, Try.ntmps28
    go_wp2_with fail
    generalize (((w.alloc (.cells #[.pointer (some ⟨p, 0, none⟩)] 29)).alloc (.cells #[.string src] 9)).alloc (.cells #[.string dst] 9)) = W at *
    refine HF.out.mono ?_
    rintro e w' ⟨rfl, rfl⟩
    go_wp2_with fail
    all_goals first
      | (go_ret; rw [HR.out]; exact OpP.start HB.out (OpP.same HH.out (one_below W _)))
      | (exfalso; exact HE.out (by omega))
  · have hF := find_any HH.out src
    rw [hv] at hF
    have HF := Lib.hid hF
    have HX := Lib.hid hx
    have HFD := Lib.hid hf
    unfold encF at HF
    clear hv hf hF hgd hx
    go_enter Try.func28, Try.ntmps28
    go_wp2_with fail
    generalize (((w.alloc (.cells #[.pointer (some ⟨p, 0, none⟩)] 29)).alloc (.cells #[.string src] 9)).alloc (.cells #[.string dst] 9)) = W at *
    refine HF.out.mono ?_
    rintro e w' ⟨rfl, rfl⟩
    have hb1 := one_below W (.cells #[.pointer (some ⟨x.bl, 0, none⟩)] 66)
    have hbx : BoxF (W.alloc (.cells #[.pointer (some ⟨x.bl, 0, none⟩)] 66)) W.heap.size x.bl := Go.heap_alloc_new W _
    have HBX := Lib.hid hbx
    have HB1 := Lib.hid hb1
    have HV := Lib.hid (HH.out.below hb1)
    have H1V := Lib.hid ((hb1.block _ (lt_of_block H1.out)).trans H1.out)
    have H2V := Lib.hid ((hb1.block _ (lt_of_block H2.out)).trans H2.out)
    have H3V := Lib.hid ((hb1.block _ (lt_of_block H3.out)).trans H3.out)
    have d1 := fun o => cell_below (one_below W o) (show W.cell? ⟨w.heap.size, 0, none⟩ = some (.pointer (some ⟨p, 0, none⟩)) from cell_of (j := 0) H1.out rfl)
    have d3 := fun o => cell_below (one_below W o) (show W.cell? ⟨w.heap.size + 1 + 1, 0, none⟩ = some (.string dst) from cell_of (j := 0) H3.out rfl)
    clear hb1 hbx
    go_wp2_with fail
    refine (named_any _ _).mono ?_
    rintro e w' ⟨rfl, rfl⟩
    cases hn : namedB dst with
    | false =>
      have HR := Lib.hid (show renameD d src dst = (2, d) by unfold renameD; rw [HFD.out]; simp only; rw [if_pos hn])
      clear hn
      go_wp2_with fail
      go_ret
      rw [HR.out]
      exact OpP.start HB.out (OpP.same HH.out HB1.out)
    | true =>
      have HR := Lib.hid (show renameD d src dst = stepsD d fun d => if src = dst then d else movedD d src dst x.f by unfold renameD; rw [HFD.out]; simp only; rw [if_neg (by rw [hn]; simp)]; rfl)
      have hN : ∀ i ∈ fpD p m sb es, i < w.heap.size := HHO.out.lt
      have hC := step_rename p m sb es d #[.pointer (some ⟨w.heap.size + 1, 0, none⟩), .pointer (some ⟨w.heap.size + 1 + 1, 0, none⟩), .pointer (some ⟨w.heap.size, 0, none⟩), .pointer (some ⟨W.heap.size, 0, none⟩)] _
        (fun w' => ∃ es', OpL (W.alloc (.cells #[.pointer (some ⟨x.bl, 0, none⟩)] 66)) p m sb es (if src = dst then (stepD d).2 else movedD (stepD d).2 src dst x.f) sb es' w') HV.out HI.out (by omega)
        (fun w1 hd hf _ => (rename1_any p m (w.heap.size + 1) (w.heap.size + 1 + 1) w.heap.size W.heap.size w.heap.size sb es (stepD d).2 src dst x w1 hd HI.out.stepped HX.out hN (by omega) (by omega) (Nat.le_refl _) HB.out.size
          (hf.kept (not_fp HHO.out (by omega)) H2V.out) (hf.kept (not_fp HHO.out (by omega)) H3V.out) (hf.kept (not_fp HHO.out (Nat.le_refl _)) H1V.out) (hf.kept (not_fp HHO.out HB.out.size) HBX.out)).mono (unit_from hd hf))
      have HC := Lib.hid hC
      clear hC hn hN
      go_wp2_with fail
      refine HC.out.mono ?_
      rintro e w' hS
      obtain ⟨nn, hnn⟩ := hS.int
      have HS := Lib.hid hS
      subst hnn
      clear hS
      go_wp2_with fail
      go_ret
      rw [HR.out]
      exact OpP.start HB.out (OpP.start HB1.out (stepsP (f := fun d => if src = dst then d else movedD d src dst x.f) HS.out))
end Go.Proofs.Ytikbphafpmdpeaa
