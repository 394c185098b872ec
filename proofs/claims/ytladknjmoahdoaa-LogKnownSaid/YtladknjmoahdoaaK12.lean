/- Sync and Rename. -/
import Derived.Test.YtladknjmoahdoaaK11
set_option linter.all false
namespace Go.Proofs.Ytladknjmoahdoaa
open Go.RowKit

theorem one_below (w : World) (a : Obj) : Below w.heap.size w (w.alloc a) := (Below.refl _ _).alloc (Nat.le_refl _) a
set_option maxRecDepth 100000 in
set_option maxHeartbeats 8000000 in
theorem sync_any (p m : Nat) (sb : Option Nat) (es : List (ByteArray × FileM)) (d : DiskT) (name : ByteArray) (w : World) (h : DiskAt w p m sb es d) (hi : Inv d) (hst : d.steps ≤ 3999999999) :
    Calls Try.prog 22 #[.pointer (some ⟨p, 0, none⟩), .string name] w (OpP w p m sb es (syncD d name)) := by
  have HHO := Lib.hid h
  have HI := Lib.hid hi
  have hcs := findV_cases d es name h.eq
  have hF := find_any h name
  clear h hi
  rcases hcs with ⟨err, hv, hf, her⟩ | ⟨x, hx, hgd, hv, hf⟩
  · have HR := Lib.hid (show syncD d name = (err, d) by unfold syncD; rw [hf])
    rw [hv] at hF
    have HF := Lib.hid hF
    have HE := Lib.hid (show ¬ err = 0 by omega)
    have he0 : (err == 0) = false := by have := HE.out; simpa using this
    clear hv hf her hF
    go_enter Try.func22, Try.ntmps22
    go_wp2_with fail
    refine HF.out.mono ?_
    rintro e w' ⟨rfl, rfl⟩
    go_wp2_with fail
    all_goals first
      | (go_ret; rw [HR.out]; exact OpP.same HHO.out (one_below w _))
      | (exfalso; exact HE.out (by omega))
  · have HR := Lib.hid (show syncD d name = stepsD d fun d => { d with files := mset d.files name ⟨x.f.now, x.f.now, []⟩ } by unfold syncD; rw [hf])
    rw [hv] at hF
    have HF := Lib.hid hF
    have HX := Lib.hid hx
    unfold encF at HF
    clear hv hf hF hgd hx
    go_enter Try.func22, Try.ntmps22
    go_wp2_with fail
    refine HF.out.mono ?_
    rintro e w' ⟨rfl, rfl⟩
    have hb := one_below w (.cells #[.pointer (some ⟨x.bl, 0, none⟩)] 68)
    have hbx : BoxF (w.alloc (.cells #[.pointer (some ⟨x.bl, 0, none⟩)] 68)) w.heap.size x.bl := Go.heap_alloc_new w _
    have HH := Lib.hid (HHO.out.below hb)
    have hC := step_sync p m sb es d #[.pointer (some ⟨w.heap.size, 0, none⟩)] _ (fun w' => ∃ es', OpL (w.alloc (.cells #[.pointer (some ⟨x.bl, 0, none⟩)] 68)) p m sb es { (stepD d).2 with files := mset (stepD d).2.files name ⟨x.f.now, x.f.now, []⟩ } sb es' w') HH.out HI.out (by omega)
      (fun w1 hd hf _ => (sync1_any p m w.heap.size sb es (stepD d).2 name x w1 hd HI.out.stepped HX.out (fun hi => absurd (HHO.out.lt _ hi) (Nat.lt_irrefl _)) (hf.kept (not_fp HHO.out (Nat.le_refl _)) hbx)).mono (unit_from hd hf))
    have HC := Lib.hid hC
    have HB := Lib.hid hb
    clear hC hb hbx
    go_wp2_with fail
    refine HC.out.mono ?_
    rintro e w' hS
    obtain ⟨nn, hnn⟩ := hS.int
    have HS := Lib.hid hS
    subst hnn
    clear hS
    go_wp2_with fail
    go_ret
    rw [HR.out]
    exact OpP.start HB.out (stepsP HS.out)
theorem three_below (w : World) (a b c : Obj) : Below w.heap.size w (((w.alloc a).alloc b).alloc c) := (two_below w a b).alloc (by simp; omega) c
theorem of_three (w : World) (a b c : Obj) : (((w.alloc a).alloc b).alloc c).heap[w.heap.size]? = some a ∧ (((w.alloc a).alloc b).alloc c).heap[w.heap.size + 1]? = some b ∧ (((w.alloc a).alloc b).alloc c).heap[w.heap.size + 1 + 1]? = some c := by
  have hs : ((w.alloc a).alloc b).heap.size = w.heap.size + 1 + 1 := by simp
  refine ⟨(Below.heap_alloc _ c w.heap.size (by omega)).trans (first_of_two w a b), (Below.heap_alloc _ c (w.heap.size + 1) (by omega)).trans (second_of_two w a b), ?_⟩
  have := Go.heap_alloc_new ((w.alloc a).alloc b) c
  rwa [hs] at this
end Go.Proofs.Ytladknjmoahdoaa
