/- What holds of a disk stays, whatever is called: plain; the calls at a disk of one's own. -/
import Derived.Test.YtladknjmoahdoaaOn
import Derived.Test.YtladknjmoahdoaaK13
import Derived.Test.YtladknjmoahdoaaK14
import Derived.Test.YtladknjmoahdoaaK15
import Derived.Test.YtladknjmoahdoaaK12
import Derived.Test.YtladknjmoahdoaaK17
set_option linter.all false
namespace Go.Proofs.Ytladknjmoahdoaa
open Go.RowKit

theorem stepsD_inv {d : DiskT} {f : DiskT → DiskT} (h : Inv d) (hf : (stepD d).1 = true → Inv (f (stepD d).2)) : Inv (stepsD d f).2 := by
  unfold stepsD
  split
  · exact hf (by assumption)
  · exact h.stepped
theorem step_steps (d : DiskT) : (stepD d).2.steps ≤ d.steps + 1 ∧ ((stepD d).1 = true → (stepD d).2.steps = d.steps + 1) := by
  unfold stepD
  split <;> simp
theorem stepsD_steps {d : DiskT} {f : DiskT → DiskT} (hf : (f (stepD d).2).steps = (stepD d).2.steps) : (stepsD d f).2.steps ≤ d.steps + 1 := by
  unfold stepsD
  have := (step_steps d).1
  split
  · show (f (stepD d).2).steps ≤ _
    omega
  · exact this
theorem Inv.createD' {d : DiskT} (h : Inv d) (name : ByteArray) : Inv (createD d name).2 := by
  unfold createD
  repeat' split
  · exact h
  · exact h
  · exact h
  · exact h
  · rename_i h1 h2 h3 h4
    obtain ⟨e1, -, -, -⟩ := stepD_files d
    refine stepsD_inv h fun _ => h.stepped.create (by simpa using h2) ?_ (by rw [e1]; omega)
    rw [e1]
    simpa using h3
theorem Inv.removeD' {d : DiskT} (h : Inv d) (name : ByteArray) : Inv (removeD d name).2 := by
  unfold removeD
  split
  · exact h
  · exact stepsD_inv h fun _ => h.stepped.gone name
theorem findD_get {d : DiskT} {name : ByteArray} {f : FileT} (h : findD d name = .inr f) : mget d.files name = some f := by
  unfold findD at h
  split at h
  · cases h
  · split at h
    · cases h
    · rename_i hg
      injection h with h
      rw [← h]; exact hg
theorem Inv.renameD' {d : DiskT} (h : Inv d) (src dst : ByteArray) : Inv (renameD d src dst).2 := by
  unfold renameD
  split
  · exact h
  · rename_i f hf
    have hg := findD_get hf
    split
    · exact h
    · rename_i hn
      obtain ⟨e1, -, -, -⟩ := stepD_files d
      refine stepsD_inv h fun _ => ?_
      dsimp only
      split
      · exact h.stepped
      · rename_i hne
        have h2 := h.stepped.gone dst
        have hg2 : mget (goneD (stepD d).2 dst).files src = some f := by rw [goneD_get hne, e1]; exact hg
        exact h2.moved hg2 (by simpa using hn) (goneD_none h.stepped dst)
theorem Inv.writeD' {d : DiskT} (h : Inv d) (name : ByteArray) (at_ : Int) (b : List UInt8) : Inv (writeD d name at_ b).2 := by
  unfold writeD
  split
  · exact h
  · rename_i f hf
    have hg := findD_get hf
    split
    · exact h
    · split
      · exact h
      · split
        · exact h
        · rename_i h1 h2 h3
          obtain ⟨e1, e2, e3, e4⟩ := stepD_files d
          refine stepsD_inv h fun hs => ?_
          have hlt : (stepD d).2.no < (stepD d).2.steps := by
            have := (step_steps d).2 hs
            have := h.no
            omega
          have hk : at_.toNat ≤ f.now.length := by omega
          have hw := h.stepped.write (name := name) (f := f) (k := at_.toNat) (by rw [e1]; exact hg) (padP b) hk (fun e => by rw [e2, e3]; omega) hlt
          have hq : (at_ = (f.now.length : Int)) ↔ (at_.toNat = f.now.length) := by omega
          simp only [hq]
          exact hw
theorem Inv.syncD' {d : DiskT} (h : Inv d) (name : ByteArray) : Inv (syncD d name).2 := by
  unfold syncD
  split
  · exact h
  · rename_i f hf
    obtain ⟨e1, -, -, -⟩ := stepD_files d
    exact stepsD_inv h fun _ => h.stepped.sync (f := f) (by rw [e1]; exact findD_get hf)
theorem Inv.failD' {d : DiskT} (h : Inv d) {n : Int} {k : Nat} (hn : n < 9223372036854775808) (hk : k < 18446744073709551616) : Inv (failD d n k) := by
  unfold failD
  split
  · exact h
  · refine ⟨h.nodup, h.names, h.count, h.sum, h.within, h.quota, h.files, h.apart, h.no, ?_, fun _ => rfl⟩
    intro i k' e
    injection e with e
    injection e with e1 e2
    omega
theorem stay_le {all : List WrT} {kp : Nat} {f : FileT} {no : Nat} (h : f.Ok no) : (stayF all kp f).length ≤ f.now.length := by
  have h3 := laidP_sub (ws := f.opens) (vs := f.opens.filter fun w => bitB kp (rankW all w.no)) List.filter_sublist (l := f.settled) (m := f.settled) (Nat.le_refl _)
  rw [← h.now] at h3
  exact h3
theorem Inv.onD' {d : DiskT} (h : Inv d) : Inv (onD d) ∧ (onD d).used ≤ d.used := by
  unfold onD
  split
  · exact ⟨h, Nat.le_refl _⟩
  · have hs : sumN (d.files.map fun p => (p.1, onF (opensD d) ((d.set.map Prod.snd).getD 0) p.2)) ≤ d.used := by
      rw [h.sum]
      exact sumN_le (fun f => onF (opensD d) ((d.set.map Prod.snd).getD 0) f) d.files fun p hp => stay_le (h.files p hp)
    refine ⟨Inv.of ⟨?_, ?_, ?_, ?_⟩ ?_ rfl (Nat.le_trans hs h.within) h.quota h.no (fun i k e => by cases e) (fun e => by cases e), hs⟩
    · rw [List.map_map]; exact h.nodup
    · intro p hp
      obtain ⟨q, hq, rfl⟩ := List.mem_map.1 hp
      exact h.names q hq
    · intro p hp
      obtain ⟨q, hq, rfl⟩ := List.mem_map.1 hp
      exact ⟨rfl, List.Pairwise.nil, fun w hw => by cases hw⟩
    · rw [List.flatMap_map]
      have : (d.files.flatMap fun p => (onF (opensD d) ((d.set.map Prod.snd).getD 0) p.2).opens) = [] := List.flatMap_eq_nil_iff.2 fun _ _ => rfl
      rw [this]
      exact List.Pairwise.nil
    · show (d.files.map _).length ≤ 256
      rw [List.length_map]; exact h.count
theorem newD_inv (quota : Int) : Inv (newD quota) := by
  refine ⟨List.Pairwise.nil, ?_, ?_, rfl, ?_, ?_, ?_, List.Pairwise.nil, ?_, ?_, ?_⟩ <;> simp [newD]
  omega
/-! How many steps -/
theorem create_steps (d : DiskT) (name : ByteArray) : (createD d name).2.steps ≤ d.steps + 1 := by
  unfold createD
  repeat' split
  all_goals first | exact Nat.le_succ _ | exact stepsD_steps rfl
theorem gone_steps (d : DiskT) (name : ByteArray) : (goneD d name).steps = d.steps := by unfold goneD; split <;> rfl
theorem remove_steps (d : DiskT) (name : ByteArray) : (removeD d name).2.steps ≤ d.steps + 1 := by
  unfold removeD
  split
  · exact Nat.le_succ _
  · exact stepsD_steps (gone_steps _ _)
theorem rename_steps (d : DiskT) (src dst : ByteArray) : (renameD d src dst).2.steps ≤ d.steps + 1 := by
  unfold renameD
  split
  · exact Nat.le_succ _
  split
  · exact Nat.le_succ _
  refine stepsD_steps ?_
  dsimp only
  split
  · rfl
  · exact gone_steps _ _
theorem write_steps (d : DiskT) (name : ByteArray) (at_ : Int) (b : List UInt8) : (writeD d name at_ b).2.steps ≤ d.steps + 1 := by
  unfold writeD
  repeat' split
  all_goals first | exact Nat.le_succ _ | exact stepsD_steps rfl
theorem sync_steps (d : DiskT) (name : ByteArray) : (syncD d name).2.steps ≤ d.steps + 1 := by
  unfold syncD
  repeat' split
  all_goals first | exact Nat.le_succ _ | exact stepsD_steps rfl
theorem fail_steps (d : DiskT) (n : Int) (k : Nat) : (failD d n k).steps = d.steps := by unfold failD; split <;> rfl
theorem on_steps (d : DiskT) : (onD d).steps = d.steps := by unfold onD; split <;> rfl
end Go.Proofs.Ytladknjmoahdoaa
