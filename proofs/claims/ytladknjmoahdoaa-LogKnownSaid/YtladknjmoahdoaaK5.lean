/- A file let go; what Remove does once its step happens. -/
import Derived.Test.YtladknjmoahdoaaK4
import Derived.Test.YtladknjmoahdoaaDiskI
set_option linter.all false
namespace Go.Proofs.Ytladknjmoahdoaa
open Go.RowKit

theorem fpF_sub {l r : List (ByteArray × FileM)} (h : l.Sublist r) : (fpF l).Sublist (fpF r) := by
  induction h with
  | slnil => exact List.Sublist.slnil
  | cons e _ ih => rw [fpF_cons]; exact ih.trans (List.sublist_append_right ..)
  | cons_cons e _ ih => rw [fpF_cons, fpF_cons]; exact ih.append_left _
theorem DiskAt.drew {w : World} {p m : Nat} {sb : Option Nat} {es : List (ByteArray × FileM)} {d : DiskT} (h : DiskAt w p m sb es d) : DiskAt w.drew p m sb es d := h.fr (Fr.refl [] w).drew fun _ _ => by simp
theorem DiskAt.p_ne {w : World} {p m : Nat} {sb : Option Nat} {es : List (ByteArray × FileM)} {d : DiskT} (h : DiskAt w p m sb es d) : p ≠ m ∧ (∀ b, sb = some b → p ≠ b) ∧ (∀ e ∈ es, ∀ i ∈ e.2.fp, p ≠ i) := by
  have := h.apart
  simp only [fpD, List.cons_append, List.nodup_cons, List.mem_cons, List.mem_append, not_or, Option.mem_toList] at this
  exact ⟨this.1.1, fun b hb e => this.1.2.1 (by rw [e]; exact hb), fun e he i hi e2 => this.1.2.2 (List.mem_flatMap.2 ⟨e, he, by rw [e2]; exact hi⟩)⟩
theorem DiskAt.m_ne {w : World} {p m : Nat} {sb : Option Nat} {es : List (ByteArray × FileM)} {d : DiskT} (h : DiskAt w p m sb es d) : (∀ b, sb = some b → m ≠ b) ∧ (∀ e ∈ es, ∀ i ∈ e.2.fp, m ≠ i) := by
  have := h.apart
  simp only [fpD, List.cons_append, List.nodup_cons, List.mem_cons, List.mem_append, not_or, Option.mem_toList] at this
  exact ⟨fun b hb e => this.2.1.1 (by rw [e]; exact hb), fun e he i hi e2 => this.2.1.2 (List.mem_flatMap.2 ⟨e, he, by rw [e2]; exact hi⟩)⟩
/-- A store into the disk's own block. -/
theorem DiskAt.head {w : World} {p m j : Nat} {sb : Option Nat} {es : List (ByteArray × FileM)} {d d' : DiskT} (h : DiskAt w p m sb es d) (u : Value) (hc : (headC m sb d).setIfInBounds j u = headC m sb d') (hf : d'.files = d.files) (hs : d'.set = d.set) :
    DiskAt (w.setCell ⟨p, j, none⟩ u) p m sb es d' := by
  have hfr : Fr [p] w (w.setCell ⟨p, j, none⟩ u) := (Fr.refl _ w).put p j u (.inl (by simp))
  obtain ⟨h1, h2, h3⟩ := h.p_ne
  refine ⟨?_, h.map.fr hfr (by simpa using Ne.symm h1), fun e he => (h.files e he).fr hfr fun i hi => by simpa using Ne.symm (h3 e he i hi), by rw [hf]; exact h.eq, by rw [hs]; exact h.set.fr hfr fun b hb => by simpa using Ne.symm (h2 b hb), h.apart⟩
  rw [setCell_heap u h.blk, hc]
theorem DiskAt.setUsed {w : World} {p m : Nat} {sb : Option Nat} {es : List (ByteArray × FileM)} {d : DiskT} (h : DiskAt w p m sb es d) (n : Nat) : DiskAt (w.setCell ⟨p, 2, none⟩ (.int .i64 n)) p m sb es { d with used := n } := h.head (j := 2) _ rfl rfl rfl
theorem DiskAt.setSteps {w : World} {p m : Nat} {sb : Option Nat} {es : List (ByteArray × FileM)} {d : DiskT} (h : DiskAt w p m sb es d) (n : Nat) : DiskAt (w.setCell ⟨p, 3, none⟩ (.int .i64 n)) p m sb es { d with steps := n } := h.head (j := 3) _ rfl rfl rfl
theorem DiskAt.setNo {w : World} {p m : Nat} {sb : Option Nat} {es : List (ByteArray × FileM)} {d : DiskT} (h : DiskAt w p m sb es d) (n : Nat) : DiskAt (w.setCell ⟨p, 4, none⟩ (.int .i64 n)) p m sb es { d with no := n } := h.head (j := 4) _ rfl rfl rfl
theorem DiskAt.setOff {w : World} {p m : Nat} {sb : Option Nat} {es : List (ByteArray × FileM)} {d : DiskT} (h : DiskAt w p m sb es d) (b : Bool) : DiskAt (w.setCell ⟨p, 6, none⟩ (.bool b)) p m sb es { d with off := b } := h.head (j := 6) _ rfl rfl rfl
/-- A file is gone from the map. -/
theorem DiskAt.deleted {w w' : World} {p m : Nat} {sb : Option Nat} {es : List (ByteArray × FileM)} {d : DiskT} (h : DiskAt w p m sb es d) (name : ByteArray) (hm : SMap w' m (mdel (menc encF es) name)) (hg : w.grownBy w' (some m)) : DiskAt w' p m sb (mdel es name) { d with files := mdel d.files name } := by
  have hf : Fr [m] w w' := Fr.grown hg fun k hk _ => by injection hk with hk; simp [hk]
  have hsub : ∀ e ∈ mdel es name, e ∈ es := fun e he => (mdel_sub es name).subset he
  refine ⟨hf.kept (by simpa using h.p_ne.1) h.blk, by rw [← mdel_menc]; exact hm, fun e he => (h.files e (hsub e he)).fr hf fun i hi => by simpa using Ne.symm (h.m_ne.2 e (hsub e he) i hi), ?_, h.set.fr hf fun b hb => by simpa using Ne.symm (h.m_ne.1 b hb), ?_⟩
  · show mdel d.files name = _
    rw [h.eq, mdel_menc]
  · refine h.apart.sublist ?_
    exact (fpF_sub (mdel_sub es name)).append_left _
theorem fp_del {p m : Nat} {sb : Option Nat} {es : List (ByteArray × FileM)} {name : ByteArray} {N : Nat} : NewFp N (fpD p m sb es) (fpD p m sb (mdel es name)) := fun i hi => .inl (((fpF_sub (mdel_sub es name)).append_left _).subset hi)
end Go.Proofs.Ytladknjmoahdoaa
