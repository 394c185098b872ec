/- What Sync does once its step happens. -/
import Derived.Test.YtladknjmoahdoaaK6
set_option linter.all false
namespace Go.Proofs.Ytladknjmoahdoaa
open Go.RowKit

/-- A file of the disk holds something else. -/
theorem DiskAt.put {F : List Nat} {w w' : World} {p m : Nat} {sb : Option Nat} {es : List (ByteArray × FileM)} {d d' : DiskT} {name : ByteArray} {x x' : FileM} (h : DiskAt w p m sb es d) (hx : mget es name = some x) (hbl : x'.bl = x.bl) (hx' : FileAt w' x') (hin : ∀ i ∈ x'.fp, i ∈ x.fp ∨ w.heap.size ≤ i)
    (hf : Fr F w w') (hF : ∀ i ∈ F, i = p ∨ i ∈ x.fp) (hblk : w'.heap[p]? = some (.cells (headC m sb d') 48)) (heq : d'.files = mset d.files name x'.f) (hset : d'.set = d.set) : OpL w p m sb es d' sb (mset es name x') w' := by
  have p1 := perm_get hx
  have p2 := perm_set es name x'
  have hin' : ∀ i ∈ fpF [(name, x')], i ∈ fpF [(name, x)] ∨ w.heap.size ≤ i := fun i hi => by
    rcases hin i (by simpa [fpF] using hi) with h1 | h1
    · exact .inl (by simpa [fpF] using h1)
    · exact .inr h1
  have hmF : m ∉ F := fun hm => by
    rcases hF m hm with e | e
    · exact h.p_ne.1 e.symm
    · exact h.m_ne.2 _ (mget_mem hx) m e rfl
  have hmp : menc encF (mset es name x') = menc encF es := by
    rw [← mset_menc]
    have he : encF x' = encF x := by unfold encF; rw [hbl]
    rw [he]
    have hnd := h.map.nodup
    obtain ⟨j, hj⟩ := List.getElem?_of_mem (mget_mem hx)
    have hj2 : (menc encF es)[j]? = some (name, encF x) := by unfold menc; rw [List.getElem?_map, hj]; rfl
    rw [mset_at hnd hj2]
    apply List.ext_getElem?
    intro k
    rw [List.getElem?_set]
    split
    · rename_i e
      subst e
      have hlt := (List.getElem?_eq_some_iff.1 hj2).1
      rw [if_pos hlt, hj2]
    · rfl
  refine ⟨h.swap (old := [(name, x)]) (new := [(name, x')]) p1 p2 (fun e he => by simp at he; subst he; exact hx') (by simpa [fpF] using hx'.apart) hin' hf (fun i hi => ?_) hblk (by rw [hmp]; exact h.map.fr hf hmF) ?_ hset, hf.mono fun i hi _ => ?_, newFp_swap p1 p2 hin'⟩
  · rcases hF i hi with e | e
    · exact .inl e
    · exact .inr (.inr (.inl (by simpa [fpF] using e)))
  · rw [heq, h.eq, mset_menc]
  · rcases hF i hi with e | e
    · rw [e]; exact mem_p
    · exact mem_file (mget_mem hx) e
theorem fp_nodup {bl : Nat} {a b c : Option Nat} (h1 : ∀ g, a = some g → g ≠ bl) (h2 : ∀ g, b = some g → g ≠ bl) (h3 : ∀ g, c = some g → g ≠ bl) (h12 : ∀ g, a = some g → b ≠ some g) (h13 : ∀ g, a = some g → c ≠ some g) (h23 : ∀ g, b = some g → c ≠ some g) :
    (bl :: (a.toList ++ (b.toList ++ c.toList))).Nodup := by
  cases a <;> cases b <;> cases c <;> simp_all [eq_comm]
theorem fp_parts {x : FileM} (h : x.fp.Nodup) : (∀ g, x.vn.ownBlock = some g → g ≠ x.bl ∧ x.vs.ownBlock ≠ some g ∧ x.vo.ownBlock ≠ some g) ∧ (∀ g, x.vs.ownBlock = some g → g ≠ x.bl ∧ x.vo.ownBlock ≠ some g) ∧ (∀ g, x.vo.ownBlock = some g → g ≠ x.bl) := by
  unfold FileM.fp at h
  generalize x.vn.ownBlock = a at *
  generalize x.vs.ownBlock = b at *
  generalize x.vo.ownBlock = c at *
  cases a <;> cases b <;> cases c <;> simp_all [eq_comm]
/-- What is settled of a file is what it holds now, and nothing is open. -/
theorem put_sync {w w1 : World} {p m : Nat} {sb : Option Nat} {es : List (ByteArray × FileM)} {d : DiskT} {name : ByteArray} {x : FileM} {v1 : Value} (h : DiskAt w p m sb es d) (hx : mget es name = some x) (hP : CopyP w.drew 75 256 x.f.now.length (pagesC x.f.now) v1 w1) (hfw : FileAt w1 x) :
    OpL w p m sb es { d with files := mset d.files name ⟨x.f.now, x.f.now, []⟩ } sb (mset es name ⟨x.bl, x.vn, v1, .slice none 0 0, ⟨x.f.now, x.f.now, []⟩⟩) ((w1.setCell ⟨x.bl, 1, none⟩ v1).setCell ⟨x.bl, 2, none⟩ (.slice none 0 0)) := by
  have hb : Below w.heap.size w w1 := ⟨hP.below.os, hP.below.tape, hP.below.output, hP.below.size, hP.below.block⟩
  have hf1 : Fr [x.bl] w1 ((w1.setCell ⟨x.bl, 1, none⟩ v1).setCell ⟨x.bl, 2, none⟩ (.slice none 0 0)) := ((Fr.refl _ _).put x.bl 1 _ (.inl (by simp))).put x.bl 2 _ (.inl (by simp))
  have hf : Fr [x.bl] w ((w1.setCell ⟨x.bl, 1, none⟩ v1).setCell ⟨x.bl, 2, none⟩ (.slice none 0 0)) := (Fr.below hb).trans hf1 fun _ hi _ => hi
  have hxl := (h.files _ (mget_mem hx)).lt
  have hap := hfw.apart
  have hv1 : ∀ g, v1.ownBlock = some g → w.heap.size ≤ g := fun g hg => (World.ownsRow.lt hP.own g hg).1
  have hblk := setCell_heap (j := 2) (.slice none 0 0) (setCell_heap (j := 1) v1 hfw.blk)
  refine h.put (x' := ⟨x.bl, x.vn, v1, .slice none 0 0, ⟨x.f.now, x.f.now, []⟩⟩) hx rfl ⟨hblk, ?_, ?_, World.ownsRow_nil _ _ _ _, hfw.zn, hP.nil, fun _ => rfl, ?_⟩ ?_ hf (fun i hi => .inr (by simp at hi; subst hi; exact FileM.mem_fp.2 (.inl rfl))) ((hf.kept (by simpa using h.p_ne.2.2 _ (mget_mem hx) x.bl (FileM.mem_fp.2 (.inl rfl))) h.blk).trans rfl) rfl rfl
  · refine own_fr hfw.now hf1 fun g hg => by simpa using own_ne hfw.now (by decide) hfw.blk g hg
  · refine own_to (own_fr hP.own hf1 fun g hg => by simpa using own_ne hP.own (by decide) hfw.blk g hg) (Nat.zero_le _)
  · refine fp_nodup (fun g hg => ((fp_parts hap).1 g hg).1) (fun g hg => own_ne hP.own (by decide) hfw.blk g hg) (fun g hg => by cases hg) (fun g hg e => ?_) (fun g _ e => by cases e) (fun g _ e => by cases e)
    have h1 := hv1 g e
    have h2 := hxl g (FileM.mem_fp.2 (.inr (.inl hg)))
    omega
  · intro i hi
    rcases FileM.mem_fp.1 hi with e | e | e | e
    · exact .inl (FileM.mem_fp.2 (.inl e))
    · exact .inl (FileM.mem_fp.2 (.inr (.inl e)))
    · exact .inr (hv1 i e)
    · cases e
set_option maxRecDepth 100000 in
set_option maxHeartbeats 4000000 in
theorem sync1_any (p m bf : Nat) (sb : Option Nat) (es : List (ByteArray × FileM)) (d : DiskT) (name : ByteArray) (x : FileM) (w : World) (h : DiskAt w p m sb es d) (hi : Inv d) (hx : mget es name = some x) (hbN : bf ∉ fpD p m sb es) (hb : BoxF w bf x.bl) :
    Calls Try.prog 43 #[.pointer (some ⟨bf, 0, none⟩)] w (UnitP fun w' => ∃ es', OpL w p m sb es { d with files := mset d.files name ⟨x.f.now, x.f.now, []⟩ } sb es' w') := by
  have hgd : mget d.files name = some x.f := by rw [h.get, hx]; rfl
  have hle := hi.get_le hgd
  have hq := Nat.le_trans hi.within hi.quota
  have hfa := h.files _ (mget_mem hx)
  dsimp only at hfa
  have c0 : w.cell? ⟨bf, 0, none⟩ = some (.pointer (some ⟨x.bl, 0, none⟩)) := cell_of (j := 0) hb rfl
  obtain ⟨f0, f1, f2⟩ := hfa.cell
  have HC := Lib.hid (fun V (hV : w.heap = V.heap) => clone_pages x.f.now x.vn V (by omega) (show V.ownsRow 0 75 256 x.vn x.f.now.length (pagesC x.f.now) from ownsRow_block hfa.now fun g _ => by rw [hV]) hfa.zn)
  have HH := Lib.hid h
  have HX := Lib.hid hx
  have HFA := Lib.hid hfa
  have HB := Lib.hid hb
  have HBN := Lib.hid (show bf ≠ x.bl from fun e => hbN (mem_file (mget_mem hx) (FileM.mem_fp.2 (.inl e))))
  have HC0 := Lib.hid (HC.out w.drew rfl)
  clear h hx hfa hi hgd hb hbN
  go_enter Try.func43, Try.ntmps43
  go_wp2_with fail
  go_region_held3 (fun V => V.cell? ⟨bf, 0, none⟩ = some (.pointer (some ⟨x.bl, 0, none⟩)) ∧ V.cell? ⟨x.bl, 0, none⟩ = some x.vn)
    (first | exact ⟨c0, f0⟩ | exact ⟨g0, k0⟩ | exact ⟨cell_put g0 (.inl HBN.out), cell_put k0 (.inr (Nat.zero_ne_one))⟩ | exact ⟨cell_put (cell_put g0 (.inl HBN.out)) (.inl HBN.out), cell_put (cell_put k0 (.inr (Nat.zero_ne_one))) (.inr (Nat.ne_of_lt Nat.two_pos))⟩)
    (first
      | (go_at_call 33; (with_reducible refine HC0.out.mono ?_); rintro e w1 ⟨v1, rfl, hP⟩; obtain ⟨A1, q1, hv1, -, -⟩ := own_shape hP.own; subst hv1; have g0 := cell_below hP.below (show w.drew.cell? _ = _ from c0); have hfw := HFA.out.fr (Fr.below (F := []) (w := w) (w' := w1) ⟨hP.below.os, hP.below.tape, hP.below.output, hP.below.size, hP.below.block⟩) (by simp); obtain ⟨k0, k1, k2⟩ := hfw.cell; have z1 := hfw.free 1; have z2 := hfw.free 2; have HP := Lib.hid hP; have HFW := Lib.hid hfw; clear hP hfw))
  have HF := Lib.hid (put_sync HH.out HX.out HP.out HFW.out)
  go_wp2_with fail
  go_end0
  exact ⟨rfl, _, HF.out⟩
end Go.Proofs.Ytladknjmoahdoaa
