/- A file let go; what Remove does once its step happens. -/
import Derived.Test.YtikbphafpmdpeaaK4
import Derived.Test.YtikbphafpmdpeaaDiskI
set_option linter.all false
namespace Go.Proofs.Ytikbphafpmdpeaa
open Go.RowKit

theorem fpF_sub {l r : List (ByteArray × FileM)} (h : l.Sublist r) : (fpF l).Sublist (fpF r) := by
  induction h with
  | slnil => exact List.Sublist.slnil
  | cons e _ ih => rw [fpF_cons]; exact ih.trans (List.sublist_append_right ..)
  | cons_cons e _ ih => rw [fpF_cons, fpF_cons]; exact ih.append_left _
theorem DiskAt.drew {w : World} {p m : Nat} {sb : Option Nat} {es : List (ByteArray × FileM)} {d : DiskT} (h : DiskAt w p m sb es d) : DiskAt w.drew p m sb es d := h.fr (Fr.refl [] w).drew fun _ _ => by simp
theorem DiskAt.p_ne {w : World} {p m : Nat} {sb : Option Nat} {es : List (ByteArray × FileM)} {d : DiskT} (h : DiskAt w p m sb es d) : p ≠ m ∧ (∀ b, sb = some b → p ≠ b) ∧ (∀ e ∈ es, ∀ i ∈ e.2.fp, p ≠ i) := by
  have := h.apart
  simp only [fpD, List.cons_append, List.nodup_cons, List.mem_cons, List.mem_append, not_or, Option.mem_toList] at this
  exact ⟨this.1.1, fun b hb e => this.1.2.1 (by rw [e]; exact hb), fun e he i hi e2 => this.1.2.2 (List.mem_flatMap.2 ⟨e, he, by rw [e2]; exact hi⟩)⟩
theorem DiskAt.m_ne {w : World} {p m : Nat} {sb : Option Nat} {es : List (ByteArray × FileM)} {d : DiskT} (h : DiskAt w p m sb es d) : (∀ b, sb = some b → m ≠ b) ∧ (∀ e ∈ es, ∀ i ∈ e.2.fp, m ≠ i) := by
  have := h.apart
  simp only [fpD, List.cons_append, List.nodup_cons, List.mem_cons, List.mem_append, not_or, Option.mem_toList] at this
  exact ⟨fun b hb e => this.2.1.1 (by rw [e]; exact hb), fun e he i hi e2 => this.2.1.2 (List.mem_flatMap.2 ⟨e, he, by rw [e2]; exact hi⟩)⟩
/-- A store into the disk's own block. -/
theorem DiskAt.head {w : World} {p m j : Nat} {sb : Option Nat} {es : List (ByteArray × FileM)} {d d' : DiskT} (h : DiskAt w p m sb es d) (u : Value) (hc : (headC m sb d).setIfInBounds j u = headC m sb d') (hf : d'.files = d.files) (hs : d'.set = d.set) :
    DiskAt (w.setCell ⟨p, j, none⟩ u) p m sb es d' := by
  have hfr : Fr [p] w (w.setCell ⟨p, j, none⟩ u) := (Fr.refl _ w).put p j u (.inl (by simp))
  obtain ⟨h1, h2, h3⟩ := h.p_ne
  refine ⟨?_, h.map.fr hfr (by simpa using Ne.symm h1), fun e he => (h.files e he).fr hfr fun i hi => by simpa using Ne.symm (h3 e he i hi), by rw [hf]; exact h.eq, by rw [hs]; exact h.set.fr hfr fun b hb => by simpa using Ne.symm (h2 b hb), h.apart⟩
  rw [setCell_heap u h.blk, hc]
theorem DiskAt.setUsed {w : World} {p m : Nat} {sb : Option Nat} {es : List (ByteArray × FileM)} {d : DiskT} (h : DiskAt w p m sb es d) (n : Nat) : DiskAt (w.setCell ⟨p, 2, none⟩ (.int .i64 n)) p m sb es { d with used := n } := h.head (j := 2) _ rfl rfl rfl
theorem DiskAt.setSteps {w : World} {p m : Nat} {sb : Option Nat} {es : List (ByteArray × FileM)} {d : DiskT} (h : DiskAt w p m sb es d) (n : Nat) : DiskAt (w.setCell ⟨p, 3, none⟩ (.int .i64 n)) p m sb es { d with steps := n } := h.head (j := 3) _ rfl rfl rfl
theorem DiskAt.setNo {w : World} {p m : Nat} {sb : Option Nat} {es : List (ByteArray × FileM)} {d : DiskT} (h : DiskAt w p m sb es d) (n : Nat) : DiskAt (w.setCell ⟨p, 4, none⟩ (.int .i64 n)) p m sb es { d with no := n } := h.head (j := 4) _ rfl rfl rfl
theorem DiskAt.setOff {w : World} {p m : Nat} {sb : Option Nat} {es : List (ByteArray × FileM)} {d : DiskT} (h : DiskAt w p m sb es d) (b : Bool) : DiskAt (w.setCell ⟨p, 6, none⟩ (.bool b)) p m sb es { d with off := b } := h.head (j := 6) _ rfl rfl rfl
/-- A file is gone from the map. -/
theorem DiskAt.deleted {w w' : World} {p m : Nat} {sb : Option Nat} {es : List (ByteArray × FileM)} {d : DiskT} (h : DiskAt w p m sb es d) (name : ByteArray) (hm : SMap w' m (mdel (menc encF es) name)) (hg : w.grownBy w' (some m)) : DiskAt w' p m sb (mdel es name) { d with files := mdel d.files name } := by
  have hf : Fr [m] w w' := Fr.grown hg fun k hk _ => by injection hk with hk; simp [hk]
  have hsub : ∀ e ∈ mdel es name, e ∈ es := fun e he => (mdel_sub es name).subset he
  refine ⟨hf.kept (by simpa using h.p_ne.1) h.blk, by rw [← mdel_menc]; exact hm, fun e he => (h.files e (hsub e he)).fr hf fun i hi => by simpa using Ne.symm (h.m_ne.2 e (hsub e he) i hi), ?_, h.set.fr hf fun b hb => by simpa using Ne.symm (h.m_ne.1 b hb), ?_⟩
  · show mdel d.files name = _
    rw [h.eq, mdel_menc]
  · refine h.apart.sublist ?_
    exact (fpF_sub (mdel_sub es name)).append_left _
theorem fp_del {p m : Nat} {sb : Option Nat} {es : List (ByteArray × FileM)} {name : ByteArray} {N : Nat} : NewFp N (fpD p m sb es) (fpD p m sb (mdel es name)) := fun i hi => .inl (((fpF_sub (mdel_sub es name)).append_left _).subset hi)
set_option maxRecDepth 100000 in
set_option maxHeartbeats 4000000 in
theorem gone_any (p m : Nat) (sb : Option Nat) (es : List (ByteArray × FileM)) (d : DiskT) (name : ByteArray) (w : World) (h : DiskAt w p m sb es d) (hi : Inv d) :
    Calls Try.prog 56 #[.pointer (some ⟨p, 0, none⟩), .string name] w (UnitP (OpL w p m sb es (goneD d name) sb (mdel es name))) := by
  have hl := look_files h name true
  simp only [if_true] at hl
  rw [mget_menc] at hl
  obtain ⟨c0, -, c2, -⟩ := h.cell
  cases hg : mget es name with
  | none =>
    rw [hg] at hl
    simp only [Option.map_none, Option.getD_none, Option.isSome_none] at hl
    have hr : goneD d name = d := by unfold goneD; rw [h.get, hg]; rfl
    rw [hr, mdel_of_none hg]
    have HF := Lib.hid (show OpL w p m sb es d sb es w from ⟨h, Fr.refl _ _, NewFp.refl _ _⟩)
    clear hr hg h hi c2
    go_enter Try.func56, Try.ntmps56
    go_wp2_with fail
    go_end0
    exact ⟨rfl, HF.out⟩
  | some x =>
    rw [hg] at hl
    simp only [Option.map_some, Option.getD_some, Option.isSome_some, encF] at hl
    have hgd : mget d.files name = some x.f := by rw [h.get, hg]; rfl
    have hr : goneD d name = { d with used := d.used - x.f.now.length, files := mdel d.files name } := by unfold goneD; rw [hgd]
    rw [hr]
    have hle := hi.get_le hgd
    have hq := Nat.le_trans hi.within hi.quota
    have hfa := h.files _ (mget_mem hg)
    obtain ⟨A, c, hv, -, -⟩ := own_shape hfa.now
    obtain ⟨f0, -, -⟩ := hfa.cell
    dsimp only at hv f0
    rw [hv] at f0
    obtain ⟨n, hn⟩ : ∃ n, x.f.now.length = n := ⟨_, rfl⟩
    rw [hn] at f0 hle
    have e1 : ((d.used - n : Nat) : Int) = (d.used : Int) - n := by omega
    have hd1 : DiskAt ((w.setCell ⟨p, 2, none⟩ (.int .i64 ((d.used : Int) - n))).drew) p m sb es { d with used := d.used - n } := by rw [← e1]; exact (h.setUsed (d.used - n)).drew
    have hf1 : Fr [p] w ((w.setCell ⟨p, 2, none⟩ (.int .i64 ((d.used : Int) - n))).drew) := ((Fr.refl [p] w).put p 2 _ (.inl (by simp))).drew
    obtain ⟨w2, hdel, hm2, hg2⟩ := hd1.map.del Try.underlying56 Try.underlying9 name 0
    have hd2 := hd1.deleted name hm2 hg2
    have hfin : OpL w p m sb es { d with used := d.used - n, files := mdel d.files name } sb (mdel es name) w2 :=
      ⟨hd2, (hf1.mono fun i hi _ => by simp at hi; subst hi; exact mem_p).trans (Fr.grown (F := [m]) hg2 fun k hk _ => by injection hk with hk; simp [hk]) (fun i hi _ => by simp at hi; subst hi; exact mem_m), fp_del⟩
    have HF := Lib.hid hfin
    have hfz := h.free 2
    obtain ⟨k0, -⟩ := hd1.cell
    rw [hn]
    clear hfin hd2 hm2 hg2 hf1 hd1 hn hr hg hgd hv hfa h hi
    have b1 : (0 : Int) ≤ (d.used : Int) - n := by omega
    have b2 : (d.used : Int) - n < 9223372036854775808 := by omega
    have hw : IntKind.i64.wrap ((d.used : Int) - n) = (d.used : Int) - n := IntWalk.i64_in _ (by omega)
    clear e1
    go_enter Try.func56, Try.ntmps56
    go_wp2_with fail
    go_region
    all_goals
      go_wp2_with fail
      go_end0
      exact ⟨rfl, HF.out⟩
set_option maxRecDepth 100000 in
theorem remove1_any (p m bd bn : Nat) (sb : Option Nat) (es : List (ByteArray × FileM)) (d : DiskT) (name : ByteArray) (w : World) (h : DiskAt w p m sb es d) (hi : Inv d) (hd : BoxP w bd p) (hn : BoxS w bn name) :
    Calls Try.prog 55 #[.pointer (some ⟨bd, 0, none⟩), .pointer (some ⟨bn, 0, none⟩)] w (UnitP fun w' => ∃ es', OpL w p m sb es (goneD d name) sb es' w') := by
  have c1 : w.cell? ⟨bd, 0, none⟩ = some (.pointer (some ⟨p, 0, none⟩)) := cell_of (j := 0) hd rfl
  have c2 : w.cell? ⟨bn, 0, none⟩ = some (.string name) := cell_of (j := 0) hn rfl
  have HG := Lib.hid (gone_any p m sb es d name w h hi)
  clear h hi hd hn
  go_enter Try.func55, Try.ntmps55
  go_wp2_with fail
  refine HG.out.mono ?_
  rintro e w' ⟨rfl, hP⟩
  have HP := Lib.hid hP
  clear hP
  go_wp2_with fail
  go_end0
  exact ⟨rfl, _, HP.out⟩
end Go.Proofs.Ytikbphafpmdpeaa
