/- Copy. -/
import Derived.Test.YtikbphafpmdpeaaK16
import Derived.Laws.EntriesVeiled
set_option linter.all false
namespace Go.Proofs.Ytikbphafpmdpeaa
open Go.RowKit

set_option maxRecDepth 100000 in
set_option maxHeartbeats 16000000 in
theorem copy_any (p m : Nat) (sb : Option Nat) (es : List (ByteArray × FileM)) (d : DiskT) (w : World) (h : DiskAt w p m sb es d) (hi : Inv d) (hst : d.steps ≤ 4000000000) :
    Calls Try.prog 19 #[.pointer (some ⟨p, 0, none⟩)] w (CopyDP w d) := by
  have hmm := @run_makeMap Try.prog
  obtain ⟨c0, c1, c2, c3, c4, c5, c6⟩ := h.cell
  have HH := Lib.hid h
  have HI := Lib.hid hi
  unfold setV at c5
  obtain ⟨sv, hsv⟩ : ∃ sv : Option Addr, sb.map (fun b => (⟨b, 0, none⟩ : Addr)) = sv := ⟨_, rfl⟩
  rw [hsv] at c5
  have HSV := Lib.hid hsv
  obtain ⟨qu, hqu⟩ : ∃ qu : Int, (d.quota : Int) = qu := ⟨_, rfl⟩
  obtain ⟨us, hus⟩ : ∃ us : Int, (d.used : Int) = us := ⟨_, rfl⟩
  obtain ⟨ss, hss⟩ : ∃ ss : Int, (d.steps : Int) = ss := ⟨_, rfl⟩
  obtain ⟨nn, hnn⟩ : ∃ nn : Int, (d.no : Int) = nn := ⟨_, rfl⟩
  rw [hqu] at c1
  rw [hus] at c2
  rw [hss] at c3
  rw [hnn] at c4
  have HQ := Lib.hid (And.intro hqu (And.intro hus (And.intro hss hnn)))
  clear h hi hsv hqu hus hss hnn
  have e0 := fun o1 o2 => ((HH.out.alloc o1).alloc o2).cell.1
  have eM := fun o1 o2 => SMap.fr HH.out.map (Fr.below (F := []) (two_below w o1 o2)) (by simp)
  have HW := Lib.hid (two_below w (.cells #[.map (some (w.heap.size + 1)), .int .i64 qu, .int .i64 us, .int .i64 ss, .int .i64 nn, .pointer sv, .bool d.off] 59) (.map #[] 0))
  have HQB := Lib.hid (first_of_two w (.cells #[.map (some (w.heap.size + 1)), .int .i64 qu, .int .i64 us, .int .i64 ss, .int .i64 nn, .pointer sv, .bool d.off] 59) (.map #[] 0))
  have HMB := Lib.hid (show SMap ((w.alloc (.cells #[.map (some (w.heap.size + 1)), .int .i64 qu, .int .i64 us, .int .i64 ss, .int .i64 nn, .pointer sv, .bool d.off] 59)).alloc (.map #[] 0)) (w.heap.size + 1) [] by have := SMap.made (w.alloc (.cells #[.map (some (w.heap.size + 1)), .int .i64 qu, .int .i64 us, .int .i64 ss, .int .i64 nn, .pointer sv, .bool d.off] 59)); rwa [show (w.alloc (.cells #[.map (some (w.heap.size + 1)), .int .i64 qu, .int .i64 us, .int .i64 ss, .int .i64 nn, .pointer sv, .bool d.off] 59)).heap.size = w.heap.size + 1 by simp] at this)
  have HSZ := Lib.hid (show ((w.alloc (.cells #[.map (some (w.heap.size + 1)), .int .i64 qu, .int .i64 us, .int .i64 ss, .int .i64 nn, .pointer sv, .bool d.off] 59)).alloc (.map #[] 0)).heap.size = w.heap.size + 1 + 1 by simp)
  go_enter Try.func19, Try.ntmps19
  go_wp2_with (at_range; refine wpList_srange _ rfl _ _ rfl 9 66 Try.underlying56 m _ rfl (eM _ _) ?_; intro w1 hrg hg hsz; go_frame)
  clear e0 eM c0 c1 c2 c3 c4 c5 c6
  generalize (w.alloc (.cells #[.map (some (w.heap.size + 1)), .int .i64 qu, .int .i64 us, .int .i64 ss, .int .i64 nn, .pointer sv, .bool d.off] 59)).alloc (.map #[] 0) = W at *
  have hb1 : Below W.heap.size W w1 := (Below.refl _ _).grown hg (Nat.le_refl _) (by intro k hk; cases hk)
  have HB1 := Lib.hid (HW.out.trans (hb1.mono HW.out.size))
  have HRG := Lib.hid hrg
  have HU0 := Lib.hid (show Under w1 w.heap.size (w.heap.size + 1) (w.heap.size + 1 + 1 + 1) [] from ⟨SMap.fr HMB.out (Fr.below (F := []) hb1) (by simp), fun e he => absurd he (by simp), by simp [fpF], by simp [fpF]⟩)
  have HQ1 := Lib.hid ((hb1.block _ (lt_of_block HQB.out)).trans HQB.out)
  have hr := HSZ.out
  have HSZ1 := Lib.hid (show w1.heap.size = w.heap.size + 1 + 1 + 1 by rw [hsz, HSZ.out])
  generalize W.heap.size = r at *
  subst hr
  clear hrg hg hsz hb1
  go_loopg [4] es.length (fun k _ wr => ∃ (dn td es2 : List (ByteArray × FileM)), k = td.length ∧ es.Perm (dn ++ td) ∧ SRange wr m (w.heap.size + 1 + 1) (menc encP (menc FileM.bl es)) (menc encP (menc FileM.bl td)) ∧ Under wr w.heap.size (w.heap.size + 1) (w.heap.size + 1 + 1 + 1) es2 ∧ menc FileM.f es2 = menc FileM.f dn ∧ Below w.heap.size w wr ∧ wr.heap[w.heap.size]? = some (.cells #[.map (some (w.heap.size + 1)), .int .i64 qu, .int .i64 us, .int .i64 ss, .int .i64 nn, .pointer sv, .bool d.off] 59) ∧ w.heap.size + 1 + 1 + 1 ≤ wr.heap.size)
  case atStart =>
    refine ⟨[], es, [], rfl, by simp, ?_, HU0.out, rfl, HB1.out, HQ1.out, Nat.le_of_eq HSZ1.out.symm⟩
    rw [← encF_bl]
    exact HRG.out
  case round =>
    obtain ⟨dn, td, es2, hk, hperm, hrg, hun, hfs, hbr, hqb, hsz⟩ := hrel
    have HKM := Lib.hid hk
    have HP := Lib.hid hperm
    have HRG2 := Lib.hid hrg
    have HUN := Lib.hid hun
    have HFS := Lib.hid hfs
    have HBR := Lib.hid hbr
    have HQB2 := Lib.hid hqb
    have HSZ2 := Lib.hid hsz
    clear hk hperm hrg hun hfs hbr hqb hsz HRG HU0 HB1 HQ1 HSZ1
    go_wp2_with (at_next; refine wpList_snext _ encP encP_inj rfl _ rfl m (w.heap.size + 1 + 1) _ (menc FileM.bl td) rfl HRG2.out ?_ ?_)
    · intro htd
      have htd0 : td = [] := by unfold menc at htd; exact List.map_eq_nil_iff.1 htd
      have hpd : es.Perm dn := by have := HP.out; rw [htd0, List.append_nil] at this; exact this
      have HPD := Lib.hid hpd
      have hsrc := HH.out.below HBR.out
      obtain ⟨-, -, -, -, -, s5, -⟩ := hsrc.cell
      have HSR := Lib.hid hsrc
      obtain ⟨e1, e2, e3, e4⟩ := HQ.out
      have HQE := Lib.hid (show (#[.map (some (w.heap.size + 1)), .int .i64 qu, .int .i64 us, .int .i64 ss, .int .i64 nn, .pointer sv, .bool d.off] : Array Value) = headC (w.heap.size + 1) sb d by unfold headC setV; rw [e1, e2, e3, e4, HSV.out])
      unfold setV at s5
      rw [HSV.out] at s5
      clear htd htd0 hpd hsrc e1 e2 e3 e4 HRG2
      rcases sb with _ | b
      · have hsv := HSV.out
        have hsv' : sv = none := hsv.symm
        subst hsv'
        have hset : d.set = none := by
          have := HH.out.set
          cases hs : d.set with
          | none => rfl
          | some q => rw [hs] at this; exact this.elim
        have HF := Lib.hid (copy_end (w := w) (sb := none) rfl HUN.out (by omega) HFS.out HPD.out HH.out.eq hset (trivial : SetAt wr none none) (fun b hb => by cases hb) (by rw [← HQE.out]; exact HQB2.out) HBR.out)
        clear hsv hset
        go_wp2_with fail
        go_ret
        exact HF.out
      · have hsv := HSV.out
        have hsv' : sv = some ⟨b, 0, none⟩ := hsv.symm
        subst hsv'
        cases hs : d.set with
        | none => have := HH.out.set; rw [hs] at this; exact this.elim
        | some ik =>
          obtain ⟨ii, kk⟩ := ik
          have hsb := HSR.out.set
          rw [hs] at hsb
          have hsb' : wr.heap[b]? = some (.cells #[.int .i64 ii, .int .u64 kk] 80) := hsb
          have k0 : wr.cell? ⟨b, 0, none⟩ = some (.int .i64 ii) := cell_of (j := 0) hsb' rfl
          have k1 : wr.cell? ⟨b, 1, none⟩ = some (.int .u64 kk) := cell_of (j := 1) hsb' rfl
          have hb5 := one_below wr (.cells #[.int .i64 ii, .int .u64 kk] 80)
          have hq5 : (wr.alloc (.cells #[.int .i64 ii, .int .u64 kk] 80)).heap[w.heap.size]? = some (.cells #[.map (some (w.heap.size + 1)), .int .i64 qu, .int .i64 us, .int .i64 ss, .int .i64 nn, .pointer (some ⟨b, 0, none⟩), .bool d.off] 59) := (hb5.block _ (lt_of_block HQB2.out)).trans HQB2.out
          have q5 := fun o => cell_below (one_below wr o) (show wr.cell? ⟨w.heap.size, 5, none⟩ = some (.pointer (some ⟨b, 0, none⟩)) from cell_of (j := 5) HQB2.out rfl)
          have q5f := fun o => free_of ((one_below wr o).block _ (lt_of_block HQB2.out) |>.trans HQB2.out) 5
          have hf5 : Fr [w.heap.size] wr ((wr.alloc (.cells #[.int .i64 ii, .int .u64 kk] 80)).setCell ⟨w.heap.size, 5, none⟩ (.pointer (some ⟨wr.heap.size, 0, none⟩))) := (Fr.below hb5).put w.heap.size 5 _ (.inl (by simp))
          have hf6 : Fr [w.heap.size] (wr.alloc (.cells #[.int .i64 ii, .int .u64 kk] 80)) ((wr.alloc (.cells #[.int .i64 ii, .int .u64 kk] 80)).setCell ⟨w.heap.size, 5, none⟩ (.pointer (some ⟨wr.heap.size, 0, none⟩))) := (Fr.refl _ _).put w.heap.size 5 _ (.inl (by simp))
          have hu5 : Under ((wr.alloc (.cells #[.int .i64 ii, .int .u64 kk] 80)).setCell ⟨w.heap.size, 5, none⟩ (.pointer (some ⟨wr.heap.size, 0, none⟩))) w.heap.size (w.heap.size + 1) (w.heap.size + 1 + 1 + 1) es2 :=
            ⟨HUN.out.map.fr hf5 (fun hi => by have := List.mem_singleton.1 hi; omega), fun e he => (HUN.out.files e he).fr hf5 fun i hi hi2 => (by
              have h1 := HUN.out.lo i (List.mem_flatMap.2 ⟨e, he, hi⟩)
              have h2 := List.mem_singleton.1 hi2
              omega), HUN.out.apart, HUN.out.lo⟩
          have hfin := copy_end (w := w) (sb := some wr.heap.size) rfl hu5 (by omega) HFS.out HPD.out HH.out.eq hs
            (show SetAt _ (some wr.heap.size) (some (ii, kk)) from hf6.kept (fun hi => by have h1 := List.mem_singleton.1 hi; have h2 := HSZ2.out; omega) (Go.heap_alloc_new wr _))
            (fun b hb => by injection hb with hb; subst hb; exact ⟨HSZ2.out, fun hi => absurd (HUN.out.lt _ hi) (Nat.lt_irrefl _)⟩)
            (by
              rw [setCell_heap _ hq5, HQE.out]
              rfl)
            (HBR.out.trans (hf5.toBelowOf HBR.out.size (fun i hi => by have := List.mem_singleton.1 hi; omega)))
          have HF := Lib.hid hfin
          clear hfin hu5 hf6 hf5 hq5 hb5 hsb hsb' hsv hs
          go_wp2_with fail
          go_ret
          exact HF.out
    · intro key b td' w2 hp hrg2 hg2 hsz2 hen
      obtain ⟨x, tx, hpx, hxb, htx⟩ := next_file hp
      subst hxb htx
      have hen' : (Instr.entry (.pointer (some ⟨w.heap.size + 1 + 1, 0, none⟩))).run Try.prog w2 = .ok (.tuple #[.string key, .pointer (some ⟨x.bl, 0, none⟩)]) w2 := hen
      have hxe : (key, x) ∈ es := HP.out.mem_iff.2 (List.mem_append_right _ (hpx.mem_iff.2 (List.mem_cons_self ..)))
      have hfw := HH.out.files _ hxe
      dsimp only at hfw
      have hb2 : Below w.heap.size w w2 := HBR.out.grown hg2 HBR.out.size (by intro k hk; injection hk with hk; omega)
      have HFA := Lib.hid (hfw.fr (Fr.below (F := []) hb2) (by simp))
      have HB2 := Lib.hid hb2
      have HX := Lib.hid hxe
      have HPX := Lib.hid hpx
      have HRG3 := Lib.hid hrg2
      have hq2 : w2.heap[w.heap.size]? = some (.cells #[.map (some (w.heap.size + 1)), .int .i64 qu, .int .i64 us, .int .i64 ss, .int .i64 nn, .pointer sv, .bool d.off] 59) := (hg2.block _ (lt_of_block HQB2.out) (fun e => by injection e with e; omega)).trans HQB2.out
      have HQ2 := Lib.hid hq2
      have hf2 : Fr [w.heap.size + 1 + 1] wr w2 := Fr.grown hg2 fun k hk _ => by injection hk with hk; simp [hk]
      have HU2 := Lib.hid (show Under w2 w.heap.size (w.heap.size + 1) (w.heap.size + 1 + 1 + 1) es2 from ⟨HUN.out.map.fr hf2 (fun hi => by have := List.mem_singleton.1 hi; omega), fun e he => (HUN.out.files e he).fr hf2 fun i hi => (by have := HUN.out.lo i (List.mem_flatMap.2 ⟨e, he, hi⟩); simp; omega), HUN.out.apart, HUN.out.lo⟩)
      have HSZ3 := Lib.hid (show w.heap.size + 1 + 1 + 1 ≤ w2.heap.size by rw [hsz2]; exact HSZ2.out)
      clear hen hp hrg2 hg2 hsz2 hpx hxe hfw hb2 hq2 hf2 HRG2 HUN HBR HQB2 HSZ2
      have SC := Lib.hid (fun V (hV : Below w2.heap.size w2 V) => (show V.cell? ⟨w.heap.size, 0, none⟩ = some (.map (some (w.heap.size + 1))) ∧ V.cell? ⟨x.bl, 0, none⟩ = some x.vn ∧ V.cell? ⟨x.bl, 1, none⟩ = some x.vs ∧ V.cell? ⟨x.bl, 2, none⟩ = some x.vo from
        ⟨cell_below hV (cell_of (j := 0) HQ2.out rfl), cell_below hV HFA.out.cell.1, cell_below hV HFA.out.cell.2.1, cell_below hV HFA.out.cell.2.2⟩))
      have hgd : mget d.files key = some x.f := by
        have hnd := HI.out.nodup
        have : (key, x.f) ∈ d.files := by rw [HH.out.eq]; exact List.mem_map.2 ⟨(key, x), HX.out, rfl⟩
        exact mget_of_mem hnd this
      have n1 := HI.out.get_le hgd
      have n2 := HI.out.settled_le hgd
      have n3 := HI.out.file_opens hgd
      have n4 := HI.out.within
      have n5 := HI.out.quota
      have n6 := HI.out.no
      have HC1 := Lib.hid (fun V (hV : Below w2.heap.size w2 V) => clone_pages x.f.now x.vn V (by omega) (own_below HFA.out.now hV) HFA.out.zn)
      have HC2 := Lib.hid (fun V (hV : Below w2.heap.size w2 V) => clone_pages x.f.settled x.vs V (by omega) (own_below HFA.out.settled hV) HFA.out.zs)
      have HC3 := Lib.hid (fun V (hV : Below w2.heap.size w2 V) => clone_writes x.f.opens x.vo V (by omega) (own_below HFA.out.opens hV) HFA.out.zo)
      clear hgd n1 n2 n3 n4 n5 n6
      go_wp2_with fail
      refine wp_region_noPanic ?_
      refine wp_region_any (by kernel_rfl) (anyG_any (S := fun V : World => Below w2.heap.size w2 V) (n := 22) _ _ _ _ ?_)
      have hS : Below w2.heap.size w2 w2.drew := (Below.refl _ _).drew
      change AnyG _ _ _ _ _ _ 23 (Array.replicate 23 false) _ w2.drew
      refine anyG_take (i := 0) (oi := ⟨_, _, _, _, _, _⟩) (v := ?_) rfl rfl (by kernel_rfl) (by kernel_rfl) (by kernel_rfl) (by kernel_rfl) (by kernel_rfl) (fun _ _ _ h => h) (Or.inl ⟨by rfl, ?_⟩) hS ?_
      rotate_left
      · (intro w' hSw; obtain ⟨s1, s2, s3, s4⟩ := SC.out _ hSw; go_simp; (try with_reducible rfl))
      try simp only [Act.put, List.setIfInBounds_toArray, List.set_cons_zero, List.set_cons_succ]
      refine anyG_take (i := 1) (oi := ⟨_, _, _, _, _, _⟩) (v := ?_) rfl rfl (by kernel_rfl) (by kernel_rfl) (by kernel_rfl) (by kernel_rfl) (by kernel_rfl) (fun _ _ _ h => h) (Or.inl ⟨by rfl, ?_⟩) hS ?_
      rotate_left
      · (intro w' hSw; obtain ⟨s1, s2, s3, s4⟩ := SC.out _ hSw; go_simp; (try with_reducible rfl))
      try simp only [Act.put, List.setIfInBounds_toArray, List.set_cons_zero, List.set_cons_succ]
      refine anyG_take (i := 2) (oi := ⟨_, _, _, _, _, _⟩) (v := ?_) rfl rfl (by kernel_rfl) (by kernel_rfl) (by kernel_rfl) (by kernel_rfl) (by kernel_rfl) (fun _ _ _ h => h) (Or.inl ⟨by rfl, ?_⟩) hS ?_
      rotate_left
      · (intro w' hSw; obtain ⟨s1, s2, s3, s4⟩ := SC.out _ hSw; go_simp; (try with_reducible rfl))
      try simp only [Act.put, List.setIfInBounds_toArray, List.set_cons_zero, List.set_cons_succ]
      refine anyG_take (i := 3) (oi := ⟨_, _, _, _, _, _⟩) (v := ?_) rfl rfl (by kernel_rfl) (by kernel_rfl) (by kernel_rfl) (by kernel_rfl) (by kernel_rfl) (fun _ _ _ h => h) (Or.inl ⟨by rfl, ?_⟩) hS ?_
      rotate_left
      · (intro w' hSw; obtain ⟨s1, s2, s3, s4⟩ := SC.out _ hSw; go_simp; (try with_reducible rfl))
      try simp only [Act.put, List.setIfInBounds_toArray, List.set_cons_zero, List.set_cons_succ]
      refine anyG_take (i := 4) (oi := ⟨_, _, _, _, _, _⟩) (v := ?_) rfl rfl (by kernel_rfl) (by kernel_rfl) (by kernel_rfl) (by kernel_rfl) (by kernel_rfl) (fun _ _ _ h => h) (Or.inl ⟨by rfl, ?_⟩) hS ?_
      rotate_left
      · (intro w' hSw; obtain ⟨s1, s2, s3, s4⟩ := SC.out _ hSw; go_simp; (try with_reducible rfl))
      try simp only [Act.put, List.setIfInBounds_toArray, List.set_cons_zero, List.set_cons_succ]
      refine anyG_take (i := 5) (oi := ⟨_, _, _, _, _, _⟩) (v := ?_) rfl rfl (by kernel_rfl) (by kernel_rfl) (by kernel_rfl) (by kernel_rfl) (by kernel_rfl) (fun _ _ _ h => h) (Or.inl ⟨by rfl, ?_⟩) hS ?_
      rotate_left
      · (intro w' hSw; obtain ⟨s1, s2, s3, s4⟩ := SC.out _ hSw; go_simp; (try with_reducible rfl))
      try simp only [Act.put, List.setIfInBounds_toArray, List.set_cons_zero, List.set_cons_succ]
      refine anyG_take (i := 6) (oi := ⟨_, _, _, _, _, _⟩) (v := ?_) rfl rfl (by kernel_rfl) (by kernel_rfl) (by kernel_rfl) (by kernel_rfl) (by kernel_rfl) (fun _ _ _ h => h) (Or.inl ⟨by rfl, ?_⟩) hS ?_
      rotate_left
      · (intro w' hSw; obtain ⟨s1, s2, s3, s4⟩ := SC.out _ hSw; go_simp; (try with_reducible rfl))
      try simp only [Act.put, List.setIfInBounds_toArray, List.set_cons_zero, List.set_cons_succ]
      refine anyG_take (i := 7) (oi := ⟨_, _, _, _, _, _⟩) (v := ?_) rfl rfl (by kernel_rfl) (by kernel_rfl) (by kernel_rfl) (by kernel_rfl) (by kernel_rfl) (fun _ _ _ h => h) (Or.inl ⟨by rfl, ?_⟩) hS ?_
      rotate_left
      · (intro w' hSw; obtain ⟨s1, s2, s3, s4⟩ := SC.out _ hSw; go_simp; (try with_reducible rfl))
      try simp only [Act.put, List.setIfInBounds_toArray, List.set_cons_zero, List.set_cons_succ]
      refine anyG_take (i := 10) (oi := ⟨_, _, _, _, _, _⟩) (v := ?_) rfl rfl (by kernel_rfl) (by kernel_rfl) (by kernel_rfl) (by kernel_rfl) (by kernel_rfl) (fun _ _ _ h => h) (Or.inl ⟨by rfl, ?_⟩) hS ?_
      rotate_left
      · (intro w' hSw; obtain ⟨s1, s2, s3, s4⟩ := SC.out _ hSw; go_simp; (try with_reducible rfl))
      try simp only [Act.put, List.setIfInBounds_toArray, List.set_cons_zero, List.set_cons_succ]
      refine anyG_take (i := 11) (oi := ⟨_, _, _, _, _, _⟩) (v := ?_) rfl rfl (by kernel_rfl) (by kernel_rfl) (by kernel_rfl) (by kernel_rfl) (by kernel_rfl) (fun _ _ _ h => h) (Or.inl ⟨by rfl, ?_⟩) hS ?_
      rotate_left
      · (intro w' hSw; obtain ⟨s1, s2, s3, s4⟩ := SC.out _ hSw; go_simp; (try with_reducible rfl))
      try simp only [Act.put, List.setIfInBounds_toArray, List.set_cons_zero, List.set_cons_succ]
      refine anyG_take (i := 12) (oi := ⟨_, _, _, _, _, _⟩) (v := ?_) rfl rfl (by kernel_rfl) (by kernel_rfl) (by kernel_rfl) (by kernel_rfl) (by kernel_rfl) (fun _ _ _ h => h) (Or.inl ⟨by rfl, ?_⟩) hS ?_
      rotate_left
      · (intro w' hSw; obtain ⟨s1, s2, s3, s4⟩ := SC.out _ hSw; go_simp; (try with_reducible rfl))
      try simp only [Act.put, List.setIfInBounds_toArray, List.set_cons_zero, List.set_cons_succ]
      refine anyG_take (i := 13) (oi := ⟨_, _, _, _, _, _⟩) (v := ?_) rfl rfl (by kernel_rfl) (by kernel_rfl) (by kernel_rfl) (by kernel_rfl) (by kernel_rfl) (fun _ _ _ h => h) (Or.inl ⟨by rfl, ?_⟩) hS ?_
      rotate_left
      · (intro w' hSw; obtain ⟨s1, s2, s3, s4⟩ := SC.out _ hSw; go_simp; (try with_reducible rfl))
      try simp only [Act.put, List.setIfInBounds_toArray, List.set_cons_zero, List.set_cons_succ]
      refine anyG_take (i := 15) (oi := ⟨_, _, _, _, _, _⟩) (v := ?_) rfl rfl (by kernel_rfl) (by kernel_rfl) (by kernel_rfl) (by kernel_rfl) (by kernel_rfl) (fun _ _ _ h => h) (Or.inl ⟨by rfl, ?_⟩) hS ?_
      rotate_left
      · (intro w' hSw; obtain ⟨s1, s2, s3, s4⟩ := SC.out _ hSw; go_simp; (try with_reducible rfl))
      try simp only [Act.put, List.setIfInBounds_toArray, List.set_cons_zero, List.set_cons_succ]
      refine anyG_take (i := 16) (oi := ⟨_, _, _, _, _, _⟩) (v := ?_) rfl rfl (by kernel_rfl) (by kernel_rfl) (by kernel_rfl) (by kernel_rfl) (by kernel_rfl) (fun _ _ _ h => h) (Or.inl ⟨by rfl, ?_⟩) hS ?_
      rotate_left
      · (intro w' hSw; obtain ⟨s1, s2, s3, s4⟩ := SC.out _ hSw; go_simp; (try with_reducible rfl))
      try simp only [Act.put, List.setIfInBounds_toArray, List.set_cons_zero, List.set_cons_succ]
      refine anyG_take (i := 17) (oi := ⟨_, _, _, _, _, _⟩) (v := ?_) rfl rfl (by kernel_rfl) (by kernel_rfl) (by kernel_rfl) (by kernel_rfl) (by kernel_rfl) (fun _ _ _ h => h) (Or.inl ⟨by rfl, ?_⟩) hS ?_
      rotate_left
      · (intro w' hSw; obtain ⟨s1, s2, s3, s4⟩ := SC.out _ hSw; go_simp; (try with_reducible rfl))
      try simp only [Act.put, List.setIfInBounds_toArray, List.set_cons_zero, List.set_cons_succ]
      refine anyG_take (i := 18) (oi := ⟨_, _, _, _, _, _⟩) (v := ?_) rfl rfl (by kernel_rfl) (by kernel_rfl) (by kernel_rfl) (by kernel_rfl) (by kernel_rfl) (fun _ _ _ h => h) (Or.inl ⟨by rfl, ?_⟩) hS ?_
      rotate_left
      · (intro w' hSw; obtain ⟨s1, s2, s3, s4⟩ := SC.out _ hSw; go_simp; (try with_reducible rfl))
      try simp only [Act.put, List.setIfInBounds_toArray, List.set_cons_zero, List.set_cons_succ]
      refine anyG_all (rs := [8]) (by kernel_rfl) (by simp) (List.forall_mem_singleton.2 ?_)
      refine wpOp_step (o := ⟨_, _, _, _, _, _⟩) rfl (fun K' hK => ?_)
      have HK := Lib.hid hK
      clear hK
      rw [if_pos (by rfl)]
      go_simp
      refine Calls.mono (HC1.out _ hS) ?_
      rintro e V1 ⟨v1, rfl, hP⟩
      obtain ⟨A8, k8, hv, -, -⟩ := own_shape hP.own
      subst hv
      have hS := hS.trans (hP.below.mono hS.size)
      have HP8 := Lib.hid hP
      clear hP
      go_wp2_with fail
      refine HK.out _ _ ⟨fun _ => hS, ?_⟩
      clear HK
      try simp only [Act.put, List.setIfInBounds_toArray, List.set_cons_zero, List.set_cons_succ]
      refine anyG_take (i := 9) (oi := ⟨_, _, _, _, _, _⟩) (v := ?_) rfl rfl (by kernel_rfl) (by kernel_rfl) (by kernel_rfl) (by kernel_rfl) (by kernel_rfl) (fun _ _ _ h => h) (Or.inl ⟨by rfl, ?_⟩) hS ?_
      rotate_left
      · (intro w' hSw; skip; go_simp; (try with_reducible rfl))
      try simp only [Act.put, List.setIfInBounds_toArray, List.set_cons_zero, List.set_cons_succ]
      refine anyG_all (rs := [14]) (by kernel_rfl) (by simp) (List.forall_mem_singleton.2 ?_)
      refine wpOp_step (o := ⟨_, _, _, _, _, _⟩) rfl (fun K' hK => ?_)
      have HK := Lib.hid hK
      clear hK
      rw [if_pos (by rfl)]
      go_simp
      refine Calls.mono (HC2.out _ hS) ?_
      rintro e V2 ⟨v2, rfl, hP⟩
      obtain ⟨A14, k14, hv, -, -⟩ := own_shape hP.own
      subst hv
      have hS := hS.trans (hP.below.mono hS.size)
      have HP14 := Lib.hid hP
      clear hP
      go_wp2_with fail
      refine HK.out _ _ ⟨fun _ => hS, ?_⟩
      clear HK
      try simp only [Act.put, List.setIfInBounds_toArray, List.set_cons_zero, List.set_cons_succ]
      refine anyG_all (rs := [19]) (by kernel_rfl) (by simp) (List.forall_mem_singleton.2 ?_)
      refine wpOp_step (o := ⟨_, _, _, _, _, _⟩) rfl (fun K' hK => ?_)
      have HK := Lib.hid hK
      clear hK
      rw [if_pos (by rfl)]
      go_simp
      refine Calls.mono (HC3.out _ hS) ?_
      rintro e V3 ⟨v3, rfl, hP⟩
      obtain ⟨A19, k19, hv, -, -⟩ := own_shape hP.own
      subst hv
      have hS := hS.trans (hP.below.mono hS.size)
      have HP19 := Lib.hid hP
      clear hP
      go_wp2_with fail
      refine HK.out _ _ ⟨fun _ => hS, ?_⟩
      clear HK
      try simp only [Act.put, List.setIfInBounds_toArray, List.set_cons_zero, List.set_cons_succ]
      refine anyG_take (i := 20) (oi := ⟨_, _, _, _, _, _⟩) (v := ?_) rfl rfl (by kernel_rfl) (by kernel_rfl) (by kernel_rfl) (by kernel_rfl) (by kernel_rfl) (fun _ _ _ h => h) (Or.inl ⟨by rfl, ?_⟩) hS ?_
      rotate_left
      · (intro w' hSw; skip; go_simp; (try with_reducible rfl))
      try simp only [Act.put, List.setIfInBounds_toArray, List.set_cons_zero, List.set_cons_succ]
      refine anyG_all (rs := [21]) (by kernel_rfl) (by simp) (List.forall_mem_singleton.2 ?_)
      refine wpOp_step (o := ⟨_, _, _, _, _, _⟩) rfl (fun K' hK => ?_)
      have HK := Lib.hid hK
      clear hK
      rw [if_pos (by rfl)]
      go_simp
      refine HK.out _ _ ⟨fun _ => hS.alloc hS.size _, ?_⟩
      clear HK
      try simp only [Act.put, List.setIfInBounds_toArray, List.set_cons_zero, List.set_cons_succ]
      refine anyG_all (rs := [22]) (by kernel_rfl) (by simp) (List.forall_mem_singleton.2 ?_)
      refine wpOp_step (o := ⟨_, _, _, _, _, _⟩) rfl (fun K' hK => ?_)
      have HK := Lib.hid hK
      clear hK
      rw [if_pos (by rfl)]
      obtain ⟨w5, hup, hm5, hg5⟩ := SMap.upd (P := Try.prog) (HU2.out.map.fr (Fr.below (F := []) (hS.alloc hS.size (.cells #[.slice A8 x.f.now.length k8, .slice A14 x.f.settled.length k14, .slice A19 x.f.opens.length k19] 71))) (by simp)) Try.underlying56 Try.underlying9 key (.pointer (some ⟨V3.heap.size, 0, none⟩))
      have hcf := copy_file (f := x.f) ((Below.refl _ _).drew) HP8.out HP14.out HP19.out (show w.heap.size + 1 < w2.heap.size by have := HSZ3.out; omega) hg5
      have hkn : mget es2 key = none := by
        cases hg : mget es2 key with
        | none => rfl
        | some y =>
          exfalso
          have h1 : (key, y) ∈ es2 := mget_mem hg
          have h2 : (key, y.f) ∈ menc FileM.f dn := by rw [← HFS.out]; exact List.mem_map.2 ⟨(key, y), h1, rfl⟩
          obtain ⟨z, hz, hze⟩ := List.mem_map.1 h2
          have h3 : (es.map Prod.fst).Nodup := by have := HH.out.map.nodup; rwa [menc_keys] at this
          have h4 := ((HP.out.trans (HPX.out.append_left dn)).map Prod.fst).nodup_iff.1 h3
          rw [List.map_append, List.nodup_append] at h4
          refine h4.2.2 key (List.mem_map.2 ⟨z, hz, ?_⟩) key (List.mem_map.2 ⟨(key, x), List.mem_cons_self .., rfl⟩) rfl
          injection hze with e1 _
      have hua := HU2.out.add (x := ⟨V3.heap.size, .slice A8 x.f.now.length k8, .slice A14 x.f.settled.length k14, .slice A19 x.f.opens.length k19, x.f⟩) hkn hcf.2.2 (fun i hi => by simp at hi; omega) hcf.1 hcf.2.1 HSZ3.out hm5
      have HUA := Lib.hid hua
      have HF5 := Lib.hid hcf.2.2
      clear hcf hua hm5 hg5 hkn hS
      go_simp
      refine HK.out _ _ ⟨fun h => absurd rfl h, anyG_done (by kernel_rfl) ?_⟩
      clear HK
      refine NoPanic.normal ?_
      go_wp2_with fail
      go_roundg tx.length
      case measure => rw [HKM.out, HPX.out.length_eq]; exact Nat.lt_succ_self _
      case rel =>
        refine ⟨dn ++ [(key, x)], tx, _, rfl, ?_, ?_, HUA.out.1, ?_, ?_, ?_, ?_⟩
        · rw [List.append_assoc]; exact HP.out.trans (HPX.out.append_left dn)
        · exact HRG3.out.kept (HF5.out.block m (by exact HRG3.out.map.lt) (fun hi => by
            have h1 := List.mem_singleton.1 hi
            have h2 := HH.out.map.lt
            omega)) (HF5.out.block _ HRG3.out.lt (fun hi => by have h1 := List.mem_singleton.1 hi; omega))
        · rw [HUA.out.2, HFS.out]; simp [menc]
        · exact HB2.out.trans (HF5.out.toBelowOf HB2.out.size (fun i hi => by simp at hi; omega))
        · exact HF5.out.kept (by simp) HQ2.out
        · exact Nat.le_trans HSZ3.out HF5.out.size
end Go.Proofs.Ytikbphafpmdpeaa
