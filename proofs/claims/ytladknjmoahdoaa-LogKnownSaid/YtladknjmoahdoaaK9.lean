/- What Write does once its step happens. -/
import Derived.Test.YtladknjmoahdoaaK8
import Derived.Laws.CopyOwn
import Derived.Deep.WholeRow
set_option linter.all false
namespace Go.Proofs.Ytladknjmoahdoaa
open Go.RowKit

theorem zero_page : ∀ w, (zeroValue 75).run Try.prog w = .ok (.agg (pgC zeroP)) w := (zero_of_info (n := 256) (by kernel_rfl)).1
structure Boxes (w : World) (bb ba bf bd : Nat) (sl : Value) (k bl p : Nat) : Prop where
  b : w.heap[bb]? = some (.cells #[sl] 30)
  a : w.heap[ba]? = some (.cells #[.int .i64 k] 3)
  f : BoxF w bf bl
  d : BoxP w bd p
theorem Boxes.fr {F : List Nat} {w w' : World} {bb ba bf bd k bl p : Nat} {sl : Value} (h : Boxes w bb ba bf bd sl k bl p) (hf : Fr F w w') (h1 : bb ∉ F) (h2 : ba ∉ F) (h3 : bf ∉ F) (h4 : bd ∉ F) : Boxes w' bb ba bf bd sl k bl p :=
  ⟨hf.kept h1 h.b, hf.kept h2 h.a, hf.kept h3 h.f, hf.kept h4 h.d⟩
theorem Boxes.cells {w : World} {bb ba bf bd k bl p : Nat} {sl : Value} (h : Boxes w bb ba bf bd sl k bl p) : w.cell? ⟨bb, 0, none⟩ = some sl ∧ w.cell? ⟨ba, 0, none⟩ = some (.int .i64 k) ∧ w.cell? ⟨bf, 0, none⟩ = some (.pointer (some ⟨bl, 0, none⟩)) ∧ w.cell? ⟨bd, 0, none⟩ = some (.pointer (some ⟨p, 0, none⟩)) :=
  ⟨cell_of (j := 0) h.b rfl, cell_of (j := 0) h.a rfl, cell_of (j := 0) h.f rfl, cell_of (j := 0) h.d rfl⟩
theorem pad_splice (b : List UInt8) (hb : b.length ≤ 256) : (splice (pgC zeroP).toList 0 (bv b)).toArray = pgC (padP b) := by
  unfold splice pgC
  have h1 := padP_b hb
  rw [h1]
  simp only [List.take_zero, List.nil_append, Nat.zero_add, bv_length, bv_append]
  congr 2
  unfold zeroP bv
  rw [List.map_replicate, List.map_replicate, List.drop_replicate]
def wrD (d : DiskT) (name : ByteArray) (f : FileT) (k : Nat) (q : PageT) : DiskT := { d with used := if k = f.now.length then d.used + 1 else d.used, no := d.no + 1, files := mset d.files name ⟨layP f.now k q, f.settled, f.opens ++ [⟨d.no, k, q⟩]⟩ }
set_option maxRecDepth 100000 in
set_option maxHeartbeats 8000000 in
theorem write1_any (p m bb ba bf bd N : Nat) (sb : Option Nat) (es : List (ByteArray × FileM)) (d : DiskT) (name : ByteArray) (x : FileM) (k : Nat) (b : List UInt8) (A : Option Addr) (c : Nat) (w : World) (h : DiskAt w p m sb es d) (hi : Inv d) (hst : d.steps ≤ 4000000000) (hx : mget es name = some x) (hk : k ≤ x.f.now.length) (hb : b.length ≤ 256)
    (hN : ∀ i ∈ fpD p m sb es, i < N) (b1 : N ≤ bb) (b2 : N ≤ ba) (b3 : N ≤ bf) (b4 : N ≤ bd) (hB : Boxes w bb ba bf bd (.slice A b.length c) k x.bl p) (hA : Cells w A (bv b)) :
    Calls Try.prog 41 #[.pointer (some ⟨bb, 0, none⟩), .pointer (some ⟨ba, 0, none⟩), .pointer (some ⟨bf, 0, none⟩), .pointer (some ⟨bd, 0, none⟩)] w (UnitP fun w' => ∃ es', OpL w p m sb es (wrD d name x.f k (padP b)) sb es' w') := by
  have hzp := zero_page
  obtain ⟨c0, c1, c2, c3⟩ := hB.cells
  have hb0 : Below w.heap.size w (w.alloc (.cells (pgC zeroP) 75)) := (Below.refl _ _).alloc (Nat.le_refl _) _
  have a0 := fun o => cell_below ((Below.refl w.heap.size w).alloc (Nat.le_refl _) o) c0
  have hH := Lib.hid h
  have HI := Lib.hid hi
  have HX := Lib.hid hx
  have HB := Lib.hid hB
  have HA := Lib.hid (Cells.alloc hA (.cells (pgC zeroP) 75))
  have HN := Lib.hid hN
  have HBL := Lib.hid hb
  clear h hi hx hB hA hN hb
  go_enter Try.func41, Try.ntmps41
  go_wp2_with fail
  have HP1 := Lib.hid (show (w.alloc (.cells (pgC zeroP) 75)).heap[w.heap.size]? = some (.cells (pgC zeroP) 75) from Go.heap_alloc_new w _)
  have HH1 := Lib.hid (hH.out.below hb0)
  have HBX1 := Lib.hid (HB.out.fr (Fr.below (F := []) hb0) (by simp) (by simp) (by simp) (by simp))
  have HB0 := Lib.hid hb0
  have HSZ1 := Lib.hid (show w.heap.size < (w.alloc (.cells (pgC zeroP) 75)).heap.size by simp)
  clear c0 c1 c2 c3 a0 hb0
  generalize w.alloc (.cells (pgC zeroP) 75) = w1 at *
  obtain ⟨c0, c1, c2, c3⟩ := HBX1.out.cells
  go_still_tail 2, (by kernel_rfl)
  change wpList _ _ _ _ _ w1.drew
  refine wpList_copy_splice rfl _ _ 30 30 rfl 5 Try.underlying30 (by kernel_rfl) (some ⟨w.heap.size, 0, none⟩) A 256 256 b.length c rfl rfl w.heap.size 0 (pgC zeroP).toList 75 (by rw [Array.toArray_toList]; exact HP1.out) (bv b) ?_ ?_ ?_ (bv_one b) w.heap.size w (HB0.out.drew) (Nat.le_refl _) ?_
  · rw [bv_length]; exact (Nat.min_eq_left HBL.out).symm
  · intro hpos
    refine ⟨rfl, ?_⟩
    obtain ⟨ad, e, hc⟩ := HA.out hpos
    exact ⟨ad, e, hc⟩
  · rw [bv_length, show (pgC zeroP).toList.length = 256 from pgL_len _]; have := HBL.out; omega
  intro w2 hp2 hb2
  have hp2' : w2.heap[w.heap.size]? = some (.cells (pgC (padP b)) 75) := by
    have h1 := hp2
    unfold Hid at h1
    rw [pad_splice b HBL.out] at h1
    exact h1
  have HP2 := Lib.hid hp2'
  have HB2 := Lib.hid hb2
  have HD2 := Lib.hid (hH.out.below hb2)
  have HO2 := Lib.hid (OpL.below (OpL.here hH.out) hb2)
  have HFA2 := Lib.hid (HD2.out.files _ (mget_mem HX.out))
  have HBX2 := Lib.hid (HB.out.fr (Fr.below (F := []) hb2) (by simp) (by simp) (by simp) (by simp))
  have HSZ2 := Lib.hid (lt_of_block hp2')
  clear c0 c1 c2 c3 hp2 hp2' hb2 HP1 HH1 HBX1 HB0 HSZ1 HA
  go_wp2_with fail
  obtain ⟨n, hn⟩ : ∃ n, x.f.now.length = n := ⟨_, rfl⟩
  have HNN := Lib.hid hn
  have hxg : mget d.files name = some x.f := by rw [hH.out.get, HX.out]; rfl
  have HGD := Lib.hid hxg
  have hle := HI.out.get_le hxg
  have hq := Nat.le_trans HI.out.within HI.out.quota
  obtain ⟨f0, -, -⟩ := HFA2.out.cell
  obtain ⟨An, cn, hvn, -, -⟩ := own_shape HFA2.out.now
  rw [hn] at hvn hle hk
  have HVN := Lib.hid hvn
  rw [hvn] at f0
  have HH := Lib.hid (hH.out)
  have HNE := Lib.hid (show ∀ q, N ≤ q → q ∉ fpD p m sb es from fun q hq hi => by have := HN.out q hi; omega)
  obtain ⟨-, c1, c2, c3⟩ := HBX2.out.cells
  clear hxg hvn
  by_cases hkn : k = n
  · subst hkn
    clear hk
    have hke : ((k : Int) == (k : Int)) = true := by simp
    obtain ⟨-, -, e2, -⟩ := HD2.out.cell
    have e2f := HD2.out.free 2
    have hwu : IntKind.i64.wrap ((d.used : Int) + 1) = (d.used : Int) + 1 := IntWalk.i64_in _ (by omega)
    have b5 : (d.used : Int) + 1 < 9223372036854775808 := by omega
    have b6 : (0 : Int) ≤ (d.used : Int) + 1 := by omega
    go_quiet (fail)
    go_wp2_with fail
    have hsu := (HD2.out.drewN nq).setUsed (d.used + 1)
    rw [show (((d.used + 1 : Nat)) : Int) = (d.used : Int) + 1 by omega] at hsu
    have hO3 := (HO2.out.drewN nq).head hsu
    have hf3 : Fr [p] w2 ((w2.drewN nq).setCell ⟨p, 2, none⟩ (.int .i64 ((d.used : Int) + 1))) := ((Fr.refl [p] w2).drewN nq).put p 2 _ (.inl (by simp))
    have hnp : ∀ q, N ≤ q → q ∉ [p] := fun q hq hi => HNE.out q hq (by simp at hi; rw [hi]; exact mem_p)
    have HO3 := Lib.hid hO3
    have HD3 := Lib.hid hO3.at_
    have HBX3 := Lib.hid (HBX2.out.fr hf3 (hnp bb b1) (hnp ba b2) (hnp bf b3) (hnp bd b4))
    have HP3 := Lib.hid (hf3.kept (fun hi => absurd (HH.out.lt p mem_p) (by simp at hi; rw [hi]; exact Nat.lt_irrefl _)) HP2.out)
    have HFA3 := Lib.hid (HD3.out.files _ (mget_mem HX.out))
    have hk : k ≤ x.f.now.length := by rw [HNN.out]; exact Nat.le_refl _
    have hnl : x.f.now.length ≤ 65536 := by rw [HNN.out]; omega
    clear hO3 hsu hf3 hnp c1 c2 c3 f0 e2 e2f hke hwu b5 b6 HO2 HD2 HBX2 HP2 HFA2 HSZ2 HB2 hn
    generalize (w2.drewN nq).setCell ⟨p, 2, none⟩ (.int .i64 ((d.used : Int) + 1)) = w3 at *
    have HL := Lib.hid (lay_any x.bl x.vn x.vs x.vo x.f.now k (padP b) w3.drew HFA3.out.blk HFA3.out.now (by omega) (by omega))
    obtain ⟨c0, c1, c2, c3⟩ := HBX3.out.cells
    go_wp2_with fail
    go_still_tail 5, (by kernel_rfl)
    refine wpStill_wide (op := ⟨some 27, _, _, _, _, _⟩) rfl 75 (.tmp 4) rfl w.heap.size 0 rfl (pgC (padP b)) (range_block HP3.out) Try.underlying75 rfl (by rw [pgC_size]; exact page_size) ?_
    repeat still_step
    refine wpStill_nil ?_
    change wpList _ _ _ _ _ w3.drew
    generalize hdr : w3.drew = wd at HL ⊢
    go_wp2_with (go_at_call 36; refine HL.out.mono ?_; rintro e w4 ⟨rfl, vn', hL4⟩)
    have hD3 : DiskAt wd p m sb es { d with used := (d.used + 1) } := by rw [← hdr]; exact HD3.out.drew
    have hO4 := put_lay hD3 HX.out (by rw [layP_len]; omega) hL4
    have hbx4 : Boxes w4 bb ba bf bd (.slice A b.length c) k x.bl p := Boxes.fr (by rw [← hdr]; exact HBX3.out.fr (Fr.refl [] w3).drew (by simp) (by simp) (by simp) (by simp)) hO4.fr (HNE.out _ b1) (HNE.out _ b2) (HNE.out _ b3) (HNE.out _ b4)
    have hp4 : w4.heap[w.heap.size]? = some (.cells (pgC (padP b)) 75) := hO4.fr.kept (fun hi => absurd (HH.out.lt _ hi) (Nat.lt_irrefl _)) (by rw [← hdr]; exact HP3.out)
    have hO4' : OpL w p m sb es { d with used := (d.used + 1), files := mset d.files name ⟨layP x.f.now k (padP b), x.f.settled, x.f.opens⟩ } sb (mset es name ⟨x.bl, vn', x.vs, x.vo, ⟨layP x.f.now k (padP b), x.f.settled, x.f.opens⟩⟩) w4 := HO3.out.trans ((OpL.start (show Below w3.heap.size w3 wd by rw [← hdr]; exact (Below.refl _ _).drew) hO4))
    have HO4 := Lib.hid hO4'
    have HBX4 := Lib.hid hbx4
    have HP4 := Lib.hid hp4
    have HD4 := Lib.hid hO4'.at_
    clear hO4 hO4' hbx4 hp4 hL4 hD3 hdr c0 c1 c2 c3
    have HX4 := Lib.hid (mget_mset_same es name (⟨x.bl, vn', x.vs, x.vo, ⟨layP x.f.now k (padP b), x.f.settled, x.f.opens⟩⟩ : FileM))
    have HFA4 := Lib.hid (HD4.out.files _ (mget_mem HX4.out))
    obtain ⟨Ao, co, hvo, -, -⟩ := own_shape HFA4.out.opens
    dsimp only at hvo
    obtain ⟨no, hno⟩ : ∃ no, x.f.opens.length = no := ⟨_, rfl⟩
    have HNO := Lib.hid hno
    rw [hno] at hvo
    have HVO := Lib.hid hvo
    have hS : (fun V : World => V.cell? ⟨bf, 0, none⟩ = some (.pointer (some ⟨x.bl, 0, none⟩)) ∧ V.cell? ⟨x.bl, 2, none⟩ = some (.slice Ao no co) ∧ V.cell? ⟨bd, 0, none⟩ = some (.pointer (some ⟨p, 0, none⟩)) ∧ V.cell? ⟨p, 4, none⟩ = some (.int .i64 d.no) ∧ V.cell? ⟨ba, 0, none⟩ = some (.int .i64 k) ∧ V.rangeAt w.heap.size 0 (pgC (padP b)).toList) w4.drew := by
      obtain ⟨-, c1, c2, c3⟩ := HBX4.out.cells
      obtain ⟨-, -, f2⟩ := HFA4.out.cell
      dsimp only at f2
      rw [HVO.out] at f2
      exact ⟨c2, f2, c3, HD4.out.cell.2.2.2.2.1, c1, range_block HP4.out⟩
    clear hno hvo
    refine wp_region_noPanic ?_
    refine wp_region_any (by kernel_rfl) (anyG_any (S := fun V : World => V.cell? ⟨bf, 0, none⟩ = some (.pointer (some ⟨x.bl, 0, none⟩)) ∧ V.cell? ⟨x.bl, 2, none⟩ = some (.slice Ao no co) ∧ V.cell? ⟨bd, 0, none⟩ = some (.pointer (some ⟨p, 0, none⟩)) ∧ V.cell? ⟨p, 4, none⟩ = some (.int .i64 d.no) ∧ V.cell? ⟨ba, 0, none⟩ = some (.int .i64 k) ∧ V.rangeAt w.heap.size 0 (pgC (padP b)).toList) (n := 16) _ _ _ _ ?_)
    change AnyG _ _ _ _ _ _ 17 (Array.replicate 17 false) _ w4.drew
    refine anyG_take (i := 0) (oi := ⟨_, _, _, _, _, _⟩) (v := ?_) rfl rfl (by kernel_rfl) (by kernel_rfl) (by kernel_rfl) (by kernel_rfl) (by kernel_rfl) (fun _ _ _ h => h) (Or.inl ⟨by rfl, ?_⟩) hS ?_
    rotate_left
    · (intro w' hSw; obtain ⟨s1, s2, s3, s4, s5, s6⟩ := hSw; go_simp; (try with_reducible rfl))
    try simp only [Act.put, List.setIfInBounds_toArray, List.set_cons_zero, List.set_cons_succ]
    refine anyG_take (i := 1) (oi := ⟨_, _, _, _, _, _⟩) (v := ?_) rfl rfl (by kernel_rfl) (by kernel_rfl) (by kernel_rfl) (by kernel_rfl) (by kernel_rfl) (fun _ _ _ h => h) (Or.inl ⟨by rfl, ?_⟩) hS ?_
    rotate_left
    · (intro w' hSw; obtain ⟨s1, s2, s3, s4, s5, s6⟩ := hSw; go_simp; (try with_reducible rfl))
    try simp only [Act.put, List.setIfInBounds_toArray, List.set_cons_zero, List.set_cons_succ]
    refine anyG_take (i := 2) (oi := ⟨_, _, _, _, _, _⟩) (v := ?_) rfl rfl (by kernel_rfl) (by kernel_rfl) (by kernel_rfl) (by kernel_rfl) (by kernel_rfl) (fun _ _ _ h => h) (Or.inl ⟨by rfl, ?_⟩) hS ?_
    rotate_left
    · (intro w' hSw; obtain ⟨s1, s2, s3, s4, s5, s6⟩ := hSw; go_simp; (try with_reducible rfl))
    try simp only [Act.put, List.setIfInBounds_toArray, List.set_cons_zero, List.set_cons_succ]
    refine anyG_take (i := 3) (oi := ⟨_, _, _, _, _, _⟩) (v := ?_) rfl rfl (by kernel_rfl) (by kernel_rfl) (by kernel_rfl) (by kernel_rfl) (by kernel_rfl) (fun _ _ _ h => h) (Or.inl ⟨by rfl, ?_⟩) hS ?_
    rotate_left
    · (intro w' hSw; obtain ⟨s1, s2, s3, s4, s5, s6⟩ := hSw; go_simp; (try with_reducible rfl))
    try simp only [Act.put, List.setIfInBounds_toArray, List.set_cons_zero, List.set_cons_succ]
    refine anyG_take (i := 4) (oi := ⟨_, _, _, _, _, _⟩) (v := ?_) rfl rfl (by kernel_rfl) (by kernel_rfl) (by kernel_rfl) (by kernel_rfl) (by kernel_rfl) (fun _ _ _ h => h) (Or.inl ⟨by rfl, ?_⟩) hS ?_
    rotate_left
    · (intro w' hSw; obtain ⟨s1, s2, s3, s4, s5, s6⟩ := hSw; go_simp; (try with_reducible rfl))
    try simp only [Act.put, List.setIfInBounds_toArray, List.set_cons_zero, List.set_cons_succ]
    refine anyG_take (i := 5) (oi := ⟨_, _, _, _, _, _⟩) (v := ?_) rfl rfl (by kernel_rfl) (by kernel_rfl) (by kernel_rfl) (by kernel_rfl) (by kernel_rfl) (fun _ _ _ h => h) (Or.inl ⟨by rfl, ?_⟩) hS ?_
    rotate_left
    · (intro w' hSw; obtain ⟨s1, s2, s3, s4, s5, s6⟩ := hSw; go_simp; (try with_reducible rfl))
    try simp only [Act.put, List.setIfInBounds_toArray, List.set_cons_zero, List.set_cons_succ]
    refine anyG_take (i := 6) (oi := ⟨_, _, _, _, _, _⟩) (v := ?_) rfl rfl (by kernel_rfl) (by kernel_rfl) (by kernel_rfl) (by kernel_rfl) (by kernel_rfl) (fun _ _ _ h => h) (Or.inl ⟨by rfl, ?_⟩) hS ?_
    rotate_left
    · (intro w' hSw; obtain ⟨s1, s2, s3, s4, s5, s6⟩ := hSw; go_simp; (try with_reducible rfl))
    try simp only [Act.put, List.setIfInBounds_toArray, List.set_cons_zero, List.set_cons_succ]
    refine anyG_take (i := 7) (oi := ⟨_, _, _, _, _, _⟩) (v := ?_) rfl rfl (by kernel_rfl) (by kernel_rfl) (by kernel_rfl) (by kernel_rfl) (by kernel_rfl) (fun _ _ _ h => h) (Or.inl ⟨by rfl, ?_⟩) hS ?_
    rotate_left
    · (intro w' hSw; obtain ⟨s1, s2, s3, s4, s5, s6⟩ := hSw; go_simp; (try with_reducible rfl))
    try simp only [Act.put, List.setIfInBounds_toArray, List.set_cons_zero, List.set_cons_succ]
    refine anyG_take (i := 8) (oi := ⟨_, _, _, _, _, _⟩) (v := ?_) rfl rfl (by kernel_rfl) (by kernel_rfl) (by kernel_rfl) (by kernel_rfl) (by kernel_rfl) (fun _ _ _ h => h) (Or.inl ⟨by rfl, ?_⟩) hS ?_
    rotate_left
    · (intro w' hSw; obtain ⟨s1, s2, s3, s4, s5, s6⟩ := hSw; go_simp; (try with_reducible rfl))
    try simp only [Act.put, List.setIfInBounds_toArray, List.set_cons_zero, List.set_cons_succ]
    refine anyG_take (i := 9) (oi := ⟨_, _, _, _, _, _⟩) (v := ?_) rfl rfl (by kernel_rfl) (by kernel_rfl) (by kernel_rfl) (by kernel_rfl) (by kernel_rfl) (fun _ _ _ h => h) (Or.inl ⟨by rfl, ?_⟩) hS ?_
    rotate_left
    · (intro w' hSw; obtain ⟨s1, s2, s3, s4, s5, s6⟩ := hSw; go_simp; (try with_reducible rfl))
    try simp only [Act.put, List.setIfInBounds_toArray, List.set_cons_zero, List.set_cons_succ]
    refine anyG_take (i := 10) (oi := ⟨_, _, _, _, _, _⟩) (v := .agg (pgC (padP b))) rfl rfl (by kernel_rfl) (by kernel_rfl) (by kernel_rfl) (by kernel_rfl) (by kernel_rfl) (fun _ _ _ h => h) (Or.inl ⟨by rfl, ?_⟩) hS ?_
    · (intro w' hSw; obtain ⟨s1, s2, s3, s4, s5, s6⟩ := hSw; clear s1 s2 s3 s4 s5; refine exec_wide (o := ⟨some 39, .load 75 (.tmp 4), _, _, _, _⟩) rfl rfl s6 Try.underlying75 rfl (by rw [pgC_size]; exact page_size))
    try simp only [Act.put, List.setIfInBounds_toArray, List.set_cons_zero, List.set_cons_succ]
    refine anyG_take (i := 11) (oi := ⟨_, _, _, _, _, _⟩) (v := .agg (wrC ⟨d.no, k, padP b⟩)) rfl rfl (by kernel_rfl) (by kernel_rfl) (by kernel_rfl) (by kernel_rfl) (by kernel_rfl) (fun _ _ _ h => h) (Or.inl ⟨by rfl, ?_⟩) hS ?_
    · (intro w' hSw; clear hSw; refine exec_build rfl ?_; simp only [List.map_toArray, List.map_cons, List.map_nil]; exact write_built _ _ (pgC (padP b)) (pgC_size _))
    try simp only [Act.put, List.setIfInBounds_toArray, List.set_cons_zero, List.set_cons_succ]
    refine anyG_all (rs := [12]) (by kernel_rfl) (by simp) (List.forall_mem_singleton.2 ?_)
    refine wpOp_step (o := ⟨_, _, _, _, _, _⟩) rfl (fun K' hK => ?_)
    have HK := Lib.hid hK
    clear hK
    rw [if_pos (by rfl)]
    refine wp_slice1 slWrite 0 _ rfl rfl (wrC ⟨d.no, k, padP b⟩) rfl (wrC_size _) (by decide) ?_
    refine HK.out _ _ ⟨fun _ => ?_, ?_⟩
    · obtain ⟨s1, s2, s3, s4, s5, s6⟩ := hS
      have hbl : Below w4.heap.size w4 (w4.drew.alloc (.cells (wrC ⟨d.no, k, padP b⟩) 77)) := (Below.refl _ _).drew.alloc (Nat.le_refl _) _
      exact ⟨cell_below hbl s1, cell_below hbl s2, cell_below hbl s3, cell_below hbl s4, cell_below hbl s5, fun j v hj => cell_below hbl (s6 j v hj)⟩
    clear HK
    try simp only [Act.put, List.setIfInBounds_toArray, List.set_cons_zero, List.set_cons_succ]
    refine anyG_all (rs := [13]) (by kernel_rfl) (by simp) (List.forall_mem_singleton.2 ?_)
    refine wpOp_step (o := ⟨_, _, _, _, _, _⟩) rfl (fun K' hK => ?_)
    have HK := Lib.hid hK
    clear hK
    rw [if_pos (by rfl)]
    have HOW := Lib.hid (show (w4.drew.alloc (.cells (wrC ⟨d.no, k, padP b⟩) 77)).ownsRow 0 77 258 (.slice Ao no co) no (wrsC x.f.opens) by
      have h1 := HFA4.out.opens
      dsimp only at h1
      rw [HVO.out, HNO.out] at h1
      exact (World.ownsRow.drew h1).alloc _)
    have hno : no ≤ 4000000000 := by
      have h1 := HI.out.file_opens HGD.out
      have h2 := HI.out.no
      have h3 := HNO.out
      omega
    refine wp_appk slWrite _ _ rfl 0 (.slice Ao no co) no (wrsC x.f.opens) rfl HOW.out (some ⟨w4.drew.heap.size, 0, none⟩) 1 1 (wrL ⟨d.no, k, padP b⟩) rfl (wrL_len _) (fresh_cells w4.drew _ _) (wrL_one _) (by omega) (by omega) (Nat.zero_le _) ?_
    intro v5 w5 ho5 hg5 hb5 hat5
    obtain ⟨A5, c5, hv5, -, -⟩ := own_shape ho5
    subst hv5
    have hg5' : w4.grownBy w5 (Value.slice Ao no co).ownBlock := grown_ofDrew ((World.grownBy_alloc w4.drew _ _).trans hg5)
    have HG5 := Lib.hid hg5'
    have HO5 := Lib.hid ho5
    have HAT5 := Lib.hid hat5
    clear hg5 ho5 hat5 hb5
    have hf5 : Fr (Value.slice Ao no co).ownBlock.toList w4 w5 := Fr.grown hg5' fun k hk _ => by rw [hk]; simp
    have hfaw := HFA4.out
    have hvow : (⟨x.bl, vn', x.vs, x.vo, ⟨layP x.f.now k (padP b), x.f.settled, x.f.opens⟩⟩ : FileM).vo = .slice Ao no co := HVO.out
    have hin4 : ∀ i ∈ (Value.slice Ao no co).ownBlock.toList, i ∈ fpD p m sb (mset es name ⟨x.bl, vn', x.vs, x.vo, ⟨layP x.f.now k (padP b), x.f.settled, x.f.opens⟩⟩) := fun i hi => mem_file (mget_mem HX4.out) (FileM.mem_fp.2 (.inr (.inr (.inr (by rw [hvow]; simpa using hi)))))
    have hne5 : ∀ q, N ≤ q → q < w.heap.size → q ∉ (Value.slice Ao no co).ownBlock.toList := fun q hq hl hi => by
      rcases HO4.out.new q (hin4 q hi) with h1 | h1
      · exact HNE.out q hq h1
      · omega
    have hS5 : w5.cell? ⟨bf, 0, none⟩ = some (.pointer (some ⟨x.bl, 0, none⟩)) ∧ w5.cell? ⟨x.bl, 2, none⟩ = some (.slice Ao no co) ∧ w5.cell? ⟨bd, 0, none⟩ = some (.pointer (some ⟨p, 0, none⟩)) ∧ w5.cell? ⟨p, 4, none⟩ = some (.int .i64 d.no) ∧ w5.cell? ⟨ba, 0, none⟩ = some (.int .i64 k) ∧ w5.rangeAt w.heap.size 0 (pgC (padP b)).toList := by
      obtain ⟨s1, s2, s3, s4, s5, s6⟩ := hS
      have hpp : ∀ q, N ≤ q → (∃ o : Obj, w.heap[q]? = some o) → q ∉ (Value.slice Ao no co).ownBlock.toList := fun q hq ho => by
        obtain ⟨o, ho⟩ := ho
        exact hne5 q hq (lt_of_block ho)
      refine ⟨hf5.cellKept (hpp bf b3 ⟨_, HB.out.f⟩) s1, hf5.cellKept (fun hi => (fp_parts hfaw.apart).2.2 x.bl (by rw [hvow]; simpa using hi) rfl) s2, hf5.cellKept (hpp bd b4 ⟨_, HB.out.d⟩) s3, hf5.cellKept (fun hi => HD4.out.p_ne.2.2 _ (mget_mem HX4.out) p (FileM.mem_fp.2 (.inr (.inr (.inr (by rw [hvow]; simpa using hi))))) rfl) s4, hf5.cellKept (hpp ba b2 ⟨_, HB.out.a⟩) s5, range_block (hf5.kept (fun hi => ?_) HP4.out)⟩
      have hE : 77 ≠ 75 := by decide
      exact own_ne (show w4.ownsRow 0 77 258 (.slice Ao no co) _ _ from by have h1 := hfaw.opens; rw [hvow] at h1; exact h1) hE HP4.out _ (by simpa using hi) rfl
    have HS5 := Lib.hid hS5
    refine HK.out _ _ ⟨fun _ => HS5.out, ?_⟩
    clear HK hf5 hfaw hvow hin4 hne5 hS5 hS hg5'
    have hS := HS5.out
    try simp only [Act.put, List.setIfInBounds_toArray, List.set_cons_zero, List.set_cons_succ]
    refine anyG_all (rs := [14]) (by kernel_rfl) (by simp) (List.forall_mem_singleton.2 ?_)
    refine wpOp_step (o := ⟨_, _, _, _, _, _⟩) rfl (fun K' hK => ?_)
    have HK := Lib.hid hK
    clear hK
    rw [if_pos (by rfl)]
    go_simp
    refine HK.out _ _ ⟨fun _ => hS, ?_⟩
    clear HK
    try simp only [Act.put, List.setIfInBounds_toArray, List.set_cons_zero, List.set_cons_succ]
    refine anyG_all (rs := [15]) (by kernel_rfl) (by simp) (List.forall_mem_singleton.2 ?_)
    refine wpOp_step (o := ⟨_, _, _, _, _, _⟩) rfl (fun K' hK => ?_)
    have HK := Lib.hid hK
    clear hK
    rw [if_pos (by rfl)]
    go_simp
    refine HK.out _ _ ⟨fun _ => hS, ?_⟩
    clear HK
    try simp only [Act.put, List.setIfInBounds_toArray, List.set_cons_zero, List.set_cons_succ]
    refine anyG_all (rs := [16]) (by kernel_rfl) (by simp) (List.forall_mem_singleton.2 ?_)
    refine wpOp_step (o := ⟨_, _, _, _, _, _⟩) rfl (fun K' hK => ?_)
    have HK := Lib.hid hK
    clear hK
    rw [if_pos (by rfl)]
    have z2c := hS.2.1
    have z2f : w5.frozen? ⟨x.bl, 2, none⟩ = false := free_of (show w5.heap[x.bl]? = some (.cells #[vn', x.vs, x.vo] 73) from (HG5.out.block _ (lt_of_block HFA4.out.blk) (fun e => (fp_parts HFA4.out.apart).2.2 x.bl (by rw [show (⟨x.bl, vn', x.vs, x.vo, ⟨layP x.f.now k (padP b), x.f.settled, x.f.opens⟩⟩ : FileM).vo = .slice Ao no co from HVO.out]; exact e.symm) rfl)).trans HFA4.out.blk) 2
    clear hS
    go_simp
    refine HK.out _ _ ⟨fun h => absurd rfl h, anyG_done (by kernel_rfl) ?_⟩
    clear HK
    refine NoPanic.normal ?_
    have hO6 := HO4.out.trans (put_open (r := ⟨d.no, k, padP b⟩) (vo := .slice A5 (no + 1) c5) HD4.out HX4.out (by rw [show (⟨x.bl, vn', x.vs, x.vo, ⟨layP x.f.now k (padP b), x.f.settled, x.f.opens⟩⟩ : FileM).vo = .slice Ao no co from HVO.out]; exact HG5.out) (by dsimp only; rw [HNO.out]; exact HO5.out) ((OwnNext.refl _ _).step (by dsimp only; rw [HVO.out]; exact HAT5.out) (by simp)))
    have HO6 := Lib.hid hO6
    have hbd6 : (w5.setCell ⟨x.bl, 2, none⟩ (.slice A5 (no + 1) c5)).cell? ⟨bd, 0, none⟩ = some (.pointer (some ⟨p, 0, none⟩)) := cell_put HS5.out.2.2.1 (.inl (fun e => HNE.out bd b4 (by
      have e' : bd = x.bl := e
      rw [e']
      exact mem_file (mget_mem HX.out) (FileM.mem_fp.2 (.inl rfl)))))
    have h6 := hO6.at_
    obtain ⟨-, -, -, -, e4, -, -⟩ := h6.cell
    have e4f := h6.free 4
    dsimp only at e4
    have HW := Lib.hid hO6.at_
    clear hO6 h6 z2c z2f
    generalize w5.setCell ⟨x.bl, 2, none⟩ (.slice A5 (no + 1) c5) = w6 at *
    have hnb : (0 : Int) ≤ (d.no : Int) ∧ (d.no : Int) + 1 < 9223372036854775808 := by have := HI.out.no; omega
    obtain ⟨hn0, hn1⟩ := hnb
    have hwr : IntKind.i64.wrap ((d.no : Int) + 1) = (d.no : Int) + 1 := IntWalk.i64_in _ (by omega)
    go_wp2_with fail
    have hset := HW.out.setNo (d.no + 1)
    rw [show (((d.no + 1 : Nat)) : Int) = (d.no : Int) + 1 by omega] at hset
    have hfin := HO6.out.head hset
    have HF := Lib.hid hfin
    clear hfin
    go_end0
    refine ⟨rfl, ?_⟩
    have hFF := HF.out
    dsimp only at hFF
    rw [mset_mset] at hFF
    unfold wrD
    rw [if_pos HNN.out.symm]
    exact ⟨_, hFF⟩
  · have hke : ((k : Int) == (n : Int)) = false := by simp; omega
    go_quiet (fail)
    go_wp2_with fail
    have hf3 : Fr [] w2 (w2.drewN nq) := (Fr.refl [] w2).drewN nq
    have HO3 := Lib.hid (HO2.out.drewN nq)
    have HD3 := Lib.hid (HD2.out.drewN nq)
    have HBX3 := Lib.hid (HBX2.out.fr hf3 (by simp) (by simp) (by simp) (by simp))
    have HP3 := Lib.hid (hf3.kept (by simp) HP2.out)
    have HFA3 := Lib.hid (HD3.out.files _ (mget_mem HX.out))
    have hk2 : k ≤ x.f.now.length := by rw [HNN.out]; exact hk
    have hnl : x.f.now.length ≤ 65536 := by rw [HNN.out]; omega
    have HKN := Lib.hid (show ¬ k = x.f.now.length by rw [HNN.out]; exact hkn)
    clear hf3 c1 c2 c3 f0 hke HO2 HD2 HBX2 HP2 HFA2 HSZ2 HB2 hn hkn
    generalize w2.drewN nq = w3 at *
    have HL := Lib.hid (lay_any x.bl x.vn x.vs x.vo x.f.now k (padP b) w3.drew HFA3.out.blk HFA3.out.now (by omega) (by omega))
    obtain ⟨c0, c1, c2, c3⟩ := HBX3.out.cells
    go_wp2_with fail
    go_still_tail 5, (by kernel_rfl)
    refine wpStill_wide (op := ⟨some 27, _, _, _, _, _⟩) rfl 75 (.tmp 4) rfl w.heap.size 0 rfl (pgC (padP b)) (range_block HP3.out) Try.underlying75 rfl (by rw [pgC_size]; exact page_size) ?_
    repeat still_step
    refine wpStill_nil ?_
    change wpList _ _ _ _ _ w3.drew
    generalize hdr : w3.drew = wd at HL ⊢
    go_wp2_with (go_at_call 36; refine HL.out.mono ?_; rintro e w4 ⟨rfl, vn', hL4⟩)
    have hD3 : DiskAt wd p m sb es { d with used := d.used } := by rw [← hdr]; exact HD3.out.drew
    have hO4 := put_lay hD3 HX.out (by rw [layP_len]; omega) hL4
    have hbx4 : Boxes w4 bb ba bf bd (.slice A b.length c) k x.bl p := Boxes.fr (by rw [← hdr]; exact HBX3.out.fr (Fr.refl [] w3).drew (by simp) (by simp) (by simp) (by simp)) hO4.fr (HNE.out _ b1) (HNE.out _ b2) (HNE.out _ b3) (HNE.out _ b4)
    have hp4 : w4.heap[w.heap.size]? = some (.cells (pgC (padP b)) 75) := hO4.fr.kept (fun hi => absurd (HH.out.lt _ hi) (Nat.lt_irrefl _)) (by rw [← hdr]; exact HP3.out)
    have hO4' : OpL w p m sb es { d with used := d.used, files := mset d.files name ⟨layP x.f.now k (padP b), x.f.settled, x.f.opens⟩ } sb (mset es name ⟨x.bl, vn', x.vs, x.vo, ⟨layP x.f.now k (padP b), x.f.settled, x.f.opens⟩⟩) w4 := HO3.out.trans ((OpL.start (show Below w3.heap.size w3 wd by rw [← hdr]; exact (Below.refl _ _).drew) hO4))
    have HO4 := Lib.hid hO4'
    have HBX4 := Lib.hid hbx4
    have HP4 := Lib.hid hp4
    have HD4 := Lib.hid hO4'.at_
    clear hO4 hO4' hbx4 hp4 hL4 hD3 hdr c0 c1 c2 c3
    have HX4 := Lib.hid (mget_mset_same es name (⟨x.bl, vn', x.vs, x.vo, ⟨layP x.f.now k (padP b), x.f.settled, x.f.opens⟩⟩ : FileM))
    have HFA4 := Lib.hid (HD4.out.files _ (mget_mem HX4.out))
    obtain ⟨Ao, co, hvo, -, -⟩ := own_shape HFA4.out.opens
    dsimp only at hvo
    obtain ⟨no, hno⟩ : ∃ no, x.f.opens.length = no := ⟨_, rfl⟩
    have HNO := Lib.hid hno
    rw [hno] at hvo
    have HVO := Lib.hid hvo
    have hS : (fun V : World => V.cell? ⟨bf, 0, none⟩ = some (.pointer (some ⟨x.bl, 0, none⟩)) ∧ V.cell? ⟨x.bl, 2, none⟩ = some (.slice Ao no co) ∧ V.cell? ⟨bd, 0, none⟩ = some (.pointer (some ⟨p, 0, none⟩)) ∧ V.cell? ⟨p, 4, none⟩ = some (.int .i64 d.no) ∧ V.cell? ⟨ba, 0, none⟩ = some (.int .i64 k) ∧ V.rangeAt w.heap.size 0 (pgC (padP b)).toList) w4.drew := by
      obtain ⟨-, c1, c2, c3⟩ := HBX4.out.cells
      obtain ⟨-, -, f2⟩ := HFA4.out.cell
      dsimp only at f2
      rw [HVO.out] at f2
      exact ⟨c2, f2, c3, HD4.out.cell.2.2.2.2.1, c1, range_block HP4.out⟩
    clear hno hvo
    refine wp_region_noPanic ?_
    refine wp_region_any (by kernel_rfl) (anyG_any (S := fun V : World => V.cell? ⟨bf, 0, none⟩ = some (.pointer (some ⟨x.bl, 0, none⟩)) ∧ V.cell? ⟨x.bl, 2, none⟩ = some (.slice Ao no co) ∧ V.cell? ⟨bd, 0, none⟩ = some (.pointer (some ⟨p, 0, none⟩)) ∧ V.cell? ⟨p, 4, none⟩ = some (.int .i64 d.no) ∧ V.cell? ⟨ba, 0, none⟩ = some (.int .i64 k) ∧ V.rangeAt w.heap.size 0 (pgC (padP b)).toList) (n := 16) _ _ _ _ ?_)
    change AnyG _ _ _ _ _ _ 17 (Array.replicate 17 false) _ w4.drew
    refine anyG_take (i := 0) (oi := ⟨_, _, _, _, _, _⟩) (v := ?_) rfl rfl (by kernel_rfl) (by kernel_rfl) (by kernel_rfl) (by kernel_rfl) (by kernel_rfl) (fun _ _ _ h => h) (Or.inl ⟨by rfl, ?_⟩) hS ?_
    rotate_left
    · (intro w' hSw; obtain ⟨s1, s2, s3, s4, s5, s6⟩ := hSw; go_simp; (try with_reducible rfl))
    try simp only [Act.put, List.setIfInBounds_toArray, List.set_cons_zero, List.set_cons_succ]
    refine anyG_take (i := 1) (oi := ⟨_, _, _, _, _, _⟩) (v := ?_) rfl rfl (by kernel_rfl) (by kernel_rfl) (by kernel_rfl) (by kernel_rfl) (by kernel_rfl) (fun _ _ _ h => h) (Or.inl ⟨by rfl, ?_⟩) hS ?_
    rotate_left
    · (intro w' hSw; obtain ⟨s1, s2, s3, s4, s5, s6⟩ := hSw; go_simp; (try with_reducible rfl))
    try simp only [Act.put, List.setIfInBounds_toArray, List.set_cons_zero, List.set_cons_succ]
    refine anyG_take (i := 2) (oi := ⟨_, _, _, _, _, _⟩) (v := ?_) rfl rfl (by kernel_rfl) (by kernel_rfl) (by kernel_rfl) (by kernel_rfl) (by kernel_rfl) (fun _ _ _ h => h) (Or.inl ⟨by rfl, ?_⟩) hS ?_
    rotate_left
    · (intro w' hSw; obtain ⟨s1, s2, s3, s4, s5, s6⟩ := hSw; go_simp; (try with_reducible rfl))
    try simp only [Act.put, List.setIfInBounds_toArray, List.set_cons_zero, List.set_cons_succ]
    refine anyG_take (i := 3) (oi := ⟨_, _, _, _, _, _⟩) (v := ?_) rfl rfl (by kernel_rfl) (by kernel_rfl) (by kernel_rfl) (by kernel_rfl) (by kernel_rfl) (fun _ _ _ h => h) (Or.inl ⟨by rfl, ?_⟩) hS ?_
    rotate_left
    · (intro w' hSw; obtain ⟨s1, s2, s3, s4, s5, s6⟩ := hSw; go_simp; (try with_reducible rfl))
    try simp only [Act.put, List.setIfInBounds_toArray, List.set_cons_zero, List.set_cons_succ]
    refine anyG_take (i := 4) (oi := ⟨_, _, _, _, _, _⟩) (v := ?_) rfl rfl (by kernel_rfl) (by kernel_rfl) (by kernel_rfl) (by kernel_rfl) (by kernel_rfl) (fun _ _ _ h => h) (Or.inl ⟨by rfl, ?_⟩) hS ?_
    rotate_left
    · (intro w' hSw; obtain ⟨s1, s2, s3, s4, s5, s6⟩ := hSw; go_simp; (try with_reducible rfl))
    try simp only [Act.put, List.setIfInBounds_toArray, List.set_cons_zero, List.set_cons_succ]
    refine anyG_take (i := 5) (oi := ⟨_, _, _, _, _, _⟩) (v := ?_) rfl rfl (by kernel_rfl) (by kernel_rfl) (by kernel_rfl) (by kernel_rfl) (by kernel_rfl) (fun _ _ _ h => h) (Or.inl ⟨by rfl, ?_⟩) hS ?_
    rotate_left
    · (intro w' hSw; obtain ⟨s1, s2, s3, s4, s5, s6⟩ := hSw; go_simp; (try with_reducible rfl))
    try simp only [Act.put, List.setIfInBounds_toArray, List.set_cons_zero, List.set_cons_succ]
    refine anyG_take (i := 6) (oi := ⟨_, _, _, _, _, _⟩) (v := ?_) rfl rfl (by kernel_rfl) (by kernel_rfl) (by kernel_rfl) (by kernel_rfl) (by kernel_rfl) (fun _ _ _ h => h) (Or.inl ⟨by rfl, ?_⟩) hS ?_
    rotate_left
    · (intro w' hSw; obtain ⟨s1, s2, s3, s4, s5, s6⟩ := hSw; go_simp; (try with_reducible rfl))
    try simp only [Act.put, List.setIfInBounds_toArray, List.set_cons_zero, List.set_cons_succ]
    refine anyG_take (i := 7) (oi := ⟨_, _, _, _, _, _⟩) (v := ?_) rfl rfl (by kernel_rfl) (by kernel_rfl) (by kernel_rfl) (by kernel_rfl) (by kernel_rfl) (fun _ _ _ h => h) (Or.inl ⟨by rfl, ?_⟩) hS ?_
    rotate_left
    · (intro w' hSw; obtain ⟨s1, s2, s3, s4, s5, s6⟩ := hSw; go_simp; (try with_reducible rfl))
    try simp only [Act.put, List.setIfInBounds_toArray, List.set_cons_zero, List.set_cons_succ]
    refine anyG_take (i := 8) (oi := ⟨_, _, _, _, _, _⟩) (v := ?_) rfl rfl (by kernel_rfl) (by kernel_rfl) (by kernel_rfl) (by kernel_rfl) (by kernel_rfl) (fun _ _ _ h => h) (Or.inl ⟨by rfl, ?_⟩) hS ?_
    rotate_left
    · (intro w' hSw; obtain ⟨s1, s2, s3, s4, s5, s6⟩ := hSw; go_simp; (try with_reducible rfl))
    try simp only [Act.put, List.setIfInBounds_toArray, List.set_cons_zero, List.set_cons_succ]
    refine anyG_take (i := 9) (oi := ⟨_, _, _, _, _, _⟩) (v := ?_) rfl rfl (by kernel_rfl) (by kernel_rfl) (by kernel_rfl) (by kernel_rfl) (by kernel_rfl) (fun _ _ _ h => h) (Or.inl ⟨by rfl, ?_⟩) hS ?_
    rotate_left
    · (intro w' hSw; obtain ⟨s1, s2, s3, s4, s5, s6⟩ := hSw; go_simp; (try with_reducible rfl))
    try simp only [Act.put, List.setIfInBounds_toArray, List.set_cons_zero, List.set_cons_succ]
    refine anyG_take (i := 10) (oi := ⟨_, _, _, _, _, _⟩) (v := .agg (pgC (padP b))) rfl rfl (by kernel_rfl) (by kernel_rfl) (by kernel_rfl) (by kernel_rfl) (by kernel_rfl) (fun _ _ _ h => h) (Or.inl ⟨by rfl, ?_⟩) hS ?_
    · (intro w' hSw; obtain ⟨s1, s2, s3, s4, s5, s6⟩ := hSw; clear s1 s2 s3 s4 s5; refine exec_wide (o := ⟨some 39, .load 75 (.tmp 4), _, _, _, _⟩) rfl rfl s6 Try.underlying75 rfl (by rw [pgC_size]; exact page_size))
    try simp only [Act.put, List.setIfInBounds_toArray, List.set_cons_zero, List.set_cons_succ]
    refine anyG_take (i := 11) (oi := ⟨_, _, _, _, _, _⟩) (v := .agg (wrC ⟨d.no, k, padP b⟩)) rfl rfl (by kernel_rfl) (by kernel_rfl) (by kernel_rfl) (by kernel_rfl) (by kernel_rfl) (fun _ _ _ h => h) (Or.inl ⟨by rfl, ?_⟩) hS ?_
    · (intro w' hSw; clear hSw; refine exec_build rfl ?_; simp only [List.map_toArray, List.map_cons, List.map_nil]; exact write_built _ _ (pgC (padP b)) (pgC_size _))
    try simp only [Act.put, List.setIfInBounds_toArray, List.set_cons_zero, List.set_cons_succ]
    refine anyG_all (rs := [12]) (by kernel_rfl) (by simp) (List.forall_mem_singleton.2 ?_)
    refine wpOp_step (o := ⟨_, _, _, _, _, _⟩) rfl (fun K' hK => ?_)
    have HK := Lib.hid hK
    clear hK
    rw [if_pos (by rfl)]
    refine wp_slice1 slWrite 0 _ rfl rfl (wrC ⟨d.no, k, padP b⟩) rfl (wrC_size _) (by decide) ?_
    refine HK.out _ _ ⟨fun _ => ?_, ?_⟩
    · obtain ⟨s1, s2, s3, s4, s5, s6⟩ := hS
      have hbl : Below w4.heap.size w4 (w4.drew.alloc (.cells (wrC ⟨d.no, k, padP b⟩) 77)) := (Below.refl _ _).drew.alloc (Nat.le_refl _) _
      exact ⟨cell_below hbl s1, cell_below hbl s2, cell_below hbl s3, cell_below hbl s4, cell_below hbl s5, fun j v hj => cell_below hbl (s6 j v hj)⟩
    clear HK
    try simp only [Act.put, List.setIfInBounds_toArray, List.set_cons_zero, List.set_cons_succ]
    refine anyG_all (rs := [13]) (by kernel_rfl) (by simp) (List.forall_mem_singleton.2 ?_)
    refine wpOp_step (o := ⟨_, _, _, _, _, _⟩) rfl (fun K' hK => ?_)
    have HK := Lib.hid hK
    clear hK
    rw [if_pos (by rfl)]
    have HOW := Lib.hid (show (w4.drew.alloc (.cells (wrC ⟨d.no, k, padP b⟩) 77)).ownsRow 0 77 258 (.slice Ao no co) no (wrsC x.f.opens) by
      have h1 := HFA4.out.opens
      dsimp only at h1
      rw [HVO.out, HNO.out] at h1
      exact (World.ownsRow.drew h1).alloc _)
    have hno : no ≤ 4000000000 := by
      have h1 := HI.out.file_opens HGD.out
      have h2 := HI.out.no
      have h3 := HNO.out
      omega
    refine wp_appk slWrite _ _ rfl 0 (.slice Ao no co) no (wrsC x.f.opens) rfl HOW.out (some ⟨w4.drew.heap.size, 0, none⟩) 1 1 (wrL ⟨d.no, k, padP b⟩) rfl (wrL_len _) (fresh_cells w4.drew _ _) (wrL_one _) (by omega) (by omega) (Nat.zero_le _) ?_
    intro v5 w5 ho5 hg5 hb5 hat5
    obtain ⟨A5, c5, hv5, -, -⟩ := own_shape ho5
    subst hv5
    have hg5' : w4.grownBy w5 (Value.slice Ao no co).ownBlock := grown_ofDrew ((World.grownBy_alloc w4.drew _ _).trans hg5)
    have HG5 := Lib.hid hg5'
    have HO5 := Lib.hid ho5
    have HAT5 := Lib.hid hat5
    clear hg5 ho5 hat5 hb5
    have hf5 : Fr (Value.slice Ao no co).ownBlock.toList w4 w5 := Fr.grown hg5' fun k hk _ => by rw [hk]; simp
    have hfaw := HFA4.out
    have hvow : (⟨x.bl, vn', x.vs, x.vo, ⟨layP x.f.now k (padP b), x.f.settled, x.f.opens⟩⟩ : FileM).vo = .slice Ao no co := HVO.out
    have hin4 : ∀ i ∈ (Value.slice Ao no co).ownBlock.toList, i ∈ fpD p m sb (mset es name ⟨x.bl, vn', x.vs, x.vo, ⟨layP x.f.now k (padP b), x.f.settled, x.f.opens⟩⟩) := fun i hi => mem_file (mget_mem HX4.out) (FileM.mem_fp.2 (.inr (.inr (.inr (by rw [hvow]; simpa using hi)))))
    have hne5 : ∀ q, N ≤ q → q < w.heap.size → q ∉ (Value.slice Ao no co).ownBlock.toList := fun q hq hl hi => by
      rcases HO4.out.new q (hin4 q hi) with h1 | h1
      · exact HNE.out q hq h1
      · omega
    have hS5 : w5.cell? ⟨bf, 0, none⟩ = some (.pointer (some ⟨x.bl, 0, none⟩)) ∧ w5.cell? ⟨x.bl, 2, none⟩ = some (.slice Ao no co) ∧ w5.cell? ⟨bd, 0, none⟩ = some (.pointer (some ⟨p, 0, none⟩)) ∧ w5.cell? ⟨p, 4, none⟩ = some (.int .i64 d.no) ∧ w5.cell? ⟨ba, 0, none⟩ = some (.int .i64 k) ∧ w5.rangeAt w.heap.size 0 (pgC (padP b)).toList := by
      obtain ⟨s1, s2, s3, s4, s5, s6⟩ := hS
      have hpp : ∀ q, N ≤ q → (∃ o : Obj, w.heap[q]? = some o) → q ∉ (Value.slice Ao no co).ownBlock.toList := fun q hq ho => by
        obtain ⟨o, ho⟩ := ho
        exact hne5 q hq (lt_of_block ho)
      refine ⟨hf5.cellKept (hpp bf b3 ⟨_, HB.out.f⟩) s1, hf5.cellKept (fun hi => (fp_parts hfaw.apart).2.2 x.bl (by rw [hvow]; simpa using hi) rfl) s2, hf5.cellKept (hpp bd b4 ⟨_, HB.out.d⟩) s3, hf5.cellKept (fun hi => HD4.out.p_ne.2.2 _ (mget_mem HX4.out) p (FileM.mem_fp.2 (.inr (.inr (.inr (by rw [hvow]; simpa using hi))))) rfl) s4, hf5.cellKept (hpp ba b2 ⟨_, HB.out.a⟩) s5, range_block (hf5.kept (fun hi => ?_) HP4.out)⟩
      have hE : 77 ≠ 75 := by decide
      exact own_ne (show w4.ownsRow 0 77 258 (.slice Ao no co) _ _ from by have h1 := hfaw.opens; rw [hvow] at h1; exact h1) hE HP4.out _ (by simpa using hi) rfl
    have HS5 := Lib.hid hS5
    refine HK.out _ _ ⟨fun _ => HS5.out, ?_⟩
    clear HK hf5 hfaw hvow hin4 hne5 hS5 hS hg5'
    have hS := HS5.out
    try simp only [Act.put, List.setIfInBounds_toArray, List.set_cons_zero, List.set_cons_succ]
    refine anyG_all (rs := [14]) (by kernel_rfl) (by simp) (List.forall_mem_singleton.2 ?_)
    refine wpOp_step (o := ⟨_, _, _, _, _, _⟩) rfl (fun K' hK => ?_)
    have HK := Lib.hid hK
    clear hK
    rw [if_pos (by rfl)]
    go_simp
    refine HK.out _ _ ⟨fun _ => hS, ?_⟩
    clear HK
    try simp only [Act.put, List.setIfInBounds_toArray, List.set_cons_zero, List.set_cons_succ]
    refine anyG_all (rs := [15]) (by kernel_rfl) (by simp) (List.forall_mem_singleton.2 ?_)
    refine wpOp_step (o := ⟨_, _, _, _, _, _⟩) rfl (fun K' hK => ?_)
    have HK := Lib.hid hK
    clear hK
    rw [if_pos (by rfl)]
    go_simp
    refine HK.out _ _ ⟨fun _ => hS, ?_⟩
    clear HK
    try simp only [Act.put, List.setIfInBounds_toArray, List.set_cons_zero, List.set_cons_succ]
    refine anyG_all (rs := [16]) (by kernel_rfl) (by simp) (List.forall_mem_singleton.2 ?_)
    refine wpOp_step (o := ⟨_, _, _, _, _, _⟩) rfl (fun K' hK => ?_)
    have HK := Lib.hid hK
    clear hK
    rw [if_pos (by rfl)]
    have z2c := hS.2.1
    have z2f : w5.frozen? ⟨x.bl, 2, none⟩ = false := free_of (show w5.heap[x.bl]? = some (.cells #[vn', x.vs, x.vo] 73) from (HG5.out.block _ (lt_of_block HFA4.out.blk) (fun e => (fp_parts HFA4.out.apart).2.2 x.bl (by rw [show (⟨x.bl, vn', x.vs, x.vo, ⟨layP x.f.now k (padP b), x.f.settled, x.f.opens⟩⟩ : FileM).vo = .slice Ao no co from HVO.out]; exact e.symm) rfl)).trans HFA4.out.blk) 2
    clear hS
    go_simp
    refine HK.out _ _ ⟨fun h => absurd rfl h, anyG_done (by kernel_rfl) ?_⟩
    clear HK
    refine NoPanic.normal ?_
    have hO6 := HO4.out.trans (put_open (r := ⟨d.no, k, padP b⟩) (vo := .slice A5 (no + 1) c5) HD4.out HX4.out (by rw [show (⟨x.bl, vn', x.vs, x.vo, ⟨layP x.f.now k (padP b), x.f.settled, x.f.opens⟩⟩ : FileM).vo = .slice Ao no co from HVO.out]; exact HG5.out) (by dsimp only; rw [HNO.out]; exact HO5.out) ((OwnNext.refl _ _).step (by dsimp only; rw [HVO.out]; exact HAT5.out) (by simp)))
    have HO6 := Lib.hid hO6
    have hbd6 : (w5.setCell ⟨x.bl, 2, none⟩ (.slice A5 (no + 1) c5)).cell? ⟨bd, 0, none⟩ = some (.pointer (some ⟨p, 0, none⟩)) := cell_put HS5.out.2.2.1 (.inl (fun e => HNE.out bd b4 (by
      have e' : bd = x.bl := e
      rw [e']
      exact mem_file (mget_mem HX.out) (FileM.mem_fp.2 (.inl rfl)))))
    have h6 := hO6.at_
    obtain ⟨-, -, -, -, e4, -, -⟩ := h6.cell
    have e4f := h6.free 4
    dsimp only at e4
    have HW := Lib.hid hO6.at_
    clear hO6 h6 z2c z2f
    generalize w5.setCell ⟨x.bl, 2, none⟩ (.slice A5 (no + 1) c5) = w6 at *
    have hnb : (0 : Int) ≤ (d.no : Int) ∧ (d.no : Int) + 1 < 9223372036854775808 := by have := HI.out.no; omega
    obtain ⟨hn0, hn1⟩ := hnb
    have hwr : IntKind.i64.wrap ((d.no : Int) + 1) = (d.no : Int) + 1 := IntWalk.i64_in _ (by omega)
    go_wp2_with fail
    have hset := HW.out.setNo (d.no + 1)
    rw [show (((d.no + 1 : Nat)) : Int) = (d.no : Int) + 1 by omega] at hset
    have hfin := HO6.out.head hset
    have HF := Lib.hid hfin
    clear hfin
    go_end0
    refine ⟨rfl, ?_⟩
    have hFF := HF.out
    dsimp only at hFF
    rw [mset_mset] at hFF
    unfold wrD
    rw [if_neg HKN.out]
    exact ⟨_, hFF⟩
end Go.Proofs.Ytladknjmoahdoaa
