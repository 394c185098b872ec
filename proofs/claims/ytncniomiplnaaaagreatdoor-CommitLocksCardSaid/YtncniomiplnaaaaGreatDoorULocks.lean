/- CommitLocks: the locks of any keys, deal and payment are the document's (at most 4000 bytes of keys): the row's statement and its tied card, no condition beyond the row's own (the variables that it lists read as they are laid). -/
import Derived.Test.YtncniomiplnaaaaGreatDoorQ0
import Derived.Test.YtncniomiplnaaaaGreatDoorQ1
import Derived.Test.YtncniomiplnaaaaGreatDoorQ2
import Derived.Test.YtncniomiplnaaaaGreatDoorQ3
import Derived.Test.YtncniomiplnaaaaGreatDoorQ4
import Derived.Test.YtncniomiplnaaaaGreatDoorQ5
import Derived.Test.YtncniomiplnaaaaGreatDoorQ6
import Derived.Test.YtncniomiplnaaaaGreatDoorQ7
import Derived.Test.YtncniomiplnaaaaGreatDoorQ8
import Derived.Test.YtncniomiplnaaaaGreatDoorQ9
import Derived.Test.YtncniomiplnaaaaGreatDoorQ10
import Derived.Test.YtncniomiplnaaaaGreatDoorQ11
import Derived.Test.YtncniomiplnaaaaGreatDoorQ12
import Derived.Test.YtncniomiplnaaaaGreatDoorQ13
import Derived.Test.YtncniomiplnaaaaGreatDoorQ14
import Derived.Test.YtncniomiplnaaaaGreatDoorQ15
import Derived.Test.YtncniomiplnaaaaGreatDoorQ16
import Derived.Test.YtncniomiplnaaaaGreatDoorQ17
import Derived.Test.YtncniomiplnaaaaGreatDoorQ18
import Derived.Test.YtncniomiplnaaaaGreatDoorQ19
import Derived.Test.YtncniomiplnaaaaGreatDoorQ20
import Derived.Test.YtncniomiplnaaaaGreatDoorQ21
import Derived.Test.YtncniomiplnaaaaGreatDoorQ22
import Derived.Test.YtncniomiplnaaaaGreatDoorQ23
import Derived.Test.YtncniomiplnaaaaGreatDoorQ24
import Derived.Test.YtncniomiplnaaaaGreatDoorQ25
import Derived.SizedLaws
import Derived.Stop.LaidErr
import Derived.Stop.LaidTwo
import Derived.Lib.LaidTab
import Derived.Sort.Walk0
set_option linter.all false
namespace Go.Proofs.YtncniomiplnaaaaGreatDoor
open Go.ChangeShapes Go.WideShapes Go.ChangeAt Go.RowKit Go.WideMaps Go.WideElems
section
variable {H : Type} {enc : TypeId × Value → H} {W : World} {base : Nat}
set_option maxRecDepth 100000 in
theorem open_pay {v : Value} {d : DataW H} {p : List MemPlace} (hval : Value.okWide Tryz.prog W .any base 26 v) (h : DataW.Trod enc Tryz.prog W 0 (fun _ => true) true 26 v d p) (hB : ∀ n ∈ d.weights Tryz.prog 26, n ≤ reachBytes) :
    ∃ h : PayR, v = htlcV h ∧ h.hash.size ≤ reachBytes := by
  obtain ⟨cs, rfl, hsz⟩ := okWide_struct Tryz.underlying26 hval
  obtain ⟨c0, c1, c2, c3, c4, rfl⟩ := arrayN5 (hsz.trans (show Tryz.prog.cellsOf 26 = 5 by kernel_rfl))
  obtain ⟨fuel, hf⟩ := h
  obtain ⟨xs, n, -, hx, hl, hlen, hfi⟩ := DataW.trod_struct Tryz.underlying26 hf
  obtain ⟨y0, y1, y2, y3, y4, rfl⟩ : ∃ y0 y1 y2 y3 y4, xs = [y0, y1, y2, y3, y4] := by
    match xs, hlen with
    | [y0, y1, y2, y3, y4], _ => exact ⟨_, _, _, _, _, rfl⟩
  have hc0 : Tryz.prog.cellsOf 4 = 1 := by kernel_rfl
  have hc1 : Tryz.prog.cellsOf 3 = 1 := by kernel_rfl
  have hc2 : Tryz.prog.cellsOf 2 = 1 := by kernel_rfl
  have hc3 : Tryz.prog.cellsOf 24 = 1 := by kernel_rfl
  have t0 := hfi 0 _ rfl
  have t1 := hfi 1 _ rfl
  have t2 := hfi 2 _ rfl
  have t3 := hfi 3 _ rfl
  have t4 := hfi 4 _ rfl
  simp only [Value.cells, hc0, hc1, hc2, hc3] at t0 t1 t2 t3 t4
  obtain ⟨s0, e0, q0⟩ := DataW.trod_bool Tryz.underlying4 t0
  obtain ⟨s1, e1, q1, -⟩ := DataW.trod_int Tryz.underlying2 t1
  obtain ⟨s2, e2, q2, -⟩ := DataW.trod_int Tryz.underlying2 t2
  obtain ⟨s3, e3, q3, -⟩ := DataW.trod_string Tryz.underlying24 t3
  obtain ⟨s4, e4, q4, -⟩ := DataW.trod_int Tryz.underlying3 t4
  subst q0; subst q1; subst q2; subst q3; subst q4
  simp [hc0, hc1, hc2, hc3] at e0 e1 e2 e3 e4
  subst e0; subst e1; subst e2; subst e3; subst e4
  simp only [Prod.mk.injEq, List.map_cons, List.map_nil] at hx
  obtain ⟨hx1, -⟩ := hx
  subst hx1
  have z3 := weight_agg (fs := _) Tryz.underlying26 hB 3 _ _ rfl rfl
  exact ⟨⟨s0, s1, s2, s3, s4⟩, rfl, weight_string z3⟩
end
end Go.Proofs.YtncniomiplnaaaaGreatDoor
namespace Go.Proofs.YtncniomiplnaaaaGreatDoor
open Go.RowKit Go.Sort
/-- Two locks in a row of their own. -/
def twoC (x y : ByteArray) : Array Value := #[.int .u8 1, .string x, .int .i64 0, .slice none 0 0, .int .u8 1, .string y, .int .i64 0, .slice none 0 0]
theorem twoH (x y : ByteArray) (w : World) : LocksH (w.alloc (.cells (twoC x y) 55)) (some ⟨w.heap.size, 0, none⟩) [sigL x, sigL y] (twoC x y).toList :=
  rowH (by simp [twoC]) fun _ _ => LocksC.cons (LockC.leaf 1 _ _) (LocksC.cons (LockC.leaf 1 _ _) LocksC.nil)
def fundL (a b : ByteArray) : LockT := if b.data.toList < a.data.toList then allL [sigL b, sigL a] else allL [sigL a, sigL b]
set_option maxRecDepth 100000 in
set_option maxHeartbeats 4000000 in
theorem fund_lt (a b : ByteArray) (w : World) (hlt : b.data.toList < a.data.toList) : Calls Tryz.prog 21 #[.string a, .string b] w fun e w' => ∃ v, e = .returned v ∧ LockV w' (allL [sigL b, sigL a]) v ∧ Below w.heap.size w w' := by
  have l1 : Op.bytesLess a.toList b.toList = false := by rw [bytesLess_eq, Lib.toList_data, Lib.toList_data]; exact decide_eq_false (List.lt_asymm hlt)
  have l2 : (a.toList == b.toList) = false := beq_false_of_ne (fun e => by rw [Lib.toList_data, Lib.toList_data] at e; rw [e] at hlt; exact List.lt_irrefl _ hlt)
  have h1 : ∀ W, Sem.run Tryz.prog (Builtin.min_ #[24, 24] 24 #[.string a, .string b]) W = .ok (.string b) W := fun W => by
    simp [Builtin.min_, Builtin.min2, Op.stringOp, asBool, l1, l2]
  have h2 : ∀ W, Sem.run Tryz.prog (Builtin.max_ #[24, 24] 24 #[.string a, .string b]) W = .ok (.string a) W := fun W => by
    simp [Builtin.max_, Builtin.max2, Op.stringOp, asBool, l1]
  have HS := Lib.hid (fun t W => show Calls Tryz.prog _ _ W (fun e w' => e = .returned (.agg #[.int .u8 1, .string t, .int .i64 0, .slice none 0 0]) ∧ Below W.heap.size W w') from sig_any t W)
  have HZ := Lib.hid (show LBox (w.alloc (.cells #[.int .u8 0, .string ⟨#[]⟩, .int .i64 0, .slice none 0 0] 55)) w.heap.size 0 ⟨#[]⟩ 0 (.slice none 0 0) from Go.heap_alloc_new w _)
  have HB := Lib.hid ((Below.refl w.heap.size w).alloc (Nat.le_refl _) (.cells #[.int .u8 0, .string ⟨#[]⟩, .int .i64 0, .slice none 0 0] 55))
  go_enter Tryz.func21, Tryz.ntmps21
  go_wp2_with fail
  refine (HS.out b _).mono ?_
  rintro e w1 ⟨rfl, hb1⟩
  have HB1 := Lib.hid (HB.out.trans (hb1.mono HB.out.size))
  have HZ1 := Lib.hid (HZ.out.below hb1)
  clear hb1
  go_wp2_with fail
  refine (HS.out a _).mono ?_
  rintro e w2 ⟨rfl, hb2⟩
  have HB2 := Lib.hid (HB1.out.trans (hb2.mono HB1.out.size))
  have HZ2 := Lib.hid (HZ1.out.below hb2)
  have hal : Below w2.heap.size w2 (w2.alloc (.cells (twoC b a) 55)) := (Below.refl _ _).alloc (Nat.le_refl _) _
  have HB3 := Lib.hid (HB2.out.trans (hal.mono HB2.out.size))
  have HZ3 := Lib.hid (HZ2.out.below hal)
  have HC := Lib.hid (all_n [sigL b, sigL a] 2 rfl ⟨w2.heap.size, 0, none⟩ 2 _ (by simp) (by simp) (twoH b a w2))
  unfold twoC at HC HB3 HZ3
  clear hb2 hal
  go_wp2_with fail
  refine HC.out.mono ?_
  rintro e w3 ⟨A, c, rfl, hl, hb4⟩
  have HB4 := Lib.hid (HB3.out.trans (hb4.mono HB3.out.size))
  have HZ4 := Lib.hid (HZ3.out.below hb4)
  have HL := Lib.hid hl
  obtain ⟨p0, p1, p2, p3, pf⟩ := HZ4.out.cells
  clear hb4 hl
  go_wp2_with fail
  change bodyPost _ _ _ _ _ (putL w3 w.heap.size (.int .u8 5) (.string ⟨#[]⟩) (.int .i64 0) (.slice A 2 c))
  have hA := HZ4.out.put 5 ⟨#[]⟩ 0 (.slice A 2 c)
  have hFr := putL_fr w3 w.heap.size (.int .u8 5) (.string ⟨#[]⟩) (.int .i64 0) (.slice A 2 c) (F := [w.heap.size]) (List.mem_singleton.2 rfl)
  generalize putL w3 w.heap.size (.int .u8 5) (.string ⟨#[]⟩) (.int .i64 0) (.slice A 2 c) = Wf at hA hFr ⊢
  clear p0 p1 p2 p3 pf
  obtain ⟨r0, r1, r2, r3, -⟩ := hA.cells
  have hD := DepEq.box HZ4.out hFr
  have hF := HB4.out.trans (hFr.toBelowOf (B := w.heap.size) HB4.out.size (fun i hi => by simp at hi; omega))
  exact bodyPost_ret (v := lockV 5 ⟨#[]⟩ 0 A 2 c) (by simp [results, Tryz.results21, go_sem, r0, r1, r2, r3, lockV]) rfl ⟨_, rfl, ⟨A, c, rfl, HL.out.mono hD⟩, hF⟩
set_option maxRecDepth 100000 in
set_option maxHeartbeats 4000000 in
theorem fund_ge (a b : ByteArray) (w : World) (hlt : ¬ b.data.toList < a.data.toList) : Calls Tryz.prog 21 #[.string a, .string b] w fun e w' => ∃ v, e = .returned v ∧ LockV w' (allL [sigL a, sigL b]) v ∧ Below w.heap.size w w' := by
  have l1 : (Op.bytesLess a.toList b.toList || a.toList == b.toList) = true := by
    rw [bytesLess_eq, Lib.toList_data, Lib.toList_data]
    rcases Classical.em (a.data.toList < b.data.toList) with h | h
    · rw [decide_eq_true h]; rfl
    · rw [List.le_antisymm (List.not_lt.1 hlt) (List.not_lt.1 h)]; simp
  have l2 : Op.bytesLess a.toList b.toList = false → a = b := fun h0 => by
    rw [bytesLess_eq, Lib.toList_data, Lib.toList_data] at h0
    exact ByteArray.ext (Array.ext' (List.le_antisymm (List.not_lt.1 hlt) (List.not_lt.1 (of_decide_eq_false h0))))
  have h1 : ∀ W, Sem.run Tryz.prog (Builtin.min_ #[24, 24] 24 #[.string a, .string b]) W = .ok (.string a) W := fun W => by
    simp [Builtin.min_, Builtin.min2, Op.stringOp, asBool, l1]
  have h2 : ∀ W, Sem.run Tryz.prog (Builtin.max_ #[24, 24] 24 #[.string a, .string b]) W = .ok (.string b) W := fun W => by
    simp [Builtin.max_, Builtin.max2, Op.stringOp, asBool]
    exact l2
  have HS := Lib.hid (fun t W => show Calls Tryz.prog _ _ W (fun e w' => e = .returned (.agg #[.int .u8 1, .string t, .int .i64 0, .slice none 0 0]) ∧ Below W.heap.size W w') from sig_any t W)
  have HZ := Lib.hid (show LBox (w.alloc (.cells #[.int .u8 0, .string ⟨#[]⟩, .int .i64 0, .slice none 0 0] 55)) w.heap.size 0 ⟨#[]⟩ 0 (.slice none 0 0) from Go.heap_alloc_new w _)
  have HB := Lib.hid ((Below.refl w.heap.size w).alloc (Nat.le_refl _) (.cells #[.int .u8 0, .string ⟨#[]⟩, .int .i64 0, .slice none 0 0] 55))
  go_enter Tryz.func21, Tryz.ntmps21
  go_wp2_with fail
  refine (HS.out a _).mono ?_
  rintro e w1 ⟨rfl, hb1⟩
  have HB1 := Lib.hid (HB.out.trans (hb1.mono HB.out.size))
  have HZ1 := Lib.hid (HZ.out.below hb1)
  clear hb1
  go_wp2_with fail
  refine (HS.out b _).mono ?_
  rintro e w2 ⟨rfl, hb2⟩
  have HB2 := Lib.hid (HB1.out.trans (hb2.mono HB1.out.size))
  have HZ2 := Lib.hid (HZ1.out.below hb2)
  have hal : Below w2.heap.size w2 (w2.alloc (.cells (twoC a b) 55)) := (Below.refl _ _).alloc (Nat.le_refl _) _
  have HB3 := Lib.hid (HB2.out.trans (hal.mono HB2.out.size))
  have HZ3 := Lib.hid (HZ2.out.below hal)
  have HC := Lib.hid (all_n [sigL a, sigL b] 2 rfl ⟨w2.heap.size, 0, none⟩ 2 _ (by simp) (by simp) (twoH a b w2))
  unfold twoC at HC HB3 HZ3
  clear hb2 hal
  go_wp2_with fail
  refine HC.out.mono ?_
  rintro e w3 ⟨A, c, rfl, hl, hb4⟩
  have HB4 := Lib.hid (HB3.out.trans (hb4.mono HB3.out.size))
  have HZ4 := Lib.hid (HZ3.out.below hb4)
  have HL := Lib.hid hl
  obtain ⟨p0, p1, p2, p3, pf⟩ := HZ4.out.cells
  clear hb4 hl
  go_wp2_with fail
  change bodyPost _ _ _ _ _ (putL w3 w.heap.size (.int .u8 5) (.string ⟨#[]⟩) (.int .i64 0) (.slice A 2 c))
  have hA := HZ4.out.put 5 ⟨#[]⟩ 0 (.slice A 2 c)
  have hFr := putL_fr w3 w.heap.size (.int .u8 5) (.string ⟨#[]⟩) (.int .i64 0) (.slice A 2 c) (F := [w.heap.size]) (List.mem_singleton.2 rfl)
  generalize putL w3 w.heap.size (.int .u8 5) (.string ⟨#[]⟩) (.int .i64 0) (.slice A 2 c) = Wf at hA hFr ⊢
  clear p0 p1 p2 p3 pf
  obtain ⟨r0, r1, r2, r3, -⟩ := hA.cells
  have hD := DepEq.box HZ4.out hFr
  have hF := HB4.out.trans (hFr.toBelowOf (B := w.heap.size) HB4.out.size (fun i hi => by simp at hi; omega))
  exact bodyPost_ret (v := lockV 5 ⟨#[]⟩ 0 A 2 c) (by simp [results, Tryz.results21, go_sem, r0, r1, r2, r3, lockV]) rfl ⟨_, rfl, ⟨A, c, rfl, HL.out.mono hD⟩, hF⟩
set_option maxRecDepth 100000 in
set_option maxHeartbeats 4000000 in
theorem rfund_lt (a b : ByteArray) (w : World) (hlt : b.data.toList < a.data.toList) : Calls Tryz.prog 22 #[.string a, .string b] w fun e w' => ∃ v, e = .returned v ∧ LockV w' (allL [sigL b, sigL a]) v ∧ Below w.heap.size w w' := by
  have l1 : Op.bytesLess b.toList a.toList = true := by rw [bytesLess_eq, Lib.toList_data, Lib.toList_data]; exact decide_eq_true hlt
  have HS := Lib.hid (fun t W => show Calls Tryz.prog _ _ W (fun e w' => e = .returned (.agg #[.int .u8 1, .string t, .int .i64 0, .slice none 0 0]) ∧ Below W.heap.size W w') from rsig_any t W)
  have HZ := Lib.hid (show LBox (w.alloc (.cells #[.int .u8 0, .string ⟨#[]⟩, .int .i64 0, .slice none 0 0] 55)) w.heap.size 0 ⟨#[]⟩ 0 (.slice none 0 0) from Go.heap_alloc_new w _)
  have HB := Lib.hid ((Below.refl w.heap.size w).alloc (Nat.le_refl _) (.cells #[.int .u8 0, .string ⟨#[]⟩, .int .i64 0, .slice none 0 0] 55))
  go_enter Tryz.func22, Tryz.ntmps22
  go_wp2_with fail
  refine (HS.out b _).mono ?_
  rintro e w1 ⟨rfl, hb1⟩
  have HB1 := Lib.hid (HB.out.trans (hb1.mono HB.out.size))
  have HZ1 := Lib.hid (HZ.out.below hb1)
  clear hb1
  go_wp2_with fail
  refine (HS.out a _).mono ?_
  rintro e w2 ⟨rfl, hb2⟩
  have HB2 := Lib.hid (HB1.out.trans (hb2.mono HB1.out.size))
  have HZ2 := Lib.hid (HZ1.out.below hb2)
  have hal : Below w2.heap.size w2 (w2.alloc (.cells (twoC b a) 55)) := (Below.refl _ _).alloc (Nat.le_refl _) _
  have HB3 := Lib.hid (HB2.out.trans (hal.mono HB2.out.size))
  have HZ3 := Lib.hid (HZ2.out.below hal)
  have HC := Lib.hid (rall_n [sigL b, sigL a] 2 rfl ⟨w2.heap.size, 0, none⟩ 2 _ (twoH b a w2))
  unfold twoC at HC HB3 HZ3
  clear hb2 hal
  go_wp2_with fail
  refine HC.out.mono ?_
  rintro e w3 ⟨A, c, rfl, hl, hb4⟩
  have HB4 := Lib.hid (HB3.out.trans (hb4.mono HB3.out.size))
  have HZ4 := Lib.hid (HZ3.out.below hb4)
  have HL := Lib.hid hl
  obtain ⟨p0, p1, p2, p3, pf⟩ := HZ4.out.cells
  clear hb4 hl
  go_wp2_with fail
  change bodyPost _ _ _ _ _ (putL w3 w.heap.size (.int .u8 5) (.string ⟨#[]⟩) (.int .i64 0) (.slice A 2 c))
  have hA := HZ4.out.put 5 ⟨#[]⟩ 0 (.slice A 2 c)
  have hFr := putL_fr w3 w.heap.size (.int .u8 5) (.string ⟨#[]⟩) (.int .i64 0) (.slice A 2 c) (F := [w.heap.size]) (List.mem_singleton.2 rfl)
  generalize putL w3 w.heap.size (.int .u8 5) (.string ⟨#[]⟩) (.int .i64 0) (.slice A 2 c) = Wf at hA hFr ⊢
  clear p0 p1 p2 p3 pf
  obtain ⟨r0, r1, r2, r3, -⟩ := hA.cells
  have hD := DepEq.box HZ4.out hFr
  have hF := HB4.out.trans (hFr.toBelowOf (B := w.heap.size) HB4.out.size (fun i hi => by simp at hi; omega))
  exact bodyPost_ret (v := lockV 5 ⟨#[]⟩ 0 A 2 c) (by simp [results, Tryz.results22, go_sem, r0, r1, r2, r3, lockV]) rfl ⟨_, rfl, ⟨A, c, rfl, HL.out.mono hD⟩, hF⟩
set_option maxRecDepth 100000 in
set_option maxHeartbeats 4000000 in
theorem rfund_ge (a b : ByteArray) (w : World) (hlt : ¬ b.data.toList < a.data.toList) : Calls Tryz.prog 22 #[.string a, .string b] w fun e w' => ∃ v, e = .returned v ∧ LockV w' (allL [sigL a, sigL b]) v ∧ Below w.heap.size w w' := by
  have l1 : Op.bytesLess b.toList a.toList = false := by rw [bytesLess_eq, Lib.toList_data, Lib.toList_data]; exact decide_eq_false hlt
  have HS := Lib.hid (fun t W => show Calls Tryz.prog _ _ W (fun e w' => e = .returned (.agg #[.int .u8 1, .string t, .int .i64 0, .slice none 0 0]) ∧ Below W.heap.size W w') from rsig_any t W)
  have HZ := Lib.hid (show LBox (w.alloc (.cells #[.int .u8 0, .string ⟨#[]⟩, .int .i64 0, .slice none 0 0] 55)) w.heap.size 0 ⟨#[]⟩ 0 (.slice none 0 0) from Go.heap_alloc_new w _)
  have HB := Lib.hid ((Below.refl w.heap.size w).alloc (Nat.le_refl _) (.cells #[.int .u8 0, .string ⟨#[]⟩, .int .i64 0, .slice none 0 0] 55))
  go_enter Tryz.func22, Tryz.ntmps22
  go_wp2_with fail
  refine (HS.out a _).mono ?_
  rintro e w1 ⟨rfl, hb1⟩
  have HB1 := Lib.hid (HB.out.trans (hb1.mono HB.out.size))
  have HZ1 := Lib.hid (HZ.out.below hb1)
  clear hb1
  go_wp2_with fail
  refine (HS.out b _).mono ?_
  rintro e w2 ⟨rfl, hb2⟩
  have HB2 := Lib.hid (HB1.out.trans (hb2.mono HB1.out.size))
  have HZ2 := Lib.hid (HZ1.out.below hb2)
  have hal : Below w2.heap.size w2 (w2.alloc (.cells (twoC a b) 55)) := (Below.refl _ _).alloc (Nat.le_refl _) _
  have HB3 := Lib.hid (HB2.out.trans (hal.mono HB2.out.size))
  have HZ3 := Lib.hid (HZ2.out.below hal)
  have HC := Lib.hid (rall_n [sigL a, sigL b] 2 rfl ⟨w2.heap.size, 0, none⟩ 2 _ (twoH a b w2))
  unfold twoC at HC HB3 HZ3
  clear hb2 hal
  go_wp2_with fail
  refine HC.out.mono ?_
  rintro e w3 ⟨A, c, rfl, hl, hb4⟩
  have HB4 := Lib.hid (HB3.out.trans (hb4.mono HB3.out.size))
  have HZ4 := Lib.hid (HZ3.out.below hb4)
  have HL := Lib.hid hl
  obtain ⟨p0, p1, p2, p3, pf⟩ := HZ4.out.cells
  clear hb4 hl
  go_wp2_with fail
  change bodyPost _ _ _ _ _ (putL w3 w.heap.size (.int .u8 5) (.string ⟨#[]⟩) (.int .i64 0) (.slice A 2 c))
  have hA := HZ4.out.put 5 ⟨#[]⟩ 0 (.slice A 2 c)
  have hFr := putL_fr w3 w.heap.size (.int .u8 5) (.string ⟨#[]⟩) (.int .i64 0) (.slice A 2 c) (F := [w.heap.size]) (List.mem_singleton.2 rfl)
  generalize putL w3 w.heap.size (.int .u8 5) (.string ⟨#[]⟩) (.int .i64 0) (.slice A 2 c) = Wf at hA hFr ⊢
  clear p0 p1 p2 p3 pf
  obtain ⟨r0, r1, r2, r3, -⟩ := hA.cells
  have hD := DepEq.box HZ4.out hFr
  have hF := HB4.out.trans (hFr.toBelowOf (B := w.heap.size) HB4.out.size (fun i hi => by simp at hi; omega))
  exact bodyPost_ret (v := lockV 5 ⟨#[]⟩ 0 A 2 c) (by simp [results, Tryz.results22, go_sem, r0, r1, r2, r3, lockV]) rfl ⟨_, rfl, ⟨A, c, rfl, HL.out.mono hD⟩, hF⟩
theorem fund_any (a b : ByteArray) (w : World) : Calls Tryz.prog 21 #[.string a, .string b] w fun e w' => ∃ v, e = .returned v ∧ LockV w' (fundL a b) v ∧ Below w.heap.size w w' := by
  unfold fundL
  by_cases hlt : b.data.toList < a.data.toList
  · rw [if_pos hlt]; exact fund_lt a b w hlt
  · rw [if_neg hlt]; exact fund_ge a b w hlt
theorem rfund_any (a b : ByteArray) (w : World) : Calls Tryz.prog 22 #[.string a, .string b] w fun e w' => ∃ v, e = .returned v ∧ LockV w' (fundL a b) v ∧ Below w.heap.size w w' := by
  unfold fundL
  by_cases hlt : b.data.toList < a.data.toList
  · rw [if_pos hlt]; exact rfund_lt a b w hlt
  · rw [if_neg hlt]; exact rfund_ge a b w hlt
end Go.Proofs.YtncniomiplnaaaaGreatDoor
namespace Go.Proofs.YtncniomiplnaaaaGreatDoor
open Go.RowKit
set_option maxRecDepth 100000 in
set_option maxHeartbeats 8000000 in
theorem large_one (k : KeysR) (h : PayR) (b : Nat) (w : World) (hk : keysN k ≤ 1000000000000000000) (hh : h.hash.size ≤ 1000000000000000000) (hb : w.heap[b]? = some (.cells #[.bool h.mine, .int .i64 h.id, .int .i64 h.amt, .string h.hash, .int .i64 h.exp] 26 (0, 0))) :
    Calls Tryz.prog 15 #[keysV k, .agg #[.int .i64 0, .int .i64 0, .int .i64 0, .slice (some ⟨b, 0, none⟩) 1 1]] w fun e w' => e = .returned (.bool (decide (4000 < keysN k + h.hash.size))) ∧ Below w.heap.size w w' := by
  unfold keysV
  have HB := Lib.hid (((Below.refl w.heap.size w).alloc (Nat.le_refl _) (.cells #[.string k.rev, .string k.later, .string k.mine, .string k.theirs, .string k.pay] 40)).alloc (by simp) (.cells #[.int .i64 0, .int .i64 0, .int .i64 0, .slice (some ⟨b, 0, none⟩) 1 1] 38))
  have k0 : ((w.alloc (.cells #[.string k.rev, .string k.later, .string k.mine, .string k.theirs, .string k.pay] 40)).alloc (.cells #[.int .i64 0, .int .i64 0, .int .i64 0, .slice (some ⟨b, 0, none⟩) 1 1] 38)).cell? ⟨w.heap.size, 0, none⟩ = some (.string k.rev) := cell_of (j := 0) (allocs_at [(.cells #[.string k.rev, .string k.later, .string k.mine, .string k.theirs, .string k.pay] 40), (.cells #[.int .i64 0, .int .i64 0, .int .i64 0, .slice (some ⟨b, 0, none⟩) 1 1] 38)] w 0 _ rfl) rfl
  have k1 : ((w.alloc (.cells #[.string k.rev, .string k.later, .string k.mine, .string k.theirs, .string k.pay] 40)).alloc (.cells #[.int .i64 0, .int .i64 0, .int .i64 0, .slice (some ⟨b, 0, none⟩) 1 1] 38)).cell? ⟨w.heap.size, 1, none⟩ = some (.string k.later) := cell_of (j := 1) (allocs_at [(.cells #[.string k.rev, .string k.later, .string k.mine, .string k.theirs, .string k.pay] 40), (.cells #[.int .i64 0, .int .i64 0, .int .i64 0, .slice (some ⟨b, 0, none⟩) 1 1] 38)] w 0 _ rfl) rfl
  have k2 : ((w.alloc (.cells #[.string k.rev, .string k.later, .string k.mine, .string k.theirs, .string k.pay] 40)).alloc (.cells #[.int .i64 0, .int .i64 0, .int .i64 0, .slice (some ⟨b, 0, none⟩) 1 1] 38)).cell? ⟨w.heap.size, 2, none⟩ = some (.string k.mine) := cell_of (j := 2) (allocs_at [(.cells #[.string k.rev, .string k.later, .string k.mine, .string k.theirs, .string k.pay] 40), (.cells #[.int .i64 0, .int .i64 0, .int .i64 0, .slice (some ⟨b, 0, none⟩) 1 1] 38)] w 0 _ rfl) rfl
  have k3 : ((w.alloc (.cells #[.string k.rev, .string k.later, .string k.mine, .string k.theirs, .string k.pay] 40)).alloc (.cells #[.int .i64 0, .int .i64 0, .int .i64 0, .slice (some ⟨b, 0, none⟩) 1 1] 38)).cell? ⟨w.heap.size, 3, none⟩ = some (.string k.theirs) := cell_of (j := 3) (allocs_at [(.cells #[.string k.rev, .string k.later, .string k.mine, .string k.theirs, .string k.pay] 40), (.cells #[.int .i64 0, .int .i64 0, .int .i64 0, .slice (some ⟨b, 0, none⟩) 1 1] 38)] w 0 _ rfl) rfl
  have k4 : ((w.alloc (.cells #[.string k.rev, .string k.later, .string k.mine, .string k.theirs, .string k.pay] 40)).alloc (.cells #[.int .i64 0, .int .i64 0, .int .i64 0, .slice (some ⟨b, 0, none⟩) 1 1] 38)).cell? ⟨w.heap.size, 4, none⟩ = some (.string k.pay) := cell_of (j := 4) (allocs_at [(.cells #[.string k.rev, .string k.later, .string k.mine, .string k.theirs, .string k.pay] 40), (.cells #[.int .i64 0, .int .i64 0, .int .i64 0, .slice (some ⟨b, 0, none⟩) 1 1] 38)] w 0 _ rfl) rfl
  have s3 : ((w.alloc (.cells #[.string k.rev, .string k.later, .string k.mine, .string k.theirs, .string k.pay] 40)).alloc (.cells #[.int .i64 0, .int .i64 0, .int .i64 0, .slice (some ⟨b, 0, none⟩) 1 1] 38)).cell? ⟨w.heap.size + 1, 3, none⟩ = some (.slice (some ⟨b, 0, none⟩) 1 1) := cell_of (j := 3) (allocs_at [(.cells #[.string k.rev, .string k.later, .string k.mine, .string k.theirs, .string k.pay] 40), (.cells #[.int .i64 0, .int .i64 0, .int .i64 0, .slice (some ⟨b, 0, none⟩) 1 1] 38)] w 1 _ rfl) rfl
  have c3 : ((w.alloc (.cells #[.string k.rev, .string k.later, .string k.mine, .string k.theirs, .string k.pay] 40)).alloc (.cells #[.int .i64 0, .int .i64 0, .int .i64 0, .slice (some ⟨b, 0, none⟩) 1 1] 38)).cell? ⟨b, 3, none⟩ = some (.string h.hash) := cell_of (j := 3) ((HB.out.block b (lt_of_block hb)).trans hb) rfl
  obtain ⟨R, hR⟩ : ∃ R, decide (4000 < keysN k + h.hash.size) = R := ⟨_, rfl⟩
  rw [hR]
  have HR := Lib.hid hR
  unfold keysN at *
  have e1 : k.rev.size ≤ 1000000000000000000 := by omega
  have e2 : k.rev.size + k.later.size ≤ 1000000000000000000 := by omega
  have e3 : k.rev.size + k.later.size + k.mine.size ≤ 1000000000000000000 := by omega
  have e4 : k.rev.size + k.later.size + k.mine.size + k.theirs.size ≤ 1000000000000000000 := by omega
  clear hR hb
  go_enter Tryz.func15, Tryz.ntmps15
  go_wp2_with fail
  generalize ((w.alloc (.cells #[.string k.rev, .string k.later, .string k.mine, .string k.theirs, .string k.pay] 40)).alloc (.cells #[.int .i64 0, .int .i64 0, .int .i64 0, .slice (some ⟨b, 0, none⟩) 1 1] 38)) = V at HB k0 k1 k2 k3 k4 s3 c3 ⊢
  go_loopw [5, 6] (fun n i wr => wr = V ∧ ((n = .int .i64 ((k.rev.size : Int) + (k.later.size : Int) + (k.mine.size : Int) + (k.theirs.size : Int) + (k.pay.size : Int)) ∧ i = .int .i64 0) ∨ (n = .int .i64 ((k.rev.size : Int) + (k.later.size : Int) + (k.mine.size : Int) + (k.theirs.size : Int) + (k.pay.size : Int) + (h.hash.size : Int)) ∧ i = .int .i64 1))) (fun _ i _ => 1 - (intOf i).toNat)
  case atStart => exact ⟨rfl, .inl ⟨by go_num, rfl⟩⟩
  case round =>
    obtain ⟨rfl, ⟨rfl, rfl⟩ | ⟨rfl, rfl⟩⟩ := hrel
    · go_wp2_with fail
      go_roundw
      case rel => exact ⟨by trivial, .inr (by simp)⟩
      case measure => simp [intOf]
    · cases hd : decide ((4000 : Int) < (k.rev.size : Int) + (k.later.size : Int) + (k.mine.size : Int) + (k.theirs.size : Int) + (k.pay.size : Int) + (h.hash.size : Int)) with
      | false =>
        have HE := Lib.hid (show R = false by
          rw [← HR.out]
          have := of_decide_eq_false hd
          exact decide_eq_false (by omega))
        clear HR
        go_wp2_with fail
        go_ret
        rw [HE.out]
        exact ⟨rfl, HB.out⟩
      | true =>
        have HE := Lib.hid (show R = true by
          rw [← HR.out]
          have := of_decide_eq_true hd
          exact decide_eq_true (by omega))
        clear HR
        go_wp2_with fail
        go_ret
        rw [HE.out]
        exact ⟨rfl, HB.out⟩
end Go.Proofs.YtncniomiplnaaaaGreatDoor
namespace Go.Proofs.YtncniomiplnaaaaGreatDoor
open Go.RowKit
theorem small_fund {a b : ByteArray} (h1 : a.size ≤ 900000) (h2 : b.size ≤ 900000) : smallT (fundL a b) := by
  unfold fundL allL
  split
  · simp only [smallT, smallTs]
    exact ⟨by decide, by simp, small_sig h2, small_sig h1, trivial⟩
  · simp only [smallT, smallTs]
    exact ⟨by decide, by simp, small_sig h1, small_sig h2, trivial⟩
end Go.Proofs.YtncniomiplnaaaaGreatDoor
namespace Go.Proofs.YtncniomiplnaaaaGreatDoor
open Go.RowKit
set_option maxRecDepth 100000 in
set_option maxHeartbeats 32000000 in
theorem locks_law (d : DealR) (k : KeysR) (h : PayR) (w : World) (k1 : k.rev.size ≤ 140737488355328) (k2 : k.later.size ≤ 140737488355328) (k3 : k.mine.size ≤ 140737488355328) (k4 : k.theirs.size ≤ 140737488355328) (k5 : k.pay.size ≤ 140737488355328) (k6 : h.hash.size ≤ 140737488355328) (hv : VarsOk w) (ht : TabOk w) :
    Calls Tryz.prog 5 #[dealV d, keysV k, htlcV h] w fun e w' => e = .returned (.bool true) ∧ Below w.heap.size w w' := by
  have hb0 : Below w.heap.size w (((w.alloc (.cells #[.int .i64 d.cap, .int .i64 d.push, .int .i64 d.dust, .int .i64 d.res, .int .i64 d.rate, .int .i64 d.delay, .int .i64 d.maxH, .int .i64 d.flight, .int .i64 d.minH] 23)).alloc (.cells #[.string k.rev, .string k.later, .string k.mine, .string k.theirs, .string k.pay] 40)).alloc (.cells #[.bool h.mine, .int .i64 h.id, .int .i64 h.amt, .string h.hash, .int .i64 h.exp] 26)) := (((Below.refl w.heap.size w).alloc (Nat.le_refl _) (.cells #[.int .i64 d.cap, .int .i64 d.push, .int .i64 d.dust, .int .i64 d.res, .int .i64 d.rate, .int .i64 d.delay, .int .i64 d.maxH, .int .i64 d.flight, .int .i64 d.minH] 23)).alloc (by simp) (.cells #[.string k.rev, .string k.later, .string k.mine, .string k.theirs, .string k.pay] 40)).alloc (by simp; try omega) (.cells #[.bool h.mine, .int .i64 h.id, .int .i64 h.amt, .string h.hash, .int .i64 h.exp] 26)
  have HB := Lib.hid hb0
  have HX0 := Lib.hid (show (((w.alloc (.cells #[.int .i64 d.cap, .int .i64 d.push, .int .i64 d.dust, .int .i64 d.res, .int .i64 d.rate, .int .i64 d.delay, .int .i64 d.maxH, .int .i64 d.flight, .int .i64 d.minH] 23)).alloc (.cells #[.string k.rev, .string k.later, .string k.mine, .string k.theirs, .string k.pay] 40)).alloc (.cells #[.bool h.mine, .int .i64 h.id, .int .i64 h.amt, .string h.hash, .int .i64 h.exp] 26)).heap[w.heap.size]? = some (.cells #[.int .i64 d.cap, .int .i64 d.push, .int .i64 d.dust, .int .i64 d.res, .int .i64 d.rate, .int .i64 d.delay, .int .i64 d.maxH, .int .i64 d.flight, .int .i64 d.minH] 23) from allocs_at [(.cells #[.int .i64 d.cap, .int .i64 d.push, .int .i64 d.dust, .int .i64 d.res, .int .i64 d.rate, .int .i64 d.delay, .int .i64 d.maxH, .int .i64 d.flight, .int .i64 d.minH] 23), (.cells #[.string k.rev, .string k.later, .string k.mine, .string k.theirs, .string k.pay] 40), (.cells #[.bool h.mine, .int .i64 h.id, .int .i64 h.amt, .string h.hash, .int .i64 h.exp] 26)] w 0 _ rfl)
  have HX1 := Lib.hid (show (((w.alloc (.cells #[.int .i64 d.cap, .int .i64 d.push, .int .i64 d.dust, .int .i64 d.res, .int .i64 d.rate, .int .i64 d.delay, .int .i64 d.maxH, .int .i64 d.flight, .int .i64 d.minH] 23)).alloc (.cells #[.string k.rev, .string k.later, .string k.mine, .string k.theirs, .string k.pay] 40)).alloc (.cells #[.bool h.mine, .int .i64 h.id, .int .i64 h.amt, .string h.hash, .int .i64 h.exp] 26)).heap[w.heap.size + 1]? = some (.cells #[.string k.rev, .string k.later, .string k.mine, .string k.theirs, .string k.pay] 40) from allocs_at [(.cells #[.int .i64 d.cap, .int .i64 d.push, .int .i64 d.dust, .int .i64 d.res, .int .i64 d.rate, .int .i64 d.delay, .int .i64 d.maxH, .int .i64 d.flight, .int .i64 d.minH] 23), (.cells #[.string k.rev, .string k.later, .string k.mine, .string k.theirs, .string k.pay] 40), (.cells #[.bool h.mine, .int .i64 h.id, .int .i64 h.amt, .string h.hash, .int .i64 h.exp] 26)] w 1 _ rfl)
  have HX2 := Lib.hid (show (((w.alloc (.cells #[.int .i64 d.cap, .int .i64 d.push, .int .i64 d.dust, .int .i64 d.res, .int .i64 d.rate, .int .i64 d.delay, .int .i64 d.maxH, .int .i64 d.flight, .int .i64 d.minH] 23)).alloc (.cells #[.string k.rev, .string k.later, .string k.mine, .string k.theirs, .string k.pay] 40)).alloc (.cells #[.bool h.mine, .int .i64 h.id, .int .i64 h.amt, .string h.hash, .int .i64 h.exp] 26)).heap[w.heap.size + 1 + 1]? = some (.cells #[.bool h.mine, .int .i64 h.id, .int .i64 h.amt, .string h.hash, .int .i64 h.exp] 26) from allocs_at [(.cells #[.int .i64 d.cap, .int .i64 d.push, .int .i64 d.dust, .int .i64 d.res, .int .i64 d.rate, .int .i64 d.delay, .int .i64 d.maxH, .int .i64 d.flight, .int .i64 d.minH] 23), (.cells #[.string k.rev, .string k.later, .string k.mine, .string k.theirs, .string k.pay] 40), (.cells #[.bool h.mine, .int .i64 h.id, .int .i64 h.amt, .string h.hash, .int .i64 h.exp] 26)] w 2 _ rfl)
  have hal : Below (((w.alloc (.cells #[.int .i64 d.cap, .int .i64 d.push, .int .i64 d.dust, .int .i64 d.res, .int .i64 d.rate, .int .i64 d.delay, .int .i64 d.maxH, .int .i64 d.flight, .int .i64 d.minH] 23)).alloc (.cells #[.string k.rev, .string k.later, .string k.mine, .string k.theirs, .string k.pay] 40)).alloc (.cells #[.bool h.mine, .int .i64 h.id, .int .i64 h.amt, .string h.hash, .int .i64 h.exp] 26)).heap.size (((w.alloc (.cells #[.int .i64 d.cap, .int .i64 d.push, .int .i64 d.dust, .int .i64 d.res, .int .i64 d.rate, .int .i64 d.delay, .int .i64 d.maxH, .int .i64 d.flight, .int .i64 d.minH] 23)).alloc (.cells #[.string k.rev, .string k.later, .string k.mine, .string k.theirs, .string k.pay] 40)).alloc (.cells #[.bool h.mine, .int .i64 h.id, .int .i64 h.amt, .string h.hash, .int .i64 h.exp] 26)) ((((w.alloc (.cells #[.int .i64 d.cap, .int .i64 d.push, .int .i64 d.dust, .int .i64 d.res, .int .i64 d.rate, .int .i64 d.delay, .int .i64 d.maxH, .int .i64 d.flight, .int .i64 d.minH] 23)).alloc (.cells #[.string k.rev, .string k.later, .string k.mine, .string k.theirs, .string k.pay] 40)).alloc (.cells #[.bool h.mine, .int .i64 h.id, .int .i64 h.amt, .string h.hash, .int .i64 h.exp] 26)).alloc (.cells #[.bool h.mine, .int .i64 h.id, .int .i64 h.amt, .string h.hash, .int .i64 h.exp] 26)) := (Below.refl _ _).alloc (Nat.le_refl _) _
  have HAL := Lib.hid hal
  have HLG := Lib.hid (large_one k h (((w.alloc (.cells #[.int .i64 d.cap, .int .i64 d.push, .int .i64 d.dust, .int .i64 d.res, .int .i64 d.rate, .int .i64 d.delay, .int .i64 d.maxH, .int .i64 d.flight, .int .i64 d.minH] 23)).alloc (.cells #[.string k.rev, .string k.later, .string k.mine, .string k.theirs, .string k.pay] 40)).alloc (.cells #[.bool h.mine, .int .i64 h.id, .int .i64 h.amt, .string h.hash, .int .i64 h.exp] 26)).heap.size ((((w.alloc (.cells #[.int .i64 d.cap, .int .i64 d.push, .int .i64 d.dust, .int .i64 d.res, .int .i64 d.rate, .int .i64 d.delay, .int .i64 d.maxH, .int .i64 d.flight, .int .i64 d.minH] 23)).alloc (.cells #[.string k.rev, .string k.later, .string k.mine, .string k.theirs, .string k.pay] 40)).alloc (.cells #[.bool h.mine, .int .i64 h.id, .int .i64 h.amt, .string h.hash, .int .i64 h.exp] 26)).alloc (.cells #[.bool h.mine, .int .i64 h.id, .int .i64 h.amt, .string h.hash, .int .i64 h.exp] 26)) (by unfold keysN; omega) (by omega) (Go.heap_alloc_new _ _))
  have hsz : (((w.alloc (.cells #[.int .i64 d.cap, .int .i64 d.push, .int .i64 d.dust, .int .i64 d.res, .int .i64 d.rate, .int .i64 d.delay, .int .i64 d.maxH, .int .i64 d.flight, .int .i64 d.minH] 23)).alloc (.cells #[.string k.rev, .string k.later, .string k.mine, .string k.theirs, .string k.pay] 40)).alloc (.cells #[.bool h.mine, .int .i64 h.id, .int .i64 h.amt, .string h.hash, .int .i64 h.exp] 26)).heap.size = w.heap.size + 1 + 1 + 1 := by simp
  rw [hsz] at HLG
  have HV := Lib.hid hv
  have HT := Lib.hid ht
  obtain ⟨x1, hx1⟩ : ∃ x, fundL k.rev k.pay = x := ⟨_, rfl⟩
  obtain ⟨x2, hx2⟩ : ∃ x, ownL d.delay k = x := ⟨_, rfl⟩
  obtain ⟨x3, hx3⟩ : ∃ x, otherL k = x := ⟨_, rfl⟩
  obtain ⟨x4, hx4⟩ : ∃ x, htlcL d.delay k h.mine h.hash h.exp = x := ⟨_, rfl⟩
  have C1 := Lib.hid (fun W => hx1 ▸ lockV_out (fund_any k.rev k.pay W))
  have C2 := Lib.hid (fun W => hx1 ▸ lockV_out (rfund_any k.rev k.pay W))
  have C3 := Lib.hid (fun W => hx2 ▸ lockV_out (own_any d k W))
  have C4 := Lib.hid (fun W => hx2 ▸ lockV_out (rown_any d k W))
  have C5 := Lib.hid (fun W => hx3 ▸ lockV_out (other_any k W))
  have C6 := Lib.hid (fun W => hx3 ▸ lockV_out (rother_any k W))
  have C7 := Lib.hid (fun W => hx4 ▸ lockV_out (htlc_any d k h W))
  have C8 := Lib.hid (fun W => hx4 ▸ lockV_out (rhtlc_any d k h W))
  have S1 := fun a b => hx1 ▸ small_fund (a := k.rev) (b := k.pay) a b
  have S2 := fun a b => hx2 ▸ small_own d.delay k a b
  have S3 := fun a => hx3 ▸ small_other k a
  have S4 := fun a b c e => hx4 ▸ small_htlc d.delay k h.mine h.hash h.exp a b c e
  clear hb0 hal hv ht hx1 hx2 hx3 hx4
  unfold dealV keysV htlcV at *
  cases hq : decide (4000 < keysN k + h.hash.size) with
  | true =>
    rw [hq] at HLG
    have q0 : (((w.alloc (.cells #[.int .i64 d.cap, .int .i64 d.push, .int .i64 d.dust, .int .i64 d.res, .int .i64 d.rate, .int .i64 d.delay, .int .i64 d.maxH, .int .i64 d.flight, .int .i64 d.minH] 23)).alloc (.cells #[.string k.rev, .string k.later, .string k.mine, .string k.theirs, .string k.pay] 40)).alloc (.cells #[.bool h.mine, .int .i64 h.id, .int .i64 h.amt, .string h.hash, .int .i64 h.exp] 26)).cell? ⟨w.heap.size, 0, none⟩ = some (.int .i64 d.cap) := cell_of (j := 0) HX0.out rfl
    have q1 : (((w.alloc (.cells #[.int .i64 d.cap, .int .i64 d.push, .int .i64 d.dust, .int .i64 d.res, .int .i64 d.rate, .int .i64 d.delay, .int .i64 d.maxH, .int .i64 d.flight, .int .i64 d.minH] 23)).alloc (.cells #[.string k.rev, .string k.later, .string k.mine, .string k.theirs, .string k.pay] 40)).alloc (.cells #[.bool h.mine, .int .i64 h.id, .int .i64 h.amt, .string h.hash, .int .i64 h.exp] 26)).cell? ⟨w.heap.size, 1, none⟩ = some (.int .i64 d.push) := cell_of (j := 1) HX0.out rfl
    have q2 : (((w.alloc (.cells #[.int .i64 d.cap, .int .i64 d.push, .int .i64 d.dust, .int .i64 d.res, .int .i64 d.rate, .int .i64 d.delay, .int .i64 d.maxH, .int .i64 d.flight, .int .i64 d.minH] 23)).alloc (.cells #[.string k.rev, .string k.later, .string k.mine, .string k.theirs, .string k.pay] 40)).alloc (.cells #[.bool h.mine, .int .i64 h.id, .int .i64 h.amt, .string h.hash, .int .i64 h.exp] 26)).cell? ⟨w.heap.size, 2, none⟩ = some (.int .i64 d.dust) := cell_of (j := 2) HX0.out rfl
    have q3 : (((w.alloc (.cells #[.int .i64 d.cap, .int .i64 d.push, .int .i64 d.dust, .int .i64 d.res, .int .i64 d.rate, .int .i64 d.delay, .int .i64 d.maxH, .int .i64 d.flight, .int .i64 d.minH] 23)).alloc (.cells #[.string k.rev, .string k.later, .string k.mine, .string k.theirs, .string k.pay] 40)).alloc (.cells #[.bool h.mine, .int .i64 h.id, .int .i64 h.amt, .string h.hash, .int .i64 h.exp] 26)).cell? ⟨w.heap.size, 3, none⟩ = some (.int .i64 d.res) := cell_of (j := 3) HX0.out rfl
    have q4 : (((w.alloc (.cells #[.int .i64 d.cap, .int .i64 d.push, .int .i64 d.dust, .int .i64 d.res, .int .i64 d.rate, .int .i64 d.delay, .int .i64 d.maxH, .int .i64 d.flight, .int .i64 d.minH] 23)).alloc (.cells #[.string k.rev, .string k.later, .string k.mine, .string k.theirs, .string k.pay] 40)).alloc (.cells #[.bool h.mine, .int .i64 h.id, .int .i64 h.amt, .string h.hash, .int .i64 h.exp] 26)).cell? ⟨w.heap.size, 4, none⟩ = some (.int .i64 d.rate) := cell_of (j := 4) HX0.out rfl
    have q5 : (((w.alloc (.cells #[.int .i64 d.cap, .int .i64 d.push, .int .i64 d.dust, .int .i64 d.res, .int .i64 d.rate, .int .i64 d.delay, .int .i64 d.maxH, .int .i64 d.flight, .int .i64 d.minH] 23)).alloc (.cells #[.string k.rev, .string k.later, .string k.mine, .string k.theirs, .string k.pay] 40)).alloc (.cells #[.bool h.mine, .int .i64 h.id, .int .i64 h.amt, .string h.hash, .int .i64 h.exp] 26)).cell? ⟨w.heap.size, 5, none⟩ = some (.int .i64 d.delay) := cell_of (j := 5) HX0.out rfl
    have q6 : (((w.alloc (.cells #[.int .i64 d.cap, .int .i64 d.push, .int .i64 d.dust, .int .i64 d.res, .int .i64 d.rate, .int .i64 d.delay, .int .i64 d.maxH, .int .i64 d.flight, .int .i64 d.minH] 23)).alloc (.cells #[.string k.rev, .string k.later, .string k.mine, .string k.theirs, .string k.pay] 40)).alloc (.cells #[.bool h.mine, .int .i64 h.id, .int .i64 h.amt, .string h.hash, .int .i64 h.exp] 26)).cell? ⟨w.heap.size, 6, none⟩ = some (.int .i64 d.maxH) := cell_of (j := 6) HX0.out rfl
    have q7 : (((w.alloc (.cells #[.int .i64 d.cap, .int .i64 d.push, .int .i64 d.dust, .int .i64 d.res, .int .i64 d.rate, .int .i64 d.delay, .int .i64 d.maxH, .int .i64 d.flight, .int .i64 d.minH] 23)).alloc (.cells #[.string k.rev, .string k.later, .string k.mine, .string k.theirs, .string k.pay] 40)).alloc (.cells #[.bool h.mine, .int .i64 h.id, .int .i64 h.amt, .string h.hash, .int .i64 h.exp] 26)).cell? ⟨w.heap.size, 7, none⟩ = some (.int .i64 d.flight) := cell_of (j := 7) HX0.out rfl
    have q8 : (((w.alloc (.cells #[.int .i64 d.cap, .int .i64 d.push, .int .i64 d.dust, .int .i64 d.res, .int .i64 d.rate, .int .i64 d.delay, .int .i64 d.maxH, .int .i64 d.flight, .int .i64 d.minH] 23)).alloc (.cells #[.string k.rev, .string k.later, .string k.mine, .string k.theirs, .string k.pay] 40)).alloc (.cells #[.bool h.mine, .int .i64 h.id, .int .i64 h.amt, .string h.hash, .int .i64 h.exp] 26)).cell? ⟨w.heap.size, 8, none⟩ = some (.int .i64 d.minH) := cell_of (j := 8) HX0.out rfl
    have r0 : (((w.alloc (.cells #[.int .i64 d.cap, .int .i64 d.push, .int .i64 d.dust, .int .i64 d.res, .int .i64 d.rate, .int .i64 d.delay, .int .i64 d.maxH, .int .i64 d.flight, .int .i64 d.minH] 23)).alloc (.cells #[.string k.rev, .string k.later, .string k.mine, .string k.theirs, .string k.pay] 40)).alloc (.cells #[.bool h.mine, .int .i64 h.id, .int .i64 h.amt, .string h.hash, .int .i64 h.exp] 26)).cell? ⟨w.heap.size + 1, 0, none⟩ = some (.string k.rev) := cell_of (j := 0) HX1.out rfl
    have r1 : (((w.alloc (.cells #[.int .i64 d.cap, .int .i64 d.push, .int .i64 d.dust, .int .i64 d.res, .int .i64 d.rate, .int .i64 d.delay, .int .i64 d.maxH, .int .i64 d.flight, .int .i64 d.minH] 23)).alloc (.cells #[.string k.rev, .string k.later, .string k.mine, .string k.theirs, .string k.pay] 40)).alloc (.cells #[.bool h.mine, .int .i64 h.id, .int .i64 h.amt, .string h.hash, .int .i64 h.exp] 26)).cell? ⟨w.heap.size + 1, 1, none⟩ = some (.string k.later) := cell_of (j := 1) HX1.out rfl
    have r2 : (((w.alloc (.cells #[.int .i64 d.cap, .int .i64 d.push, .int .i64 d.dust, .int .i64 d.res, .int .i64 d.rate, .int .i64 d.delay, .int .i64 d.maxH, .int .i64 d.flight, .int .i64 d.minH] 23)).alloc (.cells #[.string k.rev, .string k.later, .string k.mine, .string k.theirs, .string k.pay] 40)).alloc (.cells #[.bool h.mine, .int .i64 h.id, .int .i64 h.amt, .string h.hash, .int .i64 h.exp] 26)).cell? ⟨w.heap.size + 1, 2, none⟩ = some (.string k.mine) := cell_of (j := 2) HX1.out rfl
    have r3 : (((w.alloc (.cells #[.int .i64 d.cap, .int .i64 d.push, .int .i64 d.dust, .int .i64 d.res, .int .i64 d.rate, .int .i64 d.delay, .int .i64 d.maxH, .int .i64 d.flight, .int .i64 d.minH] 23)).alloc (.cells #[.string k.rev, .string k.later, .string k.mine, .string k.theirs, .string k.pay] 40)).alloc (.cells #[.bool h.mine, .int .i64 h.id, .int .i64 h.amt, .string h.hash, .int .i64 h.exp] 26)).cell? ⟨w.heap.size + 1, 3, none⟩ = some (.string k.theirs) := cell_of (j := 3) HX1.out rfl
    have r4 : (((w.alloc (.cells #[.int .i64 d.cap, .int .i64 d.push, .int .i64 d.dust, .int .i64 d.res, .int .i64 d.rate, .int .i64 d.delay, .int .i64 d.maxH, .int .i64 d.flight, .int .i64 d.minH] 23)).alloc (.cells #[.string k.rev, .string k.later, .string k.mine, .string k.theirs, .string k.pay] 40)).alloc (.cells #[.bool h.mine, .int .i64 h.id, .int .i64 h.amt, .string h.hash, .int .i64 h.exp] 26)).cell? ⟨w.heap.size + 1, 4, none⟩ = some (.string k.pay) := cell_of (j := 4) HX1.out rfl
    have s0 : (((w.alloc (.cells #[.int .i64 d.cap, .int .i64 d.push, .int .i64 d.dust, .int .i64 d.res, .int .i64 d.rate, .int .i64 d.delay, .int .i64 d.maxH, .int .i64 d.flight, .int .i64 d.minH] 23)).alloc (.cells #[.string k.rev, .string k.later, .string k.mine, .string k.theirs, .string k.pay] 40)).alloc (.cells #[.bool h.mine, .int .i64 h.id, .int .i64 h.amt, .string h.hash, .int .i64 h.exp] 26)).cell? ⟨w.heap.size + 1 + 1, 0, none⟩ = some (.bool h.mine) := cell_of (j := 0) HX2.out rfl
    have s1 : (((w.alloc (.cells #[.int .i64 d.cap, .int .i64 d.push, .int .i64 d.dust, .int .i64 d.res, .int .i64 d.rate, .int .i64 d.delay, .int .i64 d.maxH, .int .i64 d.flight, .int .i64 d.minH] 23)).alloc (.cells #[.string k.rev, .string k.later, .string k.mine, .string k.theirs, .string k.pay] 40)).alloc (.cells #[.bool h.mine, .int .i64 h.id, .int .i64 h.amt, .string h.hash, .int .i64 h.exp] 26)).cell? ⟨w.heap.size + 1 + 1, 1, none⟩ = some (.int .i64 h.id) := cell_of (j := 1) HX2.out rfl
    have s2 : (((w.alloc (.cells #[.int .i64 d.cap, .int .i64 d.push, .int .i64 d.dust, .int .i64 d.res, .int .i64 d.rate, .int .i64 d.delay, .int .i64 d.maxH, .int .i64 d.flight, .int .i64 d.minH] 23)).alloc (.cells #[.string k.rev, .string k.later, .string k.mine, .string k.theirs, .string k.pay] 40)).alloc (.cells #[.bool h.mine, .int .i64 h.id, .int .i64 h.amt, .string h.hash, .int .i64 h.exp] 26)).cell? ⟨w.heap.size + 1 + 1, 2, none⟩ = some (.int .i64 h.amt) := cell_of (j := 2) HX2.out rfl
    have s3 : (((w.alloc (.cells #[.int .i64 d.cap, .int .i64 d.push, .int .i64 d.dust, .int .i64 d.res, .int .i64 d.rate, .int .i64 d.delay, .int .i64 d.maxH, .int .i64 d.flight, .int .i64 d.minH] 23)).alloc (.cells #[.string k.rev, .string k.later, .string k.mine, .string k.theirs, .string k.pay] 40)).alloc (.cells #[.bool h.mine, .int .i64 h.id, .int .i64 h.amt, .string h.hash, .int .i64 h.exp] 26)).cell? ⟨w.heap.size + 1 + 1, 3, none⟩ = some (.string h.hash) := cell_of (j := 3) HX2.out rfl
    have s4 : (((w.alloc (.cells #[.int .i64 d.cap, .int .i64 d.push, .int .i64 d.dust, .int .i64 d.res, .int .i64 d.rate, .int .i64 d.delay, .int .i64 d.maxH, .int .i64 d.flight, .int .i64 d.minH] 23)).alloc (.cells #[.string k.rev, .string k.later, .string k.mine, .string k.theirs, .string k.pay] 40)).alloc (.cells #[.bool h.mine, .int .i64 h.id, .int .i64 h.amt, .string h.hash, .int .i64 h.exp] 26)).cell? ⟨w.heap.size + 1 + 1, 4, none⟩ = some (.int .i64 h.exp) := cell_of (j := 4) HX2.out rfl
    go_enter Tryz.func5, Tryz.ntmps5
    go_wp2_with fail
    refine HLG.out.mono ?_
    rintro e w1 ⟨rfl, hb1⟩
    have hv1 : Below (((w.alloc (.cells #[.int .i64 d.cap, .int .i64 d.push, .int .i64 d.dust, .int .i64 d.res, .int .i64 d.rate, .int .i64 d.delay, .int .i64 d.maxH, .int .i64 d.flight, .int .i64 d.minH] 23)).alloc (.cells #[.string k.rev, .string k.later, .string k.mine, .string k.theirs, .string k.pay] 40)).alloc (.cells #[.bool h.mine, .int .i64 h.id, .int .i64 h.amt, .string h.hash, .int .i64 h.exp] 26)).heap.size (((w.alloc (.cells #[.int .i64 d.cap, .int .i64 d.push, .int .i64 d.dust, .int .i64 d.res, .int .i64 d.rate, .int .i64 d.delay, .int .i64 d.maxH, .int .i64 d.flight, .int .i64 d.minH] 23)).alloc (.cells #[.string k.rev, .string k.later, .string k.mine, .string k.theirs, .string k.pay] 40)).alloc (.cells #[.bool h.mine, .int .i64 h.id, .int .i64 h.amt, .string h.hash, .int .i64 h.exp] 26)) w1 := HAL.out.trans (hb1.mono HAL.out.size)
    have HB1 := Lib.hid (HB.out.trans (hv1.mono HB.out.size))
    clear q0 q1 q2 q3 q4 q5 q6 q7 q8 r0 r1 r2 r3 r4 s0 s1 s2 s3 s4
    go_wp2_with fail
    go_ret
    exact ⟨rfl, HB1.out⟩
  | false =>
    rw [hq] at HLG
    have hn := of_decide_eq_false hq
    unfold keysN at hn
    have HS1 := Lib.hid (S1 (by omega) (by omega))
    have HS2 := Lib.hid (S2 (by omega) (by omega))
    have HS3 := Lib.hid (S3 (by omega))
    have HS4 := Lib.hid (S4 (by omega) (by omega) (by omega) (by omega))
    clear S1 S2 S3 S4 hq hn
    have q0 : (((w.alloc (.cells #[.int .i64 d.cap, .int .i64 d.push, .int .i64 d.dust, .int .i64 d.res, .int .i64 d.rate, .int .i64 d.delay, .int .i64 d.maxH, .int .i64 d.flight, .int .i64 d.minH] 23)).alloc (.cells #[.string k.rev, .string k.later, .string k.mine, .string k.theirs, .string k.pay] 40)).alloc (.cells #[.bool h.mine, .int .i64 h.id, .int .i64 h.amt, .string h.hash, .int .i64 h.exp] 26)).cell? ⟨w.heap.size, 0, none⟩ = some (.int .i64 d.cap) := cell_of (j := 0) HX0.out rfl
    have q1 : (((w.alloc (.cells #[.int .i64 d.cap, .int .i64 d.push, .int .i64 d.dust, .int .i64 d.res, .int .i64 d.rate, .int .i64 d.delay, .int .i64 d.maxH, .int .i64 d.flight, .int .i64 d.minH] 23)).alloc (.cells #[.string k.rev, .string k.later, .string k.mine, .string k.theirs, .string k.pay] 40)).alloc (.cells #[.bool h.mine, .int .i64 h.id, .int .i64 h.amt, .string h.hash, .int .i64 h.exp] 26)).cell? ⟨w.heap.size, 1, none⟩ = some (.int .i64 d.push) := cell_of (j := 1) HX0.out rfl
    have q2 : (((w.alloc (.cells #[.int .i64 d.cap, .int .i64 d.push, .int .i64 d.dust, .int .i64 d.res, .int .i64 d.rate, .int .i64 d.delay, .int .i64 d.maxH, .int .i64 d.flight, .int .i64 d.minH] 23)).alloc (.cells #[.string k.rev, .string k.later, .string k.mine, .string k.theirs, .string k.pay] 40)).alloc (.cells #[.bool h.mine, .int .i64 h.id, .int .i64 h.amt, .string h.hash, .int .i64 h.exp] 26)).cell? ⟨w.heap.size, 2, none⟩ = some (.int .i64 d.dust) := cell_of (j := 2) HX0.out rfl
    have q3 : (((w.alloc (.cells #[.int .i64 d.cap, .int .i64 d.push, .int .i64 d.dust, .int .i64 d.res, .int .i64 d.rate, .int .i64 d.delay, .int .i64 d.maxH, .int .i64 d.flight, .int .i64 d.minH] 23)).alloc (.cells #[.string k.rev, .string k.later, .string k.mine, .string k.theirs, .string k.pay] 40)).alloc (.cells #[.bool h.mine, .int .i64 h.id, .int .i64 h.amt, .string h.hash, .int .i64 h.exp] 26)).cell? ⟨w.heap.size, 3, none⟩ = some (.int .i64 d.res) := cell_of (j := 3) HX0.out rfl
    have q4 : (((w.alloc (.cells #[.int .i64 d.cap, .int .i64 d.push, .int .i64 d.dust, .int .i64 d.res, .int .i64 d.rate, .int .i64 d.delay, .int .i64 d.maxH, .int .i64 d.flight, .int .i64 d.minH] 23)).alloc (.cells #[.string k.rev, .string k.later, .string k.mine, .string k.theirs, .string k.pay] 40)).alloc (.cells #[.bool h.mine, .int .i64 h.id, .int .i64 h.amt, .string h.hash, .int .i64 h.exp] 26)).cell? ⟨w.heap.size, 4, none⟩ = some (.int .i64 d.rate) := cell_of (j := 4) HX0.out rfl
    have q5 : (((w.alloc (.cells #[.int .i64 d.cap, .int .i64 d.push, .int .i64 d.dust, .int .i64 d.res, .int .i64 d.rate, .int .i64 d.delay, .int .i64 d.maxH, .int .i64 d.flight, .int .i64 d.minH] 23)).alloc (.cells #[.string k.rev, .string k.later, .string k.mine, .string k.theirs, .string k.pay] 40)).alloc (.cells #[.bool h.mine, .int .i64 h.id, .int .i64 h.amt, .string h.hash, .int .i64 h.exp] 26)).cell? ⟨w.heap.size, 5, none⟩ = some (.int .i64 d.delay) := cell_of (j := 5) HX0.out rfl
    have q6 : (((w.alloc (.cells #[.int .i64 d.cap, .int .i64 d.push, .int .i64 d.dust, .int .i64 d.res, .int .i64 d.rate, .int .i64 d.delay, .int .i64 d.maxH, .int .i64 d.flight, .int .i64 d.minH] 23)).alloc (.cells #[.string k.rev, .string k.later, .string k.mine, .string k.theirs, .string k.pay] 40)).alloc (.cells #[.bool h.mine, .int .i64 h.id, .int .i64 h.amt, .string h.hash, .int .i64 h.exp] 26)).cell? ⟨w.heap.size, 6, none⟩ = some (.int .i64 d.maxH) := cell_of (j := 6) HX0.out rfl
    have q7 : (((w.alloc (.cells #[.int .i64 d.cap, .int .i64 d.push, .int .i64 d.dust, .int .i64 d.res, .int .i64 d.rate, .int .i64 d.delay, .int .i64 d.maxH, .int .i64 d.flight, .int .i64 d.minH] 23)).alloc (.cells #[.string k.rev, .string k.later, .string k.mine, .string k.theirs, .string k.pay] 40)).alloc (.cells #[.bool h.mine, .int .i64 h.id, .int .i64 h.amt, .string h.hash, .int .i64 h.exp] 26)).cell? ⟨w.heap.size, 7, none⟩ = some (.int .i64 d.flight) := cell_of (j := 7) HX0.out rfl
    have q8 : (((w.alloc (.cells #[.int .i64 d.cap, .int .i64 d.push, .int .i64 d.dust, .int .i64 d.res, .int .i64 d.rate, .int .i64 d.delay, .int .i64 d.maxH, .int .i64 d.flight, .int .i64 d.minH] 23)).alloc (.cells #[.string k.rev, .string k.later, .string k.mine, .string k.theirs, .string k.pay] 40)).alloc (.cells #[.bool h.mine, .int .i64 h.id, .int .i64 h.amt, .string h.hash, .int .i64 h.exp] 26)).cell? ⟨w.heap.size, 8, none⟩ = some (.int .i64 d.minH) := cell_of (j := 8) HX0.out rfl
    have r0 : (((w.alloc (.cells #[.int .i64 d.cap, .int .i64 d.push, .int .i64 d.dust, .int .i64 d.res, .int .i64 d.rate, .int .i64 d.delay, .int .i64 d.maxH, .int .i64 d.flight, .int .i64 d.minH] 23)).alloc (.cells #[.string k.rev, .string k.later, .string k.mine, .string k.theirs, .string k.pay] 40)).alloc (.cells #[.bool h.mine, .int .i64 h.id, .int .i64 h.amt, .string h.hash, .int .i64 h.exp] 26)).cell? ⟨w.heap.size + 1, 0, none⟩ = some (.string k.rev) := cell_of (j := 0) HX1.out rfl
    have r1 : (((w.alloc (.cells #[.int .i64 d.cap, .int .i64 d.push, .int .i64 d.dust, .int .i64 d.res, .int .i64 d.rate, .int .i64 d.delay, .int .i64 d.maxH, .int .i64 d.flight, .int .i64 d.minH] 23)).alloc (.cells #[.string k.rev, .string k.later, .string k.mine, .string k.theirs, .string k.pay] 40)).alloc (.cells #[.bool h.mine, .int .i64 h.id, .int .i64 h.amt, .string h.hash, .int .i64 h.exp] 26)).cell? ⟨w.heap.size + 1, 1, none⟩ = some (.string k.later) := cell_of (j := 1) HX1.out rfl
    have r2 : (((w.alloc (.cells #[.int .i64 d.cap, .int .i64 d.push, .int .i64 d.dust, .int .i64 d.res, .int .i64 d.rate, .int .i64 d.delay, .int .i64 d.maxH, .int .i64 d.flight, .int .i64 d.minH] 23)).alloc (.cells #[.string k.rev, .string k.later, .string k.mine, .string k.theirs, .string k.pay] 40)).alloc (.cells #[.bool h.mine, .int .i64 h.id, .int .i64 h.amt, .string h.hash, .int .i64 h.exp] 26)).cell? ⟨w.heap.size + 1, 2, none⟩ = some (.string k.mine) := cell_of (j := 2) HX1.out rfl
    have r3 : (((w.alloc (.cells #[.int .i64 d.cap, .int .i64 d.push, .int .i64 d.dust, .int .i64 d.res, .int .i64 d.rate, .int .i64 d.delay, .int .i64 d.maxH, .int .i64 d.flight, .int .i64 d.minH] 23)).alloc (.cells #[.string k.rev, .string k.later, .string k.mine, .string k.theirs, .string k.pay] 40)).alloc (.cells #[.bool h.mine, .int .i64 h.id, .int .i64 h.amt, .string h.hash, .int .i64 h.exp] 26)).cell? ⟨w.heap.size + 1, 3, none⟩ = some (.string k.theirs) := cell_of (j := 3) HX1.out rfl
    have r4 : (((w.alloc (.cells #[.int .i64 d.cap, .int .i64 d.push, .int .i64 d.dust, .int .i64 d.res, .int .i64 d.rate, .int .i64 d.delay, .int .i64 d.maxH, .int .i64 d.flight, .int .i64 d.minH] 23)).alloc (.cells #[.string k.rev, .string k.later, .string k.mine, .string k.theirs, .string k.pay] 40)).alloc (.cells #[.bool h.mine, .int .i64 h.id, .int .i64 h.amt, .string h.hash, .int .i64 h.exp] 26)).cell? ⟨w.heap.size + 1, 4, none⟩ = some (.string k.pay) := cell_of (j := 4) HX1.out rfl
    have s0 : (((w.alloc (.cells #[.int .i64 d.cap, .int .i64 d.push, .int .i64 d.dust, .int .i64 d.res, .int .i64 d.rate, .int .i64 d.delay, .int .i64 d.maxH, .int .i64 d.flight, .int .i64 d.minH] 23)).alloc (.cells #[.string k.rev, .string k.later, .string k.mine, .string k.theirs, .string k.pay] 40)).alloc (.cells #[.bool h.mine, .int .i64 h.id, .int .i64 h.amt, .string h.hash, .int .i64 h.exp] 26)).cell? ⟨w.heap.size + 1 + 1, 0, none⟩ = some (.bool h.mine) := cell_of (j := 0) HX2.out rfl
    have s1 : (((w.alloc (.cells #[.int .i64 d.cap, .int .i64 d.push, .int .i64 d.dust, .int .i64 d.res, .int .i64 d.rate, .int .i64 d.delay, .int .i64 d.maxH, .int .i64 d.flight, .int .i64 d.minH] 23)).alloc (.cells #[.string k.rev, .string k.later, .string k.mine, .string k.theirs, .string k.pay] 40)).alloc (.cells #[.bool h.mine, .int .i64 h.id, .int .i64 h.amt, .string h.hash, .int .i64 h.exp] 26)).cell? ⟨w.heap.size + 1 + 1, 1, none⟩ = some (.int .i64 h.id) := cell_of (j := 1) HX2.out rfl
    have s2 : (((w.alloc (.cells #[.int .i64 d.cap, .int .i64 d.push, .int .i64 d.dust, .int .i64 d.res, .int .i64 d.rate, .int .i64 d.delay, .int .i64 d.maxH, .int .i64 d.flight, .int .i64 d.minH] 23)).alloc (.cells #[.string k.rev, .string k.later, .string k.mine, .string k.theirs, .string k.pay] 40)).alloc (.cells #[.bool h.mine, .int .i64 h.id, .int .i64 h.amt, .string h.hash, .int .i64 h.exp] 26)).cell? ⟨w.heap.size + 1 + 1, 2, none⟩ = some (.int .i64 h.amt) := cell_of (j := 2) HX2.out rfl
    have s3 : (((w.alloc (.cells #[.int .i64 d.cap, .int .i64 d.push, .int .i64 d.dust, .int .i64 d.res, .int .i64 d.rate, .int .i64 d.delay, .int .i64 d.maxH, .int .i64 d.flight, .int .i64 d.minH] 23)).alloc (.cells #[.string k.rev, .string k.later, .string k.mine, .string k.theirs, .string k.pay] 40)).alloc (.cells #[.bool h.mine, .int .i64 h.id, .int .i64 h.amt, .string h.hash, .int .i64 h.exp] 26)).cell? ⟨w.heap.size + 1 + 1, 3, none⟩ = some (.string h.hash) := cell_of (j := 3) HX2.out rfl
    have s4 : (((w.alloc (.cells #[.int .i64 d.cap, .int .i64 d.push, .int .i64 d.dust, .int .i64 d.res, .int .i64 d.rate, .int .i64 d.delay, .int .i64 d.maxH, .int .i64 d.flight, .int .i64 d.minH] 23)).alloc (.cells #[.string k.rev, .string k.later, .string k.mine, .string k.theirs, .string k.pay] 40)).alloc (.cells #[.bool h.mine, .int .i64 h.id, .int .i64 h.amt, .string h.hash, .int .i64 h.exp] 26)).cell? ⟨w.heap.size + 1 + 1, 4, none⟩ = some (.int .i64 h.exp) := cell_of (j := 4) HX2.out rfl
    go_enter Tryz.func5, Tryz.ntmps5
    go_wp2_with fail
    refine HLG.out.mono ?_
    rintro e w1 ⟨rfl, hb1⟩
    have hv1 : Below (((w.alloc (.cells #[.int .i64 d.cap, .int .i64 d.push, .int .i64 d.dust, .int .i64 d.res, .int .i64 d.rate, .int .i64 d.delay, .int .i64 d.maxH, .int .i64 d.flight, .int .i64 d.minH] 23)).alloc (.cells #[.string k.rev, .string k.later, .string k.mine, .string k.theirs, .string k.pay] 40)).alloc (.cells #[.bool h.mine, .int .i64 h.id, .int .i64 h.amt, .string h.hash, .int .i64 h.exp] 26)).heap.size (((w.alloc (.cells #[.int .i64 d.cap, .int .i64 d.push, .int .i64 d.dust, .int .i64 d.res, .int .i64 d.rate, .int .i64 d.delay, .int .i64 d.maxH, .int .i64 d.flight, .int .i64 d.minH] 23)).alloc (.cells #[.string k.rev, .string k.later, .string k.mine, .string k.theirs, .string k.pay] 40)).alloc (.cells #[.bool h.mine, .int .i64 h.id, .int .i64 h.amt, .string h.hash, .int .i64 h.exp] 26)) w1 := HAL.out.trans (hb1.mono HAL.out.size)
    have HB1 := Lib.hid (HB.out.trans (hv1.mono HB.out.size))
    have y0 := (hv1.block _ (lt_of_block HX0.out)).trans HX0.out
    have y1 := (hv1.block _ (lt_of_block HX1.out)).trans HX1.out
    have y2 := (hv1.block _ (lt_of_block HX2.out)).trans HX2.out
    clear q0 q1 q2 q3 q4 q5 q6 q7 q8 r0 r1 r2 r3 r4 s0 s1 s2 s3 s4 hb1 hv1
    go_upto_region 3 with fail
    generalize w1 = V at HB1 y0 y1 y2 ⊢
    have D0 := Lib.hid (cell_of (j := 0) y0 rfl)
    have D1 := Lib.hid (cell_of (j := 1) y0 rfl)
    have D2 := Lib.hid (cell_of (j := 2) y0 rfl)
    have D3 := Lib.hid (cell_of (j := 3) y0 rfl)
    have D4 := Lib.hid (cell_of (j := 4) y0 rfl)
    have D5 := Lib.hid (cell_of (j := 5) y0 rfl)
    have D6 := Lib.hid (cell_of (j := 6) y0 rfl)
    have D7 := Lib.hid (cell_of (j := 7) y0 rfl)
    have D8 := Lib.hid (cell_of (j := 8) y0 rfl)
    have K0 := Lib.hid (cell_of (j := 0) y1 rfl)
    have K1 := Lib.hid (cell_of (j := 1) y1 rfl)
    have K2 := Lib.hid (cell_of (j := 2) y1 rfl)
    have K3 := Lib.hid (cell_of (j := 3) y1 rfl)
    have K4 := Lib.hid (cell_of (j := 4) y1 rfl)
    have P0 := Lib.hid (cell_of (j := 0) y2 rfl)
    have P1 := Lib.hid (cell_of (j := 1) y2 rfl)
    have P2 := Lib.hid (cell_of (j := 2) y2 rfl)
    have P3 := Lib.hid (cell_of (j := 3) y2 rfl)
    have P4 := Lib.hid (cell_of (j := 4) y2 rfl)
    clear y0 y1 y2
    refine wp_region_noPanic ?_
    refine wp_region_any (by kernel_rfl) ?_
    have hS : Below V.heap.size V V.drew := (Below.refl _ _).drew
    change wpAny _ _ _ _ 42 (Array.replicate 42 false) _ V.drew
    refine float_all (F := []) (o := (.cells #[.int .u8 0, .string ⟨#[]⟩, .int .i64 0, .slice none 0 0] 55)) (base := V.heap.size) (g := 1) (f := 41) (stop := #[true, true, true, true, true, true, true, true, true, true, true, true, true, true, true, true, true, true, true, true, true, true, true, true, true, true, true, true, true, true, true, true, true, true, true, true, true, true, true, true, true, false]) (R := fun a u => ∃ (A1 A2 A3 A4 A5 A6 A7 A8 : Option Addr) (c1 c2 c3 c4 c5 c6 c7 c8 : Nat), a = (⟨#[.agg #[.int .i64 d.cap, .int .i64 d.push, .int .i64 d.dust, .int .i64 d.res, .int .i64 d.rate, .int .i64 d.delay, .int .i64 d.maxH, .int .i64 d.flight, .int .i64 d.minH], .agg #[.string k.rev, .string k.later, .string k.mine, .string k.theirs, .string k.pay], .agg #[.bool h.mine, .int .i64 h.id, .int .i64 h.amt, .string h.hash, .int .i64 h.exp], .pointer (some ⟨w.heap.size, 0, none⟩), .pointer (some ⟨w.heap.size + 1, 0, none⟩), .pointer (some ⟨w.heap.size + 1 + 1, 0, none⟩), .bool false, .agg #[.string k.rev, .string k.later, .string k.mine, .string k.theirs, .string k.pay], .agg #[.bool h.mine, .int .i64 h.id, .int .i64 h.amt, .string h.hash, .int .i64 h.exp], .slice (some ⟨w.heap.size + 1 + 1 + 1, 0, none⟩) 1 1, .agg #[.int .i64 0, .int .i64 0, .int .i64 0, .slice (some ⟨w.heap.size + 1 + 1 + 1, 0, none⟩) 1 1], .bool false, .pointer (some ⟨w.heap.size + 1, 0, none⟩), .string k.rev, .pointer (some ⟨w.heap.size + 1, 4, none⟩), .string k.pay, .agg #[.int .u8 x1.kind, .string x1.term, .int .i64 x1.n, .slice A1 x1.kids.length c1], .pointer (some ⟨w.heap.size + 1, 0, none⟩), .string k.rev, .pointer (some ⟨w.heap.size + 1, 4, none⟩), .string k.pay, .agg #[.int .u8 x1.kind, .string x1.term, .int .i64 x1.n, .slice A2 x1.kids.length c2], .bool true, .bool true, .agg #[.int .i64 d.cap, .int .i64 d.push, .int .i64 d.dust, .int .i64 d.res, .int .i64 d.rate, .int .i64 d.delay, .int .i64 d.maxH, .int .i64 d.flight, .int .i64 d.minH], .agg #[.string k.rev, .string k.later, .string k.mine, .string k.theirs, .string k.pay], .agg #[.int .u8 x2.kind, .string x2.term, .int .i64 x2.n, .slice A3 x2.kids.length c3], .agg #[.int .i64 d.cap, .int .i64 d.push, .int .i64 d.dust, .int .i64 d.res, .int .i64 d.rate, .int .i64 d.delay, .int .i64 d.maxH, .int .i64 d.flight, .int .i64 d.minH], .agg #[.string k.rev, .string k.later, .string k.mine, .string k.theirs, .string k.pay], .agg #[.int .u8 x2.kind, .string x2.term, .int .i64 x2.n, .slice A4 x2.kids.length c4], .bool true, .bool true, .bool true, .agg #[.string k.rev, .string k.later, .string k.mine, .string k.theirs, .string k.pay], .agg #[.int .u8 x3.kind, .string x3.term, .int .i64 x3.n, .slice A5 x3.kids.length c5], .agg #[.string k.rev, .string k.later, .string k.mine, .string k.theirs, .string k.pay], .agg #[.int .u8 x3.kind, .string x3.term, .int .i64 x3.n, .slice A6 x3.kids.length c6], .bool true, .bool true, .bool true, .agg #[.int .i64 d.cap, .int .i64 d.push, .int .i64 d.dust, .int .i64 d.res, .int .i64 d.rate, .int .i64 d.delay, .int .i64 d.maxH, .int .i64 d.flight, .int .i64 d.minH], .agg #[.string k.rev, .string k.later, .string k.mine, .string k.theirs, .string k.pay], .agg #[.bool h.mine, .int .i64 h.id, .int .i64 h.amt, .string h.hash, .int .i64 h.exp], .agg #[.int .u8 x4.kind, .string x4.term, .int .i64 x4.n, .slice A7 x4.kids.length c7], .agg #[.int .i64 d.cap, .int .i64 d.push, .int .i64 d.dust, .int .i64 d.res, .int .i64 d.rate, .int .i64 d.delay, .int .i64 d.maxH, .int .i64 d.flight, .int .i64 d.minH], .agg #[.string k.rev, .string k.later, .string k.mine, .string k.theirs, .string k.pay], .agg #[.bool h.mine, .int .i64 h.id, .int .i64 h.amt, .string h.hash, .int .i64 h.exp], .agg #[.int .u8 x4.kind, .string x4.term, .int .i64 x4.n, .slice A8 x4.kids.length c8], .bool true, .bool true, .bool true, .bool true, .bool true], []⟩ : Act) ∧ Below V.heap.size V u) rfl (by kernel_rfl) (by kernel_rfl) (by decide) (by decide) (by kernel_rfl) (fun _ _ _ _ _ h => h) ?hal ?hfin hS.size ?chain
    case hal => intro p hp; cases hp
    case chain =>
      refine anyB_take (S := fun U => Below V.heap.size V U) (i := 0) (v := ?_) (fun _ _ h hb => below_step h hb) rfl (by kernel_rfl) (by kernel_rfl) (by kernel_rfl) (by kernel_rfl) (by kernel_rfl) (by kernel_rfl) (fun _ _ _ h => h) (Or.inl ⟨by rfl, ?_⟩) hS ?_
      rotate_left
      · (intro w' hSw; (try dsimp only at hSw); go_simp; (try with_reducible rfl))
      try simp only [Act.put, List.setIfInBounds_toArray]
      refine anyB_take (S := fun U => Below V.heap.size V U) (i := 1) (v := ?_) (fun _ _ h hb => below_step h hb) rfl (by kernel_rfl) (by kernel_rfl) (by kernel_rfl) (by kernel_rfl) (by kernel_rfl) (by kernel_rfl) (fun _ _ _ h => h) (Or.inl ⟨by rfl, ?_⟩) hS ?_
      rotate_left
      · (intro w' hSw; have hc0 := cell_below hSw K0.out; (try dsimp only at hSw); go_simp; (try with_reducible rfl))
      try simp only [Act.put]
      refine anyB_take (S := fun U => Below V.heap.size V U) (i := 2) (v := ?_) (fun _ _ h hb => below_step h hb) rfl (by kernel_rfl) (by kernel_rfl) (by kernel_rfl) (by kernel_rfl) (by kernel_rfl) (by kernel_rfl) (fun _ _ _ h => h) (Or.inl ⟨by rfl, ?_⟩) hS ?_
      rotate_left
      · (intro w' hSw; (try dsimp only at hSw); go_simp; (try with_reducible rfl))
      try simp only [Act.put]
      refine anyB_take (S := fun U => Below V.heap.size V U) (i := 3) (v := ?_) (fun _ _ h hb => below_step h hb) rfl (by kernel_rfl) (by kernel_rfl) (by kernel_rfl) (by kernel_rfl) (by kernel_rfl) (by kernel_rfl) (fun _ _ _ h => h) (Or.inl ⟨by rfl, ?_⟩) hS ?_
      rotate_left
      · (intro w' hSw; have hc0 := cell_below hSw K4.out; (try dsimp only at hSw); go_simp; (try with_reducible rfl))
      try simp only [Act.put]
      refine anyB_take (S := fun U => Below V.heap.size V U) (i := 5) (v := ?_) (fun _ _ h hb => below_step h hb) rfl (by kernel_rfl) (by kernel_rfl) (by kernel_rfl) (by kernel_rfl) (by kernel_rfl) (by kernel_rfl) (fun _ _ _ h => h) (Or.inl ⟨by rfl, ?_⟩) hS ?_
      rotate_left
      · (intro w' hSw; (try dsimp only at hSw); go_simp; (try with_reducible rfl))
      try simp only [Act.put]
      refine anyB_take (S := fun U => Below V.heap.size V U) (i := 6) (v := ?_) (fun _ _ h hb => below_step h hb) rfl (by kernel_rfl) (by kernel_rfl) (by kernel_rfl) (by kernel_rfl) (by kernel_rfl) (by kernel_rfl) (fun _ _ _ h => h) (Or.inl ⟨by rfl, ?_⟩) hS ?_
      rotate_left
      · (intro w' hSw; have hc0 := cell_below hSw K0.out; (try dsimp only at hSw); go_simp; (try with_reducible rfl))
      try simp only [Act.put]
      refine anyB_take (S := fun U => Below V.heap.size V U) (i := 7) (v := ?_) (fun _ _ h hb => below_step h hb) rfl (by kernel_rfl) (by kernel_rfl) (by kernel_rfl) (by kernel_rfl) (by kernel_rfl) (by kernel_rfl) (fun _ _ _ h => h) (Or.inl ⟨by rfl, ?_⟩) hS ?_
      rotate_left
      · (intro w' hSw; (try dsimp only at hSw); go_simp; (try with_reducible rfl))
      try simp only [Act.put]
      refine anyB_take (S := fun U => Below V.heap.size V U) (i := 8) (v := ?_) (fun _ _ h hb => below_step h hb) rfl (by kernel_rfl) (by kernel_rfl) (by kernel_rfl) (by kernel_rfl) (by kernel_rfl) (by kernel_rfl) (fun _ _ _ h => h) (Or.inl ⟨by rfl, ?_⟩) hS ?_
      rotate_left
      · (intro w' hSw; have hc0 := cell_below hSw K4.out; (try dsimp only at hSw); go_simp; (try with_reducible rfl))
      try simp only [Act.put]
      refine anyB_one (k := 4) (by kernel_rfl) (by kernel_rfl) (by kernel_rfl) (fun g1_V hg => ?_)
      have hS := below_step hS hg
      refine wpOp_step rfl (fun K' hK => ?_)
      have HK := Lib.hid hK
      clear hK
      rw [if_pos (by rfl)]
      go_simp
      refine Calls.mono (C1.out _) ?_
      rintro e w1_V ⟨A1, c1, rfl, hl, hb⟩
      have hS := below_step hS hb
      have HB := Lib.hid hb
      have L1 := Lib.hid hl
      clear hb hg hl
      go_wp2_with fail
      refine HK.out _ _ ⟨HB.out, ?_⟩
      clear HK HB
      try simp only [Act.put, List.setIfInBounds_toArray, List.set_cons_zero, List.set_cons_succ]
      refine anyB_one (k := 9) (by kernel_rfl) (by kernel_rfl) (by kernel_rfl) (fun g2_V hg => ?_)
      have hS := below_step hS hg
      replace L1 := Lib.hid (L1.out.mono (DepEq.below hg))
      refine wpOp_step rfl (fun K' hK => ?_)
      have HK := Lib.hid hK
      clear hK
      rw [if_pos (by rfl)]
      go_simp
      refine Calls.mono (C2.out _) ?_
      rintro e w2_V ⟨A2, c2, rfl, hl, hb⟩
      have hS := below_step hS hb
      replace L1 := Lib.hid (L1.out.mono (DepEq.below hb))
      have HB := Lib.hid hb
      have L2 := Lib.hid hl
      clear hb hg hl
      go_wp2_with fail
      refine HK.out _ _ ⟨HB.out, ?_⟩
      clear HK HB
      try simp only [Act.put, List.setIfInBounds_toArray, List.set_cons_zero, List.set_cons_succ]
      refine anyB_one (k := 10) (by kernel_rfl) (by kernel_rfl) (by kernel_rfl) (fun g3_V hg => ?_)
      have hS := below_step hS hg
      replace L1 := Lib.hid (L1.out.mono (DepEq.below hg))
      replace L2 := Lib.hid (L2.out.mono (DepEq.below hg))
      refine wpOp_step rfl (fun K' hK => ?_)
      have HK := Lib.hid hK
      clear hK
      rw [if_pos (by rfl)]
      go_simp
      refine Calls.mono (sameLock_eq x1 _ _ _ HS1.out L1.out.at L2.out.at) ?_
      rintro e w3_V ⟨rfl, hb⟩
      have hS := below_step hS hb
      clear L1
      clear L2
      have HB := Lib.hid hb
      clear hb hg
      go_wp2_with fail
      refine HK.out _ _ ⟨HB.out, ?_⟩
      clear HK HB
      try simp only [Act.put, List.setIfInBounds_toArray, List.set_cons_zero, List.set_cons_succ]
      refine anyB_take (S := fun U => Below V.heap.size V U) (i := 11) (v := ?_) (fun _ _ h hb => below_step h hb) rfl (by kernel_rfl) (by kernel_rfl) (by kernel_rfl) (by kernel_rfl) (by kernel_rfl) (by kernel_rfl) (fun _ _ _ h => h) (Or.inl ⟨by rfl, ?_⟩) hS ?_
      rotate_left
      · (intro w' hSw; (try dsimp only at hSw); go_simp; (try with_reducible rfl))
      try simp only [Act.put, List.setIfInBounds_toArray]
      refine anyB_take (S := fun U => Below V.heap.size V U) (i := 12) (v := ?_) (fun _ _ h hb => below_step h hb) rfl (by kernel_rfl) (by kernel_rfl) (by kernel_rfl) (by kernel_rfl) (by kernel_rfl) (by kernel_rfl) (fun _ _ _ h => h) (Or.inl ⟨by rfl, ?_⟩) hS ?_
      rotate_left
      · (intro w' hSw; have hc0 := cell_below hSw D0.out; have hc1 := cell_below hSw D1.out; have hc2 := cell_below hSw D2.out; have hc3 := cell_below hSw D3.out; have hc4 := cell_below hSw D4.out; have hc5 := cell_below hSw D5.out; have hc6 := cell_below hSw D6.out; have hc7 := cell_below hSw D7.out; have hc8 := cell_below hSw D8.out; (try dsimp only at hSw); go_simp; (try with_reducible rfl))
      try simp only [Act.put]
      refine anyB_take (S := fun U => Below V.heap.size V U) (i := 13) (v := ?_) (fun _ _ h hb => below_step h hb) rfl (by kernel_rfl) (by kernel_rfl) (by kernel_rfl) (by kernel_rfl) (by kernel_rfl) (by kernel_rfl) (fun _ _ _ h => h) (Or.inl ⟨by rfl, ?_⟩) hS ?_
      rotate_left
      · (intro w' hSw; have hc0 := cell_below hSw K0.out; have hc1 := cell_below hSw K1.out; have hc2 := cell_below hSw K2.out; have hc3 := cell_below hSw K3.out; have hc4 := cell_below hSw K4.out; (try dsimp only at hSw); go_simp; (try with_reducible rfl))
      try simp only [Act.put]
      refine anyB_take (S := fun U => Below V.heap.size V U) (i := 15) (v := ?_) (fun _ _ h hb => below_step h hb) rfl (by kernel_rfl) (by kernel_rfl) (by kernel_rfl) (by kernel_rfl) (by kernel_rfl) (by kernel_rfl) (fun _ _ _ h => h) (Or.inl ⟨by rfl, ?_⟩) hS ?_
      rotate_left
      · (intro w' hSw; have hc0 := cell_below hSw D0.out; have hc1 := cell_below hSw D1.out; have hc2 := cell_below hSw D2.out; have hc3 := cell_below hSw D3.out; have hc4 := cell_below hSw D4.out; have hc5 := cell_below hSw D5.out; have hc6 := cell_below hSw D6.out; have hc7 := cell_below hSw D7.out; have hc8 := cell_below hSw D8.out; (try dsimp only at hSw); go_simp; (try with_reducible rfl))
      try simp only [Act.put]
      refine anyB_take (S := fun U => Below V.heap.size V U) (i := 16) (v := ?_) (fun _ _ h hb => below_step h hb) rfl (by kernel_rfl) (by kernel_rfl) (by kernel_rfl) (by kernel_rfl) (by kernel_rfl) (by kernel_rfl) (fun _ _ _ h => h) (Or.inl ⟨by rfl, ?_⟩) hS ?_
      rotate_left
      · (intro w' hSw; have hc0 := cell_below hSw K0.out; have hc1 := cell_below hSw K1.out; have hc2 := cell_below hSw K2.out; have hc3 := cell_below hSw K3.out; have hc4 := cell_below hSw K4.out; (try dsimp only at hSw); go_simp; (try with_reducible rfl))
      try simp only [Act.put]
      refine anyB_one (k := 14) (by kernel_rfl) (by kernel_rfl) (by kernel_rfl) (fun g4_V hg => ?_)
      have hS := below_step hS hg
      refine wpOp_step rfl (fun K' hK => ?_)
      have HK := Lib.hid hK
      clear hK
      rw [if_pos (by rfl)]
      go_simp
      refine Calls.mono (C3.out _) ?_
      rintro e w4_V ⟨A3, c3, rfl, hl, hb⟩
      have hS := below_step hS hb
      have HB := Lib.hid hb
      have L3 := Lib.hid hl
      clear hb hg hl
      go_wp2_with fail
      refine HK.out _ _ ⟨HB.out, ?_⟩
      clear HK HB
      try simp only [Act.put, List.setIfInBounds_toArray, List.set_cons_zero, List.set_cons_succ]
      refine anyB_one (k := 17) (by kernel_rfl) (by kernel_rfl) (by kernel_rfl) (fun g5_V hg => ?_)
      have hS := below_step hS hg
      replace L3 := Lib.hid (L3.out.mono (DepEq.below hg))
      refine wpOp_step rfl (fun K' hK => ?_)
      have HK := Lib.hid hK
      clear hK
      rw [if_pos (by rfl)]
      go_simp
      refine Calls.mono (C4.out _) ?_
      rintro e w5_V ⟨A4, c4, rfl, hl, hb⟩
      have hS := below_step hS hb
      replace L3 := Lib.hid (L3.out.mono (DepEq.below hb))
      have HB := Lib.hid hb
      have L4 := Lib.hid hl
      clear hb hg hl
      go_wp2_with fail
      refine HK.out _ _ ⟨HB.out, ?_⟩
      clear HK HB
      try simp only [Act.put, List.setIfInBounds_toArray, List.set_cons_zero, List.set_cons_succ]
      refine anyB_one (k := 18) (by kernel_rfl) (by kernel_rfl) (by kernel_rfl) (fun g6_V hg => ?_)
      have hS := below_step hS hg
      replace L3 := Lib.hid (L3.out.mono (DepEq.below hg))
      replace L4 := Lib.hid (L4.out.mono (DepEq.below hg))
      refine wpOp_step rfl (fun K' hK => ?_)
      have HK := Lib.hid hK
      clear hK
      rw [if_pos (by rfl)]
      go_simp
      refine Calls.mono (sameLock_eq x2 _ _ _ HS2.out L3.out.at L4.out.at) ?_
      rintro e w6_V ⟨rfl, hb⟩
      have hS := below_step hS hb
      clear L3
      clear L4
      have HB := Lib.hid hb
      clear hb hg
      go_wp2_with fail
      refine HK.out _ _ ⟨HB.out, ?_⟩
      clear HK HB
      try simp only [Act.put, List.setIfInBounds_toArray, List.set_cons_zero, List.set_cons_succ]
      refine anyB_take (S := fun U => Below V.heap.size V U) (i := 19) (v := ?_) (fun _ _ h hb => below_step h hb) rfl (by kernel_rfl) (by kernel_rfl) (by kernel_rfl) (by kernel_rfl) (by kernel_rfl) (by kernel_rfl) (fun _ _ _ h => h) (Or.inl ⟨by rfl, ?_⟩) hS ?_
      rotate_left
      · (intro w' hSw; (try dsimp only at hSw); go_simp; (try with_reducible rfl))
      try simp only [Act.put, List.setIfInBounds_toArray]
      refine anyB_take (S := fun U => Below V.heap.size V U) (i := 20) (v := ?_) (fun _ _ h hb => below_step h hb) rfl (by kernel_rfl) (by kernel_rfl) (by kernel_rfl) (by kernel_rfl) (by kernel_rfl) (by kernel_rfl) (fun _ _ _ h => h) (Or.inl ⟨by rfl, ?_⟩) hS ?_
      rotate_left
      · (intro w' hSw; (try dsimp only at hSw); go_simp; (try with_reducible rfl))
      try simp only [Act.put]
      refine anyB_take (S := fun U => Below V.heap.size V U) (i := 21) (v := ?_) (fun _ _ h hb => below_step h hb) rfl (by kernel_rfl) (by kernel_rfl) (by kernel_rfl) (by kernel_rfl) (by kernel_rfl) (by kernel_rfl) (fun _ _ _ h => h) (Or.inl ⟨by rfl, ?_⟩) hS ?_
      rotate_left
      · (intro w' hSw; have hc0 := cell_below hSw K0.out; have hc1 := cell_below hSw K1.out; have hc2 := cell_below hSw K2.out; have hc3 := cell_below hSw K3.out; have hc4 := cell_below hSw K4.out; (try dsimp only at hSw); go_simp; (try with_reducible rfl))
      try simp only [Act.put]
      refine anyB_take (S := fun U => Below V.heap.size V U) (i := 23) (v := ?_) (fun _ _ h hb => below_step h hb) rfl (by kernel_rfl) (by kernel_rfl) (by kernel_rfl) (by kernel_rfl) (by kernel_rfl) (by kernel_rfl) (fun _ _ _ h => h) (Or.inl ⟨by rfl, ?_⟩) hS ?_
      rotate_left
      · (intro w' hSw; have hc0 := cell_below hSw K0.out; have hc1 := cell_below hSw K1.out; have hc2 := cell_below hSw K2.out; have hc3 := cell_below hSw K3.out; have hc4 := cell_below hSw K4.out; (try dsimp only at hSw); go_simp; (try with_reducible rfl))
      try simp only [Act.put]
      refine anyB_one (k := 22) (by kernel_rfl) (by kernel_rfl) (by kernel_rfl) (fun g7_V hg => ?_)
      have hS := below_step hS hg
      refine wpOp_step rfl (fun K' hK => ?_)
      have HK := Lib.hid hK
      clear hK
      rw [if_pos (by rfl)]
      go_simp
      refine Calls.mono (C5.out _) ?_
      rintro e w7_V ⟨A5, c5, rfl, hl, hb⟩
      have hS := below_step hS hb
      have HB := Lib.hid hb
      have L5 := Lib.hid hl
      clear hb hg hl
      go_wp2_with fail
      refine HK.out _ _ ⟨HB.out, ?_⟩
      clear HK HB
      try simp only [Act.put, List.setIfInBounds_toArray, List.set_cons_zero, List.set_cons_succ]
      refine anyB_one (k := 24) (by kernel_rfl) (by kernel_rfl) (by kernel_rfl) (fun g8_V hg => ?_)
      have hS := below_step hS hg
      replace L5 := Lib.hid (L5.out.mono (DepEq.below hg))
      refine wpOp_step rfl (fun K' hK => ?_)
      have HK := Lib.hid hK
      clear hK
      rw [if_pos (by rfl)]
      go_simp
      refine Calls.mono (C6.out _) ?_
      rintro e w8_V ⟨A6, c6, rfl, hl, hb⟩
      have hS := below_step hS hb
      replace L5 := Lib.hid (L5.out.mono (DepEq.below hb))
      have HB := Lib.hid hb
      have L6 := Lib.hid hl
      clear hb hg hl
      go_wp2_with fail
      refine HK.out _ _ ⟨HB.out, ?_⟩
      clear HK HB
      try simp only [Act.put, List.setIfInBounds_toArray, List.set_cons_zero, List.set_cons_succ]
      refine anyB_one (k := 25) (by kernel_rfl) (by kernel_rfl) (by kernel_rfl) (fun g9_V hg => ?_)
      have hS := below_step hS hg
      replace L5 := Lib.hid (L5.out.mono (DepEq.below hg))
      replace L6 := Lib.hid (L6.out.mono (DepEq.below hg))
      refine wpOp_step rfl (fun K' hK => ?_)
      have HK := Lib.hid hK
      clear hK
      rw [if_pos (by rfl)]
      go_simp
      refine Calls.mono (sameLock_eq x3 _ _ _ HS3.out L5.out.at L6.out.at) ?_
      rintro e w9_V ⟨rfl, hb⟩
      have hS := below_step hS hb
      clear L5
      clear L6
      have HB := Lib.hid hb
      clear hb hg
      go_wp2_with fail
      refine HK.out _ _ ⟨HB.out, ?_⟩
      clear HK HB
      try simp only [Act.put, List.setIfInBounds_toArray, List.set_cons_zero, List.set_cons_succ]
      refine anyB_take (S := fun U => Below V.heap.size V U) (i := 26) (v := ?_) (fun _ _ h hb => below_step h hb) rfl (by kernel_rfl) (by kernel_rfl) (by kernel_rfl) (by kernel_rfl) (by kernel_rfl) (by kernel_rfl) (fun _ _ _ h => h) (Or.inl ⟨by rfl, ?_⟩) hS ?_
      rotate_left
      · (intro w' hSw; (try dsimp only at hSw); go_simp; (try with_reducible rfl))
      try simp only [Act.put, List.setIfInBounds_toArray]
      refine anyB_take (S := fun U => Below V.heap.size V U) (i := 27) (v := ?_) (fun _ _ h hb => below_step h hb) rfl (by kernel_rfl) (by kernel_rfl) (by kernel_rfl) (by kernel_rfl) (by kernel_rfl) (by kernel_rfl) (fun _ _ _ h => h) (Or.inl ⟨by rfl, ?_⟩) hS ?_
      rotate_left
      · (intro w' hSw; (try dsimp only at hSw); go_simp; (try with_reducible rfl))
      try simp only [Act.put]
      refine anyB_take (S := fun U => Below V.heap.size V U) (i := 28) (v := ?_) (fun _ _ h hb => below_step h hb) rfl (by kernel_rfl) (by kernel_rfl) (by kernel_rfl) (by kernel_rfl) (by kernel_rfl) (by kernel_rfl) (fun _ _ _ h => h) (Or.inl ⟨by rfl, ?_⟩) hS ?_
      rotate_left
      · (intro w' hSw; have hc0 := cell_below hSw D0.out; have hc1 := cell_below hSw D1.out; have hc2 := cell_below hSw D2.out; have hc3 := cell_below hSw D3.out; have hc4 := cell_below hSw D4.out; have hc5 := cell_below hSw D5.out; have hc6 := cell_below hSw D6.out; have hc7 := cell_below hSw D7.out; have hc8 := cell_below hSw D8.out; (try dsimp only at hSw); go_simp; (try with_reducible rfl))
      try simp only [Act.put]
      refine anyB_take (S := fun U => Below V.heap.size V U) (i := 29) (v := ?_) (fun _ _ h hb => below_step h hb) rfl (by kernel_rfl) (by kernel_rfl) (by kernel_rfl) (by kernel_rfl) (by kernel_rfl) (by kernel_rfl) (fun _ _ _ h => h) (Or.inl ⟨by rfl, ?_⟩) hS ?_
      rotate_left
      · (intro w' hSw; have hc0 := cell_below hSw K0.out; have hc1 := cell_below hSw K1.out; have hc2 := cell_below hSw K2.out; have hc3 := cell_below hSw K3.out; have hc4 := cell_below hSw K4.out; (try dsimp only at hSw); go_simp; (try with_reducible rfl))
      try simp only [Act.put]
      refine anyB_take (S := fun U => Below V.heap.size V U) (i := 30) (v := ?_) (fun _ _ h hb => below_step h hb) rfl (by kernel_rfl) (by kernel_rfl) (by kernel_rfl) (by kernel_rfl) (by kernel_rfl) (by kernel_rfl) (fun _ _ _ h => h) (Or.inl ⟨by rfl, ?_⟩) hS ?_
      rotate_left
      · (intro w' hSw; have hc0 := cell_below hSw P0.out; have hc1 := cell_below hSw P1.out; have hc2 := cell_below hSw P2.out; have hc3 := cell_below hSw P3.out; have hc4 := cell_below hSw P4.out; (try dsimp only at hSw); go_simp; (try with_reducible rfl))
      try simp only [Act.put]
      refine anyB_take (S := fun U => Below V.heap.size V U) (i := 32) (v := ?_) (fun _ _ h hb => below_step h hb) rfl (by kernel_rfl) (by kernel_rfl) (by kernel_rfl) (by kernel_rfl) (by kernel_rfl) (by kernel_rfl) (fun _ _ _ h => h) (Or.inl ⟨by rfl, ?_⟩) hS ?_
      rotate_left
      · (intro w' hSw; have hc0 := cell_below hSw D0.out; have hc1 := cell_below hSw D1.out; have hc2 := cell_below hSw D2.out; have hc3 := cell_below hSw D3.out; have hc4 := cell_below hSw D4.out; have hc5 := cell_below hSw D5.out; have hc6 := cell_below hSw D6.out; have hc7 := cell_below hSw D7.out; have hc8 := cell_below hSw D8.out; (try dsimp only at hSw); go_simp; (try with_reducible rfl))
      try simp only [Act.put]
      refine anyB_take (S := fun U => Below V.heap.size V U) (i := 33) (v := ?_) (fun _ _ h hb => below_step h hb) rfl (by kernel_rfl) (by kernel_rfl) (by kernel_rfl) (by kernel_rfl) (by kernel_rfl) (by kernel_rfl) (fun _ _ _ h => h) (Or.inl ⟨by rfl, ?_⟩) hS ?_
      rotate_left
      · (intro w' hSw; have hc0 := cell_below hSw K0.out; have hc1 := cell_below hSw K1.out; have hc2 := cell_below hSw K2.out; have hc3 := cell_below hSw K3.out; have hc4 := cell_below hSw K4.out; (try dsimp only at hSw); go_simp; (try with_reducible rfl))
      try simp only [Act.put]
      refine anyB_take (S := fun U => Below V.heap.size V U) (i := 34) (v := ?_) (fun _ _ h hb => below_step h hb) rfl (by kernel_rfl) (by kernel_rfl) (by kernel_rfl) (by kernel_rfl) (by kernel_rfl) (by kernel_rfl) (fun _ _ _ h => h) (Or.inl ⟨by rfl, ?_⟩) hS ?_
      rotate_left
      · (intro w' hSw; have hc0 := cell_below hSw P0.out; have hc1 := cell_below hSw P1.out; have hc2 := cell_below hSw P2.out; have hc3 := cell_below hSw P3.out; have hc4 := cell_below hSw P4.out; (try dsimp only at hSw); go_simp; (try with_reducible rfl))
      try simp only [Act.put]
      refine anyB_one (k := 31) (by kernel_rfl) (by kernel_rfl) (by kernel_rfl) (fun g10_V hg => ?_)
      have hS := below_step hS hg
      refine wpOp_step rfl (fun K' hK => ?_)
      have HK := Lib.hid hK
      clear hK
      rw [if_pos (by rfl)]
      go_simp
      refine Calls.mono (C7.out _) ?_
      rintro e w10_V ⟨A7, c7, rfl, hl, hb⟩
      have hS := below_step hS hb
      have HB := Lib.hid hb
      have L7 := Lib.hid hl
      clear hb hg hl
      go_wp2_with fail
      refine HK.out _ _ ⟨HB.out, ?_⟩
      clear HK HB
      try simp only [Act.put, List.setIfInBounds_toArray, List.set_cons_zero, List.set_cons_succ]
      refine anyB_one (k := 35) (by kernel_rfl) (by kernel_rfl) (by kernel_rfl) (fun g11_V hg => ?_)
      have hS := below_step hS hg
      replace L7 := Lib.hid (L7.out.mono (DepEq.below hg))
      refine wpOp_step rfl (fun K' hK => ?_)
      have HK := Lib.hid hK
      clear hK
      rw [if_pos (by rfl)]
      go_simp
      refine Calls.mono (C8.out _) ?_
      rintro e w11_V ⟨A8, c8, rfl, hl, hb⟩
      have hS := below_step hS hb
      replace L7 := Lib.hid (L7.out.mono (DepEq.below hb))
      have HB := Lib.hid hb
      have L8 := Lib.hid hl
      clear hb hg hl
      go_wp2_with fail
      refine HK.out _ _ ⟨HB.out, ?_⟩
      clear HK HB
      try simp only [Act.put, List.setIfInBounds_toArray, List.set_cons_zero, List.set_cons_succ]
      refine anyB_one (k := 36) (by kernel_rfl) (by kernel_rfl) (by kernel_rfl) (fun g12_V hg => ?_)
      have hS := below_step hS hg
      replace L7 := Lib.hid (L7.out.mono (DepEq.below hg))
      replace L8 := Lib.hid (L8.out.mono (DepEq.below hg))
      refine wpOp_step rfl (fun K' hK => ?_)
      have HK := Lib.hid hK
      clear hK
      rw [if_pos (by rfl)]
      go_simp
      refine Calls.mono (sameLock_eq x4 _ _ _ HS4.out L7.out.at L8.out.at) ?_
      rintro e w12_V ⟨rfl, hb⟩
      have hS := below_step hS hb
      clear L7
      clear L8
      have HB := Lib.hid hb
      clear hb hg
      go_wp2_with fail
      refine HK.out _ _ ⟨HB.out, ?_⟩
      clear HK HB
      try simp only [Act.put, List.setIfInBounds_toArray, List.set_cons_zero, List.set_cons_succ]
      refine anyB_take (S := fun U => Below V.heap.size V U) (i := 37) (v := ?_) (fun _ _ h hb => below_step h hb) rfl (by kernel_rfl) (by kernel_rfl) (by kernel_rfl) (by kernel_rfl) (by kernel_rfl) (by kernel_rfl) (fun _ _ _ h => h) (Or.inl ⟨by rfl, ?_⟩) hS ?_
      rotate_left
      · (intro w' hSw; (try dsimp only at hSw); go_simp; (try with_reducible rfl))
      try simp only [Act.put, List.setIfInBounds_toArray]
      refine anyB_take (S := fun U => Below V.heap.size V U) (i := 38) (v := ?_) (fun _ _ h hb => below_step h hb) rfl (by kernel_rfl) (by kernel_rfl) (by kernel_rfl) (by kernel_rfl) (by kernel_rfl) (by kernel_rfl) (fun _ _ _ h => h) (Or.inl ⟨by rfl, ?_⟩) hS ?_
      rotate_left
      · (intro w' hSw; (try dsimp only at hSw); go_simp; (try with_reducible rfl))
      try simp only [Act.put]
      refine anyB_one (k := 39) (by kernel_rfl) (by kernel_rfl) (by kernel_rfl) (fun g13_V hg => ?_)
      have hS := below_step hS hg
      refine wpOp_step rfl (fun K' hK => ?_)
      have HK := Lib.hid hK
      clear hK
      rw [if_pos (by rfl)]
      go_simp
      refine Calls.mono (works_any _ (HV.out.below (HB1.out.trans (hS.mono HB1.out.size))) (HT.out.below (HB1.out.trans (hS.mono HB1.out.size)))) ?_
      rintro e w13_V ⟨rfl, hb⟩
      have hS := below_step hS hb
      have HB := Lib.hid hb
      clear hb hg
      go_wp2_with fail
      refine HK.out _ _ ⟨HB.out, ?_⟩
      clear HK HB
      try simp only [Act.put, List.setIfInBounds_toArray, List.set_cons_zero, List.set_cons_succ]
      refine anyB_take (S := fun U => Below V.heap.size V U) (i := 40) (v := ?_) (fun _ _ h hb => below_step h hb) rfl (by kernel_rfl) (by kernel_rfl) (by kernel_rfl) (by kernel_rfl) (by kernel_rfl) (by kernel_rfl) (fun _ _ _ h => h) (Or.inl ⟨by rfl, ?_⟩) hS ?_
      rotate_left
      · (intro w' hSw; (try dsimp only at hSw); go_simp; (try with_reducible rfl))
      try simp only [Act.put, List.setIfInBounds_toArray]
      exact anyB_stop (by kernel_rfl) (fun u hu => ⟨A1, A2, A3, A4, A5, A6, A7, A8, c1, c2, c3, c4, c5, c6, c7, c8, rfl, below_step hS hu⟩)
    case hfin =>
      rintro a u bs hl ⟨A1, A2, A3, A4, A5, A6, A7, A8, c1, c2, c3, c4, c5, c6, c7, c8, rfl, hS⟩ hbx hnd
      obtain rfl : bs = [] := List.length_eq_zero_iff.1 (by simpa using hl)
      change wpAny _ _ _ _ 1 #[true, true, true, true, true, true, true, true, true, true, true, true, true, true, true, true, true, true, true, true, true, true, true, true, true, true, true, true, true, true, true, true, true, true, true, true, true, true, true, true, true, false] (⟨#[.agg #[.int .i64 d.cap, .int .i64 d.push, .int .i64 d.dust, .int .i64 d.res, .int .i64 d.rate, .int .i64 d.delay, .int .i64 d.maxH, .int .i64 d.flight, .int .i64 d.minH], .agg #[.string k.rev, .string k.later, .string k.mine, .string k.theirs, .string k.pay], .agg #[.bool h.mine, .int .i64 h.id, .int .i64 h.amt, .string h.hash, .int .i64 h.exp], .pointer (some ⟨w.heap.size, 0, none⟩), .pointer (some ⟨w.heap.size + 1, 0, none⟩), .pointer (some ⟨w.heap.size + 1 + 1, 0, none⟩), .bool false, .agg #[.string k.rev, .string k.later, .string k.mine, .string k.theirs, .string k.pay], .agg #[.bool h.mine, .int .i64 h.id, .int .i64 h.amt, .string h.hash, .int .i64 h.exp], .slice (some ⟨w.heap.size + 1 + 1 + 1, 0, none⟩) 1 1, .agg #[.int .i64 0, .int .i64 0, .int .i64 0, .slice (some ⟨w.heap.size + 1 + 1 + 1, 0, none⟩) 1 1], .bool false, .pointer (some ⟨w.heap.size + 1, 0, none⟩), .string k.rev, .pointer (some ⟨w.heap.size + 1, 4, none⟩), .string k.pay, .agg #[.int .u8 x1.kind, .string x1.term, .int .i64 x1.n, .slice A1 x1.kids.length c1], .pointer (some ⟨w.heap.size + 1, 0, none⟩), .string k.rev, .pointer (some ⟨w.heap.size + 1, 4, none⟩), .string k.pay, .agg #[.int .u8 x1.kind, .string x1.term, .int .i64 x1.n, .slice A2 x1.kids.length c2], .bool true, .bool true, .agg #[.int .i64 d.cap, .int .i64 d.push, .int .i64 d.dust, .int .i64 d.res, .int .i64 d.rate, .int .i64 d.delay, .int .i64 d.maxH, .int .i64 d.flight, .int .i64 d.minH], .agg #[.string k.rev, .string k.later, .string k.mine, .string k.theirs, .string k.pay], .agg #[.int .u8 x2.kind, .string x2.term, .int .i64 x2.n, .slice A3 x2.kids.length c3], .agg #[.int .i64 d.cap, .int .i64 d.push, .int .i64 d.dust, .int .i64 d.res, .int .i64 d.rate, .int .i64 d.delay, .int .i64 d.maxH, .int .i64 d.flight, .int .i64 d.minH], .agg #[.string k.rev, .string k.later, .string k.mine, .string k.theirs, .string k.pay], .agg #[.int .u8 x2.kind, .string x2.term, .int .i64 x2.n, .slice A4 x2.kids.length c4], .bool true, .bool true, .bool true, .agg #[.string k.rev, .string k.later, .string k.mine, .string k.theirs, .string k.pay], .agg #[.int .u8 x3.kind, .string x3.term, .int .i64 x3.n, .slice A5 x3.kids.length c5], .agg #[.string k.rev, .string k.later, .string k.mine, .string k.theirs, .string k.pay], .agg #[.int .u8 x3.kind, .string x3.term, .int .i64 x3.n, .slice A6 x3.kids.length c6], .bool true, .bool true, .bool true, .agg #[.int .i64 d.cap, .int .i64 d.push, .int .i64 d.dust, .int .i64 d.res, .int .i64 d.rate, .int .i64 d.delay, .int .i64 d.maxH, .int .i64 d.flight, .int .i64 d.minH], .agg #[.string k.rev, .string k.later, .string k.mine, .string k.theirs, .string k.pay], .agg #[.bool h.mine, .int .i64 h.id, .int .i64 h.amt, .string h.hash, .int .i64 h.exp], .agg #[.int .u8 x4.kind, .string x4.term, .int .i64 x4.n, .slice A7 x4.kids.length c7], .agg #[.int .i64 d.cap, .int .i64 d.push, .int .i64 d.dust, .int .i64 d.res, .int .i64 d.rate, .int .i64 d.delay, .int .i64 d.maxH, .int .i64 d.flight, .int .i64 d.minH], .agg #[.string k.rev, .string k.later, .string k.mine, .string k.theirs, .string k.pay], .agg #[.bool h.mine, .int .i64 h.id, .int .i64 h.amt, .string h.hash, .int .i64 h.exp], .agg #[.int .u8 x4.kind, .string x4.term, .int .i64 x4.n, .slice A8 x4.kids.length c8], .bool true, .bool true, .bool true, .bool true, .bool true], []⟩ : Act) u
      refine wpAny_one (k := 41) (by kernel_rfl) ?_
      refine wpOp_step rfl (fun K' hK => ?_)
      have HK := Lib.hid hK
      clear hK
      rw [if_pos (by rfl)]
      go_simp
      refine HK.out _ _ ?_
      clear HK
      refine wpAny_end (by kernel_rfl) ?_
      refine NoPanic.normal ?_
      have HFF := Lib.hid (HB1.out.trans (hS.mono HB1.out.size))
      clear hS
      go_wp2_with fail
      go_ret
      exact ⟨rfl, HFF.out⟩
end Go.Proofs.YtncniomiplnaaaaGreatDoor
namespace Go.Proofs.YtncniomiplnaaaaGreatDoor
open Go.ChangeShapes Go.WideShapes Go.ChangeAt Go.RowKit Go.WideMaps Go.WideElems
open Go.ChangeMaps (open_string shut_string)
theorem vars_of {W : World} (h : laidMetH Tryz.prog Rows.commitLocksRow.laid W) : VarsOk W := by
  rw [MakeChecks.laidMetH_plain _ _ _ (by kernel_rfl)] at h
  exact laid_vars h
theorem tab_of {W : World} (h : laidMetH Tryz.prog Rows.commitLocksRow.laid W) : TabOk W := by
  rw [MakeChecks.laidMetH_plain _ _ _ (by kernel_rfl)] at h
  exact laid_tab h
set_option maxRecDepth 100000 in
set_option maxHeartbeats 4000000 in
theorem commitLocks_lifted (os : Os) (started : os.Started) (H : Type) (enc : TypeId × Value → H) :
    ReturnsInHanded {} Tryz.checked os 5 .any (fun w args => (Rows.commitLocksSpec.pre enc Tryz.prog Tryz.f5 Rows.commitLocksRow.domain false w args ∧ laidMetH Tryz.prog Rows.commitLocksRow.laid w) ∧ sizedMet enc Tryz.prog Tryz.f5 (OpenSpec.ofChange Rows.commitLocksSpec) false w args)
      (Rows.commitLocksSpec.post enc Tryz.prog Tryz.f5 false true false false) := by
  refine returnsInHanded_of_change_and (C := Tryz.checked) (X := fun w _ => laidMetH Tryz.prog Rows.commitLocksRow.laid w) (fun _ _ _ hh h => h.of_heap hh) own started (by kernel_rfl) Tryz.func5
    (ChangeSpec.witness_shaped (enc := enc) (C := Tryz.checked) (os := os) (X := fun w _ => laidMetH Tryz.prog Rows.commitLocksRow.laid w) false (World.laidAll Tryz.prog os Rows.commitLocksRow.laid) #[.agg #[.int .i64 0, .int .i64 0, .int .i64 0, .int .i64 0, .int .i64 0, .int .i64 0, .int .i64 0, .int .i64 0, .int .i64 0], .agg #[.string ⟨#[]⟩, .string ⟨#[]⟩, .string ⟨#[]⟩, .string ⟨#[]⟩, .string ⟨#[]⟩], .agg #[.bool false, .int .i64 0, .int .i64 0, .string ⟨#[]⟩, .int .i64 0]] 8 (World.laidAll_os _ _ _)
      (World.shaped_of_ZipB (by kernel_rfl) (by kernel_rfl)) (by kernel_rfl) (by kernel_rfl) (by kernel_rfl)
      (by rw [MakeChecks.laidMetH_plain _ _ _ (by kernel_rfl)]; exact laidMet_laidAll _ (by kernel_rfl) (by kernel_rfl))) ?_
  intro W base args ds gs before hval0 hW hc hz0 hL _
  have hval : ∀ (j : Nat) t v, Tryz.f5.params[j]? = some t → args[j]? = some v → Value.okWide Tryz.prog W .any base t v := hval0
  have hz1 : ∀ n ∈ DataW.weightsEach Tryz.prog (Tryz.f5.params.toList ++ Rows.commitLocksSpec.plain.varTypes Tryz.prog) (ds ++ gs), n ≤ reachBytes := fun n hn => of_decide_eq_true (List.all_eq_true.1 hz0 n hn)
  have hW' := hW
  obtain ⟨p, q, hA0, hV, rfl, _, _⟩ := hW
  have hA : DataW.TrodAll enc Tryz.prog W 0 (fun _ => true) true Tryz.f5.params.toList args.toList ds p := hA0
  rw [Tryz.params5] at hA hval
  obtain ⟨v0, vs0, d0, ds0, p0, q0, hargs, rfl, rfl, h0, r0⟩ := trodAll_cons hA
  obtain ⟨v1, vs1, d1, ds1, p1, q1, rfl, rfl, rfl, h1, r1⟩ := trodAll_cons r0
  obtain ⟨v2, vs2, d2, ds2, p2, q2, rfl, rfl, rfl, h2, r2⟩ := trodAll_cons r1
  obtain ⟨rfl, rfl, rfl⟩ := trodAll_nil r2
  obtain rfl : args = #[v0, v1, v2] := by cases args; simp_all
  obtain ⟨rfl, rfl⟩ := trodVars_none hV
  have z0 := weightsEach_le hz1 0 23 d0 rfl rfl
  have z1 := weightsEach_le hz1 1 40 d1 rfl rfl
  have z2 := weightsEach_le hz1 2 26 d2 rfl rfl
  obtain ⟨d, rfl⟩ := open_deal (hval 0 23 v0 rfl rfl) h0 z0
  obtain ⟨k, rfl, k1, k2, k3, k4, k5⟩ := open_keys (hval 1 40 v1 rfl rfl) h1 z1
  obtain ⟨h, rfl, hsm⟩ := open_pay (hval 2 26 v2 rfl rfl) h2 z2
  have hrb : reachBytes ≤ 140737488355328 := by decide
  refine (locks_law d k h W (by omega) (by omega) (by omega) (by omega) (by omega) (by omega) (vars_of hL) (tab_of hL)).mono fun e W' ⟨he, hb⟩ => ?_
  subst he
  refine ⟨_, rfl, post_true hW' rfl ?_ rfl rfl hb⟩
  rw [Tryz.params5]
  intro t ht
  have ht2 : t ∈ [23, 40, 26] := ht
  simp only [List.mem_cons, List.not_mem_nil, or_false] at ht2
  rcases ht2 with rfl | rfl | rfl <;> exact ⟨by kernel_rfl, of_decide_eq_true (by kernel_rfl)⟩
theorem commitLocks_holds : Rows.CommitLocksSaid :=
  OpenClaim.holds_of_wide 5 Tryz.f5 rfl rfl rfl rfl rfl rfl rfl ⟨rfl, rfl, rfl, rfl, rfl⟩ rfl rfl rfl rfl rfl (by kernel_rfl) Tryz.func5 (by kernel_rfl)
    (of_decide_eq_true (by kernel_rfl)) (by unfold Func.isWrapper; first | (rw [if_pos (by decide +kernel)]; kernel_rfl) | (rw [if_neg (by decide +kernel)]; exact ⟨rfl, rfl⟩))
    (fun os started H enc _ => commitLocks_lifted os started H enc)
theorem commitLocks_card : Rows.CommitLocksCardSaid :=
  Claim7.holds_tied_plain_at .later [] _ _ _ _ commitLocks_holds (fun _ h => by cases h) (by kernel_rfl) (fun _ h => by cases h) commitLocks_row_tie rfl ⟨rfl, rfl⟩ (by kernel_rfl) rfl
    (fun f fn hf hfn => by
      obtain rfl : f = 5 := Option.some.inj ((show Tryz.prog.funcNamed "sluiceway/sluicewaylaw18.CommitLocks" = some 5 by kernel_rfl).symm.trans hf) |>.symm
      obtain rfl : fn = Tryz.f5 := (Option.some.inj (Tryz.func5.symm.trans hfn)).symm
      exact ⟨by kernel_rfl, fun j t ht => by
        rw [Tryz.params5] at ht
        have hm : t ∈ [23, 40, 26] := by simpa using Array.mem_of_getElem? ht
        have hall : ([23, 40, 26].all fun u => !Tryz.prog.wantsStandIn u) = true := by kernel_rfl
        exact (show Tryz.prog.wantsStandIn t = false by simpa using List.all_eq_true.1 hall t hm)⟩)
    (by kernel_rfl)
end Go.Proofs.YtncniomiplnaaaaGreatDoor
#print axioms Go.Proofs.YtncniomiplnaaaaGreatDoor.commitLocks_card
