/- The law: two outputs close a channel. · A point, an output that came in, opened: its lock is a finite tree. -/
import Derived.Test.YtncniomiplnaaaaGreatDoorQ36
import Derived.Test.YtncniomiplnaaaaGreatDoorQ32
import Derived.Test.YtncniomiplnaaaaGreatDoorQ19
import Derived.Test.YtncniomiplnaaaaGreatDoorQ21
namespace Go.Proofs.YtncniomiplnaaaaGreatDoor
open Go.RowKit

/-- What the statements' bound leaves: all locks are small. -/
theorem lsize_small60 : ∀ (m : Nat) (x : LockT), sizeT x ≤ m → lsizeT x 60 ≤ 60 → smallT x
  | 0, x, h, _ => absurd (sizeT_pos x) (by omega)
  | m + 1, .node k t n l, h, hl => by
    unfold lsizeT at hl
    unfold sizeT at h
    have h0 : lsizeTs l 60 (1 + (t.size : Int) / 64) ≤ 60 := by omega
    have go : ∀ (l : List LockT) (c : Int), 0 ≤ c → sizeTs l ≤ m → lsizeTs l 60 c ≤ 60 → smallTs l ∧ c + (l.length : Int) ≤ 60 := by
      intro l
      induction l with
      | nil => intro c _ _ h; unfold lsizeTs at h; exact ⟨by unfold smallTs; trivial, by simp; omega⟩
      | cons x r ih =>
        intro c hc hs h
        unfold sizeTs at hs
        unfold lsizeTs at h
        split at h
        · have g := lsizeT_ge x 60 (by omega)
          obtain ⟨i1, i2⟩ := ih (c + lsizeT x 60) (by omega) (by omega) h
          have g2 := lsizeTs_ge r 60 (c + lsizeT x 60) (by omega)
          have hx : lsizeT x 60 ≤ 60 := by omega
          exact ⟨by unfold smallTs; exact ⟨lsize_small60 m x (by omega) hx, i1⟩, by rw [List.length_cons]; push_cast; omega⟩
        · omega
    have hn : 0 ≤ (t.size : Int) / 64 := Int.ediv_nonneg (by omega) (by omega)
    obtain ⟨g1, g2⟩ := go l _ (by omega) (by omega) h0
    unfold smallT
    refine ⟨?_, ?_, g1⟩
    · have h5 : (t.size : Int) / 64 ≤ 60 := by omega
      omega
    · omega
theorem closeE_small {tx : ByteArray} {pn : Int} {d : DealR} {a b : OutQ} (ha : smallT a.1.lock) (hb : smallT b.1.lock) : (∀ o ∈ (closeE tx pn d [a, b]).1.outs, smallT o.lock) ∧ (closeE tx pn d [a, b]).1.ins.length ≤ 1000000 ∧ (closeE tx pn d [a, b]).1.outs.length ≤ 1000000 := by
  have hz : (∀ o ∈ zeroTx.outs, smallT o.lock) ∧ zeroTx.ins.length ≤ 1000000 ∧ zeroTx.outs.length ≤ 1000000 := ⟨fun o h => by simp [zeroTx] at h, by decide, by decide⟩
  unfold closeE
  split
  · simp only
    unfold wholeE
    split
    · exact hz
    · split
      · refine ⟨fun o ho => ?_, by simp [txOf], ?_⟩
        · obtain ⟨p, hp, rfl⟩ := List.mem_map.1 (show o ∈ (ordL ltP ((linesO d [a, b]).map (·.1))).map outP from ho)
          obtain ⟨r, hr, rfl⟩ := List.mem_map.1 ((ordL_mem ltP _ p).1 hp)
          obtain ⟨q, hq, rfl⟩ := List.mem_map.1 (show r ∈ ([a, b].filter (bigO d)).map lineOf from hr)
          rcases List.mem_cons.1 (List.mem_filter.1 hq).1 with rfl | h
          · exact ha
          · rw [List.mem_singleton.1 h]; exact hb
        · show ((ordL ltP ((linesO d [a, b]).map (·.1))).map outP).length ≤ 1000000
          rw [List.length_map, ordL_len, List.length_map]
          exact Nat.le_trans (linesO_len d [a, b]) (by simp)
      · exact hz
  · exact hz
set_option maxRecDepth 100000 in
set_option maxHeartbeats 16000000 in
theorem closes_law (tx : ByteArray) (pn : Int) (d : DealR) (a b : OutQ) (w : World) (htx : tx.size ≤ 140737488355328) (hpn : (Lit.int .i64 pn).wf = true) (hca : LockC w a.1.lock [.int .u8 a.1.lock.kind, .string a.1.lock.term, .int .i64 a.1.lock.n, .slice a.2.1 a.1.lock.kids.length a.2.2]) (hcb : LockC w b.1.lock [.int .u8 b.1.lock.kind, .string b.1.lock.term, .int .i64 b.1.lock.n, .slice b.2.1 b.1.lock.kids.length b.2.2]) (hba : boundT a.1.lock) (hbb : boundT b.1.lock) (hv : VarsOk w) (ht : TabOk w) :
    Calls Tryz.prog 7 #[.agg #[.string tx, .int .i64 pn], dealV d, outV a, outV b] w fun e w' => e = .returned (.bool true) ∧ Below w.heap.size w w' := by
  have hb0 : Below w.heap.size w ((((w.alloc (.cells #[.string tx, .int .i64 pn] 35)).alloc (.cells #[.int .i64 d.cap, .int .i64 d.push, .int .i64 d.dust, .int .i64 d.res, .int .i64 d.rate, .int .i64 d.delay, .int .i64 d.maxH, .int .i64 d.flight, .int .i64 d.minH] 23)).alloc (.cells #[.int .i64 a.1.value, .int .u8 a.1.lock.kind, .string a.1.lock.term, .int .i64 a.1.lock.n, .slice a.2.1 a.1.lock.kids.length a.2.2] 66)).alloc (.cells #[.int .i64 b.1.value, .int .u8 b.1.lock.kind, .string b.1.lock.term, .int .i64 b.1.lock.n, .slice b.2.1 b.1.lock.kids.length b.2.2] 66)) := ((((Below.refl w.heap.size w).alloc (Nat.le_refl _) (.cells #[.string tx, .int .i64 pn] 35)).alloc (by simp) (.cells #[.int .i64 d.cap, .int .i64 d.push, .int .i64 d.dust, .int .i64 d.res, .int .i64 d.rate, .int .i64 d.delay, .int .i64 d.maxH, .int .i64 d.flight, .int .i64 d.minH] 23)).alloc (by simp; try omega) (.cells #[.int .i64 a.1.value, .int .u8 a.1.lock.kind, .string a.1.lock.term, .int .i64 a.1.lock.n, .slice a.2.1 a.1.lock.kids.length a.2.2] 66)).alloc (by simp; try omega) (.cells #[.int .i64 b.1.value, .int .u8 b.1.lock.kind, .string b.1.lock.term, .int .i64 b.1.lock.n, .slice b.2.1 b.1.lock.kids.length b.2.2] 66)
  have HB := Lib.hid hb0
  have H0 := Lib.hid (show ((((w.alloc (.cells #[.string tx, .int .i64 pn] 35)).alloc (.cells #[.int .i64 d.cap, .int .i64 d.push, .int .i64 d.dust, .int .i64 d.res, .int .i64 d.rate, .int .i64 d.delay, .int .i64 d.maxH, .int .i64 d.flight, .int .i64 d.minH] 23)).alloc (.cells #[.int .i64 a.1.value, .int .u8 a.1.lock.kind, .string a.1.lock.term, .int .i64 a.1.lock.n, .slice a.2.1 a.1.lock.kids.length a.2.2] 66)).alloc (.cells #[.int .i64 b.1.value, .int .u8 b.1.lock.kind, .string b.1.lock.term, .int .i64 b.1.lock.n, .slice b.2.1 b.1.lock.kids.length b.2.2] 66)).heap[w.heap.size]? = some (.cells #[.string tx, .int .i64 pn] 35) from allocs_at [(.cells #[.string tx, .int .i64 pn] 35), (.cells #[.int .i64 d.cap, .int .i64 d.push, .int .i64 d.dust, .int .i64 d.res, .int .i64 d.rate, .int .i64 d.delay, .int .i64 d.maxH, .int .i64 d.flight, .int .i64 d.minH] 23), (.cells #[.int .i64 a.1.value, .int .u8 a.1.lock.kind, .string a.1.lock.term, .int .i64 a.1.lock.n, .slice a.2.1 a.1.lock.kids.length a.2.2] 66), (.cells #[.int .i64 b.1.value, .int .u8 b.1.lock.kind, .string b.1.lock.term, .int .i64 b.1.lock.n, .slice b.2.1 b.1.lock.kids.length b.2.2] 66)] w 0 _ rfl)
  have H1 := Lib.hid (show ((((w.alloc (.cells #[.string tx, .int .i64 pn] 35)).alloc (.cells #[.int .i64 d.cap, .int .i64 d.push, .int .i64 d.dust, .int .i64 d.res, .int .i64 d.rate, .int .i64 d.delay, .int .i64 d.maxH, .int .i64 d.flight, .int .i64 d.minH] 23)).alloc (.cells #[.int .i64 a.1.value, .int .u8 a.1.lock.kind, .string a.1.lock.term, .int .i64 a.1.lock.n, .slice a.2.1 a.1.lock.kids.length a.2.2] 66)).alloc (.cells #[.int .i64 b.1.value, .int .u8 b.1.lock.kind, .string b.1.lock.term, .int .i64 b.1.lock.n, .slice b.2.1 b.1.lock.kids.length b.2.2] 66)).heap[w.heap.size + 1]? = some (.cells #[.int .i64 d.cap, .int .i64 d.push, .int .i64 d.dust, .int .i64 d.res, .int .i64 d.rate, .int .i64 d.delay, .int .i64 d.maxH, .int .i64 d.flight, .int .i64 d.minH] 23) from allocs_at [(.cells #[.string tx, .int .i64 pn] 35), (.cells #[.int .i64 d.cap, .int .i64 d.push, .int .i64 d.dust, .int .i64 d.res, .int .i64 d.rate, .int .i64 d.delay, .int .i64 d.maxH, .int .i64 d.flight, .int .i64 d.minH] 23), (.cells #[.int .i64 a.1.value, .int .u8 a.1.lock.kind, .string a.1.lock.term, .int .i64 a.1.lock.n, .slice a.2.1 a.1.lock.kids.length a.2.2] 66), (.cells #[.int .i64 b.1.value, .int .u8 b.1.lock.kind, .string b.1.lock.term, .int .i64 b.1.lock.n, .slice b.2.1 b.1.lock.kids.length b.2.2] 66)] w 1 _ rfl)
  have H2 := Lib.hid (show ((((w.alloc (.cells #[.string tx, .int .i64 pn] 35)).alloc (.cells #[.int .i64 d.cap, .int .i64 d.push, .int .i64 d.dust, .int .i64 d.res, .int .i64 d.rate, .int .i64 d.delay, .int .i64 d.maxH, .int .i64 d.flight, .int .i64 d.minH] 23)).alloc (.cells #[.int .i64 a.1.value, .int .u8 a.1.lock.kind, .string a.1.lock.term, .int .i64 a.1.lock.n, .slice a.2.1 a.1.lock.kids.length a.2.2] 66)).alloc (.cells #[.int .i64 b.1.value, .int .u8 b.1.lock.kind, .string b.1.lock.term, .int .i64 b.1.lock.n, .slice b.2.1 b.1.lock.kids.length b.2.2] 66)).heap[w.heap.size + 1 + 1]? = some (.cells #[.int .i64 a.1.value, .int .u8 a.1.lock.kind, .string a.1.lock.term, .int .i64 a.1.lock.n, .slice a.2.1 a.1.lock.kids.length a.2.2] 66) from allocs_at [(.cells #[.string tx, .int .i64 pn] 35), (.cells #[.int .i64 d.cap, .int .i64 d.push, .int .i64 d.dust, .int .i64 d.res, .int .i64 d.rate, .int .i64 d.delay, .int .i64 d.maxH, .int .i64 d.flight, .int .i64 d.minH] 23), (.cells #[.int .i64 a.1.value, .int .u8 a.1.lock.kind, .string a.1.lock.term, .int .i64 a.1.lock.n, .slice a.2.1 a.1.lock.kids.length a.2.2] 66), (.cells #[.int .i64 b.1.value, .int .u8 b.1.lock.kind, .string b.1.lock.term, .int .i64 b.1.lock.n, .slice b.2.1 b.1.lock.kids.length b.2.2] 66)] w 2 _ rfl)
  have H3 := Lib.hid (show ((((w.alloc (.cells #[.string tx, .int .i64 pn] 35)).alloc (.cells #[.int .i64 d.cap, .int .i64 d.push, .int .i64 d.dust, .int .i64 d.res, .int .i64 d.rate, .int .i64 d.delay, .int .i64 d.maxH, .int .i64 d.flight, .int .i64 d.minH] 23)).alloc (.cells #[.int .i64 a.1.value, .int .u8 a.1.lock.kind, .string a.1.lock.term, .int .i64 a.1.lock.n, .slice a.2.1 a.1.lock.kids.length a.2.2] 66)).alloc (.cells #[.int .i64 b.1.value, .int .u8 b.1.lock.kind, .string b.1.lock.term, .int .i64 b.1.lock.n, .slice b.2.1 b.1.lock.kids.length b.2.2] 66)).heap[w.heap.size + 1 + 1 + 1]? = some (.cells #[.int .i64 b.1.value, .int .u8 b.1.lock.kind, .string b.1.lock.term, .int .i64 b.1.lock.n, .slice b.2.1 b.1.lock.kids.length b.2.2] 66) from allocs_at [(.cells #[.string tx, .int .i64 pn] 35), (.cells #[.int .i64 d.cap, .int .i64 d.push, .int .i64 d.dust, .int .i64 d.res, .int .i64 d.rate, .int .i64 d.delay, .int .i64 d.maxH, .int .i64 d.flight, .int .i64 d.minH] 23), (.cells #[.int .i64 a.1.value, .int .u8 a.1.lock.kind, .string a.1.lock.term, .int .i64 a.1.lock.n, .slice a.2.1 a.1.lock.kids.length a.2.2] 66), (.cells #[.int .i64 b.1.value, .int .u8 b.1.lock.kind, .string b.1.lock.term, .int .i64 b.1.lock.n, .slice b.2.1 b.1.lock.kids.length b.2.2] 66)] w 3 _ rfl)
  have HCA := Lib.hid (LockC.below hb0 _ _ hca)
  have HCB := Lib.hid (LockC.below hb0 _ _ hcb)
  have HSA := Lib.hid (lsize_small60 _ a.1.lock (Nat.le_refl _))
  have HSB := Lib.hid (lsize_small60 _ b.1.lock (Nat.le_refl _))
  have HBA := Lib.hid hba
  have HBD := Lib.hid hbb
  have HV := Lib.hid (hv.below hb0)
  have HT := Lib.hid (ht.below hb0)
  have hs4 : w.heap.size + 1 + 1 + 1 < ((((w.alloc (.cells #[.string tx, .int .i64 pn] 35)).alloc (.cells #[.int .i64 d.cap, .int .i64 d.push, .int .i64 d.dust, .int .i64 d.res, .int .i64 d.rate, .int .i64 d.delay, .int .i64 d.maxH, .int .i64 d.flight, .int .i64 d.minH] 23)).alloc (.cells #[.int .i64 a.1.value, .int .u8 a.1.lock.kind, .string a.1.lock.term, .int .i64 a.1.lock.n, .slice a.2.1 a.1.lock.kids.length a.2.2] 66)).alloc (.cells #[.int .i64 b.1.value, .int .u8 b.1.lock.kind, .string b.1.lock.term, .int .i64 b.1.lock.n, .slice b.2.1 b.1.lock.kids.length b.2.2] 66)).heap.size := by simp
  unfold dealV outV
  have p0 : ((((w.alloc (.cells #[.string tx, .int .i64 pn] 35)).alloc (.cells #[.int .i64 d.cap, .int .i64 d.push, .int .i64 d.dust, .int .i64 d.res, .int .i64 d.rate, .int .i64 d.delay, .int .i64 d.maxH, .int .i64 d.flight, .int .i64 d.minH] 23)).alloc (.cells #[.int .i64 a.1.value, .int .u8 a.1.lock.kind, .string a.1.lock.term, .int .i64 a.1.lock.n, .slice a.2.1 a.1.lock.kids.length a.2.2] 66)).alloc (.cells #[.int .i64 b.1.value, .int .u8 b.1.lock.kind, .string b.1.lock.term, .int .i64 b.1.lock.n, .slice b.2.1 b.1.lock.kids.length b.2.2] 66)).cell? ⟨w.heap.size, 0, none⟩ = some (.string tx) := cell_of (j := 0) (((Below.refl ((((w.alloc (.cells #[.string tx, .int .i64 pn] 35)).alloc (.cells #[.int .i64 d.cap, .int .i64 d.push, .int .i64 d.dust, .int .i64 d.res, .int .i64 d.rate, .int .i64 d.delay, .int .i64 d.maxH, .int .i64 d.flight, .int .i64 d.minH] 23)).alloc (.cells #[.int .i64 a.1.value, .int .u8 a.1.lock.kind, .string a.1.lock.term, .int .i64 a.1.lock.n, .slice a.2.1 a.1.lock.kids.length a.2.2] 66)).alloc (.cells #[.int .i64 b.1.value, .int .u8 b.1.lock.kind, .string b.1.lock.term, .int .i64 b.1.lock.n, .slice b.2.1 b.1.lock.kids.length b.2.2] 66)).heap.size ((((w.alloc (.cells #[.string tx, .int .i64 pn] 35)).alloc (.cells #[.int .i64 d.cap, .int .i64 d.push, .int .i64 d.dust, .int .i64 d.res, .int .i64 d.rate, .int .i64 d.delay, .int .i64 d.maxH, .int .i64 d.flight, .int .i64 d.minH] 23)).alloc (.cells #[.int .i64 a.1.value, .int .u8 a.1.lock.kind, .string a.1.lock.term, .int .i64 a.1.lock.n, .slice a.2.1 a.1.lock.kids.length a.2.2] 66)).alloc (.cells #[.int .i64 b.1.value, .int .u8 b.1.lock.kind, .string b.1.lock.term, .int .i64 b.1.lock.n, .slice b.2.1 b.1.lock.kids.length b.2.2] 66))).block _ (lt_of_block H0.out)).trans H0.out) rfl
  have p1 : ((((w.alloc (.cells #[.string tx, .int .i64 pn] 35)).alloc (.cells #[.int .i64 d.cap, .int .i64 d.push, .int .i64 d.dust, .int .i64 d.res, .int .i64 d.rate, .int .i64 d.delay, .int .i64 d.maxH, .int .i64 d.flight, .int .i64 d.minH] 23)).alloc (.cells #[.int .i64 a.1.value, .int .u8 a.1.lock.kind, .string a.1.lock.term, .int .i64 a.1.lock.n, .slice a.2.1 a.1.lock.kids.length a.2.2] 66)).alloc (.cells #[.int .i64 b.1.value, .int .u8 b.1.lock.kind, .string b.1.lock.term, .int .i64 b.1.lock.n, .slice b.2.1 b.1.lock.kids.length b.2.2] 66)).cell? ⟨w.heap.size, 1, none⟩ = some (.int .i64 pn) := cell_of (j := 1) (((Below.refl ((((w.alloc (.cells #[.string tx, .int .i64 pn] 35)).alloc (.cells #[.int .i64 d.cap, .int .i64 d.push, .int .i64 d.dust, .int .i64 d.res, .int .i64 d.rate, .int .i64 d.delay, .int .i64 d.maxH, .int .i64 d.flight, .int .i64 d.minH] 23)).alloc (.cells #[.int .i64 a.1.value, .int .u8 a.1.lock.kind, .string a.1.lock.term, .int .i64 a.1.lock.n, .slice a.2.1 a.1.lock.kids.length a.2.2] 66)).alloc (.cells #[.int .i64 b.1.value, .int .u8 b.1.lock.kind, .string b.1.lock.term, .int .i64 b.1.lock.n, .slice b.2.1 b.1.lock.kids.length b.2.2] 66)).heap.size ((((w.alloc (.cells #[.string tx, .int .i64 pn] 35)).alloc (.cells #[.int .i64 d.cap, .int .i64 d.push, .int .i64 d.dust, .int .i64 d.res, .int .i64 d.rate, .int .i64 d.delay, .int .i64 d.maxH, .int .i64 d.flight, .int .i64 d.minH] 23)).alloc (.cells #[.int .i64 a.1.value, .int .u8 a.1.lock.kind, .string a.1.lock.term, .int .i64 a.1.lock.n, .slice a.2.1 a.1.lock.kids.length a.2.2] 66)).alloc (.cells #[.int .i64 b.1.value, .int .u8 b.1.lock.kind, .string b.1.lock.term, .int .i64 b.1.lock.n, .slice b.2.1 b.1.lock.kids.length b.2.2] 66))).block _ (lt_of_block H0.out)).trans H0.out) rfl
  have d0 : ((((w.alloc (.cells #[.string tx, .int .i64 pn] 35)).alloc (.cells #[.int .i64 d.cap, .int .i64 d.push, .int .i64 d.dust, .int .i64 d.res, .int .i64 d.rate, .int .i64 d.delay, .int .i64 d.maxH, .int .i64 d.flight, .int .i64 d.minH] 23)).alloc (.cells #[.int .i64 a.1.value, .int .u8 a.1.lock.kind, .string a.1.lock.term, .int .i64 a.1.lock.n, .slice a.2.1 a.1.lock.kids.length a.2.2] 66)).alloc (.cells #[.int .i64 b.1.value, .int .u8 b.1.lock.kind, .string b.1.lock.term, .int .i64 b.1.lock.n, .slice b.2.1 b.1.lock.kids.length b.2.2] 66)).cell? ⟨w.heap.size + 1, 0, none⟩ = some (.int .i64 d.cap) := cell_of (j := 0) (((Below.refl ((((w.alloc (.cells #[.string tx, .int .i64 pn] 35)).alloc (.cells #[.int .i64 d.cap, .int .i64 d.push, .int .i64 d.dust, .int .i64 d.res, .int .i64 d.rate, .int .i64 d.delay, .int .i64 d.maxH, .int .i64 d.flight, .int .i64 d.minH] 23)).alloc (.cells #[.int .i64 a.1.value, .int .u8 a.1.lock.kind, .string a.1.lock.term, .int .i64 a.1.lock.n, .slice a.2.1 a.1.lock.kids.length a.2.2] 66)).alloc (.cells #[.int .i64 b.1.value, .int .u8 b.1.lock.kind, .string b.1.lock.term, .int .i64 b.1.lock.n, .slice b.2.1 b.1.lock.kids.length b.2.2] 66)).heap.size ((((w.alloc (.cells #[.string tx, .int .i64 pn] 35)).alloc (.cells #[.int .i64 d.cap, .int .i64 d.push, .int .i64 d.dust, .int .i64 d.res, .int .i64 d.rate, .int .i64 d.delay, .int .i64 d.maxH, .int .i64 d.flight, .int .i64 d.minH] 23)).alloc (.cells #[.int .i64 a.1.value, .int .u8 a.1.lock.kind, .string a.1.lock.term, .int .i64 a.1.lock.n, .slice a.2.1 a.1.lock.kids.length a.2.2] 66)).alloc (.cells #[.int .i64 b.1.value, .int .u8 b.1.lock.kind, .string b.1.lock.term, .int .i64 b.1.lock.n, .slice b.2.1 b.1.lock.kids.length b.2.2] 66))).block _ (lt_of_block H1.out)).trans H1.out) rfl
  have d1 : ((((w.alloc (.cells #[.string tx, .int .i64 pn] 35)).alloc (.cells #[.int .i64 d.cap, .int .i64 d.push, .int .i64 d.dust, .int .i64 d.res, .int .i64 d.rate, .int .i64 d.delay, .int .i64 d.maxH, .int .i64 d.flight, .int .i64 d.minH] 23)).alloc (.cells #[.int .i64 a.1.value, .int .u8 a.1.lock.kind, .string a.1.lock.term, .int .i64 a.1.lock.n, .slice a.2.1 a.1.lock.kids.length a.2.2] 66)).alloc (.cells #[.int .i64 b.1.value, .int .u8 b.1.lock.kind, .string b.1.lock.term, .int .i64 b.1.lock.n, .slice b.2.1 b.1.lock.kids.length b.2.2] 66)).cell? ⟨w.heap.size + 1, 1, none⟩ = some (.int .i64 d.push) := cell_of (j := 1) (((Below.refl ((((w.alloc (.cells #[.string tx, .int .i64 pn] 35)).alloc (.cells #[.int .i64 d.cap, .int .i64 d.push, .int .i64 d.dust, .int .i64 d.res, .int .i64 d.rate, .int .i64 d.delay, .int .i64 d.maxH, .int .i64 d.flight, .int .i64 d.minH] 23)).alloc (.cells #[.int .i64 a.1.value, .int .u8 a.1.lock.kind, .string a.1.lock.term, .int .i64 a.1.lock.n, .slice a.2.1 a.1.lock.kids.length a.2.2] 66)).alloc (.cells #[.int .i64 b.1.value, .int .u8 b.1.lock.kind, .string b.1.lock.term, .int .i64 b.1.lock.n, .slice b.2.1 b.1.lock.kids.length b.2.2] 66)).heap.size ((((w.alloc (.cells #[.string tx, .int .i64 pn] 35)).alloc (.cells #[.int .i64 d.cap, .int .i64 d.push, .int .i64 d.dust, .int .i64 d.res, .int .i64 d.rate, .int .i64 d.delay, .int .i64 d.maxH, .int .i64 d.flight, .int .i64 d.minH] 23)).alloc (.cells #[.int .i64 a.1.value, .int .u8 a.1.lock.kind, .string a.1.lock.term, .int .i64 a.1.lock.n, .slice a.2.1 a.1.lock.kids.length a.2.2] 66)).alloc (.cells #[.int .i64 b.1.value, .int .u8 b.1.lock.kind, .string b.1.lock.term, .int .i64 b.1.lock.n, .slice b.2.1 b.1.lock.kids.length b.2.2] 66))).block _ (lt_of_block H1.out)).trans H1.out) rfl
  have d2 : ((((w.alloc (.cells #[.string tx, .int .i64 pn] 35)).alloc (.cells #[.int .i64 d.cap, .int .i64 d.push, .int .i64 d.dust, .int .i64 d.res, .int .i64 d.rate, .int .i64 d.delay, .int .i64 d.maxH, .int .i64 d.flight, .int .i64 d.minH] 23)).alloc (.cells #[.int .i64 a.1.value, .int .u8 a.1.lock.kind, .string a.1.lock.term, .int .i64 a.1.lock.n, .slice a.2.1 a.1.lock.kids.length a.2.2] 66)).alloc (.cells #[.int .i64 b.1.value, .int .u8 b.1.lock.kind, .string b.1.lock.term, .int .i64 b.1.lock.n, .slice b.2.1 b.1.lock.kids.length b.2.2] 66)).cell? ⟨w.heap.size + 1, 2, none⟩ = some (.int .i64 d.dust) := cell_of (j := 2) (((Below.refl ((((w.alloc (.cells #[.string tx, .int .i64 pn] 35)).alloc (.cells #[.int .i64 d.cap, .int .i64 d.push, .int .i64 d.dust, .int .i64 d.res, .int .i64 d.rate, .int .i64 d.delay, .int .i64 d.maxH, .int .i64 d.flight, .int .i64 d.minH] 23)).alloc (.cells #[.int .i64 a.1.value, .int .u8 a.1.lock.kind, .string a.1.lock.term, .int .i64 a.1.lock.n, .slice a.2.1 a.1.lock.kids.length a.2.2] 66)).alloc (.cells #[.int .i64 b.1.value, .int .u8 b.1.lock.kind, .string b.1.lock.term, .int .i64 b.1.lock.n, .slice b.2.1 b.1.lock.kids.length b.2.2] 66)).heap.size ((((w.alloc (.cells #[.string tx, .int .i64 pn] 35)).alloc (.cells #[.int .i64 d.cap, .int .i64 d.push, .int .i64 d.dust, .int .i64 d.res, .int .i64 d.rate, .int .i64 d.delay, .int .i64 d.maxH, .int .i64 d.flight, .int .i64 d.minH] 23)).alloc (.cells #[.int .i64 a.1.value, .int .u8 a.1.lock.kind, .string a.1.lock.term, .int .i64 a.1.lock.n, .slice a.2.1 a.1.lock.kids.length a.2.2] 66)).alloc (.cells #[.int .i64 b.1.value, .int .u8 b.1.lock.kind, .string b.1.lock.term, .int .i64 b.1.lock.n, .slice b.2.1 b.1.lock.kids.length b.2.2] 66))).block _ (lt_of_block H1.out)).trans H1.out) rfl
  have d3 : ((((w.alloc (.cells #[.string tx, .int .i64 pn] 35)).alloc (.cells #[.int .i64 d.cap, .int .i64 d.push, .int .i64 d.dust, .int .i64 d.res, .int .i64 d.rate, .int .i64 d.delay, .int .i64 d.maxH, .int .i64 d.flight, .int .i64 d.minH] 23)).alloc (.cells #[.int .i64 a.1.value, .int .u8 a.1.lock.kind, .string a.1.lock.term, .int .i64 a.1.lock.n, .slice a.2.1 a.1.lock.kids.length a.2.2] 66)).alloc (.cells #[.int .i64 b.1.value, .int .u8 b.1.lock.kind, .string b.1.lock.term, .int .i64 b.1.lock.n, .slice b.2.1 b.1.lock.kids.length b.2.2] 66)).cell? ⟨w.heap.size + 1, 3, none⟩ = some (.int .i64 d.res) := cell_of (j := 3) (((Below.refl ((((w.alloc (.cells #[.string tx, .int .i64 pn] 35)).alloc (.cells #[.int .i64 d.cap, .int .i64 d.push, .int .i64 d.dust, .int .i64 d.res, .int .i64 d.rate, .int .i64 d.delay, .int .i64 d.maxH, .int .i64 d.flight, .int .i64 d.minH] 23)).alloc (.cells #[.int .i64 a.1.value, .int .u8 a.1.lock.kind, .string a.1.lock.term, .int .i64 a.1.lock.n, .slice a.2.1 a.1.lock.kids.length a.2.2] 66)).alloc (.cells #[.int .i64 b.1.value, .int .u8 b.1.lock.kind, .string b.1.lock.term, .int .i64 b.1.lock.n, .slice b.2.1 b.1.lock.kids.length b.2.2] 66)).heap.size ((((w.alloc (.cells #[.string tx, .int .i64 pn] 35)).alloc (.cells #[.int .i64 d.cap, .int .i64 d.push, .int .i64 d.dust, .int .i64 d.res, .int .i64 d.rate, .int .i64 d.delay, .int .i64 d.maxH, .int .i64 d.flight, .int .i64 d.minH] 23)).alloc (.cells #[.int .i64 a.1.value, .int .u8 a.1.lock.kind, .string a.1.lock.term, .int .i64 a.1.lock.n, .slice a.2.1 a.1.lock.kids.length a.2.2] 66)).alloc (.cells #[.int .i64 b.1.value, .int .u8 b.1.lock.kind, .string b.1.lock.term, .int .i64 b.1.lock.n, .slice b.2.1 b.1.lock.kids.length b.2.2] 66))).block _ (lt_of_block H1.out)).trans H1.out) rfl
  have d4 : ((((w.alloc (.cells #[.string tx, .int .i64 pn] 35)).alloc (.cells #[.int .i64 d.cap, .int .i64 d.push, .int .i64 d.dust, .int .i64 d.res, .int .i64 d.rate, .int .i64 d.delay, .int .i64 d.maxH, .int .i64 d.flight, .int .i64 d.minH] 23)).alloc (.cells #[.int .i64 a.1.value, .int .u8 a.1.lock.kind, .string a.1.lock.term, .int .i64 a.1.lock.n, .slice a.2.1 a.1.lock.kids.length a.2.2] 66)).alloc (.cells #[.int .i64 b.1.value, .int .u8 b.1.lock.kind, .string b.1.lock.term, .int .i64 b.1.lock.n, .slice b.2.1 b.1.lock.kids.length b.2.2] 66)).cell? ⟨w.heap.size + 1, 4, none⟩ = some (.int .i64 d.rate) := cell_of (j := 4) (((Below.refl ((((w.alloc (.cells #[.string tx, .int .i64 pn] 35)).alloc (.cells #[.int .i64 d.cap, .int .i64 d.push, .int .i64 d.dust, .int .i64 d.res, .int .i64 d.rate, .int .i64 d.delay, .int .i64 d.maxH, .int .i64 d.flight, .int .i64 d.minH] 23)).alloc (.cells #[.int .i64 a.1.value, .int .u8 a.1.lock.kind, .string a.1.lock.term, .int .i64 a.1.lock.n, .slice a.2.1 a.1.lock.kids.length a.2.2] 66)).alloc (.cells #[.int .i64 b.1.value, .int .u8 b.1.lock.kind, .string b.1.lock.term, .int .i64 b.1.lock.n, .slice b.2.1 b.1.lock.kids.length b.2.2] 66)).heap.size ((((w.alloc (.cells #[.string tx, .int .i64 pn] 35)).alloc (.cells #[.int .i64 d.cap, .int .i64 d.push, .int .i64 d.dust, .int .i64 d.res, .int .i64 d.rate, .int .i64 d.delay, .int .i64 d.maxH, .int .i64 d.flight, .int .i64 d.minH] 23)).alloc (.cells #[.int .i64 a.1.value, .int .u8 a.1.lock.kind, .string a.1.lock.term, .int .i64 a.1.lock.n, .slice a.2.1 a.1.lock.kids.length a.2.2] 66)).alloc (.cells #[.int .i64 b.1.value, .int .u8 b.1.lock.kind, .string b.1.lock.term, .int .i64 b.1.lock.n, .slice b.2.1 b.1.lock.kids.length b.2.2] 66))).block _ (lt_of_block H1.out)).trans H1.out) rfl
  have d5 : ((((w.alloc (.cells #[.string tx, .int .i64 pn] 35)).alloc (.cells #[.int .i64 d.cap, .int .i64 d.push, .int .i64 d.dust, .int .i64 d.res, .int .i64 d.rate, .int .i64 d.delay, .int .i64 d.maxH, .int .i64 d.flight, .int .i64 d.minH] 23)).alloc (.cells #[.int .i64 a.1.value, .int .u8 a.1.lock.kind, .string a.1.lock.term, .int .i64 a.1.lock.n, .slice a.2.1 a.1.lock.kids.length a.2.2] 66)).alloc (.cells #[.int .i64 b.1.value, .int .u8 b.1.lock.kind, .string b.1.lock.term, .int .i64 b.1.lock.n, .slice b.2.1 b.1.lock.kids.length b.2.2] 66)).cell? ⟨w.heap.size + 1, 5, none⟩ = some (.int .i64 d.delay) := cell_of (j := 5) (((Below.refl ((((w.alloc (.cells #[.string tx, .int .i64 pn] 35)).alloc (.cells #[.int .i64 d.cap, .int .i64 d.push, .int .i64 d.dust, .int .i64 d.res, .int .i64 d.rate, .int .i64 d.delay, .int .i64 d.maxH, .int .i64 d.flight, .int .i64 d.minH] 23)).alloc (.cells #[.int .i64 a.1.value, .int .u8 a.1.lock.kind, .string a.1.lock.term, .int .i64 a.1.lock.n, .slice a.2.1 a.1.lock.kids.length a.2.2] 66)).alloc (.cells #[.int .i64 b.1.value, .int .u8 b.1.lock.kind, .string b.1.lock.term, .int .i64 b.1.lock.n, .slice b.2.1 b.1.lock.kids.length b.2.2] 66)).heap.size ((((w.alloc (.cells #[.string tx, .int .i64 pn] 35)).alloc (.cells #[.int .i64 d.cap, .int .i64 d.push, .int .i64 d.dust, .int .i64 d.res, .int .i64 d.rate, .int .i64 d.delay, .int .i64 d.maxH, .int .i64 d.flight, .int .i64 d.minH] 23)).alloc (.cells #[.int .i64 a.1.value, .int .u8 a.1.lock.kind, .string a.1.lock.term, .int .i64 a.1.lock.n, .slice a.2.1 a.1.lock.kids.length a.2.2] 66)).alloc (.cells #[.int .i64 b.1.value, .int .u8 b.1.lock.kind, .string b.1.lock.term, .int .i64 b.1.lock.n, .slice b.2.1 b.1.lock.kids.length b.2.2] 66))).block _ (lt_of_block H1.out)).trans H1.out) rfl
  have d6 : ((((w.alloc (.cells #[.string tx, .int .i64 pn] 35)).alloc (.cells #[.int .i64 d.cap, .int .i64 d.push, .int .i64 d.dust, .int .i64 d.res, .int .i64 d.rate, .int .i64 d.delay, .int .i64 d.maxH, .int .i64 d.flight, .int .i64 d.minH] 23)).alloc (.cells #[.int .i64 a.1.value, .int .u8 a.1.lock.kind, .string a.1.lock.term, .int .i64 a.1.lock.n, .slice a.2.1 a.1.lock.kids.length a.2.2] 66)).alloc (.cells #[.int .i64 b.1.value, .int .u8 b.1.lock.kind, .string b.1.lock.term, .int .i64 b.1.lock.n, .slice b.2.1 b.1.lock.kids.length b.2.2] 66)).cell? ⟨w.heap.size + 1, 6, none⟩ = some (.int .i64 d.maxH) := cell_of (j := 6) (((Below.refl ((((w.alloc (.cells #[.string tx, .int .i64 pn] 35)).alloc (.cells #[.int .i64 d.cap, .int .i64 d.push, .int .i64 d.dust, .int .i64 d.res, .int .i64 d.rate, .int .i64 d.delay, .int .i64 d.maxH, .int .i64 d.flight, .int .i64 d.minH] 23)).alloc (.cells #[.int .i64 a.1.value, .int .u8 a.1.lock.kind, .string a.1.lock.term, .int .i64 a.1.lock.n, .slice a.2.1 a.1.lock.kids.length a.2.2] 66)).alloc (.cells #[.int .i64 b.1.value, .int .u8 b.1.lock.kind, .string b.1.lock.term, .int .i64 b.1.lock.n, .slice b.2.1 b.1.lock.kids.length b.2.2] 66)).heap.size ((((w.alloc (.cells #[.string tx, .int .i64 pn] 35)).alloc (.cells #[.int .i64 d.cap, .int .i64 d.push, .int .i64 d.dust, .int .i64 d.res, .int .i64 d.rate, .int .i64 d.delay, .int .i64 d.maxH, .int .i64 d.flight, .int .i64 d.minH] 23)).alloc (.cells #[.int .i64 a.1.value, .int .u8 a.1.lock.kind, .string a.1.lock.term, .int .i64 a.1.lock.n, .slice a.2.1 a.1.lock.kids.length a.2.2] 66)).alloc (.cells #[.int .i64 b.1.value, .int .u8 b.1.lock.kind, .string b.1.lock.term, .int .i64 b.1.lock.n, .slice b.2.1 b.1.lock.kids.length b.2.2] 66))).block _ (lt_of_block H1.out)).trans H1.out) rfl
  have d7 : ((((w.alloc (.cells #[.string tx, .int .i64 pn] 35)).alloc (.cells #[.int .i64 d.cap, .int .i64 d.push, .int .i64 d.dust, .int .i64 d.res, .int .i64 d.rate, .int .i64 d.delay, .int .i64 d.maxH, .int .i64 d.flight, .int .i64 d.minH] 23)).alloc (.cells #[.int .i64 a.1.value, .int .u8 a.1.lock.kind, .string a.1.lock.term, .int .i64 a.1.lock.n, .slice a.2.1 a.1.lock.kids.length a.2.2] 66)).alloc (.cells #[.int .i64 b.1.value, .int .u8 b.1.lock.kind, .string b.1.lock.term, .int .i64 b.1.lock.n, .slice b.2.1 b.1.lock.kids.length b.2.2] 66)).cell? ⟨w.heap.size + 1, 7, none⟩ = some (.int .i64 d.flight) := cell_of (j := 7) (((Below.refl ((((w.alloc (.cells #[.string tx, .int .i64 pn] 35)).alloc (.cells #[.int .i64 d.cap, .int .i64 d.push, .int .i64 d.dust, .int .i64 d.res, .int .i64 d.rate, .int .i64 d.delay, .int .i64 d.maxH, .int .i64 d.flight, .int .i64 d.minH] 23)).alloc (.cells #[.int .i64 a.1.value, .int .u8 a.1.lock.kind, .string a.1.lock.term, .int .i64 a.1.lock.n, .slice a.2.1 a.1.lock.kids.length a.2.2] 66)).alloc (.cells #[.int .i64 b.1.value, .int .u8 b.1.lock.kind, .string b.1.lock.term, .int .i64 b.1.lock.n, .slice b.2.1 b.1.lock.kids.length b.2.2] 66)).heap.size ((((w.alloc (.cells #[.string tx, .int .i64 pn] 35)).alloc (.cells #[.int .i64 d.cap, .int .i64 d.push, .int .i64 d.dust, .int .i64 d.res, .int .i64 d.rate, .int .i64 d.delay, .int .i64 d.maxH, .int .i64 d.flight, .int .i64 d.minH] 23)).alloc (.cells #[.int .i64 a.1.value, .int .u8 a.1.lock.kind, .string a.1.lock.term, .int .i64 a.1.lock.n, .slice a.2.1 a.1.lock.kids.length a.2.2] 66)).alloc (.cells #[.int .i64 b.1.value, .int .u8 b.1.lock.kind, .string b.1.lock.term, .int .i64 b.1.lock.n, .slice b.2.1 b.1.lock.kids.length b.2.2] 66))).block _ (lt_of_block H1.out)).trans H1.out) rfl
  have d8 : ((((w.alloc (.cells #[.string tx, .int .i64 pn] 35)).alloc (.cells #[.int .i64 d.cap, .int .i64 d.push, .int .i64 d.dust, .int .i64 d.res, .int .i64 d.rate, .int .i64 d.delay, .int .i64 d.maxH, .int .i64 d.flight, .int .i64 d.minH] 23)).alloc (.cells #[.int .i64 a.1.value, .int .u8 a.1.lock.kind, .string a.1.lock.term, .int .i64 a.1.lock.n, .slice a.2.1 a.1.lock.kids.length a.2.2] 66)).alloc (.cells #[.int .i64 b.1.value, .int .u8 b.1.lock.kind, .string b.1.lock.term, .int .i64 b.1.lock.n, .slice b.2.1 b.1.lock.kids.length b.2.2] 66)).cell? ⟨w.heap.size + 1, 8, none⟩ = some (.int .i64 d.minH) := cell_of (j := 8) (((Below.refl ((((w.alloc (.cells #[.string tx, .int .i64 pn] 35)).alloc (.cells #[.int .i64 d.cap, .int .i64 d.push, .int .i64 d.dust, .int .i64 d.res, .int .i64 d.rate, .int .i64 d.delay, .int .i64 d.maxH, .int .i64 d.flight, .int .i64 d.minH] 23)).alloc (.cells #[.int .i64 a.1.value, .int .u8 a.1.lock.kind, .string a.1.lock.term, .int .i64 a.1.lock.n, .slice a.2.1 a.1.lock.kids.length a.2.2] 66)).alloc (.cells #[.int .i64 b.1.value, .int .u8 b.1.lock.kind, .string b.1.lock.term, .int .i64 b.1.lock.n, .slice b.2.1 b.1.lock.kids.length b.2.2] 66)).heap.size ((((w.alloc (.cells #[.string tx, .int .i64 pn] 35)).alloc (.cells #[.int .i64 d.cap, .int .i64 d.push, .int .i64 d.dust, .int .i64 d.res, .int .i64 d.rate, .int .i64 d.delay, .int .i64 d.maxH, .int .i64 d.flight, .int .i64 d.minH] 23)).alloc (.cells #[.int .i64 a.1.value, .int .u8 a.1.lock.kind, .string a.1.lock.term, .int .i64 a.1.lock.n, .slice a.2.1 a.1.lock.kids.length a.2.2] 66)).alloc (.cells #[.int .i64 b.1.value, .int .u8 b.1.lock.kind, .string b.1.lock.term, .int .i64 b.1.lock.n, .slice b.2.1 b.1.lock.kids.length b.2.2] 66))).block _ (lt_of_block H1.out)).trans H1.out) rfl
  have a0 : ((((w.alloc (.cells #[.string tx, .int .i64 pn] 35)).alloc (.cells #[.int .i64 d.cap, .int .i64 d.push, .int .i64 d.dust, .int .i64 d.res, .int .i64 d.rate, .int .i64 d.delay, .int .i64 d.maxH, .int .i64 d.flight, .int .i64 d.minH] 23)).alloc (.cells #[.int .i64 a.1.value, .int .u8 a.1.lock.kind, .string a.1.lock.term, .int .i64 a.1.lock.n, .slice a.2.1 a.1.lock.kids.length a.2.2] 66)).alloc (.cells #[.int .i64 b.1.value, .int .u8 b.1.lock.kind, .string b.1.lock.term, .int .i64 b.1.lock.n, .slice b.2.1 b.1.lock.kids.length b.2.2] 66)).cell? ⟨w.heap.size + 1 + 1, 0, none⟩ = some (.int .i64 a.1.value) := cell_of (j := 0) (((Below.refl ((((w.alloc (.cells #[.string tx, .int .i64 pn] 35)).alloc (.cells #[.int .i64 d.cap, .int .i64 d.push, .int .i64 d.dust, .int .i64 d.res, .int .i64 d.rate, .int .i64 d.delay, .int .i64 d.maxH, .int .i64 d.flight, .int .i64 d.minH] 23)).alloc (.cells #[.int .i64 a.1.value, .int .u8 a.1.lock.kind, .string a.1.lock.term, .int .i64 a.1.lock.n, .slice a.2.1 a.1.lock.kids.length a.2.2] 66)).alloc (.cells #[.int .i64 b.1.value, .int .u8 b.1.lock.kind, .string b.1.lock.term, .int .i64 b.1.lock.n, .slice b.2.1 b.1.lock.kids.length b.2.2] 66)).heap.size ((((w.alloc (.cells #[.string tx, .int .i64 pn] 35)).alloc (.cells #[.int .i64 d.cap, .int .i64 d.push, .int .i64 d.dust, .int .i64 d.res, .int .i64 d.rate, .int .i64 d.delay, .int .i64 d.maxH, .int .i64 d.flight, .int .i64 d.minH] 23)).alloc (.cells #[.int .i64 a.1.value, .int .u8 a.1.lock.kind, .string a.1.lock.term, .int .i64 a.1.lock.n, .slice a.2.1 a.1.lock.kids.length a.2.2] 66)).alloc (.cells #[.int .i64 b.1.value, .int .u8 b.1.lock.kind, .string b.1.lock.term, .int .i64 b.1.lock.n, .slice b.2.1 b.1.lock.kids.length b.2.2] 66))).block _ (lt_of_block H2.out)).trans H2.out) rfl
  have a1 : ((((w.alloc (.cells #[.string tx, .int .i64 pn] 35)).alloc (.cells #[.int .i64 d.cap, .int .i64 d.push, .int .i64 d.dust, .int .i64 d.res, .int .i64 d.rate, .int .i64 d.delay, .int .i64 d.maxH, .int .i64 d.flight, .int .i64 d.minH] 23)).alloc (.cells #[.int .i64 a.1.value, .int .u8 a.1.lock.kind, .string a.1.lock.term, .int .i64 a.1.lock.n, .slice a.2.1 a.1.lock.kids.length a.2.2] 66)).alloc (.cells #[.int .i64 b.1.value, .int .u8 b.1.lock.kind, .string b.1.lock.term, .int .i64 b.1.lock.n, .slice b.2.1 b.1.lock.kids.length b.2.2] 66)).cell? ⟨w.heap.size + 1 + 1, 1, none⟩ = some (.int .u8 a.1.lock.kind) := cell_of (j := 1) (((Below.refl ((((w.alloc (.cells #[.string tx, .int .i64 pn] 35)).alloc (.cells #[.int .i64 d.cap, .int .i64 d.push, .int .i64 d.dust, .int .i64 d.res, .int .i64 d.rate, .int .i64 d.delay, .int .i64 d.maxH, .int .i64 d.flight, .int .i64 d.minH] 23)).alloc (.cells #[.int .i64 a.1.value, .int .u8 a.1.lock.kind, .string a.1.lock.term, .int .i64 a.1.lock.n, .slice a.2.1 a.1.lock.kids.length a.2.2] 66)).alloc (.cells #[.int .i64 b.1.value, .int .u8 b.1.lock.kind, .string b.1.lock.term, .int .i64 b.1.lock.n, .slice b.2.1 b.1.lock.kids.length b.2.2] 66)).heap.size ((((w.alloc (.cells #[.string tx, .int .i64 pn] 35)).alloc (.cells #[.int .i64 d.cap, .int .i64 d.push, .int .i64 d.dust, .int .i64 d.res, .int .i64 d.rate, .int .i64 d.delay, .int .i64 d.maxH, .int .i64 d.flight, .int .i64 d.minH] 23)).alloc (.cells #[.int .i64 a.1.value, .int .u8 a.1.lock.kind, .string a.1.lock.term, .int .i64 a.1.lock.n, .slice a.2.1 a.1.lock.kids.length a.2.2] 66)).alloc (.cells #[.int .i64 b.1.value, .int .u8 b.1.lock.kind, .string b.1.lock.term, .int .i64 b.1.lock.n, .slice b.2.1 b.1.lock.kids.length b.2.2] 66))).block _ (lt_of_block H2.out)).trans H2.out) rfl
  have a2 : ((((w.alloc (.cells #[.string tx, .int .i64 pn] 35)).alloc (.cells #[.int .i64 d.cap, .int .i64 d.push, .int .i64 d.dust, .int .i64 d.res, .int .i64 d.rate, .int .i64 d.delay, .int .i64 d.maxH, .int .i64 d.flight, .int .i64 d.minH] 23)).alloc (.cells #[.int .i64 a.1.value, .int .u8 a.1.lock.kind, .string a.1.lock.term, .int .i64 a.1.lock.n, .slice a.2.1 a.1.lock.kids.length a.2.2] 66)).alloc (.cells #[.int .i64 b.1.value, .int .u8 b.1.lock.kind, .string b.1.lock.term, .int .i64 b.1.lock.n, .slice b.2.1 b.1.lock.kids.length b.2.2] 66)).cell? ⟨w.heap.size + 1 + 1, 2, none⟩ = some (.string a.1.lock.term) := cell_of (j := 2) (((Below.refl ((((w.alloc (.cells #[.string tx, .int .i64 pn] 35)).alloc (.cells #[.int .i64 d.cap, .int .i64 d.push, .int .i64 d.dust, .int .i64 d.res, .int .i64 d.rate, .int .i64 d.delay, .int .i64 d.maxH, .int .i64 d.flight, .int .i64 d.minH] 23)).alloc (.cells #[.int .i64 a.1.value, .int .u8 a.1.lock.kind, .string a.1.lock.term, .int .i64 a.1.lock.n, .slice a.2.1 a.1.lock.kids.length a.2.2] 66)).alloc (.cells #[.int .i64 b.1.value, .int .u8 b.1.lock.kind, .string b.1.lock.term, .int .i64 b.1.lock.n, .slice b.2.1 b.1.lock.kids.length b.2.2] 66)).heap.size ((((w.alloc (.cells #[.string tx, .int .i64 pn] 35)).alloc (.cells #[.int .i64 d.cap, .int .i64 d.push, .int .i64 d.dust, .int .i64 d.res, .int .i64 d.rate, .int .i64 d.delay, .int .i64 d.maxH, .int .i64 d.flight, .int .i64 d.minH] 23)).alloc (.cells #[.int .i64 a.1.value, .int .u8 a.1.lock.kind, .string a.1.lock.term, .int .i64 a.1.lock.n, .slice a.2.1 a.1.lock.kids.length a.2.2] 66)).alloc (.cells #[.int .i64 b.1.value, .int .u8 b.1.lock.kind, .string b.1.lock.term, .int .i64 b.1.lock.n, .slice b.2.1 b.1.lock.kids.length b.2.2] 66))).block _ (lt_of_block H2.out)).trans H2.out) rfl
  have a3 : ((((w.alloc (.cells #[.string tx, .int .i64 pn] 35)).alloc (.cells #[.int .i64 d.cap, .int .i64 d.push, .int .i64 d.dust, .int .i64 d.res, .int .i64 d.rate, .int .i64 d.delay, .int .i64 d.maxH, .int .i64 d.flight, .int .i64 d.minH] 23)).alloc (.cells #[.int .i64 a.1.value, .int .u8 a.1.lock.kind, .string a.1.lock.term, .int .i64 a.1.lock.n, .slice a.2.1 a.1.lock.kids.length a.2.2] 66)).alloc (.cells #[.int .i64 b.1.value, .int .u8 b.1.lock.kind, .string b.1.lock.term, .int .i64 b.1.lock.n, .slice b.2.1 b.1.lock.kids.length b.2.2] 66)).cell? ⟨w.heap.size + 1 + 1, 3, none⟩ = some (.int .i64 a.1.lock.n) := cell_of (j := 3) (((Below.refl ((((w.alloc (.cells #[.string tx, .int .i64 pn] 35)).alloc (.cells #[.int .i64 d.cap, .int .i64 d.push, .int .i64 d.dust, .int .i64 d.res, .int .i64 d.rate, .int .i64 d.delay, .int .i64 d.maxH, .int .i64 d.flight, .int .i64 d.minH] 23)).alloc (.cells #[.int .i64 a.1.value, .int .u8 a.1.lock.kind, .string a.1.lock.term, .int .i64 a.1.lock.n, .slice a.2.1 a.1.lock.kids.length a.2.2] 66)).alloc (.cells #[.int .i64 b.1.value, .int .u8 b.1.lock.kind, .string b.1.lock.term, .int .i64 b.1.lock.n, .slice b.2.1 b.1.lock.kids.length b.2.2] 66)).heap.size ((((w.alloc (.cells #[.string tx, .int .i64 pn] 35)).alloc (.cells #[.int .i64 d.cap, .int .i64 d.push, .int .i64 d.dust, .int .i64 d.res, .int .i64 d.rate, .int .i64 d.delay, .int .i64 d.maxH, .int .i64 d.flight, .int .i64 d.minH] 23)).alloc (.cells #[.int .i64 a.1.value, .int .u8 a.1.lock.kind, .string a.1.lock.term, .int .i64 a.1.lock.n, .slice a.2.1 a.1.lock.kids.length a.2.2] 66)).alloc (.cells #[.int .i64 b.1.value, .int .u8 b.1.lock.kind, .string b.1.lock.term, .int .i64 b.1.lock.n, .slice b.2.1 b.1.lock.kids.length b.2.2] 66))).block _ (lt_of_block H2.out)).trans H2.out) rfl
  have a4 : ((((w.alloc (.cells #[.string tx, .int .i64 pn] 35)).alloc (.cells #[.int .i64 d.cap, .int .i64 d.push, .int .i64 d.dust, .int .i64 d.res, .int .i64 d.rate, .int .i64 d.delay, .int .i64 d.maxH, .int .i64 d.flight, .int .i64 d.minH] 23)).alloc (.cells #[.int .i64 a.1.value, .int .u8 a.1.lock.kind, .string a.1.lock.term, .int .i64 a.1.lock.n, .slice a.2.1 a.1.lock.kids.length a.2.2] 66)).alloc (.cells #[.int .i64 b.1.value, .int .u8 b.1.lock.kind, .string b.1.lock.term, .int .i64 b.1.lock.n, .slice b.2.1 b.1.lock.kids.length b.2.2] 66)).cell? ⟨w.heap.size + 1 + 1, 4, none⟩ = some (.slice a.2.1 a.1.lock.kids.length a.2.2) := cell_of (j := 4) (((Below.refl ((((w.alloc (.cells #[.string tx, .int .i64 pn] 35)).alloc (.cells #[.int .i64 d.cap, .int .i64 d.push, .int .i64 d.dust, .int .i64 d.res, .int .i64 d.rate, .int .i64 d.delay, .int .i64 d.maxH, .int .i64 d.flight, .int .i64 d.minH] 23)).alloc (.cells #[.int .i64 a.1.value, .int .u8 a.1.lock.kind, .string a.1.lock.term, .int .i64 a.1.lock.n, .slice a.2.1 a.1.lock.kids.length a.2.2] 66)).alloc (.cells #[.int .i64 b.1.value, .int .u8 b.1.lock.kind, .string b.1.lock.term, .int .i64 b.1.lock.n, .slice b.2.1 b.1.lock.kids.length b.2.2] 66)).heap.size ((((w.alloc (.cells #[.string tx, .int .i64 pn] 35)).alloc (.cells #[.int .i64 d.cap, .int .i64 d.push, .int .i64 d.dust, .int .i64 d.res, .int .i64 d.rate, .int .i64 d.delay, .int .i64 d.maxH, .int .i64 d.flight, .int .i64 d.minH] 23)).alloc (.cells #[.int .i64 a.1.value, .int .u8 a.1.lock.kind, .string a.1.lock.term, .int .i64 a.1.lock.n, .slice a.2.1 a.1.lock.kids.length a.2.2] 66)).alloc (.cells #[.int .i64 b.1.value, .int .u8 b.1.lock.kind, .string b.1.lock.term, .int .i64 b.1.lock.n, .slice b.2.1 b.1.lock.kids.length b.2.2] 66))).block _ (lt_of_block H2.out)).trans H2.out) rfl
  have b0 : ((((w.alloc (.cells #[.string tx, .int .i64 pn] 35)).alloc (.cells #[.int .i64 d.cap, .int .i64 d.push, .int .i64 d.dust, .int .i64 d.res, .int .i64 d.rate, .int .i64 d.delay, .int .i64 d.maxH, .int .i64 d.flight, .int .i64 d.minH] 23)).alloc (.cells #[.int .i64 a.1.value, .int .u8 a.1.lock.kind, .string a.1.lock.term, .int .i64 a.1.lock.n, .slice a.2.1 a.1.lock.kids.length a.2.2] 66)).alloc (.cells #[.int .i64 b.1.value, .int .u8 b.1.lock.kind, .string b.1.lock.term, .int .i64 b.1.lock.n, .slice b.2.1 b.1.lock.kids.length b.2.2] 66)).cell? ⟨w.heap.size + 1 + 1 + 1, 0, none⟩ = some (.int .i64 b.1.value) := cell_of (j := 0) (((Below.refl ((((w.alloc (.cells #[.string tx, .int .i64 pn] 35)).alloc (.cells #[.int .i64 d.cap, .int .i64 d.push, .int .i64 d.dust, .int .i64 d.res, .int .i64 d.rate, .int .i64 d.delay, .int .i64 d.maxH, .int .i64 d.flight, .int .i64 d.minH] 23)).alloc (.cells #[.int .i64 a.1.value, .int .u8 a.1.lock.kind, .string a.1.lock.term, .int .i64 a.1.lock.n, .slice a.2.1 a.1.lock.kids.length a.2.2] 66)).alloc (.cells #[.int .i64 b.1.value, .int .u8 b.1.lock.kind, .string b.1.lock.term, .int .i64 b.1.lock.n, .slice b.2.1 b.1.lock.kids.length b.2.2] 66)).heap.size ((((w.alloc (.cells #[.string tx, .int .i64 pn] 35)).alloc (.cells #[.int .i64 d.cap, .int .i64 d.push, .int .i64 d.dust, .int .i64 d.res, .int .i64 d.rate, .int .i64 d.delay, .int .i64 d.maxH, .int .i64 d.flight, .int .i64 d.minH] 23)).alloc (.cells #[.int .i64 a.1.value, .int .u8 a.1.lock.kind, .string a.1.lock.term, .int .i64 a.1.lock.n, .slice a.2.1 a.1.lock.kids.length a.2.2] 66)).alloc (.cells #[.int .i64 b.1.value, .int .u8 b.1.lock.kind, .string b.1.lock.term, .int .i64 b.1.lock.n, .slice b.2.1 b.1.lock.kids.length b.2.2] 66))).block _ (lt_of_block H3.out)).trans H3.out) rfl
  have b1 : ((((w.alloc (.cells #[.string tx, .int .i64 pn] 35)).alloc (.cells #[.int .i64 d.cap, .int .i64 d.push, .int .i64 d.dust, .int .i64 d.res, .int .i64 d.rate, .int .i64 d.delay, .int .i64 d.maxH, .int .i64 d.flight, .int .i64 d.minH] 23)).alloc (.cells #[.int .i64 a.1.value, .int .u8 a.1.lock.kind, .string a.1.lock.term, .int .i64 a.1.lock.n, .slice a.2.1 a.1.lock.kids.length a.2.2] 66)).alloc (.cells #[.int .i64 b.1.value, .int .u8 b.1.lock.kind, .string b.1.lock.term, .int .i64 b.1.lock.n, .slice b.2.1 b.1.lock.kids.length b.2.2] 66)).cell? ⟨w.heap.size + 1 + 1 + 1, 1, none⟩ = some (.int .u8 b.1.lock.kind) := cell_of (j := 1) (((Below.refl ((((w.alloc (.cells #[.string tx, .int .i64 pn] 35)).alloc (.cells #[.int .i64 d.cap, .int .i64 d.push, .int .i64 d.dust, .int .i64 d.res, .int .i64 d.rate, .int .i64 d.delay, .int .i64 d.maxH, .int .i64 d.flight, .int .i64 d.minH] 23)).alloc (.cells #[.int .i64 a.1.value, .int .u8 a.1.lock.kind, .string a.1.lock.term, .int .i64 a.1.lock.n, .slice a.2.1 a.1.lock.kids.length a.2.2] 66)).alloc (.cells #[.int .i64 b.1.value, .int .u8 b.1.lock.kind, .string b.1.lock.term, .int .i64 b.1.lock.n, .slice b.2.1 b.1.lock.kids.length b.2.2] 66)).heap.size ((((w.alloc (.cells #[.string tx, .int .i64 pn] 35)).alloc (.cells #[.int .i64 d.cap, .int .i64 d.push, .int .i64 d.dust, .int .i64 d.res, .int .i64 d.rate, .int .i64 d.delay, .int .i64 d.maxH, .int .i64 d.flight, .int .i64 d.minH] 23)).alloc (.cells #[.int .i64 a.1.value, .int .u8 a.1.lock.kind, .string a.1.lock.term, .int .i64 a.1.lock.n, .slice a.2.1 a.1.lock.kids.length a.2.2] 66)).alloc (.cells #[.int .i64 b.1.value, .int .u8 b.1.lock.kind, .string b.1.lock.term, .int .i64 b.1.lock.n, .slice b.2.1 b.1.lock.kids.length b.2.2] 66))).block _ (lt_of_block H3.out)).trans H3.out) rfl
  have b2 : ((((w.alloc (.cells #[.string tx, .int .i64 pn] 35)).alloc (.cells #[.int .i64 d.cap, .int .i64 d.push, .int .i64 d.dust, .int .i64 d.res, .int .i64 d.rate, .int .i64 d.delay, .int .i64 d.maxH, .int .i64 d.flight, .int .i64 d.minH] 23)).alloc (.cells #[.int .i64 a.1.value, .int .u8 a.1.lock.kind, .string a.1.lock.term, .int .i64 a.1.lock.n, .slice a.2.1 a.1.lock.kids.length a.2.2] 66)).alloc (.cells #[.int .i64 b.1.value, .int .u8 b.1.lock.kind, .string b.1.lock.term, .int .i64 b.1.lock.n, .slice b.2.1 b.1.lock.kids.length b.2.2] 66)).cell? ⟨w.heap.size + 1 + 1 + 1, 2, none⟩ = some (.string b.1.lock.term) := cell_of (j := 2) (((Below.refl ((((w.alloc (.cells #[.string tx, .int .i64 pn] 35)).alloc (.cells #[.int .i64 d.cap, .int .i64 d.push, .int .i64 d.dust, .int .i64 d.res, .int .i64 d.rate, .int .i64 d.delay, .int .i64 d.maxH, .int .i64 d.flight, .int .i64 d.minH] 23)).alloc (.cells #[.int .i64 a.1.value, .int .u8 a.1.lock.kind, .string a.1.lock.term, .int .i64 a.1.lock.n, .slice a.2.1 a.1.lock.kids.length a.2.2] 66)).alloc (.cells #[.int .i64 b.1.value, .int .u8 b.1.lock.kind, .string b.1.lock.term, .int .i64 b.1.lock.n, .slice b.2.1 b.1.lock.kids.length b.2.2] 66)).heap.size ((((w.alloc (.cells #[.string tx, .int .i64 pn] 35)).alloc (.cells #[.int .i64 d.cap, .int .i64 d.push, .int .i64 d.dust, .int .i64 d.res, .int .i64 d.rate, .int .i64 d.delay, .int .i64 d.maxH, .int .i64 d.flight, .int .i64 d.minH] 23)).alloc (.cells #[.int .i64 a.1.value, .int .u8 a.1.lock.kind, .string a.1.lock.term, .int .i64 a.1.lock.n, .slice a.2.1 a.1.lock.kids.length a.2.2] 66)).alloc (.cells #[.int .i64 b.1.value, .int .u8 b.1.lock.kind, .string b.1.lock.term, .int .i64 b.1.lock.n, .slice b.2.1 b.1.lock.kids.length b.2.2] 66))).block _ (lt_of_block H3.out)).trans H3.out) rfl
  have b3 : ((((w.alloc (.cells #[.string tx, .int .i64 pn] 35)).alloc (.cells #[.int .i64 d.cap, .int .i64 d.push, .int .i64 d.dust, .int .i64 d.res, .int .i64 d.rate, .int .i64 d.delay, .int .i64 d.maxH, .int .i64 d.flight, .int .i64 d.minH] 23)).alloc (.cells #[.int .i64 a.1.value, .int .u8 a.1.lock.kind, .string a.1.lock.term, .int .i64 a.1.lock.n, .slice a.2.1 a.1.lock.kids.length a.2.2] 66)).alloc (.cells #[.int .i64 b.1.value, .int .u8 b.1.lock.kind, .string b.1.lock.term, .int .i64 b.1.lock.n, .slice b.2.1 b.1.lock.kids.length b.2.2] 66)).cell? ⟨w.heap.size + 1 + 1 + 1, 3, none⟩ = some (.int .i64 b.1.lock.n) := cell_of (j := 3) (((Below.refl ((((w.alloc (.cells #[.string tx, .int .i64 pn] 35)).alloc (.cells #[.int .i64 d.cap, .int .i64 d.push, .int .i64 d.dust, .int .i64 d.res, .int .i64 d.rate, .int .i64 d.delay, .int .i64 d.maxH, .int .i64 d.flight, .int .i64 d.minH] 23)).alloc (.cells #[.int .i64 a.1.value, .int .u8 a.1.lock.kind, .string a.1.lock.term, .int .i64 a.1.lock.n, .slice a.2.1 a.1.lock.kids.length a.2.2] 66)).alloc (.cells #[.int .i64 b.1.value, .int .u8 b.1.lock.kind, .string b.1.lock.term, .int .i64 b.1.lock.n, .slice b.2.1 b.1.lock.kids.length b.2.2] 66)).heap.size ((((w.alloc (.cells #[.string tx, .int .i64 pn] 35)).alloc (.cells #[.int .i64 d.cap, .int .i64 d.push, .int .i64 d.dust, .int .i64 d.res, .int .i64 d.rate, .int .i64 d.delay, .int .i64 d.maxH, .int .i64 d.flight, .int .i64 d.minH] 23)).alloc (.cells #[.int .i64 a.1.value, .int .u8 a.1.lock.kind, .string a.1.lock.term, .int .i64 a.1.lock.n, .slice a.2.1 a.1.lock.kids.length a.2.2] 66)).alloc (.cells #[.int .i64 b.1.value, .int .u8 b.1.lock.kind, .string b.1.lock.term, .int .i64 b.1.lock.n, .slice b.2.1 b.1.lock.kids.length b.2.2] 66))).block _ (lt_of_block H3.out)).trans H3.out) rfl
  have b4 : ((((w.alloc (.cells #[.string tx, .int .i64 pn] 35)).alloc (.cells #[.int .i64 d.cap, .int .i64 d.push, .int .i64 d.dust, .int .i64 d.res, .int .i64 d.rate, .int .i64 d.delay, .int .i64 d.maxH, .int .i64 d.flight, .int .i64 d.minH] 23)).alloc (.cells #[.int .i64 a.1.value, .int .u8 a.1.lock.kind, .string a.1.lock.term, .int .i64 a.1.lock.n, .slice a.2.1 a.1.lock.kids.length a.2.2] 66)).alloc (.cells #[.int .i64 b.1.value, .int .u8 b.1.lock.kind, .string b.1.lock.term, .int .i64 b.1.lock.n, .slice b.2.1 b.1.lock.kids.length b.2.2] 66)).cell? ⟨w.heap.size + 1 + 1 + 1, 4, none⟩ = some (.slice b.2.1 b.1.lock.kids.length b.2.2) := cell_of (j := 4) (((Below.refl ((((w.alloc (.cells #[.string tx, .int .i64 pn] 35)).alloc (.cells #[.int .i64 d.cap, .int .i64 d.push, .int .i64 d.dust, .int .i64 d.res, .int .i64 d.rate, .int .i64 d.delay, .int .i64 d.maxH, .int .i64 d.flight, .int .i64 d.minH] 23)).alloc (.cells #[.int .i64 a.1.value, .int .u8 a.1.lock.kind, .string a.1.lock.term, .int .i64 a.1.lock.n, .slice a.2.1 a.1.lock.kids.length a.2.2] 66)).alloc (.cells #[.int .i64 b.1.value, .int .u8 b.1.lock.kind, .string b.1.lock.term, .int .i64 b.1.lock.n, .slice b.2.1 b.1.lock.kids.length b.2.2] 66)).heap.size ((((w.alloc (.cells #[.string tx, .int .i64 pn] 35)).alloc (.cells #[.int .i64 d.cap, .int .i64 d.push, .int .i64 d.dust, .int .i64 d.res, .int .i64 d.rate, .int .i64 d.delay, .int .i64 d.maxH, .int .i64 d.flight, .int .i64 d.minH] 23)).alloc (.cells #[.int .i64 a.1.value, .int .u8 a.1.lock.kind, .string a.1.lock.term, .int .i64 a.1.lock.n, .slice a.2.1 a.1.lock.kids.length a.2.2] 66)).alloc (.cells #[.int .i64 b.1.value, .int .u8 b.1.lock.kind, .string b.1.lock.term, .int .i64 b.1.lock.n, .slice b.2.1 b.1.lock.kids.length b.2.2] 66))).block _ (lt_of_block H3.out)).trans H3.out) rfl
  clear hb0 hca hcb hba hbb hv ht
  by_cases h100 : (100 : Int) < (tx.size : Int)
  · go_enter Tryz.func7, Tryz.ntmps7
    go_wp2_with fail
    go_ret
    exact ⟨rfl, HB.out⟩
  · have hts : tx.size ≤ 100 := by omega
    go_enter Tryz.func7, Tryz.ntmps7
    go_wp2_with fail
    generalize ((((w.alloc (.cells #[.string tx, .int .i64 pn] 35)).alloc (.cells #[.int .i64 d.cap, .int .i64 d.push, .int .i64 d.dust, .int .i64 d.res, .int .i64 d.rate, .int .i64 d.delay, .int .i64 d.maxH, .int .i64 d.flight, .int .i64 d.minH] 23)).alloc (.cells #[.int .i64 a.1.value, .int .u8 a.1.lock.kind, .string a.1.lock.term, .int .i64 a.1.lock.n, .slice a.2.1 a.1.lock.kids.length a.2.2] 66)).alloc (.cells #[.int .i64 b.1.value, .int .u8 b.1.lock.kind, .string b.1.lock.term, .int .i64 b.1.lock.n, .slice b.2.1 b.1.lock.kids.length b.2.2] 66)) = V at HB H0 H1 H2 H3 HCA HCB HV HT hs4 p0 p1 d0 d1 d2 d3 d4 d5 d6 d7 d8 a0 a1 a2 a3 a4 b0 b1 b2 b3 b4 ⊢
    refine (lsize_all _ a.1.lock _ 60 V (Nat.le_refl _) HBA.out (by decide) (by decide) HCA.out).mono ?_
    rintro e w1 ⟨rfl, hb1⟩
    have HB1 := Lib.hid hb1
    clear p0 p1 d0 d1 d2 d3 d4 d5 d6 d7 d8 a0 a1 a2 a3 a4 b0 b1 b2 b3 b4
    obtain ⟨la, hla⟩ : ∃ la, lsizeT a.1.lock 60 = la := ⟨_, rfl⟩
    rw [hla] at HSA ⊢
    have p0 : w1.cell? ⟨w.heap.size, 0, none⟩ = some (.string tx) := cell_of (j := 0) ((hb1.block _ (lt_of_block H0.out)).trans H0.out) rfl
    have p1 : w1.cell? ⟨w.heap.size, 1, none⟩ = some (.int .i64 pn) := cell_of (j := 1) ((hb1.block _ (lt_of_block H0.out)).trans H0.out) rfl
    have d0 : w1.cell? ⟨w.heap.size + 1, 0, none⟩ = some (.int .i64 d.cap) := cell_of (j := 0) ((hb1.block _ (lt_of_block H1.out)).trans H1.out) rfl
    have d1 : w1.cell? ⟨w.heap.size + 1, 1, none⟩ = some (.int .i64 d.push) := cell_of (j := 1) ((hb1.block _ (lt_of_block H1.out)).trans H1.out) rfl
    have d2 : w1.cell? ⟨w.heap.size + 1, 2, none⟩ = some (.int .i64 d.dust) := cell_of (j := 2) ((hb1.block _ (lt_of_block H1.out)).trans H1.out) rfl
    have d3 : w1.cell? ⟨w.heap.size + 1, 3, none⟩ = some (.int .i64 d.res) := cell_of (j := 3) ((hb1.block _ (lt_of_block H1.out)).trans H1.out) rfl
    have d4 : w1.cell? ⟨w.heap.size + 1, 4, none⟩ = some (.int .i64 d.rate) := cell_of (j := 4) ((hb1.block _ (lt_of_block H1.out)).trans H1.out) rfl
    have d5 : w1.cell? ⟨w.heap.size + 1, 5, none⟩ = some (.int .i64 d.delay) := cell_of (j := 5) ((hb1.block _ (lt_of_block H1.out)).trans H1.out) rfl
    have d6 : w1.cell? ⟨w.heap.size + 1, 6, none⟩ = some (.int .i64 d.maxH) := cell_of (j := 6) ((hb1.block _ (lt_of_block H1.out)).trans H1.out) rfl
    have d7 : w1.cell? ⟨w.heap.size + 1, 7, none⟩ = some (.int .i64 d.flight) := cell_of (j := 7) ((hb1.block _ (lt_of_block H1.out)).trans H1.out) rfl
    have d8 : w1.cell? ⟨w.heap.size + 1, 8, none⟩ = some (.int .i64 d.minH) := cell_of (j := 8) ((hb1.block _ (lt_of_block H1.out)).trans H1.out) rfl
    have a0 : w1.cell? ⟨w.heap.size + 1 + 1, 0, none⟩ = some (.int .i64 a.1.value) := cell_of (j := 0) ((hb1.block _ (lt_of_block H2.out)).trans H2.out) rfl
    have a1 : w1.cell? ⟨w.heap.size + 1 + 1, 1, none⟩ = some (.int .u8 a.1.lock.kind) := cell_of (j := 1) ((hb1.block _ (lt_of_block H2.out)).trans H2.out) rfl
    have a2 : w1.cell? ⟨w.heap.size + 1 + 1, 2, none⟩ = some (.string a.1.lock.term) := cell_of (j := 2) ((hb1.block _ (lt_of_block H2.out)).trans H2.out) rfl
    have a3 : w1.cell? ⟨w.heap.size + 1 + 1, 3, none⟩ = some (.int .i64 a.1.lock.n) := cell_of (j := 3) ((hb1.block _ (lt_of_block H2.out)).trans H2.out) rfl
    have a4 : w1.cell? ⟨w.heap.size + 1 + 1, 4, none⟩ = some (.slice a.2.1 a.1.lock.kids.length a.2.2) := cell_of (j := 4) ((hb1.block _ (lt_of_block H2.out)).trans H2.out) rfl
    have b0 : w1.cell? ⟨w.heap.size + 1 + 1 + 1, 0, none⟩ = some (.int .i64 b.1.value) := cell_of (j := 0) ((hb1.block _ (lt_of_block H3.out)).trans H3.out) rfl
    have b1 : w1.cell? ⟨w.heap.size + 1 + 1 + 1, 1, none⟩ = some (.int .u8 b.1.lock.kind) := cell_of (j := 1) ((hb1.block _ (lt_of_block H3.out)).trans H3.out) rfl
    have b2 : w1.cell? ⟨w.heap.size + 1 + 1 + 1, 2, none⟩ = some (.string b.1.lock.term) := cell_of (j := 2) ((hb1.block _ (lt_of_block H3.out)).trans H3.out) rfl
    have b3 : w1.cell? ⟨w.heap.size + 1 + 1 + 1, 3, none⟩ = some (.int .i64 b.1.lock.n) := cell_of (j := 3) ((hb1.block _ (lt_of_block H3.out)).trans H3.out) rfl
    have b4 : w1.cell? ⟨w.heap.size + 1 + 1 + 1, 4, none⟩ = some (.slice b.2.1 b.1.lock.kids.length b.2.2) := cell_of (j := 4) ((hb1.block _ (lt_of_block H3.out)).trans H3.out) rfl
    clear hb1 hla
    by_cases h1 : 60 < la
    · go_wp2_with fail
      go_ret
      exact ⟨rfl, HB.out.trans (HB1.out.mono HB.out.size)⟩
    · have HA := Lib.hid (HSA.out (by omega))
      go_wp2_with fail
      refine (lsize_all _ b.1.lock _ 60 w1 (Nat.le_refl _) HBD.out (by decide) (by decide) (LockC.below HB1.out _ _ HCB.out)).mono ?_
      rintro e w2 ⟨rfl, hb2⟩
      have hb12 := HB1.out.trans (hb2.mono HB1.out.size)
      have HB2 := Lib.hid hb12
      clear p0 p1 d0 d1 d2 d3 d4 d5 d6 d7 d8 a0 a1 a2 a3 a4 b0 b1 b2 b3 b4
      obtain ⟨lb, hlb⟩ : ∃ lb, lsizeT b.1.lock 60 = lb := ⟨_, rfl⟩
      rw [hlb] at HSB ⊢
      have p0 : w2.cell? ⟨w.heap.size, 0, none⟩ = some (.string tx) := cell_of (j := 0) ((hb12.block _ (lt_of_block H0.out)).trans H0.out) rfl
      have p1 : w2.cell? ⟨w.heap.size, 1, none⟩ = some (.int .i64 pn) := cell_of (j := 1) ((hb12.block _ (lt_of_block H0.out)).trans H0.out) rfl
      have d0 : w2.cell? ⟨w.heap.size + 1, 0, none⟩ = some (.int .i64 d.cap) := cell_of (j := 0) ((hb12.block _ (lt_of_block H1.out)).trans H1.out) rfl
      have d1 : w2.cell? ⟨w.heap.size + 1, 1, none⟩ = some (.int .i64 d.push) := cell_of (j := 1) ((hb12.block _ (lt_of_block H1.out)).trans H1.out) rfl
      have d2 : w2.cell? ⟨w.heap.size + 1, 2, none⟩ = some (.int .i64 d.dust) := cell_of (j := 2) ((hb12.block _ (lt_of_block H1.out)).trans H1.out) rfl
      have d3 : w2.cell? ⟨w.heap.size + 1, 3, none⟩ = some (.int .i64 d.res) := cell_of (j := 3) ((hb12.block _ (lt_of_block H1.out)).trans H1.out) rfl
      have d4 : w2.cell? ⟨w.heap.size + 1, 4, none⟩ = some (.int .i64 d.rate) := cell_of (j := 4) ((hb12.block _ (lt_of_block H1.out)).trans H1.out) rfl
      have d5 : w2.cell? ⟨w.heap.size + 1, 5, none⟩ = some (.int .i64 d.delay) := cell_of (j := 5) ((hb12.block _ (lt_of_block H1.out)).trans H1.out) rfl
      have d6 : w2.cell? ⟨w.heap.size + 1, 6, none⟩ = some (.int .i64 d.maxH) := cell_of (j := 6) ((hb12.block _ (lt_of_block H1.out)).trans H1.out) rfl
      have d7 : w2.cell? ⟨w.heap.size + 1, 7, none⟩ = some (.int .i64 d.flight) := cell_of (j := 7) ((hb12.block _ (lt_of_block H1.out)).trans H1.out) rfl
      have d8 : w2.cell? ⟨w.heap.size + 1, 8, none⟩ = some (.int .i64 d.minH) := cell_of (j := 8) ((hb12.block _ (lt_of_block H1.out)).trans H1.out) rfl
      have a0 : w2.cell? ⟨w.heap.size + 1 + 1, 0, none⟩ = some (.int .i64 a.1.value) := cell_of (j := 0) ((hb12.block _ (lt_of_block H2.out)).trans H2.out) rfl
      have a1 : w2.cell? ⟨w.heap.size + 1 + 1, 1, none⟩ = some (.int .u8 a.1.lock.kind) := cell_of (j := 1) ((hb12.block _ (lt_of_block H2.out)).trans H2.out) rfl
      have a2 : w2.cell? ⟨w.heap.size + 1 + 1, 2, none⟩ = some (.string a.1.lock.term) := cell_of (j := 2) ((hb12.block _ (lt_of_block H2.out)).trans H2.out) rfl
      have a3 : w2.cell? ⟨w.heap.size + 1 + 1, 3, none⟩ = some (.int .i64 a.1.lock.n) := cell_of (j := 3) ((hb12.block _ (lt_of_block H2.out)).trans H2.out) rfl
      have a4 : w2.cell? ⟨w.heap.size + 1 + 1, 4, none⟩ = some (.slice a.2.1 a.1.lock.kids.length a.2.2) := cell_of (j := 4) ((hb12.block _ (lt_of_block H2.out)).trans H2.out) rfl
      have b0 : w2.cell? ⟨w.heap.size + 1 + 1 + 1, 0, none⟩ = some (.int .i64 b.1.value) := cell_of (j := 0) ((hb12.block _ (lt_of_block H3.out)).trans H3.out) rfl
      have b1 : w2.cell? ⟨w.heap.size + 1 + 1 + 1, 1, none⟩ = some (.int .u8 b.1.lock.kind) := cell_of (j := 1) ((hb12.block _ (lt_of_block H3.out)).trans H3.out) rfl
      have b2 : w2.cell? ⟨w.heap.size + 1 + 1 + 1, 2, none⟩ = some (.string b.1.lock.term) := cell_of (j := 2) ((hb12.block _ (lt_of_block H3.out)).trans H3.out) rfl
      have b3 : w2.cell? ⟨w.heap.size + 1 + 1 + 1, 3, none⟩ = some (.int .i64 b.1.lock.n) := cell_of (j := 3) ((hb12.block _ (lt_of_block H3.out)).trans H3.out) rfl
      have b4 : w2.cell? ⟨w.heap.size + 1 + 1 + 1, 4, none⟩ = some (.slice b.2.1 b.1.lock.kids.length b.2.2) := cell_of (j := 4) ((hb12.block _ (lt_of_block H3.out)).trans H3.out) rfl
      clear hb2 hb12 hlb
      by_cases h2 : 60 < lb
      · go_wp2_with fail
        go_ret
        exact ⟨rfl, HB.out.trans (HB2.out.mono HB.out.size)⟩
      · have HS := Lib.hid (HSB.out (by omega))
        have hmx : (140737488355328 : Nat) ≤ maxLen := by decide
        have hpt : ptOk ⟨tx, pn, 0⟩ := ⟨Nat.le_trans htx hmx, hpn⟩
        have hkeep : ∀ W, Below V.heap.size V W → ∀ q ∈ [a, b], smallT q.1.lock ∧ LockC W q.1.lock [.int .u8 q.1.lock.kind, .string q.1.lock.term, .int .i64 q.1.lock.n, .slice q.2.1 q.1.lock.kids.length q.2.2] := fun W hW q hq => by
          rcases List.mem_cons.1 hq with rfl | hq
          · exact ⟨HA.out, LockC.below hW _ _ HCA.out⟩
          · rw [List.mem_singleton.1 hq]
            exact ⟨HS.out, LockC.below hW _ _ HCB.out⟩
        have hclose := close_any tx pn d a b w2 hpt (by omega) (hkeep w2 HB2.out) (HV.out.below HB2.out) (HT.out.below HB2.out)
        have hcs := closeE_small (tx := tx) (pn := pn) (d := d) HA.out HS.out
        have HR2 := Lib.hid (fun W (hW : Below V.heap.size V W) => rclose_any tx pn d a b W hpt (by omega) (hkeep W hW))
        obtain ⟨t, er, hre⟩ : ∃ t er, closeE tx pn d [a, b] = (t, er) := ⟨_, _, rfl⟩
        rw [hre] at hclose hcs HR2
        unfold dealV outV at hclose HR2
        have HCL := Lib.hid hclose
        have HCS := Lib.hid hcs
        have e1 : (er == er) = true := by simp
        clear hclose hkeep hpt hre hcs hmx
        go_wp2_with fail
        refine HCL.out.mono ?_
        rintro e w3 ⟨t1, rfl, hT1, hb3⟩
        obtain ⟨A1, ca1, B1, cb1, rfl, hT⟩ := hT1
        have hb13 := HB2.out.trans (hb3.mono HB2.out.size)
        have HT1 := Lib.hid hT
        have hs23 := hb3.size
        clear p0 p1 d0 d1 d2 d3 d4 d5 d6 d7 d8 a0 a1 a2 a3 a4 b0 b1 b2 b3 b4 hT hb3
        have hbX : Below w3.heap.size w3 (w3.alloc (.cells #[.slice A1 t.ins.length ca1, .slice B1 t.outs.length cb1, .int .i64 t.after, .int .i64 t.tag] 45)) := (Below.refl _ _).alloc (Nat.le_refl _) _
        have hx1 : TxBox (w3.alloc (.cells #[.slice A1 t.ins.length ca1, .slice B1 t.outs.length cb1, .int .i64 t.after, .int .i64 t.tag] 45)) w3.heap.size A1 t.ins.length ca1 B1 t.outs.length cb1 t.after t.tag := Go.heap_alloc_new w3 _
        have hb14 := hb13.trans (hbX.mono hb13.size)
        have hb20 := hb14
        have p0 : (w3.alloc (.cells #[.slice A1 t.ins.length ca1, .slice B1 t.outs.length cb1, .int .i64 t.after, .int .i64 t.tag] 45)).cell? ⟨w.heap.size, 0, none⟩ = some (.string tx) := cell_of (j := 0) ((hb14.block _ (lt_of_block H0.out)).trans H0.out) rfl
        have p1 : (w3.alloc (.cells #[.slice A1 t.ins.length ca1, .slice B1 t.outs.length cb1, .int .i64 t.after, .int .i64 t.tag] 45)).cell? ⟨w.heap.size, 1, none⟩ = some (.int .i64 pn) := cell_of (j := 1) ((hb14.block _ (lt_of_block H0.out)).trans H0.out) rfl
        have d0 : (w3.alloc (.cells #[.slice A1 t.ins.length ca1, .slice B1 t.outs.length cb1, .int .i64 t.after, .int .i64 t.tag] 45)).cell? ⟨w.heap.size + 1, 0, none⟩ = some (.int .i64 d.cap) := cell_of (j := 0) ((hb14.block _ (lt_of_block H1.out)).trans H1.out) rfl
        have d1 : (w3.alloc (.cells #[.slice A1 t.ins.length ca1, .slice B1 t.outs.length cb1, .int .i64 t.after, .int .i64 t.tag] 45)).cell? ⟨w.heap.size + 1, 1, none⟩ = some (.int .i64 d.push) := cell_of (j := 1) ((hb14.block _ (lt_of_block H1.out)).trans H1.out) rfl
        have d2 : (w3.alloc (.cells #[.slice A1 t.ins.length ca1, .slice B1 t.outs.length cb1, .int .i64 t.after, .int .i64 t.tag] 45)).cell? ⟨w.heap.size + 1, 2, none⟩ = some (.int .i64 d.dust) := cell_of (j := 2) ((hb14.block _ (lt_of_block H1.out)).trans H1.out) rfl
        have d3 : (w3.alloc (.cells #[.slice A1 t.ins.length ca1, .slice B1 t.outs.length cb1, .int .i64 t.after, .int .i64 t.tag] 45)).cell? ⟨w.heap.size + 1, 3, none⟩ = some (.int .i64 d.res) := cell_of (j := 3) ((hb14.block _ (lt_of_block H1.out)).trans H1.out) rfl
        have d4 : (w3.alloc (.cells #[.slice A1 t.ins.length ca1, .slice B1 t.outs.length cb1, .int .i64 t.after, .int .i64 t.tag] 45)).cell? ⟨w.heap.size + 1, 4, none⟩ = some (.int .i64 d.rate) := cell_of (j := 4) ((hb14.block _ (lt_of_block H1.out)).trans H1.out) rfl
        have d5 : (w3.alloc (.cells #[.slice A1 t.ins.length ca1, .slice B1 t.outs.length cb1, .int .i64 t.after, .int .i64 t.tag] 45)).cell? ⟨w.heap.size + 1, 5, none⟩ = some (.int .i64 d.delay) := cell_of (j := 5) ((hb14.block _ (lt_of_block H1.out)).trans H1.out) rfl
        have d6 : (w3.alloc (.cells #[.slice A1 t.ins.length ca1, .slice B1 t.outs.length cb1, .int .i64 t.after, .int .i64 t.tag] 45)).cell? ⟨w.heap.size + 1, 6, none⟩ = some (.int .i64 d.maxH) := cell_of (j := 6) ((hb14.block _ (lt_of_block H1.out)).trans H1.out) rfl
        have d7 : (w3.alloc (.cells #[.slice A1 t.ins.length ca1, .slice B1 t.outs.length cb1, .int .i64 t.after, .int .i64 t.tag] 45)).cell? ⟨w.heap.size + 1, 7, none⟩ = some (.int .i64 d.flight) := cell_of (j := 7) ((hb14.block _ (lt_of_block H1.out)).trans H1.out) rfl
        have d8 : (w3.alloc (.cells #[.slice A1 t.ins.length ca1, .slice B1 t.outs.length cb1, .int .i64 t.after, .int .i64 t.tag] 45)).cell? ⟨w.heap.size + 1, 8, none⟩ = some (.int .i64 d.minH) := cell_of (j := 8) ((hb14.block _ (lt_of_block H1.out)).trans H1.out) rfl
        have a0 : (w3.alloc (.cells #[.slice A1 t.ins.length ca1, .slice B1 t.outs.length cb1, .int .i64 t.after, .int .i64 t.tag] 45)).cell? ⟨w.heap.size + 1 + 1, 0, none⟩ = some (.int .i64 a.1.value) := cell_of (j := 0) ((hb14.block _ (lt_of_block H2.out)).trans H2.out) rfl
        have a1 : (w3.alloc (.cells #[.slice A1 t.ins.length ca1, .slice B1 t.outs.length cb1, .int .i64 t.after, .int .i64 t.tag] 45)).cell? ⟨w.heap.size + 1 + 1, 1, none⟩ = some (.int .u8 a.1.lock.kind) := cell_of (j := 1) ((hb14.block _ (lt_of_block H2.out)).trans H2.out) rfl
        have a2 : (w3.alloc (.cells #[.slice A1 t.ins.length ca1, .slice B1 t.outs.length cb1, .int .i64 t.after, .int .i64 t.tag] 45)).cell? ⟨w.heap.size + 1 + 1, 2, none⟩ = some (.string a.1.lock.term) := cell_of (j := 2) ((hb14.block _ (lt_of_block H2.out)).trans H2.out) rfl
        have a3 : (w3.alloc (.cells #[.slice A1 t.ins.length ca1, .slice B1 t.outs.length cb1, .int .i64 t.after, .int .i64 t.tag] 45)).cell? ⟨w.heap.size + 1 + 1, 3, none⟩ = some (.int .i64 a.1.lock.n) := cell_of (j := 3) ((hb14.block _ (lt_of_block H2.out)).trans H2.out) rfl
        have a4 : (w3.alloc (.cells #[.slice A1 t.ins.length ca1, .slice B1 t.outs.length cb1, .int .i64 t.after, .int .i64 t.tag] 45)).cell? ⟨w.heap.size + 1 + 1, 4, none⟩ = some (.slice a.2.1 a.1.lock.kids.length a.2.2) := cell_of (j := 4) ((hb14.block _ (lt_of_block H2.out)).trans H2.out) rfl
        have b0 : (w3.alloc (.cells #[.slice A1 t.ins.length ca1, .slice B1 t.outs.length cb1, .int .i64 t.after, .int .i64 t.tag] 45)).cell? ⟨w.heap.size + 1 + 1 + 1, 0, none⟩ = some (.int .i64 b.1.value) := cell_of (j := 0) ((hb14.block _ (lt_of_block H3.out)).trans H3.out) rfl
        have b1 : (w3.alloc (.cells #[.slice A1 t.ins.length ca1, .slice B1 t.outs.length cb1, .int .i64 t.after, .int .i64 t.tag] 45)).cell? ⟨w.heap.size + 1 + 1 + 1, 1, none⟩ = some (.int .u8 b.1.lock.kind) := cell_of (j := 1) ((hb14.block _ (lt_of_block H3.out)).trans H3.out) rfl
        have b2 : (w3.alloc (.cells #[.slice A1 t.ins.length ca1, .slice B1 t.outs.length cb1, .int .i64 t.after, .int .i64 t.tag] 45)).cell? ⟨w.heap.size + 1 + 1 + 1, 2, none⟩ = some (.string b.1.lock.term) := cell_of (j := 2) ((hb14.block _ (lt_of_block H3.out)).trans H3.out) rfl
        have b3 : (w3.alloc (.cells #[.slice A1 t.ins.length ca1, .slice B1 t.outs.length cb1, .int .i64 t.after, .int .i64 t.tag] 45)).cell? ⟨w.heap.size + 1 + 1 + 1, 3, none⟩ = some (.int .i64 b.1.lock.n) := cell_of (j := 3) ((hb14.block _ (lt_of_block H3.out)).trans H3.out) rfl
        have b4 : (w3.alloc (.cells #[.slice A1 t.ins.length ca1, .slice B1 t.outs.length cb1, .int .i64 t.after, .int .i64 t.tag] 45)).cell? ⟨w.heap.size + 1 + 1 + 1, 4, none⟩ = some (.slice b.2.1 b.1.lock.kids.length b.2.2) := cell_of (j := 4) ((hb14.block _ (lt_of_block H3.out)).trans H3.out) rfl
        have HB3 := Lib.hid hb14
        have HX1 := Lib.hid hx1
        have HBX := Lib.hid hbX
        clear hb13 hbX hx1 hb14 hb20
        go_wp2_with fail
        generalize w3.alloc (.cells #[.slice A1 t.ins.length ca1, .slice B1 t.outs.length cb1, .int .i64 t.after, .int .i64 t.tag] 45) = w4 at HB3 HX1 HBX p0 p1 d0 d1 d2 d3 d4 d5 d6 d7 d8 a0 a1 a2 a3 a4 b0 b1 b2 b3 b4 ⊢
        go_wp2_with fail
        refine (HR2.out w4 HB3.out).mono ?_
        rintro e w5 ⟨t2, rfl, hT2, hb5⟩
        obtain ⟨A2, ca2, B2, cb2, rfl, hT⟩ := hT2
        have HT2 := Lib.hid hT
        clear p0 p1 d0 d1 d2 d3 d4 d5 d6 d7 d8 a0 a1 a2 a3 a4 b0 b1 b2 b3 b4 hT
        have hx1 := HX1.out.below hb5
        have hbY : Below w5.heap.size w5 (w5.alloc (.cells #[.slice A2 t.ins.length ca2, .slice B2 t.outs.length cb2, .int .i64 t.after, .int .i64 t.tag] 45)) := (Below.refl _ _).alloc (Nat.le_refl _) _
        have hx2 : TxBox (w5.alloc (.cells #[.slice A2 t.ins.length ca2, .slice B2 t.outs.length cb2, .int .i64 t.after, .int .i64 t.tag] 45)) w5.heap.size A2 t.ins.length ca2 B2 t.outs.length cb2 t.after t.tag := Go.heap_alloc_new w5 _
        have hx3 := hx1.below hbY
        have hb15 := HB3.out.trans (hb5.mono HB3.out.size)
        have hb16 := hb15.trans (hbY.mono hb15.size)
        have hst : Stay w3 (w5.alloc (.cells #[.slice A2 t.ins.length ca2, .slice B2 t.outs.length cb2, .int .i64 t.after, .int .i64 t.tag] 45)) := (Stay.below HBX.out).trans ((Stay.below hb5).trans (Stay.below hbY))
        have hbb : Below w3.heap.size w3 (w5.alloc (.cells #[.slice A2 t.ins.length ca2, .slice B2 t.outs.length cb2, .int .i64 t.after, .int .i64 t.tag] 45)) := HBX.out.trans ((hb5.trans (hbY.mono hb5.size)).mono HBX.out.size)
        have hc1 := HT1.out _ (hbb.mono hs23) hst
        have hc2 := HT2.out _ (hbY.mono hb5.size) (Stay.below hbY)
        have HSM := Lib.hid (sameTx_eq t A1 B1 A2 B2 ca1 cb1 ca2 cb2 (w5.alloc (.cells #[.slice A2 t.ins.length ca2, .slice B2 t.outs.length cb2, .int .i64 t.after, .int .i64 t.tag] 45)) HCS.out.1 HCS.out.2.1 HCS.out.2.2 hc1 hc2)
        obtain ⟨y0, y1, y2, y3⟩ := hx3.cells
        obtain ⟨z0, z1, z2, z3⟩ := hx2.cells
        have HB6 := Lib.hid hb16
        clear hx1 hx2 hx3 hb15 hb16 hst hbb hc1 hc2 hbY hb5
        go_wp2_with fail
        refine HSM.out.mono ?_
        rintro e w7 ⟨rfl, hb7⟩
        have hb8 := HB6.out.trans (hb7.mono HB6.out.size)
        have HW := Lib.hid (works_any w7 (HV.out.below hb8) (HT.out.below hb8))
        have HB8 := Lib.hid (HB.out.trans (hb8.mono HB.out.size))
        clear hb7 hb8 y0 y1 y2 y3 z0 z1 z2 z3
        go_wp2_with fail
        refine HW.out.mono ?_
        rintro e w8 ⟨rfl, hb9⟩
        have HB9 := Lib.hid (HB8.out.trans (hb9.mono HB8.out.size))
        clear hb9
        go_wp2_with fail
        go_ret
        exact ⟨rfl, HB9.out⟩
end Go.Proofs.YtncniomiplnaaaaGreatDoor

namespace Go.Proofs.YtncniomiplnaaaaGreatDoor
open Go.RowKit Go.ChangeShapes Go.WideShapes Go.Deep

def Chunks {α : Type} (C : α → List Value → Prop) : List α → List Value → Prop
  | [], xs => xs = []
  | x :: r, xs => ∃ cs rest, xs = cs ++ rest ∧ C x cs ∧ Chunks C r rest
theorem chunk_cells {α : Type} {W : World} {K : Nat} {C : α → List Value → Prop} {a : Addr} : ∀ (l : List α) (off : Nat), (∀ i (hi : i < l.length), ∃ cs, C l[i] cs ∧ cs.length = K ∧ ∀ j, j < K → W.cell? (a.add ((off + i) * K + j)) = cs[j]?) →
    ∃ xs, Chunks C l xs ∧ ∀ j u, xs[j]? = some u → W.cell? (a.add (off * K + j)) = some u
  | [], off, _ => ⟨[], rfl, fun j u h => by simp at h⟩
  | x :: r, off, h => by
    obtain ⟨cs, h1, h2, h3⟩ := h 0 (by simp)
    obtain ⟨rest, g1, g2⟩ := chunk_cells r (off + 1) (fun i hi => by
      obtain ⟨ds, d1, d2, d3⟩ := h (i + 1) (by simpa using hi)
      exact ⟨ds, d1, d2, fun j hj => by rw [show off + 1 + i = off + (i + 1) by omega]; exact d3 j hj⟩)
    refine ⟨cs ++ rest, ⟨cs, rest, rfl, h1, g1⟩, fun j u hj => ?_⟩
    by_cases hjk : j < K
    · rw [List.getElem?_append_left (by omega)] at hj
      have := h3 j hjk
      rw [Nat.add_zero] at this
      rw [this]; exact hj
    · rw [List.getElem?_append_right (by omega), h2] at hj
      have := g2 (j - K) u hj
      rw [Nat.succ_mul, show off * K + K + (j - K) = off * K + j by omega] at this
      exact this
theorem arrayN2 {α : Type} {cs : Array α} (h : cs.size = 2) : ∃ c0 c1, cs = #[c0, c1] := by
  obtain ⟨l⟩ := cs
  match l, h with
  | [c0, c1], _ => exact ⟨c0, c1, rfl⟩
section
variable {H : Type} {enc : TypeId × Value → H} {W : World} {base : Nat}
theorem open_rows {α : Type} {t e : TypeId} {K b : Nat} (ht : Tryz.prog.underlying t = some (.slice e)) (hK : Tryz.prog.cellsOf e = K) (hb : Tryz.prog.bytesOf e = b) (hb1 : 1 ≤ b) (C : α → List Value → Prop) (G : α → Prop) {fuel : Nat} {cs : List Value} {x : DataW H × List MemPlace}
    (hE : ∀ n, n < fuel → ∀ cs y, cs.length = K → DataW.trod enc Tryz.prog W 0 (fun _ => true) true n e cs = some y → (∀ k ∈ y.1.weights Tryz.prog e, k ≤ reachBytes) → ∃ x, C x cs ∧ G x)
    (h : DataW.trod enc Tryz.prog W 0 (fun _ => true) true fuel t cs = some x) (hB : ∀ k ∈ x.1.weights Tryz.prog t, k ≤ reachBytes) :
    ∃ A l c xs, cs = [.slice A (List.length l) c] ∧ Cells W A xs ∧ Chunks C l xs ∧ (∀ x ∈ l, G x) ∧ l.length ≤ reachBytes := by
  rcases DataW.trod_slice ht h with ⟨rfl, rfl⟩ | ⟨a, len, cap, elems, rest, n, hfu, rfl, rfl, -, hl, hm, hlen, hel, hsp, -⟩
  · exact ⟨none, [], 0, [], rfl, Cells.nil _ _, rfl, by simp, Nat.zero_le _⟩
  · obtain ⟨hw, hwe⟩ := weight_slice ht hb hB
    rw [hK] at hel
    have hex : ∀ i, i < len → ∃ x : α, ∃ cs, C x cs ∧ cs.length = K ∧ (∀ j, j < K → W.cell? (a.add ((0 + i) * K + j)) = cs[j]?) ∧ G x := by
      intro i hi
      have key := hel i hi
      have hie : i < elems.length := by omega
      rw [List.getElem?_eq_getElem hie] at key
      obtain ⟨cs', h1, h2⟩ := Option.bind_eq_some_iff.1 key
      obtain ⟨_, hcl, hat⟩ := World.cells?_some h1
      obtain ⟨x, g1, g2⟩ := hE n (by omega) cs' _ hcl h2 (hwe _ (List.mem_map.2 ⟨_, List.getElem_mem hie, rfl⟩))
      refine ⟨x, cs', g1, hcl, fun j hj => ?_, g2⟩
      have := hat j hj
      rw [Nat.zero_add, ← Go.Deep.add_add]
      exact this
    obtain ⟨l, hll, hp⟩ := list_of hex
    obtain ⟨xs, k1, k2⟩ := chunk_cells (C := C) (W := W) (a := a) l 0 (fun i hi => by
      obtain ⟨cs, c1, c2, c3, -⟩ := hp i hi
      exact ⟨cs, c1, c2, c3⟩)
    subst hll
    refine ⟨some a, l, cap, xs, rfl, fun _ => ⟨a, rfl, fun j u hj => ?_⟩, k1, fun y hy => ?_, ?_⟩
    · have := k2 j u hj
      rwa [Nat.zero_mul, Nat.zero_add] at this
    · obtain ⟨i, hi, rfl⟩ := List.getElem_of_mem hy
      obtain ⟨cs, -, -, -, g⟩ := hp i hi
      exact g
    · simp only [List.length_map] at hw
      have h5 := Nat.le_mul_of_pos_right (elems.length + rest.length) (show 0 < b by omega)
      omega
theorem LocksC.of_chunks : ∀ {l : List LockT} {xs : List Value}, Chunks (LockC W) l xs → LocksC W l xs
  | [], xs, h => by unfold Chunks at h; unfold LocksC; exact h
  | x :: r, xs, h => by
    unfold Chunks at h
    obtain ⟨cs, rest, h1, h2, h3⟩ := h
    unfold LocksC
    exact ⟨cs, rest, h1, h2, LocksC.of_chunks h3⟩
theorem boundTs_of : ∀ {l : List LockT}, (∀ x ∈ l, boundT x) → boundTs l
  | [], _ => by unfold boundTs; trivial
  | x :: r, h => by unfold boundTs; exact ⟨h x (List.mem_cons_self ..), boundTs_of fun y hy => h y (List.mem_cons_of_mem _ hy)⟩
theorem list4 {cs : List Value} (h : cs.length = 4) : ∃ a b c d, cs = [a, b, c, d] := by
  match cs, h with
  | [a, b, c, d], _ => exact ⟨a, b, c, d, rfl⟩
theorem list5 {cs : List Value} (h : cs.length = 5) : ∃ a b c d e, cs = [a, b, c, d, e] := by
  match cs, h with
  | [a, b, c, d, e], _ => exact ⟨a, b, c, d, e, rfl⟩
theorem list3 {cs : List Value} (h : cs.length = 3) : ∃ a b c, cs = [a, b, c] := by
  match cs, h with
  | [a, b, c], _ => exact ⟨a, b, c, rfl⟩
theorem lockCells : Tryz.prog.cellsOf 55 = 4 := by kernel_rfl
theorem lockBytes : Tryz.prog.bytesOf 55 = 56 := by kernel_rfl
theorem cells1 : Tryz.prog.cellsOf 5 = 1 ∧ Tryz.prog.cellsOf 24 = 1 ∧ Tryz.prog.cellsOf 3 = 1 ∧ Tryz.prog.cellsOf 53 = 1 ∧ Tryz.prog.cellsOf 2 = 1 ∧ Tryz.prog.cellsOf 9 = 1 ∧ Tryz.prog.cellsOf 35 = 2 ∧ Tryz.prog.cellsOf 42 = 1 ∧ Tryz.prog.cellsOf 43 = 1 := ⟨by kernel_rfl, by kernel_rfl, by kernel_rfl, by kernel_rfl, by kernel_rfl, by kernel_rfl, by kernel_rfl, by kernel_rfl, by kernel_rfl⟩
set_option maxRecDepth 100000 in
theorem trod_lock : ∀ (fuel : Nat) (cs : List Value) (x : DataW H × List MemPlace), DataW.trod enc Tryz.prog W 0 (fun _ => true) true fuel 55 cs = some x → (∀ k ∈ x.1.weights Tryz.prog 55, k ≤ reachBytes) → ∃ l : LockT, LockC W l cs ∧ boundT l := by
  intro fuel
  induction fuel using Nat.strongRecOn with
  | ind fuel ih =>
    intro cs x h hB
    obtain ⟨y0, y1, y2, y3, m, hx, hl, h0, h1, h2, h3⟩ : ∃ y0 y1 y2 y3 m, x = (.agg [y0.1, y1.1, y2.1, y3.1], y0.2 ++ (y1.2 ++ (y2.2 ++ y3.2))) ∧ cs.length = 4 ∧ DataW.trod enc Tryz.prog W 0 (fun _ => true) true m 5 (cs.take 1) = some y0 ∧ DataW.trod enc Tryz.prog W 0 (fun _ => true) true m 24 ((cs.drop 1).take 1) = some y1 ∧ DataW.trod enc Tryz.prog W 0 (fun _ => true) true m 3 ((cs.drop 2).take 1) = some y2 ∧ (m < fuel ∧ DataW.trod enc Tryz.prog W 0 (fun _ => true) true m 53 ((cs.drop 3).take 1) = some y3) := by
      obtain ⟨xs, n, hfu, rfl, hl, hlen, hf⟩ := DataW.trod_struct Tryz.underlying55 h
      obtain ⟨c0, c1, c2, c3, -⟩ := cells1
      rw [lockCells] at hl
      match xs, hlen with
      | [y0, y1, y2, y3], _ =>
        have f0 : DataW.trod enc Tryz.prog W 0 (fun _ => true) true n 5 ((cs.drop 0).take (Tryz.prog.cellsOf 5)) = some y0 := hf 0 _ rfl
        have f1 : DataW.trod enc Tryz.prog W 0 (fun _ => true) true n 24 ((cs.drop 1).take (Tryz.prog.cellsOf 24)) = some y1 := hf 1 _ rfl
        have f2 : DataW.trod enc Tryz.prog W 0 (fun _ => true) true n 3 ((cs.drop 2).take (Tryz.prog.cellsOf 3)) = some y2 := hf 2 _ rfl
        have f3 : DataW.trod enc Tryz.prog W 0 (fun _ => true) true n 53 ((cs.drop 3).take (Tryz.prog.cellsOf 53)) = some y3 := hf 3 _ rfl
        rw [c0, List.drop_zero] at f0
        rw [c1] at f1
        rw [c2] at f2
        rw [c3] at f3
        exact ⟨y0, y1, y2, y3, n, by simp, hl, f0, f1, f2, by omega, f3⟩
    obtain ⟨v0, v1, v2, v3, rfl⟩ := list4 hl
    subst hx
    obtain ⟨n0, e0, -, -⟩ := DataW.trod_int Tryz.underlying5 h0
    obtain ⟨s1, e1, r1, -⟩ := DataW.trod_string Tryz.underlying24 h1
    obtain ⟨n2, e2, -, -⟩ := DataW.trod_int Tryz.underlying3 h2
    simp only [List.take_succ_cons, List.take_zero, List.drop_succ_cons, List.drop_zero, List.cons.injEq, and_true] at e0 e1 e2
    subst e0; subst e1; subst e2
    have w1 := weight_agg (fs := _) Tryz.underlying55 hB 1 _ y1.1 rfl rfl
    have w3 := weight_agg (fs := _) Tryz.underlying55 hB 3 _ y3.1 rfl rfl
    rw [show y1.1 = _ from congrArg Prod.fst r1] at w1
    have hsz := weight_string w1
    obtain ⟨hm, h3⟩ := h3
    obtain ⟨A, l, c, xs, hcs, g1, g2, g3, g4⟩ := open_rows (enc := enc) (W := W) Tryz.underlying53 lockCells lockBytes (by decide) (LockC W) boundT (fun n hn cs y _ hy hw => ih n (by omega) cs y hy hw) h3 w3
    have hcs2 : [v3] = [.slice A (List.length l) c] := hcs
    simp only [List.cons.injEq, and_true] at hcs2
    subst hcs2
    have hrb : reachBytes ≤ 1125899906842624 := by decide
    refine ⟨.node n0 s1 n2 l, ?_, ?_⟩
    · unfold LockC
      exact ⟨A, c, xs, rfl, g1, LocksC.of_chunks g2⟩
    · unfold boundT
      exact ⟨by omega, by omega, boundTs_of g3⟩
/-- An output's five cells. -/
def OutCk (W : World) (o : OutT) (cs : List Value) : Prop := ∃ ds, cs = .int .i64 o.value :: ds ∧ LockC W o.lock ds
theorem OutsC.of_chunks : ∀ {l : List OutT} {xs : List Value}, Chunks (OutCk W) l xs → OutsC W l xs
  | [], xs, h => by unfold Chunks at h; unfold OutsC; exact h
  | x :: r, xs, h => by
    unfold Chunks at h
    obtain ⟨cs, rest, rfl, ⟨ds, rfl, h2⟩, h3⟩ := h
    unfold OutsC
    exact ⟨ds, rest, rfl, h2, OutsC.of_chunks h3⟩
theorem insC_of_chunks : ∀ {l : List InT} {xs : List Value}, Chunks (fun (x : InT) cs => cs = [.string x.tx, .int .i64 x.pn, .int .i64 x.age]) l xs → xs = insC l
  | [], xs, h => by unfold Chunks at h; exact h
  | x :: r, xs, h => by
    unfold Chunks at h
    obtain ⟨cs, rest, rfl, rfl, h3⟩ := h
    rw [insC_of_chunks h3]; rfl
set_option maxRecDepth 100000 in
theorem trod_out {fuel : Nat} {cs : List Value} {x : DataW H × List MemPlace} (h : DataW.trod enc Tryz.prog W 0 (fun _ => true) true fuel 66 cs = some x) (hB : ∀ k ∈ x.1.weights Tryz.prog 66, k ≤ reachBytes) : ∃ o : OutT, OutCk W o cs ∧ boundT o.lock := by
  obtain ⟨xs, n, hfu, rfl, hl, hlen, hf⟩ := DataW.trod_struct Tryz.underlying66 h
  obtain ⟨-, -, -, -, c0, -⟩ := cells1
  rw [show Tryz.prog.cellsOf 66 = 5 by kernel_rfl] at hl
  obtain ⟨v0, v1, v2, v3, v4, rfl⟩ := list5 hl
  match xs, hlen with
  | [y0, y1], _ =>
    have f0 : DataW.trod enc Tryz.prog W 0 (fun _ => true) true n 2 (([v0, v1, v2, v3, v4].drop 0).take (Tryz.prog.cellsOf 2)) = some y0 := hf 0 _ rfl
    have f1 : DataW.trod enc Tryz.prog W 0 (fun _ => true) true n 55 (([v0, v1, v2, v3, v4].drop 1).take (Tryz.prog.cellsOf 55)) = some y1 := hf 1 _ rfl
    simp only [c0, lockCells, List.drop_zero, List.drop_succ_cons, List.take_succ_cons, List.take_zero] at f0 f1
    obtain ⟨n0, e0, -, -⟩ := DataW.trod_int Tryz.underlying2 f0
    simp only [List.cons.injEq, and_true] at e0
    subst e0
    have w1 := weight_agg (fs := _) Tryz.underlying66 hB 1 _ y1.1 rfl rfl
    obtain ⟨l, g1, g2⟩ := trod_lock n _ _ f1 w1
    exact ⟨⟨n0, l⟩, ⟨_, rfl, g1⟩, g2⟩
set_option maxRecDepth 100000 in
theorem open_point {v : Value} {d : DataW H} {p : List MemPlace} (hval : Value.okWide Tryz.prog W .any base 35 v) (h : DataW.Trod enc Tryz.prog W 0 (fun _ => true) true 35 v d p) (hB : ∀ n ∈ d.weights Tryz.prog 35, n ≤ reachBytes) :
    ∃ (tx : ByteArray) (pn : Int), v = .agg #[.string tx, .int .i64 pn] ∧ tx.size ≤ reachBytes ∧ (Lit.int .i64 pn).wf = true := by
  obtain ⟨cs, rfl, hsz⟩ := okWide_struct Tryz.underlying35 hval
  obtain ⟨c0, c1, rfl⟩ := arrayN2 (hsz.trans (show Tryz.prog.cellsOf 35 = 2 by kernel_rfl))
  obtain ⟨fuel, hf⟩ := h
  obtain ⟨xs, n, -, hx, hl, hlen, hfi⟩ := DataW.trod_struct Tryz.underlying35 hf
  obtain ⟨y0, y1, rfl⟩ : ∃ y0 y1, xs = [y0, y1] := by
    match xs, hlen with
    | [y0, y1], _ => exact ⟨_, _, rfl⟩
  have hc0 : Tryz.prog.cellsOf 9 = 1 := by kernel_rfl
  have hc1 : Tryz.prog.cellsOf 3 = 1 := by kernel_rfl
  have t0 := hfi 0 _ rfl
  have t1 := hfi 1 _ rfl
  simp only [Value.cells, hc0, hc1] at t0 t1
  obtain ⟨s0, e0, q0, -⟩ := DataW.trod_string Tryz.underlying9 t0
  obtain ⟨s1, e1, q1, hwf⟩ := DataW.trod_int Tryz.underlying3 t1
  subst q0; subst q1
  simp [hc0, hc1] at e0 e1
  subst e0; subst e1
  simp only [Prod.mk.injEq, List.map_cons, List.map_nil] at hx
  obtain ⟨hx1, -⟩ := hx
  subst hx1
  have z0 := weight_agg (fs := _) Tryz.underlying35 hB 0 _ _ rfl rfl
  exact ⟨s0, s1, rfl, weight_string z0, hwf⟩
set_option maxRecDepth 100000 in
theorem open_out {v : Value} {d : DataW H} {p : List MemPlace} (hval : Value.okWide Tryz.prog W .any base 66 v) (h : DataW.Trod enc Tryz.prog W 0 (fun _ => true) true 66 v d p) (hB : ∀ n ∈ d.weights Tryz.prog 66, n ≤ reachBytes) :
    ∃ q : OutQ, v = outV q ∧ LockC W q.1.lock [.int .u8 q.1.lock.kind, .string q.1.lock.term, .int .i64 q.1.lock.n, .slice q.2.1 q.1.lock.kids.length q.2.2] ∧ boundT q.1.lock := by
  obtain ⟨cs, rfl, hsz⟩ := okWide_struct Tryz.underlying66 hval
  obtain ⟨fuel, hf⟩ := h
  obtain ⟨o, ⟨ds, hcs, hlk⟩, hbd⟩ := trod_out hf hB
  obtain ⟨B, cap, ys, hds, hrest⟩ := hlk.shape
  subst hds
  refine ⟨(o, B, cap), ?_, hlk, hbd⟩
  have e : cs = (Value.int .i64 o.value :: [.int .u8 o.lock.kind, .string o.lock.term, .int .i64 o.lock.n, .slice B o.lock.kids.length cap]).toArray := by
    rw [← hcs]
    simp [Value.cells]
  rw [e]
  rfl
end
end Go.Proofs.YtncniomiplnaaaaGreatDoor
