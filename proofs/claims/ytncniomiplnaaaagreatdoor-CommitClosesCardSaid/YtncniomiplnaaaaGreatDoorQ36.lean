/- Close: two outputs as lines. · Two transactions that are the same. · The document's Close: two outputs as lines. -/
import Derived.Test.YtncniomiplnaaaaGreatDoorQ35
import Derived.Test.YtncniomiplnaaaaGreatDoorQ17
import Derived.Test.YtncniomiplnaaaaGreatDoorQ15
import Derived.Test.YtncniomiplnaaaaGreatDoorQ19
import Derived.Test.YtncniomiplnaaaaGreatDoorQ31
import Derived.Test.YtncniomiplnaaaaGreatDoorQ32
import Derived.Lib.QuietBelow
import Derived.Test.YtncniomiplnaaaaGreatDoorQ20
namespace Go.Proofs.YtncniomiplnaaaaGreatDoor
open Go.RowKit

abbrev OutQ := OutT × Option Addr × Nat
def outC (q : OutQ) : List Value := [.int .i64 q.1.value, .int .u8 q.1.lock.kind, .string q.1.lock.term, .int .i64 q.1.lock.n, .slice q.2.1 q.1.lock.kids.length q.2.2]
def outV (q : OutQ) : Value := .agg #[.int .i64 q.1.value, .int .u8 q.1.lock.kind, .string q.1.lock.term, .int .i64 q.1.lock.n, .slice q.2.1 q.1.lock.kids.length q.2.2]
def lineOf (q : OutQ) : LineP × LineR := (⟨q.1.value, q.1.lock, 0⟩, ⟨q.1.value, q.1.lock.kind, q.1.lock.term, q.1.lock.n, q.2.1, q.1.lock.kids.length, q.2.2, 0, ⟨#[]⟩⟩)
def bigO (d : DealR) (q : OutQ) : Bool := decide (d.dust ≤ q.1.value)
def linesO (d : DealR) (os : List OutQ) : List (LineP × LineR) := (os.filter (bigO d)).map lineOf
theorem linesO_snoc (d : DealR) (os : List OutQ) (q : OutQ) : linesO d (os ++ [q]) = if bigO d q then linesO d os ++ [lineOf q] else linesO d os := by
  unfold linesO
  rw [List.filter_append, List.map_append]
  cases h : bigO d q <;> simp [h]
theorem linesO_len (d : DealR) (os : List OutQ) : (linesO d os).length ≤ os.length := by
  unfold linesO
  rw [List.length_map]
  exact List.length_filter_le _ _
def closeE (tx : ByteArray) (pn : Int) (d : DealR) (os : List OutQ) : TxT × Int := if dealE d = 0 then ((wholeE tx pn ((linesO d os).map (·.1)) 0).1, (wholeE tx pn ((linesO d os).map (·.1)) 0).2.2) else (zeroTx, dealE d)
theorem linesO_keep {w : World} {d : DealR} {os : List OutQ} (h : ∀ q ∈ os, smallT q.1.lock ∧ LockC w q.1.lock [.int .u8 q.1.lock.kind, .string q.1.lock.term, .int .i64 q.1.lock.n, .slice q.2.1 q.1.lock.kids.length q.2.2]) : ∀ r ∈ linesO d os, LineK w.heap.size w r := fun r hr => by
  unfold linesO at hr
  obtain ⟨q, hq, rfl⟩ := List.mem_map.1 hr
  have h2 := h q (List.mem_filter.1 hq).1
  exact ⟨rfl, rfl, h2.1, fun W hb _ => LockC.below hb _ _ h2.2⟩
set_option maxRecDepth 100000 in
set_option maxHeartbeats 4000000 in
theorem whole_nil (tx : ByteArray) (pn tag : Int) (A : Option Addr) (cap : Nat) (w : World) :
    Calls Tryz.prog 43 #[.agg #[.string tx, .int .i64 pn], .slice A 0 cap, .int .i64 tag] w fun e w' => e = .returned (.tuple #[.agg #[.slice none 0 0, .slice none 0 0, .int .i64 0, .int .i64 0], .slice none 0 0, .int .i64 180]) ∧ Below w.heap.size w w' := by
  have hb0 : Below w.heap.size w ((w.alloc (.cells #[.string tx, .int .i64 pn] 35)).alloc (.cells #[.slice none 0 0, .slice none 0 0, .int .i64 0, .int .i64 0] 45)) := ((Below.refl w.heap.size w).alloc (Nat.le_refl _) (.cells #[.string tx, .int .i64 pn] 35)).alloc (by simp) (.cells #[.slice none 0 0, .slice none 0 0, .int .i64 0, .int .i64 0] 45)
  have HB := Lib.hid hb0
  have HTX := Lib.hid (show TxBox ((w.alloc (.cells #[.string tx, .int .i64 pn] 35)).alloc (.cells #[.slice none 0 0, .slice none 0 0, .int .i64 0, .int .i64 0] 45)) (w.heap.size + 1) none 0 0 none 0 0 0 0 from allocs_at [(.cells #[.string tx, .int .i64 pn] 35), (.cells #[.slice none 0 0, .slice none 0 0, .int .i64 0, .int .i64 0] 45)] w 1 _ rfl)
  clear hb0
  go_enter Tryz.func43, Tryz.ntmps43
  go_wp2_with fail
  generalize ((w.alloc (.cells #[.string tx, .int .i64 pn] 35)).alloc (.cells #[.slice none 0 0, .slice none 0 0, .int .i64 0, .int .i64 0] 45)) = V at HB HTX ⊢
  obtain ⟨z0, z1, z2, z3⟩ := HTX.out.cells
  exact bodyPost_ret (v := .tuple #[.agg #[.slice none 0 0, .slice none 0 0, .int .i64 0, .int .i64 0], .slice none 0 0, .int .i64 180]) (by simp [results, Tryz.results43, go_sem, z0, z1, z2, z3]) rfl ⟨rfl, HB.out⟩
theorem whole_q (tx : ByteArray) (pn tag : Int) (ps : List (LineP × LineR)) (vL : Value) (base : Nat) (v w : World) (hn : ps.length < 20) (hbv : Below v.heap.size v w) (hvb : v.heap.size ≤ base) (hown : w.ownsRow base 81 7 vL ps.length ((ps.map Prod.snd).flatMap LineR.enc)) (hps : ∀ q ∈ ps, LineK v.heap.size w q) (hpt : ptOk ⟨tx, pn, 0⟩) (htx : tx.size ≤ 1125899906842624) (hv : VarsOk v) (ht : TabOk v) :
    Calls Tryz.prog 43 #[.agg #[.string tx, .int .i64 pn], vL, .int .i64 tag] w fun e w' => ∃ t ws, e = .returned (.tuple #[t, ws, .int .i64 (wholeE tx pn (ps.map (·.1)) tag).2.2]) ∧ TxF v.heap.size w' (wholeE tx pn (ps.map (·.1)) tag).1 t ∧ IntsF w' (wholeE tx pn (ps.map (·.1)) tag).2.1 ws ∧ ∃ F : List Nat, (∀ g ∈ F, base ≤ g) ∧ Fr F w w' := by
  rcases Nat.eq_zero_or_pos ps.length with h0 | h1
  · obtain rfl : ps = [] := List.eq_nil_of_length_eq_zero h0
    obtain ⟨A, c, rfl, -, -⟩ := own_shape hown
    refine (whole_nil tx pn tag A c w).mono ?_
    rintro e w' ⟨rfl, hb⟩
    exact ⟨_, _, rfl, TxF.zero _ _, IntsF.nil _, [], by simp, Fr.below hb⟩
  · rcases hown.2 with ⟨-, hn0⟩ | ⟨g, cap, cur, rfl, hbg, hg, -, -, -, htk⟩
    · omega
    · have hrow : RowL w g (ps.map (·.2)) := ⟨cur, hg, fun j u hj => row_take htk (by rw [List.flatMap_def]; exact hj)⟩
      refine (whole_any tx pn tag ps g cap v w hn h1 hbv (Nat.le_trans hvb hbg) hrow hps hpt htx hv ht).mono ?_
      rintro e w' ⟨t, ws, rfl, a1, a2, a3⟩
      exact ⟨t, ws, rfl, a1, a2, [g], by simpa using hbg, a3⟩
set_option maxRecDepth 100000 in
set_option maxHeartbeats 16000000 in
theorem close_any (tx : ByteArray) (pn : Int) (d : DealR) (a b : OutQ) (w : World) (hpt : ptOk ⟨tx, pn, 0⟩) (htx : tx.size ≤ 1125899906842624) (hk : ∀ q ∈ [a, b], smallT q.1.lock ∧ LockC w q.1.lock [.int .u8 q.1.lock.kind, .string q.1.lock.term, .int .i64 q.1.lock.n, .slice q.2.1 q.1.lock.kids.length q.2.2]) (hv : VarsOk w) (ht : TabOk w) :
    Calls Tryz.prog 33 #[.agg #[.string tx, .int .i64 pn], dealV d, outV a, outV b] w fun e w' => ∃ t, e = .returned (.tuple #[t, .int .i64 (closeE tx pn d [a, b]).2]) ∧ TxF w.heap.size w' (closeE tx pn d [a, b]).1 t ∧ Below w.heap.size w w' := by
  unfold dealV outV
  have hb0 : Below w.heap.size w (((((w.alloc (.cells #[.string tx, .int .i64 pn] 35)).alloc (.cells #[.int .i64 d.cap, .int .i64 d.push, .int .i64 d.dust, .int .i64 d.res, .int .i64 d.rate, .int .i64 d.delay, .int .i64 d.maxH, .int .i64 d.flight, .int .i64 d.minH] 23)).alloc (.cells #[.int .i64 a.1.value, .int .u8 a.1.lock.kind, .string a.1.lock.term, .int .i64 a.1.lock.n, .slice a.2.1 a.1.lock.kids.length a.2.2] 66)).alloc (.cells #[.int .i64 b.1.value, .int .u8 b.1.lock.kind, .string b.1.lock.term, .int .i64 b.1.lock.n, .slice b.2.1 b.1.lock.kids.length b.2.2] 66)).alloc (.cells #[.slice none 0 0, .slice none 0 0, .int .i64 0, .int .i64 0] 45)) := (((((Below.refl w.heap.size w).alloc (Nat.le_refl _) (.cells #[.string tx, .int .i64 pn] 35)).alloc (by simp) (.cells #[.int .i64 d.cap, .int .i64 d.push, .int .i64 d.dust, .int .i64 d.res, .int .i64 d.rate, .int .i64 d.delay, .int .i64 d.maxH, .int .i64 d.flight, .int .i64 d.minH] 23)).alloc (by simp; try omega) (.cells #[.int .i64 a.1.value, .int .u8 a.1.lock.kind, .string a.1.lock.term, .int .i64 a.1.lock.n, .slice a.2.1 a.1.lock.kids.length a.2.2] 66)).alloc (by simp; try omega) (.cells #[.int .i64 b.1.value, .int .u8 b.1.lock.kind, .string b.1.lock.term, .int .i64 b.1.lock.n, .slice b.2.1 b.1.lock.kids.length b.2.2] 66)).alloc (by simp; try omega) (.cells #[.slice none 0 0, .slice none 0 0, .int .i64 0, .int .i64 0] 45)
  have HB := Lib.hid hb0
  have H0 := Lib.hid (show (((((w.alloc (.cells #[.string tx, .int .i64 pn] 35)).alloc (.cells #[.int .i64 d.cap, .int .i64 d.push, .int .i64 d.dust, .int .i64 d.res, .int .i64 d.rate, .int .i64 d.delay, .int .i64 d.maxH, .int .i64 d.flight, .int .i64 d.minH] 23)).alloc (.cells #[.int .i64 a.1.value, .int .u8 a.1.lock.kind, .string a.1.lock.term, .int .i64 a.1.lock.n, .slice a.2.1 a.1.lock.kids.length a.2.2] 66)).alloc (.cells #[.int .i64 b.1.value, .int .u8 b.1.lock.kind, .string b.1.lock.term, .int .i64 b.1.lock.n, .slice b.2.1 b.1.lock.kids.length b.2.2] 66)).alloc (.cells #[.slice none 0 0, .slice none 0 0, .int .i64 0, .int .i64 0] 45)).heap[w.heap.size]? = some (.cells #[.string tx, .int .i64 pn] 35) from allocs_at [(.cells #[.string tx, .int .i64 pn] 35), (.cells #[.int .i64 d.cap, .int .i64 d.push, .int .i64 d.dust, .int .i64 d.res, .int .i64 d.rate, .int .i64 d.delay, .int .i64 d.maxH, .int .i64 d.flight, .int .i64 d.minH] 23), (.cells #[.int .i64 a.1.value, .int .u8 a.1.lock.kind, .string a.1.lock.term, .int .i64 a.1.lock.n, .slice a.2.1 a.1.lock.kids.length a.2.2] 66), (.cells #[.int .i64 b.1.value, .int .u8 b.1.lock.kind, .string b.1.lock.term, .int .i64 b.1.lock.n, .slice b.2.1 b.1.lock.kids.length b.2.2] 66), (.cells #[.slice none 0 0, .slice none 0 0, .int .i64 0, .int .i64 0] 45)] w 0 _ rfl)
  have H1 := Lib.hid (show (((((w.alloc (.cells #[.string tx, .int .i64 pn] 35)).alloc (.cells #[.int .i64 d.cap, .int .i64 d.push, .int .i64 d.dust, .int .i64 d.res, .int .i64 d.rate, .int .i64 d.delay, .int .i64 d.maxH, .int .i64 d.flight, .int .i64 d.minH] 23)).alloc (.cells #[.int .i64 a.1.value, .int .u8 a.1.lock.kind, .string a.1.lock.term, .int .i64 a.1.lock.n, .slice a.2.1 a.1.lock.kids.length a.2.2] 66)).alloc (.cells #[.int .i64 b.1.value, .int .u8 b.1.lock.kind, .string b.1.lock.term, .int .i64 b.1.lock.n, .slice b.2.1 b.1.lock.kids.length b.2.2] 66)).alloc (.cells #[.slice none 0 0, .slice none 0 0, .int .i64 0, .int .i64 0] 45)).heap[w.heap.size + 1]? = some (.cells #[.int .i64 d.cap, .int .i64 d.push, .int .i64 d.dust, .int .i64 d.res, .int .i64 d.rate, .int .i64 d.delay, .int .i64 d.maxH, .int .i64 d.flight, .int .i64 d.minH] 23) from allocs_at [(.cells #[.string tx, .int .i64 pn] 35), (.cells #[.int .i64 d.cap, .int .i64 d.push, .int .i64 d.dust, .int .i64 d.res, .int .i64 d.rate, .int .i64 d.delay, .int .i64 d.maxH, .int .i64 d.flight, .int .i64 d.minH] 23), (.cells #[.int .i64 a.1.value, .int .u8 a.1.lock.kind, .string a.1.lock.term, .int .i64 a.1.lock.n, .slice a.2.1 a.1.lock.kids.length a.2.2] 66), (.cells #[.int .i64 b.1.value, .int .u8 b.1.lock.kind, .string b.1.lock.term, .int .i64 b.1.lock.n, .slice b.2.1 b.1.lock.kids.length b.2.2] 66), (.cells #[.slice none 0 0, .slice none 0 0, .int .i64 0, .int .i64 0] 45)] w 1 _ rfl)
  have H2 := Lib.hid (show (((((w.alloc (.cells #[.string tx, .int .i64 pn] 35)).alloc (.cells #[.int .i64 d.cap, .int .i64 d.push, .int .i64 d.dust, .int .i64 d.res, .int .i64 d.rate, .int .i64 d.delay, .int .i64 d.maxH, .int .i64 d.flight, .int .i64 d.minH] 23)).alloc (.cells #[.int .i64 a.1.value, .int .u8 a.1.lock.kind, .string a.1.lock.term, .int .i64 a.1.lock.n, .slice a.2.1 a.1.lock.kids.length a.2.2] 66)).alloc (.cells #[.int .i64 b.1.value, .int .u8 b.1.lock.kind, .string b.1.lock.term, .int .i64 b.1.lock.n, .slice b.2.1 b.1.lock.kids.length b.2.2] 66)).alloc (.cells #[.slice none 0 0, .slice none 0 0, .int .i64 0, .int .i64 0] 45)).heap[w.heap.size + 1 + 1]? = some (.cells #[.int .i64 a.1.value, .int .u8 a.1.lock.kind, .string a.1.lock.term, .int .i64 a.1.lock.n, .slice a.2.1 a.1.lock.kids.length a.2.2] 66) from allocs_at [(.cells #[.string tx, .int .i64 pn] 35), (.cells #[.int .i64 d.cap, .int .i64 d.push, .int .i64 d.dust, .int .i64 d.res, .int .i64 d.rate, .int .i64 d.delay, .int .i64 d.maxH, .int .i64 d.flight, .int .i64 d.minH] 23), (.cells #[.int .i64 a.1.value, .int .u8 a.1.lock.kind, .string a.1.lock.term, .int .i64 a.1.lock.n, .slice a.2.1 a.1.lock.kids.length a.2.2] 66), (.cells #[.int .i64 b.1.value, .int .u8 b.1.lock.kind, .string b.1.lock.term, .int .i64 b.1.lock.n, .slice b.2.1 b.1.lock.kids.length b.2.2] 66), (.cells #[.slice none 0 0, .slice none 0 0, .int .i64 0, .int .i64 0] 45)] w 2 _ rfl)
  have H3 := Lib.hid (show (((((w.alloc (.cells #[.string tx, .int .i64 pn] 35)).alloc (.cells #[.int .i64 d.cap, .int .i64 d.push, .int .i64 d.dust, .int .i64 d.res, .int .i64 d.rate, .int .i64 d.delay, .int .i64 d.maxH, .int .i64 d.flight, .int .i64 d.minH] 23)).alloc (.cells #[.int .i64 a.1.value, .int .u8 a.1.lock.kind, .string a.1.lock.term, .int .i64 a.1.lock.n, .slice a.2.1 a.1.lock.kids.length a.2.2] 66)).alloc (.cells #[.int .i64 b.1.value, .int .u8 b.1.lock.kind, .string b.1.lock.term, .int .i64 b.1.lock.n, .slice b.2.1 b.1.lock.kids.length b.2.2] 66)).alloc (.cells #[.slice none 0 0, .slice none 0 0, .int .i64 0, .int .i64 0] 45)).heap[w.heap.size + 1 + 1 + 1]? = some (.cells #[.int .i64 b.1.value, .int .u8 b.1.lock.kind, .string b.1.lock.term, .int .i64 b.1.lock.n, .slice b.2.1 b.1.lock.kids.length b.2.2] 66) from allocs_at [(.cells #[.string tx, .int .i64 pn] 35), (.cells #[.int .i64 d.cap, .int .i64 d.push, .int .i64 d.dust, .int .i64 d.res, .int .i64 d.rate, .int .i64 d.delay, .int .i64 d.maxH, .int .i64 d.flight, .int .i64 d.minH] 23), (.cells #[.int .i64 a.1.value, .int .u8 a.1.lock.kind, .string a.1.lock.term, .int .i64 a.1.lock.n, .slice a.2.1 a.1.lock.kids.length a.2.2] 66), (.cells #[.int .i64 b.1.value, .int .u8 b.1.lock.kind, .string b.1.lock.term, .int .i64 b.1.lock.n, .slice b.2.1 b.1.lock.kids.length b.2.2] 66), (.cells #[.slice none 0 0, .slice none 0 0, .int .i64 0, .int .i64 0] 45)] w 3 _ rfl)
  have H4 := Lib.hid (show TxBox (((((w.alloc (.cells #[.string tx, .int .i64 pn] 35)).alloc (.cells #[.int .i64 d.cap, .int .i64 d.push, .int .i64 d.dust, .int .i64 d.res, .int .i64 d.rate, .int .i64 d.delay, .int .i64 d.maxH, .int .i64 d.flight, .int .i64 d.minH] 23)).alloc (.cells #[.int .i64 a.1.value, .int .u8 a.1.lock.kind, .string a.1.lock.term, .int .i64 a.1.lock.n, .slice a.2.1 a.1.lock.kids.length a.2.2] 66)).alloc (.cells #[.int .i64 b.1.value, .int .u8 b.1.lock.kind, .string b.1.lock.term, .int .i64 b.1.lock.n, .slice b.2.1 b.1.lock.kids.length b.2.2] 66)).alloc (.cells #[.slice none 0 0, .slice none 0 0, .int .i64 0, .int .i64 0] 45)) (w.heap.size + 1 + 1 + 1 + 1) none 0 0 none 0 0 0 0 from allocs_at [(.cells #[.string tx, .int .i64 pn] 35), (.cells #[.int .i64 d.cap, .int .i64 d.push, .int .i64 d.dust, .int .i64 d.res, .int .i64 d.rate, .int .i64 d.delay, .int .i64 d.maxH, .int .i64 d.flight, .int .i64 d.minH] 23), (.cells #[.int .i64 a.1.value, .int .u8 a.1.lock.kind, .string a.1.lock.term, .int .i64 a.1.lock.n, .slice a.2.1 a.1.lock.kids.length a.2.2] 66), (.cells #[.int .i64 b.1.value, .int .u8 b.1.lock.kind, .string b.1.lock.term, .int .i64 b.1.lock.n, .slice b.2.1 b.1.lock.kids.length b.2.2] 66), (.cells #[.slice none 0 0, .slice none 0 0, .int .i64 0, .int .i64 0] 45)] w 4 _ rfl)
  have HKK := Lib.hid (linesO_keep (d := d) hk)
  have HR := Lib.hid (fun W => right_deal d W)
  have HPT := Lib.hid hpt
  have hs5 : (((((w.alloc (.cells #[.string tx, .int .i64 pn] 35)).alloc (.cells #[.int .i64 d.cap, .int .i64 d.push, .int .i64 d.dust, .int .i64 d.res, .int .i64 d.rate, .int .i64 d.delay, .int .i64 d.maxH, .int .i64 d.flight, .int .i64 d.minH] 23)).alloc (.cells #[.int .i64 a.1.value, .int .u8 a.1.lock.kind, .string a.1.lock.term, .int .i64 a.1.lock.n, .slice a.2.1 a.1.lock.kids.length a.2.2] 66)).alloc (.cells #[.int .i64 b.1.value, .int .u8 b.1.lock.kind, .string b.1.lock.term, .int .i64 b.1.lock.n, .slice b.2.1 b.1.lock.kids.length b.2.2] 66)).alloc (.cells #[.slice none 0 0, .slice none 0 0, .int .i64 0, .int .i64 0] 45)).heap.size = w.heap.size + 1 + 1 + 1 + 1 + 1 := by simp
  have HV := Lib.hid hv
  have HT := Lib.hid ht
  clear hv ht
  have hll := linesO_len d [a, b]
  simp only [List.length_cons, List.length_nil, Nat.zero_add, Nat.reduceAdd] at hll
  obtain ⟨R, hR⟩ : ∃ R, closeE tx pn d [a, b] = R := ⟨_, rfl⟩
  rw [hR]
  unfold closeE at hR
  have HRE := Lib.hid hR
  unfold dealV at HR
  have d0 : (((((w.alloc (.cells #[.string tx, .int .i64 pn] 35)).alloc (.cells #[.int .i64 d.cap, .int .i64 d.push, .int .i64 d.dust, .int .i64 d.res, .int .i64 d.rate, .int .i64 d.delay, .int .i64 d.maxH, .int .i64 d.flight, .int .i64 d.minH] 23)).alloc (.cells #[.int .i64 a.1.value, .int .u8 a.1.lock.kind, .string a.1.lock.term, .int .i64 a.1.lock.n, .slice a.2.1 a.1.lock.kids.length a.2.2] 66)).alloc (.cells #[.int .i64 b.1.value, .int .u8 b.1.lock.kind, .string b.1.lock.term, .int .i64 b.1.lock.n, .slice b.2.1 b.1.lock.kids.length b.2.2] 66)).alloc (.cells #[.slice none 0 0, .slice none 0 0, .int .i64 0, .int .i64 0] 45)).cell? ⟨w.heap.size + 1, 0, none⟩ = some (.int .i64 d.cap) := cell_of (j := 0) H1.out rfl
  have d1 : (((((w.alloc (.cells #[.string tx, .int .i64 pn] 35)).alloc (.cells #[.int .i64 d.cap, .int .i64 d.push, .int .i64 d.dust, .int .i64 d.res, .int .i64 d.rate, .int .i64 d.delay, .int .i64 d.maxH, .int .i64 d.flight, .int .i64 d.minH] 23)).alloc (.cells #[.int .i64 a.1.value, .int .u8 a.1.lock.kind, .string a.1.lock.term, .int .i64 a.1.lock.n, .slice a.2.1 a.1.lock.kids.length a.2.2] 66)).alloc (.cells #[.int .i64 b.1.value, .int .u8 b.1.lock.kind, .string b.1.lock.term, .int .i64 b.1.lock.n, .slice b.2.1 b.1.lock.kids.length b.2.2] 66)).alloc (.cells #[.slice none 0 0, .slice none 0 0, .int .i64 0, .int .i64 0] 45)).cell? ⟨w.heap.size + 1, 1, none⟩ = some (.int .i64 d.push) := cell_of (j := 1) H1.out rfl
  have d2 : (((((w.alloc (.cells #[.string tx, .int .i64 pn] 35)).alloc (.cells #[.int .i64 d.cap, .int .i64 d.push, .int .i64 d.dust, .int .i64 d.res, .int .i64 d.rate, .int .i64 d.delay, .int .i64 d.maxH, .int .i64 d.flight, .int .i64 d.minH] 23)).alloc (.cells #[.int .i64 a.1.value, .int .u8 a.1.lock.kind, .string a.1.lock.term, .int .i64 a.1.lock.n, .slice a.2.1 a.1.lock.kids.length a.2.2] 66)).alloc (.cells #[.int .i64 b.1.value, .int .u8 b.1.lock.kind, .string b.1.lock.term, .int .i64 b.1.lock.n, .slice b.2.1 b.1.lock.kids.length b.2.2] 66)).alloc (.cells #[.slice none 0 0, .slice none 0 0, .int .i64 0, .int .i64 0] 45)).cell? ⟨w.heap.size + 1, 2, none⟩ = some (.int .i64 d.dust) := cell_of (j := 2) H1.out rfl
  have d3 : (((((w.alloc (.cells #[.string tx, .int .i64 pn] 35)).alloc (.cells #[.int .i64 d.cap, .int .i64 d.push, .int .i64 d.dust, .int .i64 d.res, .int .i64 d.rate, .int .i64 d.delay, .int .i64 d.maxH, .int .i64 d.flight, .int .i64 d.minH] 23)).alloc (.cells #[.int .i64 a.1.value, .int .u8 a.1.lock.kind, .string a.1.lock.term, .int .i64 a.1.lock.n, .slice a.2.1 a.1.lock.kids.length a.2.2] 66)).alloc (.cells #[.int .i64 b.1.value, .int .u8 b.1.lock.kind, .string b.1.lock.term, .int .i64 b.1.lock.n, .slice b.2.1 b.1.lock.kids.length b.2.2] 66)).alloc (.cells #[.slice none 0 0, .slice none 0 0, .int .i64 0, .int .i64 0] 45)).cell? ⟨w.heap.size + 1, 3, none⟩ = some (.int .i64 d.res) := cell_of (j := 3) H1.out rfl
  have d4 : (((((w.alloc (.cells #[.string tx, .int .i64 pn] 35)).alloc (.cells #[.int .i64 d.cap, .int .i64 d.push, .int .i64 d.dust, .int .i64 d.res, .int .i64 d.rate, .int .i64 d.delay, .int .i64 d.maxH, .int .i64 d.flight, .int .i64 d.minH] 23)).alloc (.cells #[.int .i64 a.1.value, .int .u8 a.1.lock.kind, .string a.1.lock.term, .int .i64 a.1.lock.n, .slice a.2.1 a.1.lock.kids.length a.2.2] 66)).alloc (.cells #[.int .i64 b.1.value, .int .u8 b.1.lock.kind, .string b.1.lock.term, .int .i64 b.1.lock.n, .slice b.2.1 b.1.lock.kids.length b.2.2] 66)).alloc (.cells #[.slice none 0 0, .slice none 0 0, .int .i64 0, .int .i64 0] 45)).cell? ⟨w.heap.size + 1, 4, none⟩ = some (.int .i64 d.rate) := cell_of (j := 4) H1.out rfl
  have d5 : (((((w.alloc (.cells #[.string tx, .int .i64 pn] 35)).alloc (.cells #[.int .i64 d.cap, .int .i64 d.push, .int .i64 d.dust, .int .i64 d.res, .int .i64 d.rate, .int .i64 d.delay, .int .i64 d.maxH, .int .i64 d.flight, .int .i64 d.minH] 23)).alloc (.cells #[.int .i64 a.1.value, .int .u8 a.1.lock.kind, .string a.1.lock.term, .int .i64 a.1.lock.n, .slice a.2.1 a.1.lock.kids.length a.2.2] 66)).alloc (.cells #[.int .i64 b.1.value, .int .u8 b.1.lock.kind, .string b.1.lock.term, .int .i64 b.1.lock.n, .slice b.2.1 b.1.lock.kids.length b.2.2] 66)).alloc (.cells #[.slice none 0 0, .slice none 0 0, .int .i64 0, .int .i64 0] 45)).cell? ⟨w.heap.size + 1, 5, none⟩ = some (.int .i64 d.delay) := cell_of (j := 5) H1.out rfl
  have d6 : (((((w.alloc (.cells #[.string tx, .int .i64 pn] 35)).alloc (.cells #[.int .i64 d.cap, .int .i64 d.push, .int .i64 d.dust, .int .i64 d.res, .int .i64 d.rate, .int .i64 d.delay, .int .i64 d.maxH, .int .i64 d.flight, .int .i64 d.minH] 23)).alloc (.cells #[.int .i64 a.1.value, .int .u8 a.1.lock.kind, .string a.1.lock.term, .int .i64 a.1.lock.n, .slice a.2.1 a.1.lock.kids.length a.2.2] 66)).alloc (.cells #[.int .i64 b.1.value, .int .u8 b.1.lock.kind, .string b.1.lock.term, .int .i64 b.1.lock.n, .slice b.2.1 b.1.lock.kids.length b.2.2] 66)).alloc (.cells #[.slice none 0 0, .slice none 0 0, .int .i64 0, .int .i64 0] 45)).cell? ⟨w.heap.size + 1, 6, none⟩ = some (.int .i64 d.maxH) := cell_of (j := 6) H1.out rfl
  have d7 : (((((w.alloc (.cells #[.string tx, .int .i64 pn] 35)).alloc (.cells #[.int .i64 d.cap, .int .i64 d.push, .int .i64 d.dust, .int .i64 d.res, .int .i64 d.rate, .int .i64 d.delay, .int .i64 d.maxH, .int .i64 d.flight, .int .i64 d.minH] 23)).alloc (.cells #[.int .i64 a.1.value, .int .u8 a.1.lock.kind, .string a.1.lock.term, .int .i64 a.1.lock.n, .slice a.2.1 a.1.lock.kids.length a.2.2] 66)).alloc (.cells #[.int .i64 b.1.value, .int .u8 b.1.lock.kind, .string b.1.lock.term, .int .i64 b.1.lock.n, .slice b.2.1 b.1.lock.kids.length b.2.2] 66)).alloc (.cells #[.slice none 0 0, .slice none 0 0, .int .i64 0, .int .i64 0] 45)).cell? ⟨w.heap.size + 1, 7, none⟩ = some (.int .i64 d.flight) := cell_of (j := 7) H1.out rfl
  have d8 : (((((w.alloc (.cells #[.string tx, .int .i64 pn] 35)).alloc (.cells #[.int .i64 d.cap, .int .i64 d.push, .int .i64 d.dust, .int .i64 d.res, .int .i64 d.rate, .int .i64 d.delay, .int .i64 d.maxH, .int .i64 d.flight, .int .i64 d.minH] 23)).alloc (.cells #[.int .i64 a.1.value, .int .u8 a.1.lock.kind, .string a.1.lock.term, .int .i64 a.1.lock.n, .slice a.2.1 a.1.lock.kids.length a.2.2] 66)).alloc (.cells #[.int .i64 b.1.value, .int .u8 b.1.lock.kind, .string b.1.lock.term, .int .i64 b.1.lock.n, .slice b.2.1 b.1.lock.kids.length b.2.2] 66)).alloc (.cells #[.slice none 0 0, .slice none 0 0, .int .i64 0, .int .i64 0] 45)).cell? ⟨w.heap.size + 1, 8, none⟩ = some (.int .i64 d.minH) := cell_of (j := 8) H1.out rfl
  clear hb0 hk hpt hR
  go_enter Tryz.func33, Tryz.ntmps33
  go_wp2_with fail
  generalize (((((w.alloc (.cells #[.string tx, .int .i64 pn] 35)).alloc (.cells #[.int .i64 d.cap, .int .i64 d.push, .int .i64 d.dust, .int .i64 d.res, .int .i64 d.rate, .int .i64 d.delay, .int .i64 d.maxH, .int .i64 d.flight, .int .i64 d.minH] 23)).alloc (.cells #[.int .i64 a.1.value, .int .u8 a.1.lock.kind, .string a.1.lock.term, .int .i64 a.1.lock.n, .slice a.2.1 a.1.lock.kids.length a.2.2] 66)).alloc (.cells #[.int .i64 b.1.value, .int .u8 b.1.lock.kind, .string b.1.lock.term, .int .i64 b.1.lock.n, .slice b.2.1 b.1.lock.kids.length b.2.2] 66)).alloc (.cells #[.slice none 0 0, .slice none 0 0, .int .i64 0, .int .i64 0] 45)) = V at HB H0 H1 H2 H3 H4 hs5 d0 d1 d2 d3 d4 d5 d6 d7 d8 ⊢
  go_wp2_with fail
  refine (HR.out _).mono ?_
  rintro e w1 ⟨rfl, hb1⟩
  have h0 := (hb1.block _ (lt_of_block H0.out)).trans H0.out
  have h1 := (hb1.block _ (lt_of_block H1.out)).trans H1.out
  have h2 := (hb1.block _ (lt_of_block H2.out)).trans H2.out
  have h3 := (hb1.block _ (lt_of_block H3.out)).trans H3.out
  have h4 := H4.out.below hb1
  have HB1 := Lib.hid (HB.out.trans (hb1.mono HB.out.size))
  have hs1 : w.heap.size + 1 + 1 + 1 + 1 + 1 ≤ w1.heap.size := by have := hb1.size; omega
  have G0 := Lib.hid h0
  have G1 := Lib.hid h1
  have G2 := Lib.hid h2
  have G3 := Lib.hid h3
  have G4 := Lib.hid h4
  clear hb1 h0 h1 h2 h3 h4 HB H0 H1 H2 H3 H4 hs5 d0 d1 d2 d3 d4 d5 d6 d7 d8
  by_cases hd : dealE d = 0
  · have HRE2 := Lib.hid (show ((wholeE tx pn ((linesO d [a, b]).map (·.1)) 0).1, (wholeE tx pn ((linesO d [a, b]).map (·.1)) 0).2.2) = R by rw [← HRE.out, if_pos hd])
    have hdz : (dealE d != 0) = false := by simp [hd]
    clear hd
    have a0 : w1.cell? ⟨w.heap.size + 1 + 1, 0, none⟩ = some (.int .i64 a.1.value) := cell_of (j := 0) G2.out rfl
    have a1 : w1.cell? ⟨w.heap.size + 1 + 1, 1, none⟩ = some (.int .u8 a.1.lock.kind) := cell_of (j := 1) G2.out rfl
    have a2 : w1.cell? ⟨w.heap.size + 1 + 1, 2, none⟩ = some (.string a.1.lock.term) := cell_of (j := 2) G2.out rfl
    have a3 : w1.cell? ⟨w.heap.size + 1 + 1, 3, none⟩ = some (.int .i64 a.1.lock.n) := cell_of (j := 3) G2.out rfl
    have a4 : w1.cell? ⟨w.heap.size + 1 + 1, 4, none⟩ = some (.slice a.2.1 a.1.lock.kids.length a.2.2) := cell_of (j := 4) G2.out rfl
    have b0 : w1.cell? ⟨w.heap.size + 1 + 1 + 1, 0, none⟩ = some (.int .i64 b.1.value) := cell_of (j := 0) G3.out rfl
    have b1 : w1.cell? ⟨w.heap.size + 1 + 1 + 1, 1, none⟩ = some (.int .u8 b.1.lock.kind) := cell_of (j := 1) G3.out rfl
    have b2 : w1.cell? ⟨w.heap.size + 1 + 1 + 1, 2, none⟩ = some (.string b.1.lock.term) := cell_of (j := 2) G3.out rfl
    have b3 : w1.cell? ⟨w.heap.size + 1 + 1 + 1, 3, none⟩ = some (.int .i64 b.1.lock.n) := cell_of (j := 3) G3.out rfl
    have b4 : w1.cell? ⟨w.heap.size + 1 + 1 + 1, 4, none⟩ = some (.slice b.2.1 b.1.lock.kids.length b.2.2) := cell_of (j := 4) G3.out rfl
    go_wp2_with fail
    have hbr : Below w1.heap.size w1 (w1.alloc (.cells #[.int .i64 a.1.value, .int .u8 a.1.lock.kind, .string a.1.lock.term, .int .i64 a.1.lock.n, .slice a.2.1 a.1.lock.kids.length a.2.2, .int .i64 b.1.value, .int .u8 b.1.lock.kind, .string b.1.lock.term, .int .i64 b.1.lock.n, .slice b.2.1 b.1.lock.kids.length b.2.2] 66)) := (Below.refl _ _).alloc (Nat.le_refl _) _
    have hro : (w1.alloc (.cells #[.int .i64 a.1.value, .int .u8 a.1.lock.kind, .string a.1.lock.term, .int .i64 a.1.lock.n, .slice a.2.1 a.1.lock.kids.length a.2.2, .int .i64 b.1.value, .int .u8 b.1.lock.kind, .string b.1.lock.term, .int .i64 b.1.lock.n, .slice b.2.1 b.1.lock.kids.length b.2.2] 66)).heap[w1.heap.size]? = some (.cells #[.int .i64 a.1.value, .int .u8 a.1.lock.kind, .string a.1.lock.term, .int .i64 a.1.lock.n, .slice a.2.1 a.1.lock.kids.length a.2.2, .int .i64 b.1.value, .int .u8 b.1.lock.kind, .string b.1.lock.term, .int .i64 b.1.lock.n, .slice b.2.1 b.1.lock.kids.length b.2.2] 66) := Go.heap_alloc_new w1 _
    have HCO := Lib.hid (show Cells (w1.alloc (.cells #[.int .i64 a.1.value, .int .u8 a.1.lock.kind, .string a.1.lock.term, .int .i64 a.1.lock.n, .slice a.2.1 a.1.lock.kids.length a.2.2, .int .i64 b.1.value, .int .u8 b.1.lock.kind, .string b.1.lock.term, .int .i64 b.1.lock.n, .slice b.2.1 b.1.lock.kids.length b.2.2] 66)) (some ⟨w1.heap.size, 0, none⟩) ([a, b].flatMap outC) by
      have := fresh_cells w1 #[.int .i64 a.1.value, .int .u8 a.1.lock.kind, .string a.1.lock.term, .int .i64 a.1.lock.n, .slice a.2.1 a.1.lock.kids.length a.2.2, .int .i64 b.1.value, .int .u8 b.1.lock.kind, .string b.1.lock.term, .int .i64 b.1.lock.n, .slice b.2.1 b.1.lock.kids.length b.2.2] 66
      simpa [outC] using this)
    have h0 := (hbr.block _ (lt_of_block G0.out)).trans G0.out
    have h1 := (hbr.block _ (lt_of_block G1.out)).trans G1.out
    have h4 := G4.out.below hbr
    have HB2 := Lib.hid (HB1.out.trans (hbr.mono HB1.out.size))
    have hs2 : w.heap.size + 1 + 1 + 1 + 1 + 1 ≤ (w1.alloc (.cells #[.int .i64 a.1.value, .int .u8 a.1.lock.kind, .string a.1.lock.term, .int .i64 a.1.lock.n, .slice a.2.1 a.1.lock.kids.length a.2.2, .int .i64 b.1.value, .int .u8 b.1.lock.kind, .string b.1.lock.term, .int .i64 b.1.lock.n, .slice b.2.1 b.1.lock.kids.length b.2.2] 66)).heap.size := Nat.le_trans hs1 hbr.size
    clear hbr hro a0 b0 a1 b1 a2 b2 a3 b3 a4 b4
    generalize w1.alloc (.cells #[.int .i64 a.1.value, .int .u8 a.1.lock.kind, .string a.1.lock.term, .int .i64 a.1.lock.n, .slice a.2.1 a.1.lock.kids.length a.2.2, .int .i64 b.1.value, .int .u8 b.1.lock.kind, .string b.1.lock.term, .int .i64 b.1.lock.n, .slice b.2.1 b.1.lock.kids.length b.2.2] 66) = V2 at HCO h0 h1 h4 HB2 hs2 ⊢
    generalize (⟨w1.heap.size, 0, none⟩ : Addr) = la at HCO ⊢
    have F0 := Lib.hid h0
    have F1 := Lib.hid h1
    have F4 := Lib.hid h4
    clear h0 h1 h4
    go_loopw [11, 27] (fun vl i wr => ∃ (k : Nat) (vL : Value), vL = vl ∧ k ≤ 2 ∧ i = .int .i64 (k : Int) ∧ Below V2.heap.size V2 wr ∧ wr.ownsRow V2.heap.size 81 7 vL (linesO d ([a, b].take k)).length (((linesO d ([a, b].take k)).map Prod.snd).flatMap LineR.enc)) (fun _ i _ => 2 - (intOf i).toNat)
    case atStart => exact ⟨0, _, rfl, Nat.zero_le _, rfl, Below.refl _ _, World.ownsRow_nil _ _ _ _⟩
    case round =>
      obtain ⟨k, vL, rfl, hk2, rfl, hbr, hown⟩ := hrel
      have HBR := Lib.hid hbr
      by_cases hlt : k < 2
      · have hlt2 : k < [a, b].length := hlt
        have hsn := linesO_snoc d ([a, b].take k) [a, b][k]
        rw [← List.take_succ_eq_append_getElem hlt2] at hsn
        have hcq := fun (c : Nat) (u : Value) (hc : c < 5) (hu : (outC [a, b][k])[c]? = some u) => (HCO.out.below hbr)
        obtain ⟨q, hq⟩ : ∃ q, [a, b][k] = q := ⟨_, rfl⟩
        have hcl : ∀ (c : Nat) (u : Value), c < 5 → (outC q)[c]? = some u → wr.cell? (la.add (k * 5 + c)) = some u := fun c u hc hu => by
          obtain ⟨ad, he, hcc⟩ := (HCO.out.below hbr) (by simp [outC])
          injection he with he
          subst he
          refine hcc _ _ ?_
          rw [fm_get outC 5 (fun _ => rfl) [a, b] k hlt2 c hc, hq]
          exact hu
        rw [hq] at hsn
        clear hcq
        have q0 : wr.cell? (la.add (k * 5)) = some (.int .i64 q.1.value) := hcl 0 _ (by decide) rfl
        have q1 : wr.cell? ⟨(la.add (k * 5)).block, (la.add (k * 5)).off + 1, none⟩ = some (.int .u8 q.1.lock.kind) := by rw [add_next _ _ _ (by decide)]; exact hcl 1 _ (by decide) rfl
        have q2 : wr.cell? ⟨(la.add (k * 5)).block, (la.add (k * 5)).off + 2, none⟩ = some (.string q.1.lock.term) := by rw [add_next _ _ _ (by decide)]; exact hcl 2 _ (by decide) rfl
        have q3 : wr.cell? ⟨(la.add (k * 5)).block, (la.add (k * 5)).off + 3, none⟩ = some (.int .i64 q.1.lock.n) := by rw [add_next _ _ _ (by decide)]; exact hcl 3 _ (by decide) rfl
        have q4 : wr.cell? ⟨(la.add (k * 5)).block, (la.add (k * 5)).off + 4, none⟩ = some (.slice q.2.1 q.1.lock.kids.length q.2.2) := by rw [add_next _ _ _ (by decide)]; exact hcl 4 _ (by decide) rfl
        have hbo : Below wr.heap.size wr (wr.alloc (.cells #[.int .i64 q.1.value, .int .u8 q.1.lock.kind, .string q.1.lock.term, .int .i64 q.1.lock.n, .slice q.2.1 q.1.lock.kids.length q.2.2] 66)) := (Below.refl _ _).alloc (Nat.le_refl _) _
        have hbx : (wr.alloc (.cells #[.int .i64 q.1.value, .int .u8 q.1.lock.kind, .string q.1.lock.term, .int .i64 q.1.lock.n, .slice q.2.1 q.1.lock.kids.length q.2.2] 66)).heap[wr.heap.size]? = some (.cells #[.int .i64 q.1.value, .int .u8 q.1.lock.kind, .string q.1.lock.term, .int .i64 q.1.lock.n, .slice q.2.1 q.1.lock.kids.length q.2.2] 66) := Go.heap_alloc_new wr _
        have dd : (wr.alloc (.cells #[.int .i64 q.1.value, .int .u8 q.1.lock.kind, .string q.1.lock.term, .int .i64 q.1.lock.n, .slice q.2.1 q.1.lock.kids.length q.2.2] 66)).cell? ⟨w.heap.size + 1, 2, none⟩ = some (.int .i64 d.dust) := cell_below (hbr.trans (hbo.mono hbr.size)) (cell_of (j := 2) F1.out rfl)
        have e0 : (wr.alloc (.cells #[.int .i64 q.1.value, .int .u8 q.1.lock.kind, .string q.1.lock.term, .int .i64 q.1.lock.n, .slice q.2.1 q.1.lock.kids.length q.2.2] 66)).cell? ⟨wr.heap.size, 0, none⟩ = some (.int .i64 q.1.value) := cell_of (j := 0) hbx rfl
        have e1 : (wr.alloc (.cells #[.int .i64 q.1.value, .int .u8 q.1.lock.kind, .string q.1.lock.term, .int .i64 q.1.lock.n, .slice q.2.1 q.1.lock.kids.length q.2.2] 66)).cell? ⟨wr.heap.size, 1, none⟩ = some (.int .u8 q.1.lock.kind) := cell_of (j := 1) hbx rfl
        have e2 : (wr.alloc (.cells #[.int .i64 q.1.value, .int .u8 q.1.lock.kind, .string q.1.lock.term, .int .i64 q.1.lock.n, .slice q.2.1 q.1.lock.kids.length q.2.2] 66)).cell? ⟨wr.heap.size, 2, none⟩ = some (.string q.1.lock.term) := cell_of (j := 2) hbx rfl
        have e3 : (wr.alloc (.cells #[.int .i64 q.1.value, .int .u8 q.1.lock.kind, .string q.1.lock.term, .int .i64 q.1.lock.n, .slice q.2.1 q.1.lock.kids.length q.2.2] 66)).cell? ⟨wr.heap.size, 3, none⟩ = some (.int .i64 q.1.lock.n) := cell_of (j := 3) hbx rfl
        have e4 : (wr.alloc (.cells #[.int .i64 q.1.value, .int .u8 q.1.lock.kind, .string q.1.lock.term, .int .i64 q.1.lock.n, .slice q.2.1 q.1.lock.kids.length q.2.2] 66)).cell? ⟨wr.heap.size, 4, none⟩ = some (.slice q.2.1 q.1.lock.kids.length q.2.2) := cell_of (j := 4) hbx rfl
        obtain ⟨n, hn⟩ : ∃ n, (linesO d ([a, b].take k)).length = n := ⟨_, rfl⟩
        have hnl : n ≤ 2 := by rw [← hn]; exact Nat.le_trans (linesO_len d _) (by rw [List.length_take]; omega)
        rw [hn] at hown
        by_cases hbig : d.dust ≤ q.1.value
        · have hs2' : bigO d q = true := decide_eq_true hbig
          rw [hs2', if_pos rfl] at hsn
          have HSN := Lib.hid hsn
          have HNN := Lib.hid hn
          have hbl0 : Below wr.heap.size wr ((wr.alloc (.cells #[.int .i64 q.1.value, .int .u8 q.1.lock.kind, .string q.1.lock.term, .int .i64 q.1.lock.n, .slice q.2.1 q.1.lock.kids.length q.2.2] 66)).alloc (.cells #[.int .i64 q.1.value, .int .u8 q.1.lock.kind, .string q.1.lock.term, .int .i64 q.1.lock.n, .slice q.2.1 q.1.lock.kids.length q.2.2, .int .i64 0, .string ⟨#[]⟩] 81)) := hbo.alloc hbo.size _
          have HOL := Lib.hid (show ((wr.alloc (.cells #[.int .i64 q.1.value, .int .u8 q.1.lock.kind, .string q.1.lock.term, .int .i64 q.1.lock.n, .slice q.2.1 q.1.lock.kids.length q.2.2] 66)).alloc (.cells #[.int .i64 q.1.value, .int .u8 q.1.lock.kind, .string q.1.lock.term, .int .i64 q.1.lock.n, .slice q.2.1 q.1.lock.kids.length q.2.2, .int .i64 0, .string ⟨#[]⟩] 81)).ownsRow V2.heap.size 81 7 vL n (((linesO d ([a, b].take k)).map Prod.snd).flatMap LineR.enc) from own_below hown hbl0)
          have HFC := Lib.hid (show Cells ((wr.alloc (.cells #[.int .i64 q.1.value, .int .u8 q.1.lock.kind, .string q.1.lock.term, .int .i64 q.1.lock.n, .slice q.2.1 q.1.lock.kids.length q.2.2] 66)).alloc (.cells #[.int .i64 q.1.value, .int .u8 q.1.lock.kind, .string q.1.lock.term, .int .i64 q.1.lock.n, .slice q.2.1 q.1.lock.kids.length q.2.2, .int .i64 0, .string ⟨#[]⟩] 81)) (some ⟨wr.heap.size + 1, 0, none⟩) [.int .i64 q.1.value, .int .u8 q.1.lock.kind, .string q.1.lock.term, .int .i64 q.1.lock.n, .slice q.2.1 q.1.lock.kids.length q.2.2, .int .i64 0, .string ⟨#[]⟩] by
            have := fresh_cells (wr.alloc (.cells #[.int .i64 q.1.value, .int .u8 q.1.lock.kind, .string q.1.lock.term, .int .i64 q.1.lock.n, .slice q.2.1 q.1.lock.kids.length q.2.2] 66)) #[.int .i64 q.1.value, .int .u8 q.1.lock.kind, .string q.1.lock.term, .int .i64 q.1.lock.n, .slice q.2.1 q.1.lock.kids.length q.2.2, .int .i64 0, .string ⟨#[]⟩] 81
            simpa using this)
          have HBL := Lib.hid (hbr.trans (hbl0.mono hbr.size))
          have hsz1 : V2.heap.size ≤ ((wr.alloc (.cells #[.int .i64 q.1.value, .int .u8 q.1.lock.kind, .string q.1.lock.term, .int .i64 q.1.lock.n, .slice q.2.1 q.1.lock.kids.length q.2.2] 66)).alloc (.cells #[.int .i64 q.1.value, .int .u8 q.1.lock.kind, .string q.1.lock.term, .int .i64 q.1.lock.n, .slice q.2.1 q.1.lock.kids.length q.2.2, .int .i64 0, .string ⟨#[]⟩] 81)).heap.size := Nat.le_trans hbr.size hbl0.size
          have hn1 : (n + 1) * 88 ≤ 140737488355328 := by omega
          have hn2 : n + 1 ≤ 140737488355328 := by omega
          have HN1 := Lib.hid hn1
          have HN2 := Lib.hid hn2
          have HSZ := Lib.hid hsz1
          clear hn hn1 hn2 hsn hbo hbx hbl0 hown hsz1 hs2'
          go_wp2_with (at_builtin; refine wpList_appk slLine rfl _ _ rfl V2.heap.size _ n _ rfl HOL.out (some ⟨wr.heap.size + 1, 0, none⟩) 1 1 [.int .i64 q.1.value, .int .u8 q.1.lock.kind, .string q.1.lock.term, .int .i64 q.1.lock.n, .slice q.2.1 q.1.lock.kids.length q.2.2, .int .i64 0, .string ⟨#[]⟩] rfl rfl HFC.out (LineR.enc_one (lineOf q).2) HN1.out HN2.out HSZ.out ?_; intro v' w6 hown hgr hbl hat)
          have hend : w6.ownsRow V2.heap.size 81 7 v' (linesO d ([a, b].take (k + 1))).length (((linesO d ([a, b].take (k + 1))).map Prod.snd).flatMap LineR.enc) := by
            rw [HSN.out, List.length_append, List.map_append, List.flatMap_append, HNN.out]
            exact hown
          have HEND := Lib.hid hend
          have HBE := Lib.hid (HBL.out.trans hbl)
          clear hend hown hgr hbl hat
          go_roundw
          case rel => exact ⟨k + 1, v', rfl, by omega, by go_num, HBE.out, HEND.out⟩
          case measure => simp [intOf]; omega
        · have hs2' : bigO d q = false := decide_eq_false hbig
          rw [hs2', if_neg (by decide)] at hsn
          rw [← hn, ← hsn] at hown
          have HEND := Lib.hid (show (wr.alloc (.cells #[.int .i64 q.1.value, .int .u8 q.1.lock.kind, .string q.1.lock.term, .int .i64 q.1.lock.n, .slice q.2.1 q.1.lock.kids.length q.2.2] 66)).ownsRow V2.heap.size 81 7 vL (linesO d ([a, b].take (k + 1))).length (((linesO d ([a, b].take (k + 1))).map Prod.snd).flatMap LineR.enc) from own_below hown hbo)
          have HBE := Lib.hid (hbr.trans (hbo.mono hbr.size))
          clear hn hsn hbo hbx hown hs2'
          go_wp2_with fail
          go_roundw
          case rel => exact ⟨k + 1, vL, rfl, by omega, by go_num, HBE.out, HEND.out⟩
          case measure => simp [intOf]; omega
      · have hkn : k = 2 := by omega
        subst hkn
        have hown2 : wr.ownsRow V2.heap.size 81 7 vL (linesO d [a, b]).length (((linesO d [a, b]).map Prod.snd).flatMap LineR.enc) := hown
        have hbw := HB2.out.trans (hbr.mono HB2.out.size)
        have p0 : wr.cell? ⟨w.heap.size, 0, none⟩ = some (.string tx) := cell_below hbr (cell_of (j := 0) F0.out rfl)
        have p1 : wr.cell? ⟨w.heap.size, 1, none⟩ = some (.int .i64 pn) := cell_below hbr (cell_of (j := 1) F0.out rfl)
        have hwq := whole_q tx pn 0 (linesO d [a, b]) vL V2.heap.size w wr (by omega) hbw HB2.out.size hown2 (fun r hr => (HKK.out r hr).mono hbw (DepEq.below hbw)) HPT.out htx HV.out HT.out
        have h4 := F4.out.below hbr
        have HWQ := Lib.hid hwq
        have HBW := Lib.hid hbw
        have H4 := Lib.hid h4
        have hv4 : w.heap.size + 1 + 1 + 1 + 1 + 1 ≤ V2.heap.size := hs2
        have hv5 := hbr.size
        have hv6 := HB2.out.size
        clear hwq hbw h4 hown hown2 hbr hlt hk2
        go_wp2_with fail
        refine HWQ.out.mono ?_
        rintro e wA ⟨t, ws, rfl, ⟨A, ca, B, cb, rfl, hT⟩, -, F, hFb, hfA⟩
        have HT2 := Lib.hid hT
        have hbA : TxBox wA (w.heap.size + 1 + 1 + 1 + 1) none 0 0 none 0 0 0 0 := (hfA.block _ (lt_of_block H4.out) (fun h => by have := hFb _ h; omega)).trans H4.out
        have hBA : Below w.heap.size w wA := HBW.out.trans (hfA.toBelowOf (B := w.heap.size) HBW.out.size (fun i hi => Nat.le_trans hv6 (hFb i hi)))
        obtain ⟨t1, e1, hR1, hR2⟩ : ∃ t1 e1, (wholeE tx pn ((linesO d [a, b]).map (·.1)) 0).1 = t1 ∧ (wholeE tx pn ((linesO d [a, b]).map (·.1)) 0).2.2 = e1 := ⟨_, _, rfl, rfl⟩
        rw [hR1] at HT2 ⊢
        rw [hR1, hR2] at HRE2
        rw [hR2]
        have HBA := Lib.hid hbA
        have HBB := Lib.hid hBA
        have hb7 : Below wA.heap.size wA (wA.alloc (.cells #[.slice A t1.ins.length ca, .slice B t1.outs.length cb, .int .i64 t1.after, .int .i64 t1.tag] 45)) := (Below.refl _ _).alloc (Nat.le_refl _) _
        have hx7 : TxBox (wA.alloc (.cells #[.slice A t1.ins.length ca, .slice B t1.outs.length cb, .int .i64 t1.after, .int .i64 t1.tag] 45)) wA.heap.size A t1.ins.length ca B t1.outs.length cb t1.after t1.tag := Go.heap_alloc_new wA _
        obtain ⟨y0, y1, y2, y3⟩ := hx7.cells
        have h47 := HBA.out.below hb7
        obtain ⟨z0, z1, z2, z3⟩ := h47.cells
        have zf := h47.frozen
        have H47 := Lib.hid h47
        have HB7 := Lib.hid hb7
        clear hT hbA hBA hfA hFb hR1 hR2 p0 p1 hb7 hx7 h47
        go_wp2_with fail
        change bodyPost _ _ _ _ _ (putL (wA.alloc (.cells #[.slice A t1.ins.length ca, .slice B t1.outs.length cb, .int .i64 t1.after, .int .i64 t1.tag] 45)) (w.heap.size + 1 + 1 + 1 + 1) (.slice A t1.ins.length ca) (.slice B t1.outs.length cb) (.int .i64 t1.after) (.int .i64 t1.tag))
        generalize wA.alloc (.cells #[.slice A t1.ins.length ca, .slice B t1.outs.length cb, .int .i64 t1.after, .int .i64 t1.tag] 45) = WB at H47 HB7 ⊢
        have hP := H47.out.put A t1.ins.length ca B t1.outs.length cb t1.after t1.tag
        have hF := putL_fr WB (w.heap.size + 1 + 1 + 1 + 1) (.slice A t1.ins.length ca) (.slice B t1.outs.length cb) (.int .i64 t1.after) (.int .i64 t1.tag) (F := [w.heap.size + 1 + 1 + 1 + 1]) (List.mem_singleton.2 rfl)
        generalize putL WB (w.heap.size + 1 + 1 + 1 + 1) (.slice A t1.ins.length ca) (.slice B t1.outs.length cb) (.int .i64 t1.after) (.int .i64 t1.tag) = Wf at hP hF ⊢
        have hBB := HBB.out.trans (HB7.out.mono HBB.out.size)
        have hBt := hF.toBelowOf (B := w.heap.size) hBB.size (fun i hi => by rw [List.mem_singleton.1 hi]; omega)
        have hSt := (Stay.below HB7.out).trans (stay_tx H47.out hF)
        obtain ⟨u0, u1, u2, u3⟩ := hP.cells
        rw [← HRE2.out]
        exact bodyPost_ret (v := .tuple #[.agg #[.slice A t1.ins.length ca, .slice B t1.outs.length cb, .int .i64 t1.after, .int .i64 t1.tag], .int .i64 e1]) (by simp [results, Tryz.results33, go_sem, u0, u1, u2, u3]) rfl ⟨_, rfl, ⟨A, ca, B, cb, rfl, fun W x y => HT2.out W (((HB7.out.mono HBB.out.size).trans hBt).trans x) (hSt.trans y)⟩, hBB.trans hBt⟩
  · have HRE2 := Lib.hid (show (zeroTx, dealE d) = R by rw [← HRE.out, if_neg hd])
    have hdz : (dealE d != 0) = true := by simp [hd]
    obtain ⟨z0, z1, z2, z3⟩ := G4.out.cells
    have zf := G4.out.frozen
    obtain ⟨de, hde⟩ : ∃ de, dealE d = de := ⟨_, rfl⟩
    rw [hde] at hdz HRE2 ⊢
    clear hd hde
    go_wp2_with fail
    change bodyPost _ _ _ _ _ (putL w1 (w.heap.size + 1 + 1 + 1 + 1) (.slice none 0 0) (.slice none 0 0) (.int .i64 0) (.int .i64 0))
    have hP := G4.out.put none 0 0 none 0 0 0 0
    have hF := putL_fr w1 (w.heap.size + 1 + 1 + 1 + 1) (.slice none 0 0) (.slice none 0 0) (.int .i64 0) (.int .i64 0) (F := [w.heap.size + 1 + 1 + 1 + 1]) (List.mem_singleton.2 rfl)
    generalize putL w1 (w.heap.size + 1 + 1 + 1 + 1) (.slice none 0 0) (.slice none 0 0) (.int .i64 0) (.int .i64 0) = Wf at hP hF ⊢
    obtain ⟨u0, u1, u2, u3⟩ := hP.cells
    rw [← HRE2.out]
    exact bodyPost_ret (v := .tuple #[.agg #[.slice none 0 0, .slice none 0 0, .int .i64 0, .int .i64 0], .int .i64 de]) (by simp [results, Tryz.results33, go_sem, u0, u1, u2, u3]) rfl ⟨_, rfl, TxF.zero _ _, HB1.out.trans (hF.toBelowOf HB1.out.size (fun i hi => by rw [List.mem_singleton.1 hi]; omega))⟩
end Go.Proofs.YtncniomiplnaaaaGreatDoor

namespace Go.Proofs.YtncniomiplnaaaaGreatDoor
open Go.RowKit Go.Sort

theorem eqPtD (d : Nat) (s : ByteArray) (p : Int) (w : World) : (Op.equalIn (d + 2) 35 (.agg #[.string s, .int .i64 p]) (.agg #[.string s, .int .i64 p])).run Tryz.prog w = .ok true w := by
  have u1 := Tryz.underlying9
  have u2 := Tryz.underlying3
  have hS : Tryz.prog.underlying 35 = some (.struct (Tryz.prog.fieldsOf 35)) := by kernel_rfl
  rw [run_equalIn_agg w (d + 1) _ _ _ hS (by kernel_rfl)]
  simp only [Program.fieldsOf, Tryz.underlying35]
  go_simp
theorem eqInD (x : InT) (w : World) : (Op.equalIn 10000 90 (.agg #[.string x.tx, .int .i64 x.pn, .int .i64 x.age]) (.agg #[.string x.tx, .int .i64 x.pn, .int .i64 x.age])).run Tryz.prog w = .ok true w := by
  have u2 := Tryz.underlying3
  have hS : Tryz.prog.underlying 90 = some (.struct (Tryz.prog.fieldsOf 90)) := by kernel_rfl
  have hp := fun w => eqPtD 9997 x.tx x.pn w
  rw [run_equalIn_agg w 9999 _ _ _ hS (by kernel_rfl)]
  simp only [Program.fieldsOf, Tryz.underlying90]
  go_simp
theorem binIn (x : InT) (w : World) : (binOp .neq 90 (.agg #[.string x.tx, .int .i64 x.pn, .int .i64 x.age]) (.agg #[.string x.tx, .int .i64 x.pn, .int .i64 x.age])).run Tryz.prog w = .ok (.bool false) w := by
  have h := eqInD x w
  simp [binOp, Op.equal, Op.maxDepth, h, Result.andThen]
set_option maxRecDepth 100000 in
set_option maxHeartbeats 16000000 in
theorem sameTx_eq (t : TxT) (A1 B1 A2 B2 : Option Addr) (ca1 cb1 ca2 cb2 : Nat) (w : World) (hs : ∀ o ∈ t.outs, smallT o.lock) (hl : t.ins.length ≤ 1000000) (hl2 : t.outs.length ≤ 1000000) (h1 : TxC w t A1 B1) (h2 : TxC w t A2 B2) :
    Calls Tryz.prog 18 #[.agg #[.slice A1 t.ins.length ca1, .slice B1 t.outs.length cb1, .int .i64 t.after, .int .i64 t.tag], .agg #[.slice A2 t.ins.length ca2, .slice B2 t.outs.length cb2, .int .i64 t.after, .int .i64 t.tag]] w fun e w' => e = .returned (.bool true) ∧ Below w.heap.size w w' := by
  have hb0 : Below w.heap.size w ((w.alloc (.cells #[.slice A1 t.ins.length ca1, .slice B1 t.outs.length cb1, .int .i64 t.after, .int .i64 t.tag] 45)).alloc (.cells #[.slice A2 t.ins.length ca2, .slice B2 t.outs.length cb2, .int .i64 t.after, .int .i64 t.tag] 45)) := ((Below.refl w.heap.size w).alloc (Nat.le_refl _) (.cells #[.slice A1 t.ins.length ca1, .slice B1 t.outs.length cb1, .int .i64 t.after, .int .i64 t.tag] 45)).alloc (by simp) (.cells #[.slice A2 t.ins.length ca2, .slice B2 t.outs.length cb2, .int .i64 t.after, .int .i64 t.tag] 45)
  have HB := Lib.hid hb0
  have HX := Lib.hid (show TxBox ((w.alloc (.cells #[.slice A1 t.ins.length ca1, .slice B1 t.outs.length cb1, .int .i64 t.after, .int .i64 t.tag] 45)).alloc (.cells #[.slice A2 t.ins.length ca2, .slice B2 t.outs.length cb2, .int .i64 t.after, .int .i64 t.tag] 45)) w.heap.size A1 t.ins.length ca1 B1 t.outs.length cb1 t.after t.tag from allocs_at [(.cells #[.slice A1 t.ins.length ca1, .slice B1 t.outs.length cb1, .int .i64 t.after, .int .i64 t.tag] 45), (.cells #[.slice A2 t.ins.length ca2, .slice B2 t.outs.length cb2, .int .i64 t.after, .int .i64 t.tag] 45)] w 0 _ rfl)
  have HY := Lib.hid (show TxBox ((w.alloc (.cells #[.slice A1 t.ins.length ca1, .slice B1 t.outs.length cb1, .int .i64 t.after, .int .i64 t.tag] 45)).alloc (.cells #[.slice A2 t.ins.length ca2, .slice B2 t.outs.length cb2, .int .i64 t.after, .int .i64 t.tag] 45)) (w.heap.size + 1) A2 t.ins.length ca2 B2 t.outs.length cb2 t.after t.tag from allocs_at [(.cells #[.slice A1 t.ins.length ca1, .slice B1 t.outs.length cb1, .int .i64 t.after, .int .i64 t.tag] 45), (.cells #[.slice A2 t.ins.length ca2, .slice B2 t.outs.length cb2, .int .i64 t.after, .int .i64 t.tag] 45)] w 1 _ rfl)
  have HC := Lib.hid (h1.below hb0)
  have HD := Lib.hid (h2.below hb0)
  have HS := Lib.hid hs
  have hwl : w.heap.size + 1 < ((w.alloc (.cells #[.slice A1 t.ins.length ca1, .slice B1 t.outs.length cb1, .int .i64 t.after, .int .i64 t.tag] 45)).alloc (.cells #[.slice A2 t.ins.length ca2, .slice B2 t.outs.length cb2, .int .i64 t.after, .int .i64 t.tag] 45)).heap.size := by simp
  clear hb0 h1 h2 hs
  have e1 : (t.after != t.after) = false := by simp
  have e2 : (t.tag != t.tag) = false := by simp
  have e3 : ((t.ins.length : Int) != (t.ins.length : Int)) = false := by simp
  have e4 : ((t.outs.length : Int) != (t.outs.length : Int)) = false := by simp
  obtain ⟨x0, x1, x2, x3⟩ := HX.out.cells
  obtain ⟨y0, y1, y2, y3⟩ := HY.out.cells
  go_enter Tryz.func18, Tryz.ntmps18
  go_wp2_with fail
  generalize ((w.alloc (.cells #[.slice A1 t.ins.length ca1, .slice B1 t.outs.length cb1, .int .i64 t.after, .int .i64 t.tag] 45)).alloc (.cells #[.slice A2 t.ins.length ca2, .slice B2 t.outs.length cb2, .int .i64 t.after, .int .i64 t.tag] 45)) = V at HB HX HY HC HD hwl x0 x1 x2 x3 y0 y1 y2 y3 ⊢
  go_wp2_with fail
  go_loopw [5] (fun i wr => ∃ k m : Nat, k ≤ t.ins.length ∧ i = .int .i64 (k : Int) ∧ wr = V.drewN m) (fun i _ => t.ins.length - (intOf i).toNat)
  case atStart => exact ⟨0, 0, Nat.zero_le _, rfl, rfl⟩
  case round =>
    obtain ⟨k, m, hk, rfl, rfl⟩ := hrel
    by_cases hlt : k < t.ins.length
    · obtain ⟨ad, rfl, a0, a1, a2⟩ := in_at HC.out.1 hlt
      obtain ⟨bd, rfl, b0, b1, b2⟩ := in_at HD.out.1 hlt
      obtain ⟨x, hx⟩ : ∃ x, t.ins[k] = x := ⟨_, rfl⟩
      rw [hx] at a0 a1 a2 b0 b1 b2
      clear hx
      go_upto_region 6 with fail
      have hbp := fun W => binIn x W
      go_quiet (fail)
      clear hbp
      go_wp2_with fail
      go_roundw
      case rel => exact ⟨k + 1, _, by omega, by go_num, rfl⟩
      case measure => simp [intOf]; omega
    · have hkn : k = t.ins.length := by omega
      subst hkn
      clear hlt hk
      go_wp2_with fail
      go_loopw [6] (fun i wr => ∃ k : Nat, k ≤ t.outs.length ∧ i = .int .i64 (k : Int) ∧ Below V.heap.size V wr) (fun i _ => t.outs.length - (intOf i).toNat)
      case atStart => exact ⟨0, Nat.zero_le _, rfl, below_drewN (Below.refl _ _) _⟩
      case round =>
        obtain ⟨k, hk, rfl, hbr⟩ := hrel
        have HBR := Lib.hid hbr
        have hX := HX.out.below hbr
        have hY := HY.out.below hbr
        by_cases hlt : k < t.outs.length
        · obtain ⟨-, ys, hy1, hy2⟩ := HC.out.below hbr
          obtain ⟨-, zs, hz1, hz2⟩ := HD.out.below hbr
          obtain ⟨ad, P, cp, rfl, a0, a1, a2, a3, a4, hla⟩ := out_at hy1 hy2 hlt
          obtain ⟨bd, Q, cq, rfl, b0, b1, b2, b3, b4, hlb⟩ := out_at hz1 hz2 hlt
          have hsm := HS.out t.outs[k] (List.getElem_mem hlt)
          obtain ⟨o, ho⟩ : ∃ o, t.outs[k] = o := ⟨_, rfl⟩
          rw [ho] at a0 a1 a2 a3 a4 b0 b1 b2 b3 b4 hla hlb hsm
          have e5 : (o.value != o.value) = false := by simp
          have R := fun {a : Addr} {v : Value} (h : wr.cell? a = some v) (dd : Nat) (os : Array Obj) => (cell_regrown h dd os : (grow (redrawn wr dd) os).cell? a = some v)
          have xs1 := R hX.cells.2.1
          have ys1 := R hY.cells.2.1
          have ra0 := R a0
          have ra1 := R a1
          have ra2 := R a2
          have ra3 := R a3
          have ra4 := R a4
          have rb0 := R b0
          have rb1 := R b1
          have rb2 := R b2
          have rb3 := R b3
          have rb4 := R b4
          have HL := Lib.hid (fun dd os => sameLock_eq o.lock _ _ (grow (redrawn wr dd) os) hsm (LockC.below (below_regrown wr dd os) _ _ hla) (LockC.below (below_regrown wr dd os) _ _ hlb))
          clear ho hla hlb hsm hy1 hy2 hz1 hz2 R a0 a1 a2 a3 a4 b0 b1 b2 b3 b4 x0 x1 x2 x3 y0 y1 y2 y3
          have hX1 := hX.cells.2.1
          have hY1 := hY.cells.2.1
          clear hX hY hbr
          go_upto_region 11 with fail
          refine wp_region_quiet_below (by kernel_rfl) (by kernel_rfl) ?_
          repeat (quiet_step (first
            | (go_at_call 20; exact Calls.regrown_of (HL.out _ _))))
          refine wpQuiet_nil ?_
          intro _ hw'
          obtain ⟨⟨nq, osq⟩, hw''⟩ := hw'
          subst hw''
          have HBF := Lib.hid (HBR.out.trans ((below_regrown wr nq osq).mono HBR.out.size))
          go_wp2_with fail
          go_roundw
          case rel => exact ⟨k + 1, by omega, by go_num, HBF.out⟩
          case measure => simp [intOf]; omega
        · obtain ⟨xx0, xx1, xx2, xx3⟩ := hX.cells
          clear hX hY x0 x1 x2 x3 y0 y1 y2 y3 hbr
          go_wp2_with fail
          go_ret
          exact ⟨rfl, HB.out.trans (HBR.out.mono HB.out.size)⟩
end Go.Proofs.YtncniomiplnaaaaGreatDoor

namespace Go.Proofs.YtncniomiplnaaaaGreatDoor
open Go.RowKit

theorem rwhole_q (tx : ByteArray) (pn tag : Int) (ps : List (LineP × LineR)) (vL : Value) (base : Nat) (v w : World) (hn : ps.length ≤ 1000) (hbv : Below v.heap.size v w) (hvb : v.heap.size ≤ base) (hown : w.ownsRow base 87 6 vL ps.length ((ps.map Prod.snd).flatMap encD)) (hps : ∀ q ∈ ps, LineK v.heap.size w q) (hpt : ptOk ⟨tx, pn, 0⟩) (htx : tx.size ≤ 1125899906842624) :
    Calls Tryz.prog 45 #[.agg #[.string tx, .int .i64 pn], vL, .int .i64 tag] w fun e w' => ∃ t ws, e = .returned (.tuple #[t, ws, .int .i64 (wholeE tx pn (ps.map (·.1)) tag).2.2]) ∧ TxF v.heap.size w' (wholeE tx pn (ps.map (·.1)) tag).1 t ∧ IntsF w' (wholeE tx pn (ps.map (·.1)) tag).2.1 ws ∧ ∃ F : List Nat, (∀ g ∈ F, base ≤ g) ∧ Fr F w w' := by
  obtain ⟨A, c, rfl, -, hc⟩ := own_shape hown
  rcases Nat.eq_zero_or_pos ps.length with h0 | h1
  · obtain rfl : ps = [] := List.eq_nil_of_length_eq_zero h0
    refine (rwhole_nil tx pn tag A c w).mono ?_
    rintro e w' ⟨rfl, hb⟩
    exact ⟨_, _, rfl, TxF.zero _ _, IntsF.nil _, [], by simp, Fr.below hb⟩
  · refine (rwhole_any tx pn tag ps A c v w hbv.size hn h1 hc hps hpt htx).mono ?_
    rintro e w' ⟨t, ws, rfl, a1, a2, a3⟩
    exact ⟨t, ws, rfl, a1, a2, [], by simp, Fr.below a3⟩
set_option maxRecDepth 100000 in
set_option maxHeartbeats 16000000 in
theorem rclose_any (tx : ByteArray) (pn : Int) (d : DealR) (a b : OutQ) (w : World) (hpt : ptOk ⟨tx, pn, 0⟩) (htx : tx.size ≤ 1125899906842624) (hk : ∀ q ∈ [a, b], smallT q.1.lock ∧ LockC w q.1.lock [.int .u8 q.1.lock.kind, .string q.1.lock.term, .int .i64 q.1.lock.n, .slice q.2.1 q.1.lock.kids.length q.2.2]) :
    Calls Tryz.prog 34 #[.agg #[.string tx, .int .i64 pn], dealV d, outV a, outV b] w fun e w' => ∃ t, e = .returned (.tuple #[t, .int .i64 (closeE tx pn d [a, b]).2]) ∧ TxF w.heap.size w' (closeE tx pn d [a, b]).1 t ∧ Below w.heap.size w w' := by
  unfold dealV outV
  have hb0 : Below w.heap.size w (((((w.alloc (.cells #[.string tx, .int .i64 pn] 35)).alloc (.cells #[.int .i64 d.cap, .int .i64 d.push, .int .i64 d.dust, .int .i64 d.res, .int .i64 d.rate, .int .i64 d.delay, .int .i64 d.maxH, .int .i64 d.flight, .int .i64 d.minH] 23)).alloc (.cells #[.int .i64 a.1.value, .int .u8 a.1.lock.kind, .string a.1.lock.term, .int .i64 a.1.lock.n, .slice a.2.1 a.1.lock.kids.length a.2.2] 66)).alloc (.cells #[.int .i64 b.1.value, .int .u8 b.1.lock.kind, .string b.1.lock.term, .int .i64 b.1.lock.n, .slice b.2.1 b.1.lock.kids.length b.2.2] 66)).alloc (.cells #[.slice none 0 0, .slice none 0 0, .int .i64 0, .int .i64 0] 45)) := (((((Below.refl w.heap.size w).alloc (Nat.le_refl _) (.cells #[.string tx, .int .i64 pn] 35)).alloc (by simp) (.cells #[.int .i64 d.cap, .int .i64 d.push, .int .i64 d.dust, .int .i64 d.res, .int .i64 d.rate, .int .i64 d.delay, .int .i64 d.maxH, .int .i64 d.flight, .int .i64 d.minH] 23)).alloc (by simp; try omega) (.cells #[.int .i64 a.1.value, .int .u8 a.1.lock.kind, .string a.1.lock.term, .int .i64 a.1.lock.n, .slice a.2.1 a.1.lock.kids.length a.2.2] 66)).alloc (by simp; try omega) (.cells #[.int .i64 b.1.value, .int .u8 b.1.lock.kind, .string b.1.lock.term, .int .i64 b.1.lock.n, .slice b.2.1 b.1.lock.kids.length b.2.2] 66)).alloc (by simp; try omega) (.cells #[.slice none 0 0, .slice none 0 0, .int .i64 0, .int .i64 0] 45)
  have HB := Lib.hid hb0
  have H0 := Lib.hid (show (((((w.alloc (.cells #[.string tx, .int .i64 pn] 35)).alloc (.cells #[.int .i64 d.cap, .int .i64 d.push, .int .i64 d.dust, .int .i64 d.res, .int .i64 d.rate, .int .i64 d.delay, .int .i64 d.maxH, .int .i64 d.flight, .int .i64 d.minH] 23)).alloc (.cells #[.int .i64 a.1.value, .int .u8 a.1.lock.kind, .string a.1.lock.term, .int .i64 a.1.lock.n, .slice a.2.1 a.1.lock.kids.length a.2.2] 66)).alloc (.cells #[.int .i64 b.1.value, .int .u8 b.1.lock.kind, .string b.1.lock.term, .int .i64 b.1.lock.n, .slice b.2.1 b.1.lock.kids.length b.2.2] 66)).alloc (.cells #[.slice none 0 0, .slice none 0 0, .int .i64 0, .int .i64 0] 45)).heap[w.heap.size]? = some (.cells #[.string tx, .int .i64 pn] 35) from allocs_at [(.cells #[.string tx, .int .i64 pn] 35), (.cells #[.int .i64 d.cap, .int .i64 d.push, .int .i64 d.dust, .int .i64 d.res, .int .i64 d.rate, .int .i64 d.delay, .int .i64 d.maxH, .int .i64 d.flight, .int .i64 d.minH] 23), (.cells #[.int .i64 a.1.value, .int .u8 a.1.lock.kind, .string a.1.lock.term, .int .i64 a.1.lock.n, .slice a.2.1 a.1.lock.kids.length a.2.2] 66), (.cells #[.int .i64 b.1.value, .int .u8 b.1.lock.kind, .string b.1.lock.term, .int .i64 b.1.lock.n, .slice b.2.1 b.1.lock.kids.length b.2.2] 66), (.cells #[.slice none 0 0, .slice none 0 0, .int .i64 0, .int .i64 0] 45)] w 0 _ rfl)
  have H1 := Lib.hid (show (((((w.alloc (.cells #[.string tx, .int .i64 pn] 35)).alloc (.cells #[.int .i64 d.cap, .int .i64 d.push, .int .i64 d.dust, .int .i64 d.res, .int .i64 d.rate, .int .i64 d.delay, .int .i64 d.maxH, .int .i64 d.flight, .int .i64 d.minH] 23)).alloc (.cells #[.int .i64 a.1.value, .int .u8 a.1.lock.kind, .string a.1.lock.term, .int .i64 a.1.lock.n, .slice a.2.1 a.1.lock.kids.length a.2.2] 66)).alloc (.cells #[.int .i64 b.1.value, .int .u8 b.1.lock.kind, .string b.1.lock.term, .int .i64 b.1.lock.n, .slice b.2.1 b.1.lock.kids.length b.2.2] 66)).alloc (.cells #[.slice none 0 0, .slice none 0 0, .int .i64 0, .int .i64 0] 45)).heap[w.heap.size + 1]? = some (.cells #[.int .i64 d.cap, .int .i64 d.push, .int .i64 d.dust, .int .i64 d.res, .int .i64 d.rate, .int .i64 d.delay, .int .i64 d.maxH, .int .i64 d.flight, .int .i64 d.minH] 23) from allocs_at [(.cells #[.string tx, .int .i64 pn] 35), (.cells #[.int .i64 d.cap, .int .i64 d.push, .int .i64 d.dust, .int .i64 d.res, .int .i64 d.rate, .int .i64 d.delay, .int .i64 d.maxH, .int .i64 d.flight, .int .i64 d.minH] 23), (.cells #[.int .i64 a.1.value, .int .u8 a.1.lock.kind, .string a.1.lock.term, .int .i64 a.1.lock.n, .slice a.2.1 a.1.lock.kids.length a.2.2] 66), (.cells #[.int .i64 b.1.value, .int .u8 b.1.lock.kind, .string b.1.lock.term, .int .i64 b.1.lock.n, .slice b.2.1 b.1.lock.kids.length b.2.2] 66), (.cells #[.slice none 0 0, .slice none 0 0, .int .i64 0, .int .i64 0] 45)] w 1 _ rfl)
  have H2 := Lib.hid (show (((((w.alloc (.cells #[.string tx, .int .i64 pn] 35)).alloc (.cells #[.int .i64 d.cap, .int .i64 d.push, .int .i64 d.dust, .int .i64 d.res, .int .i64 d.rate, .int .i64 d.delay, .int .i64 d.maxH, .int .i64 d.flight, .int .i64 d.minH] 23)).alloc (.cells #[.int .i64 a.1.value, .int .u8 a.1.lock.kind, .string a.1.lock.term, .int .i64 a.1.lock.n, .slice a.2.1 a.1.lock.kids.length a.2.2] 66)).alloc (.cells #[.int .i64 b.1.value, .int .u8 b.1.lock.kind, .string b.1.lock.term, .int .i64 b.1.lock.n, .slice b.2.1 b.1.lock.kids.length b.2.2] 66)).alloc (.cells #[.slice none 0 0, .slice none 0 0, .int .i64 0, .int .i64 0] 45)).heap[w.heap.size + 1 + 1]? = some (.cells #[.int .i64 a.1.value, .int .u8 a.1.lock.kind, .string a.1.lock.term, .int .i64 a.1.lock.n, .slice a.2.1 a.1.lock.kids.length a.2.2] 66) from allocs_at [(.cells #[.string tx, .int .i64 pn] 35), (.cells #[.int .i64 d.cap, .int .i64 d.push, .int .i64 d.dust, .int .i64 d.res, .int .i64 d.rate, .int .i64 d.delay, .int .i64 d.maxH, .int .i64 d.flight, .int .i64 d.minH] 23), (.cells #[.int .i64 a.1.value, .int .u8 a.1.lock.kind, .string a.1.lock.term, .int .i64 a.1.lock.n, .slice a.2.1 a.1.lock.kids.length a.2.2] 66), (.cells #[.int .i64 b.1.value, .int .u8 b.1.lock.kind, .string b.1.lock.term, .int .i64 b.1.lock.n, .slice b.2.1 b.1.lock.kids.length b.2.2] 66), (.cells #[.slice none 0 0, .slice none 0 0, .int .i64 0, .int .i64 0] 45)] w 2 _ rfl)
  have H3 := Lib.hid (show (((((w.alloc (.cells #[.string tx, .int .i64 pn] 35)).alloc (.cells #[.int .i64 d.cap, .int .i64 d.push, .int .i64 d.dust, .int .i64 d.res, .int .i64 d.rate, .int .i64 d.delay, .int .i64 d.maxH, .int .i64 d.flight, .int .i64 d.minH] 23)).alloc (.cells #[.int .i64 a.1.value, .int .u8 a.1.lock.kind, .string a.1.lock.term, .int .i64 a.1.lock.n, .slice a.2.1 a.1.lock.kids.length a.2.2] 66)).alloc (.cells #[.int .i64 b.1.value, .int .u8 b.1.lock.kind, .string b.1.lock.term, .int .i64 b.1.lock.n, .slice b.2.1 b.1.lock.kids.length b.2.2] 66)).alloc (.cells #[.slice none 0 0, .slice none 0 0, .int .i64 0, .int .i64 0] 45)).heap[w.heap.size + 1 + 1 + 1]? = some (.cells #[.int .i64 b.1.value, .int .u8 b.1.lock.kind, .string b.1.lock.term, .int .i64 b.1.lock.n, .slice b.2.1 b.1.lock.kids.length b.2.2] 66) from allocs_at [(.cells #[.string tx, .int .i64 pn] 35), (.cells #[.int .i64 d.cap, .int .i64 d.push, .int .i64 d.dust, .int .i64 d.res, .int .i64 d.rate, .int .i64 d.delay, .int .i64 d.maxH, .int .i64 d.flight, .int .i64 d.minH] 23), (.cells #[.int .i64 a.1.value, .int .u8 a.1.lock.kind, .string a.1.lock.term, .int .i64 a.1.lock.n, .slice a.2.1 a.1.lock.kids.length a.2.2] 66), (.cells #[.int .i64 b.1.value, .int .u8 b.1.lock.kind, .string b.1.lock.term, .int .i64 b.1.lock.n, .slice b.2.1 b.1.lock.kids.length b.2.2] 66), (.cells #[.slice none 0 0, .slice none 0 0, .int .i64 0, .int .i64 0] 45)] w 3 _ rfl)
  have H4 := Lib.hid (show TxBox (((((w.alloc (.cells #[.string tx, .int .i64 pn] 35)).alloc (.cells #[.int .i64 d.cap, .int .i64 d.push, .int .i64 d.dust, .int .i64 d.res, .int .i64 d.rate, .int .i64 d.delay, .int .i64 d.maxH, .int .i64 d.flight, .int .i64 d.minH] 23)).alloc (.cells #[.int .i64 a.1.value, .int .u8 a.1.lock.kind, .string a.1.lock.term, .int .i64 a.1.lock.n, .slice a.2.1 a.1.lock.kids.length a.2.2] 66)).alloc (.cells #[.int .i64 b.1.value, .int .u8 b.1.lock.kind, .string b.1.lock.term, .int .i64 b.1.lock.n, .slice b.2.1 b.1.lock.kids.length b.2.2] 66)).alloc (.cells #[.slice none 0 0, .slice none 0 0, .int .i64 0, .int .i64 0] 45)) (w.heap.size + 1 + 1 + 1 + 1) none 0 0 none 0 0 0 0 from allocs_at [(.cells #[.string tx, .int .i64 pn] 35), (.cells #[.int .i64 d.cap, .int .i64 d.push, .int .i64 d.dust, .int .i64 d.res, .int .i64 d.rate, .int .i64 d.delay, .int .i64 d.maxH, .int .i64 d.flight, .int .i64 d.minH] 23), (.cells #[.int .i64 a.1.value, .int .u8 a.1.lock.kind, .string a.1.lock.term, .int .i64 a.1.lock.n, .slice a.2.1 a.1.lock.kids.length a.2.2] 66), (.cells #[.int .i64 b.1.value, .int .u8 b.1.lock.kind, .string b.1.lock.term, .int .i64 b.1.lock.n, .slice b.2.1 b.1.lock.kids.length b.2.2] 66), (.cells #[.slice none 0 0, .slice none 0 0, .int .i64 0, .int .i64 0] 45)] w 4 _ rfl)
  have HKK := Lib.hid (linesO_keep (d := d) hk)
  have HR := Lib.hid (fun W => rright_deal d W)
  have HPT := Lib.hid hpt
  have hs5 : (((((w.alloc (.cells #[.string tx, .int .i64 pn] 35)).alloc (.cells #[.int .i64 d.cap, .int .i64 d.push, .int .i64 d.dust, .int .i64 d.res, .int .i64 d.rate, .int .i64 d.delay, .int .i64 d.maxH, .int .i64 d.flight, .int .i64 d.minH] 23)).alloc (.cells #[.int .i64 a.1.value, .int .u8 a.1.lock.kind, .string a.1.lock.term, .int .i64 a.1.lock.n, .slice a.2.1 a.1.lock.kids.length a.2.2] 66)).alloc (.cells #[.int .i64 b.1.value, .int .u8 b.1.lock.kind, .string b.1.lock.term, .int .i64 b.1.lock.n, .slice b.2.1 b.1.lock.kids.length b.2.2] 66)).alloc (.cells #[.slice none 0 0, .slice none 0 0, .int .i64 0, .int .i64 0] 45)).heap.size = w.heap.size + 1 + 1 + 1 + 1 + 1 := by simp
  have hll := linesO_len d [a, b]
  simp only [List.length_cons, List.length_nil, Nat.zero_add, Nat.reduceAdd] at hll
  obtain ⟨R, hR⟩ : ∃ R, closeE tx pn d [a, b] = R := ⟨_, rfl⟩
  rw [hR]
  unfold closeE at hR
  have HRE := Lib.hid hR
  unfold dealV at HR
  have d0 : (((((w.alloc (.cells #[.string tx, .int .i64 pn] 35)).alloc (.cells #[.int .i64 d.cap, .int .i64 d.push, .int .i64 d.dust, .int .i64 d.res, .int .i64 d.rate, .int .i64 d.delay, .int .i64 d.maxH, .int .i64 d.flight, .int .i64 d.minH] 23)).alloc (.cells #[.int .i64 a.1.value, .int .u8 a.1.lock.kind, .string a.1.lock.term, .int .i64 a.1.lock.n, .slice a.2.1 a.1.lock.kids.length a.2.2] 66)).alloc (.cells #[.int .i64 b.1.value, .int .u8 b.1.lock.kind, .string b.1.lock.term, .int .i64 b.1.lock.n, .slice b.2.1 b.1.lock.kids.length b.2.2] 66)).alloc (.cells #[.slice none 0 0, .slice none 0 0, .int .i64 0, .int .i64 0] 45)).cell? ⟨w.heap.size + 1, 0, none⟩ = some (.int .i64 d.cap) := cell_of (j := 0) H1.out rfl
  have d1 : (((((w.alloc (.cells #[.string tx, .int .i64 pn] 35)).alloc (.cells #[.int .i64 d.cap, .int .i64 d.push, .int .i64 d.dust, .int .i64 d.res, .int .i64 d.rate, .int .i64 d.delay, .int .i64 d.maxH, .int .i64 d.flight, .int .i64 d.minH] 23)).alloc (.cells #[.int .i64 a.1.value, .int .u8 a.1.lock.kind, .string a.1.lock.term, .int .i64 a.1.lock.n, .slice a.2.1 a.1.lock.kids.length a.2.2] 66)).alloc (.cells #[.int .i64 b.1.value, .int .u8 b.1.lock.kind, .string b.1.lock.term, .int .i64 b.1.lock.n, .slice b.2.1 b.1.lock.kids.length b.2.2] 66)).alloc (.cells #[.slice none 0 0, .slice none 0 0, .int .i64 0, .int .i64 0] 45)).cell? ⟨w.heap.size + 1, 1, none⟩ = some (.int .i64 d.push) := cell_of (j := 1) H1.out rfl
  have d2 : (((((w.alloc (.cells #[.string tx, .int .i64 pn] 35)).alloc (.cells #[.int .i64 d.cap, .int .i64 d.push, .int .i64 d.dust, .int .i64 d.res, .int .i64 d.rate, .int .i64 d.delay, .int .i64 d.maxH, .int .i64 d.flight, .int .i64 d.minH] 23)).alloc (.cells #[.int .i64 a.1.value, .int .u8 a.1.lock.kind, .string a.1.lock.term, .int .i64 a.1.lock.n, .slice a.2.1 a.1.lock.kids.length a.2.2] 66)).alloc (.cells #[.int .i64 b.1.value, .int .u8 b.1.lock.kind, .string b.1.lock.term, .int .i64 b.1.lock.n, .slice b.2.1 b.1.lock.kids.length b.2.2] 66)).alloc (.cells #[.slice none 0 0, .slice none 0 0, .int .i64 0, .int .i64 0] 45)).cell? ⟨w.heap.size + 1, 2, none⟩ = some (.int .i64 d.dust) := cell_of (j := 2) H1.out rfl
  have d3 : (((((w.alloc (.cells #[.string tx, .int .i64 pn] 35)).alloc (.cells #[.int .i64 d.cap, .int .i64 d.push, .int .i64 d.dust, .int .i64 d.res, .int .i64 d.rate, .int .i64 d.delay, .int .i64 d.maxH, .int .i64 d.flight, .int .i64 d.minH] 23)).alloc (.cells #[.int .i64 a.1.value, .int .u8 a.1.lock.kind, .string a.1.lock.term, .int .i64 a.1.lock.n, .slice a.2.1 a.1.lock.kids.length a.2.2] 66)).alloc (.cells #[.int .i64 b.1.value, .int .u8 b.1.lock.kind, .string b.1.lock.term, .int .i64 b.1.lock.n, .slice b.2.1 b.1.lock.kids.length b.2.2] 66)).alloc (.cells #[.slice none 0 0, .slice none 0 0, .int .i64 0, .int .i64 0] 45)).cell? ⟨w.heap.size + 1, 3, none⟩ = some (.int .i64 d.res) := cell_of (j := 3) H1.out rfl
  have d4 : (((((w.alloc (.cells #[.string tx, .int .i64 pn] 35)).alloc (.cells #[.int .i64 d.cap, .int .i64 d.push, .int .i64 d.dust, .int .i64 d.res, .int .i64 d.rate, .int .i64 d.delay, .int .i64 d.maxH, .int .i64 d.flight, .int .i64 d.minH] 23)).alloc (.cells #[.int .i64 a.1.value, .int .u8 a.1.lock.kind, .string a.1.lock.term, .int .i64 a.1.lock.n, .slice a.2.1 a.1.lock.kids.length a.2.2] 66)).alloc (.cells #[.int .i64 b.1.value, .int .u8 b.1.lock.kind, .string b.1.lock.term, .int .i64 b.1.lock.n, .slice b.2.1 b.1.lock.kids.length b.2.2] 66)).alloc (.cells #[.slice none 0 0, .slice none 0 0, .int .i64 0, .int .i64 0] 45)).cell? ⟨w.heap.size + 1, 4, none⟩ = some (.int .i64 d.rate) := cell_of (j := 4) H1.out rfl
  have d5 : (((((w.alloc (.cells #[.string tx, .int .i64 pn] 35)).alloc (.cells #[.int .i64 d.cap, .int .i64 d.push, .int .i64 d.dust, .int .i64 d.res, .int .i64 d.rate, .int .i64 d.delay, .int .i64 d.maxH, .int .i64 d.flight, .int .i64 d.minH] 23)).alloc (.cells #[.int .i64 a.1.value, .int .u8 a.1.lock.kind, .string a.1.lock.term, .int .i64 a.1.lock.n, .slice a.2.1 a.1.lock.kids.length a.2.2] 66)).alloc (.cells #[.int .i64 b.1.value, .int .u8 b.1.lock.kind, .string b.1.lock.term, .int .i64 b.1.lock.n, .slice b.2.1 b.1.lock.kids.length b.2.2] 66)).alloc (.cells #[.slice none 0 0, .slice none 0 0, .int .i64 0, .int .i64 0] 45)).cell? ⟨w.heap.size + 1, 5, none⟩ = some (.int .i64 d.delay) := cell_of (j := 5) H1.out rfl
  have d6 : (((((w.alloc (.cells #[.string tx, .int .i64 pn] 35)).alloc (.cells #[.int .i64 d.cap, .int .i64 d.push, .int .i64 d.dust, .int .i64 d.res, .int .i64 d.rate, .int .i64 d.delay, .int .i64 d.maxH, .int .i64 d.flight, .int .i64 d.minH] 23)).alloc (.cells #[.int .i64 a.1.value, .int .u8 a.1.lock.kind, .string a.1.lock.term, .int .i64 a.1.lock.n, .slice a.2.1 a.1.lock.kids.length a.2.2] 66)).alloc (.cells #[.int .i64 b.1.value, .int .u8 b.1.lock.kind, .string b.1.lock.term, .int .i64 b.1.lock.n, .slice b.2.1 b.1.lock.kids.length b.2.2] 66)).alloc (.cells #[.slice none 0 0, .slice none 0 0, .int .i64 0, .int .i64 0] 45)).cell? ⟨w.heap.size + 1, 6, none⟩ = some (.int .i64 d.maxH) := cell_of (j := 6) H1.out rfl
  have d7 : (((((w.alloc (.cells #[.string tx, .int .i64 pn] 35)).alloc (.cells #[.int .i64 d.cap, .int .i64 d.push, .int .i64 d.dust, .int .i64 d.res, .int .i64 d.rate, .int .i64 d.delay, .int .i64 d.maxH, .int .i64 d.flight, .int .i64 d.minH] 23)).alloc (.cells #[.int .i64 a.1.value, .int .u8 a.1.lock.kind, .string a.1.lock.term, .int .i64 a.1.lock.n, .slice a.2.1 a.1.lock.kids.length a.2.2] 66)).alloc (.cells #[.int .i64 b.1.value, .int .u8 b.1.lock.kind, .string b.1.lock.term, .int .i64 b.1.lock.n, .slice b.2.1 b.1.lock.kids.length b.2.2] 66)).alloc (.cells #[.slice none 0 0, .slice none 0 0, .int .i64 0, .int .i64 0] 45)).cell? ⟨w.heap.size + 1, 7, none⟩ = some (.int .i64 d.flight) := cell_of (j := 7) H1.out rfl
  have d8 : (((((w.alloc (.cells #[.string tx, .int .i64 pn] 35)).alloc (.cells #[.int .i64 d.cap, .int .i64 d.push, .int .i64 d.dust, .int .i64 d.res, .int .i64 d.rate, .int .i64 d.delay, .int .i64 d.maxH, .int .i64 d.flight, .int .i64 d.minH] 23)).alloc (.cells #[.int .i64 a.1.value, .int .u8 a.1.lock.kind, .string a.1.lock.term, .int .i64 a.1.lock.n, .slice a.2.1 a.1.lock.kids.length a.2.2] 66)).alloc (.cells #[.int .i64 b.1.value, .int .u8 b.1.lock.kind, .string b.1.lock.term, .int .i64 b.1.lock.n, .slice b.2.1 b.1.lock.kids.length b.2.2] 66)).alloc (.cells #[.slice none 0 0, .slice none 0 0, .int .i64 0, .int .i64 0] 45)).cell? ⟨w.heap.size + 1, 8, none⟩ = some (.int .i64 d.minH) := cell_of (j := 8) H1.out rfl
  clear hb0 hk hpt hR
  go_enter Tryz.func34, Tryz.ntmps34
  go_wp2_with fail
  generalize (((((w.alloc (.cells #[.string tx, .int .i64 pn] 35)).alloc (.cells #[.int .i64 d.cap, .int .i64 d.push, .int .i64 d.dust, .int .i64 d.res, .int .i64 d.rate, .int .i64 d.delay, .int .i64 d.maxH, .int .i64 d.flight, .int .i64 d.minH] 23)).alloc (.cells #[.int .i64 a.1.value, .int .u8 a.1.lock.kind, .string a.1.lock.term, .int .i64 a.1.lock.n, .slice a.2.1 a.1.lock.kids.length a.2.2] 66)).alloc (.cells #[.int .i64 b.1.value, .int .u8 b.1.lock.kind, .string b.1.lock.term, .int .i64 b.1.lock.n, .slice b.2.1 b.1.lock.kids.length b.2.2] 66)).alloc (.cells #[.slice none 0 0, .slice none 0 0, .int .i64 0, .int .i64 0] 45)) = V at HB H0 H1 H2 H3 H4 hs5 d0 d1 d2 d3 d4 d5 d6 d7 d8 ⊢
  go_wp2_with fail
  refine (HR.out _).mono ?_
  rintro e w1 ⟨rfl, hb1⟩
  have h0 := (hb1.block _ (lt_of_block H0.out)).trans H0.out
  have h1 := (hb1.block _ (lt_of_block H1.out)).trans H1.out
  have h2 := (hb1.block _ (lt_of_block H2.out)).trans H2.out
  have h3 := (hb1.block _ (lt_of_block H3.out)).trans H3.out
  have h4 := H4.out.below hb1
  have HB1 := Lib.hid (HB.out.trans (hb1.mono HB.out.size))
  have hs1 : w.heap.size + 1 + 1 + 1 + 1 + 1 ≤ w1.heap.size := by have := hb1.size; omega
  have G0 := Lib.hid h0
  have G1 := Lib.hid h1
  have G2 := Lib.hid h2
  have G3 := Lib.hid h3
  have G4 := Lib.hid h4
  clear hb1 h0 h1 h2 h3 h4 HB H0 H1 H2 H3 H4 hs5 d0 d1 d2 d3 d4 d5 d6 d7 d8
  by_cases hd : dealE d = 0
  · have HRE2 := Lib.hid (show ((wholeE tx pn ((linesO d [a, b]).map (·.1)) 0).1, (wholeE tx pn ((linesO d [a, b]).map (·.1)) 0).2.2) = R by rw [← HRE.out, if_pos hd])
    have hdz : (dealE d != 0) = false := by simp [hd]
    clear hd
    have a0 : w1.cell? ⟨w.heap.size + 1 + 1, 0, none⟩ = some (.int .i64 a.1.value) := cell_of (j := 0) G2.out rfl
    have a1 : w1.cell? ⟨w.heap.size + 1 + 1, 1, none⟩ = some (.int .u8 a.1.lock.kind) := cell_of (j := 1) G2.out rfl
    have a2 : w1.cell? ⟨w.heap.size + 1 + 1, 2, none⟩ = some (.string a.1.lock.term) := cell_of (j := 2) G2.out rfl
    have a3 : w1.cell? ⟨w.heap.size + 1 + 1, 3, none⟩ = some (.int .i64 a.1.lock.n) := cell_of (j := 3) G2.out rfl
    have a4 : w1.cell? ⟨w.heap.size + 1 + 1, 4, none⟩ = some (.slice a.2.1 a.1.lock.kids.length a.2.2) := cell_of (j := 4) G2.out rfl
    have b0 : w1.cell? ⟨w.heap.size + 1 + 1 + 1, 0, none⟩ = some (.int .i64 b.1.value) := cell_of (j := 0) G3.out rfl
    have b1 : w1.cell? ⟨w.heap.size + 1 + 1 + 1, 1, none⟩ = some (.int .u8 b.1.lock.kind) := cell_of (j := 1) G3.out rfl
    have b2 : w1.cell? ⟨w.heap.size + 1 + 1 + 1, 2, none⟩ = some (.string b.1.lock.term) := cell_of (j := 2) G3.out rfl
    have b3 : w1.cell? ⟨w.heap.size + 1 + 1 + 1, 3, none⟩ = some (.int .i64 b.1.lock.n) := cell_of (j := 3) G3.out rfl
    have b4 : w1.cell? ⟨w.heap.size + 1 + 1 + 1, 4, none⟩ = some (.slice b.2.1 b.1.lock.kids.length b.2.2) := cell_of (j := 4) G3.out rfl
    go_wp2_with fail
    have hbr : Below w1.heap.size w1 (w1.alloc (.cells #[.int .i64 a.1.value, .int .u8 a.1.lock.kind, .string a.1.lock.term, .int .i64 a.1.lock.n, .slice a.2.1 a.1.lock.kids.length a.2.2, .int .i64 b.1.value, .int .u8 b.1.lock.kind, .string b.1.lock.term, .int .i64 b.1.lock.n, .slice b.2.1 b.1.lock.kids.length b.2.2] 66)) := (Below.refl _ _).alloc (Nat.le_refl _) _
    have hro : (w1.alloc (.cells #[.int .i64 a.1.value, .int .u8 a.1.lock.kind, .string a.1.lock.term, .int .i64 a.1.lock.n, .slice a.2.1 a.1.lock.kids.length a.2.2, .int .i64 b.1.value, .int .u8 b.1.lock.kind, .string b.1.lock.term, .int .i64 b.1.lock.n, .slice b.2.1 b.1.lock.kids.length b.2.2] 66)).heap[w1.heap.size]? = some (.cells #[.int .i64 a.1.value, .int .u8 a.1.lock.kind, .string a.1.lock.term, .int .i64 a.1.lock.n, .slice a.2.1 a.1.lock.kids.length a.2.2, .int .i64 b.1.value, .int .u8 b.1.lock.kind, .string b.1.lock.term, .int .i64 b.1.lock.n, .slice b.2.1 b.1.lock.kids.length b.2.2] 66) := Go.heap_alloc_new w1 _
    have HCO := Lib.hid (show Cells (w1.alloc (.cells #[.int .i64 a.1.value, .int .u8 a.1.lock.kind, .string a.1.lock.term, .int .i64 a.1.lock.n, .slice a.2.1 a.1.lock.kids.length a.2.2, .int .i64 b.1.value, .int .u8 b.1.lock.kind, .string b.1.lock.term, .int .i64 b.1.lock.n, .slice b.2.1 b.1.lock.kids.length b.2.2] 66)) (some ⟨w1.heap.size, 0, none⟩) ([a, b].flatMap outC) by
      have := fresh_cells w1 #[.int .i64 a.1.value, .int .u8 a.1.lock.kind, .string a.1.lock.term, .int .i64 a.1.lock.n, .slice a.2.1 a.1.lock.kids.length a.2.2, .int .i64 b.1.value, .int .u8 b.1.lock.kind, .string b.1.lock.term, .int .i64 b.1.lock.n, .slice b.2.1 b.1.lock.kids.length b.2.2] 66
      simpa [outC] using this)
    have h0 := (hbr.block _ (lt_of_block G0.out)).trans G0.out
    have h1 := (hbr.block _ (lt_of_block G1.out)).trans G1.out
    have h4 := G4.out.below hbr
    have HB2 := Lib.hid (HB1.out.trans (hbr.mono HB1.out.size))
    have hs2 : w.heap.size + 1 + 1 + 1 + 1 + 1 ≤ (w1.alloc (.cells #[.int .i64 a.1.value, .int .u8 a.1.lock.kind, .string a.1.lock.term, .int .i64 a.1.lock.n, .slice a.2.1 a.1.lock.kids.length a.2.2, .int .i64 b.1.value, .int .u8 b.1.lock.kind, .string b.1.lock.term, .int .i64 b.1.lock.n, .slice b.2.1 b.1.lock.kids.length b.2.2] 66)).heap.size := Nat.le_trans hs1 hbr.size
    clear hbr hro a0 b0 a1 b1 a2 b2 a3 b3 a4 b4
    generalize w1.alloc (.cells #[.int .i64 a.1.value, .int .u8 a.1.lock.kind, .string a.1.lock.term, .int .i64 a.1.lock.n, .slice a.2.1 a.1.lock.kids.length a.2.2, .int .i64 b.1.value, .int .u8 b.1.lock.kind, .string b.1.lock.term, .int .i64 b.1.lock.n, .slice b.2.1 b.1.lock.kids.length b.2.2] 66) = V2 at HCO h0 h1 h4 HB2 hs2 ⊢
    generalize (⟨w1.heap.size, 0, none⟩ : Addr) = la at HCO ⊢
    have F0 := Lib.hid h0
    have F1 := Lib.hid h1
    have F4 := Lib.hid h4
    clear h0 h1 h4
    go_loopw [11, 26] (fun vl i wr => ∃ (k : Nat) (vL : Value), vL = vl ∧ k ≤ 2 ∧ i = .int .i64 (k : Int) ∧ Below V2.heap.size V2 wr ∧ wr.ownsRow V2.heap.size 87 6 vL (linesO d ([a, b].take k)).length (((linesO d ([a, b].take k)).map Prod.snd).flatMap encD)) (fun _ i _ => 2 - (intOf i).toNat)
    case atStart => exact ⟨0, _, rfl, Nat.zero_le _, rfl, Below.refl _ _, World.ownsRow_nil _ _ _ _⟩
    case round =>
      obtain ⟨k, vL, rfl, hk2, rfl, hbr, hown⟩ := hrel
      have HBR := Lib.hid hbr
      by_cases hlt : k < 2
      · have hlt2 : k < [a, b].length := hlt
        have hsn := linesO_snoc d ([a, b].take k) [a, b][k]
        rw [← List.take_succ_eq_append_getElem hlt2] at hsn
        have hcq := fun (c : Nat) (u : Value) (hc : c < 5) (hu : (outC [a, b][k])[c]? = some u) => (HCO.out.below hbr)
        obtain ⟨q, hq⟩ : ∃ q, [a, b][k] = q := ⟨_, rfl⟩
        have hcl : ∀ (c : Nat) (u : Value), c < 5 → (outC q)[c]? = some u → wr.cell? (la.add (k * 5 + c)) = some u := fun c u hc hu => by
          obtain ⟨ad, he, hcc⟩ := (HCO.out.below hbr) (by simp [outC])
          injection he with he
          subst he
          refine hcc _ _ ?_
          rw [fm_get outC 5 (fun _ => rfl) [a, b] k hlt2 c hc, hq]
          exact hu
        rw [hq] at hsn
        clear hcq
        have q0 : wr.cell? (la.add (k * 5)) = some (.int .i64 q.1.value) := hcl 0 _ (by decide) rfl
        have q1 : wr.cell? ⟨(la.add (k * 5)).block, (la.add (k * 5)).off + 1, none⟩ = some (.int .u8 q.1.lock.kind) := by rw [add_next _ _ _ (by decide)]; exact hcl 1 _ (by decide) rfl
        have q2 : wr.cell? ⟨(la.add (k * 5)).block, (la.add (k * 5)).off + 2, none⟩ = some (.string q.1.lock.term) := by rw [add_next _ _ _ (by decide)]; exact hcl 2 _ (by decide) rfl
        have q3 : wr.cell? ⟨(la.add (k * 5)).block, (la.add (k * 5)).off + 3, none⟩ = some (.int .i64 q.1.lock.n) := by rw [add_next _ _ _ (by decide)]; exact hcl 3 _ (by decide) rfl
        have q4 : wr.cell? ⟨(la.add (k * 5)).block, (la.add (k * 5)).off + 4, none⟩ = some (.slice q.2.1 q.1.lock.kids.length q.2.2) := by rw [add_next _ _ _ (by decide)]; exact hcl 4 _ (by decide) rfl
        have hbo : Below wr.heap.size wr (wr.alloc (.cells #[.int .i64 q.1.value, .int .u8 q.1.lock.kind, .string q.1.lock.term, .int .i64 q.1.lock.n, .slice q.2.1 q.1.lock.kids.length q.2.2] 66)) := (Below.refl _ _).alloc (Nat.le_refl _) _
        have hbx : (wr.alloc (.cells #[.int .i64 q.1.value, .int .u8 q.1.lock.kind, .string q.1.lock.term, .int .i64 q.1.lock.n, .slice q.2.1 q.1.lock.kids.length q.2.2] 66)).heap[wr.heap.size]? = some (.cells #[.int .i64 q.1.value, .int .u8 q.1.lock.kind, .string q.1.lock.term, .int .i64 q.1.lock.n, .slice q.2.1 q.1.lock.kids.length q.2.2] 66) := Go.heap_alloc_new wr _
        have dd : (wr.alloc (.cells #[.int .i64 q.1.value, .int .u8 q.1.lock.kind, .string q.1.lock.term, .int .i64 q.1.lock.n, .slice q.2.1 q.1.lock.kids.length q.2.2] 66)).cell? ⟨w.heap.size + 1, 2, none⟩ = some (.int .i64 d.dust) := cell_below (hbr.trans (hbo.mono hbr.size)) (cell_of (j := 2) F1.out rfl)
        have e0 : (wr.alloc (.cells #[.int .i64 q.1.value, .int .u8 q.1.lock.kind, .string q.1.lock.term, .int .i64 q.1.lock.n, .slice q.2.1 q.1.lock.kids.length q.2.2] 66)).cell? ⟨wr.heap.size, 0, none⟩ = some (.int .i64 q.1.value) := cell_of (j := 0) hbx rfl
        have e1 : (wr.alloc (.cells #[.int .i64 q.1.value, .int .u8 q.1.lock.kind, .string q.1.lock.term, .int .i64 q.1.lock.n, .slice q.2.1 q.1.lock.kids.length q.2.2] 66)).cell? ⟨wr.heap.size, 1, none⟩ = some (.int .u8 q.1.lock.kind) := cell_of (j := 1) hbx rfl
        have e2 : (wr.alloc (.cells #[.int .i64 q.1.value, .int .u8 q.1.lock.kind, .string q.1.lock.term, .int .i64 q.1.lock.n, .slice q.2.1 q.1.lock.kids.length q.2.2] 66)).cell? ⟨wr.heap.size, 2, none⟩ = some (.string q.1.lock.term) := cell_of (j := 2) hbx rfl
        have e3 : (wr.alloc (.cells #[.int .i64 q.1.value, .int .u8 q.1.lock.kind, .string q.1.lock.term, .int .i64 q.1.lock.n, .slice q.2.1 q.1.lock.kids.length q.2.2] 66)).cell? ⟨wr.heap.size, 3, none⟩ = some (.int .i64 q.1.lock.n) := cell_of (j := 3) hbx rfl
        have e4 : (wr.alloc (.cells #[.int .i64 q.1.value, .int .u8 q.1.lock.kind, .string q.1.lock.term, .int .i64 q.1.lock.n, .slice q.2.1 q.1.lock.kids.length q.2.2] 66)).cell? ⟨wr.heap.size, 4, none⟩ = some (.slice q.2.1 q.1.lock.kids.length q.2.2) := cell_of (j := 4) hbx rfl
        obtain ⟨n, hn⟩ : ∃ n, (linesO d ([a, b].take k)).length = n := ⟨_, rfl⟩
        have hnl : n ≤ 2 := by rw [← hn]; exact Nat.le_trans (linesO_len d _) (by rw [List.length_take]; omega)
        rw [hn] at hown
        by_cases hbig : d.dust ≤ q.1.value
        · have hs2' : bigO d q = true := decide_eq_true hbig
          rw [hs2', if_pos rfl] at hsn
          have HSN := Lib.hid hsn
          have HNN := Lib.hid hn
          have hbl0 : Below wr.heap.size wr ((wr.alloc (.cells #[.int .i64 q.1.value, .int .u8 q.1.lock.kind, .string q.1.lock.term, .int .i64 q.1.lock.n, .slice q.2.1 q.1.lock.kids.length q.2.2] 66)).alloc (.cells #[.int .i64 q.1.value, .int .u8 q.1.lock.kind, .string q.1.lock.term, .int .i64 q.1.lock.n, .slice q.2.1 q.1.lock.kids.length q.2.2, .int .i64 0] 87)) := hbo.alloc hbo.size _
          have HOL := Lib.hid (show ((wr.alloc (.cells #[.int .i64 q.1.value, .int .u8 q.1.lock.kind, .string q.1.lock.term, .int .i64 q.1.lock.n, .slice q.2.1 q.1.lock.kids.length q.2.2] 66)).alloc (.cells #[.int .i64 q.1.value, .int .u8 q.1.lock.kind, .string q.1.lock.term, .int .i64 q.1.lock.n, .slice q.2.1 q.1.lock.kids.length q.2.2, .int .i64 0] 87)).ownsRow V2.heap.size 87 6 vL n (((linesO d ([a, b].take k)).map Prod.snd).flatMap encD) from own_below hown hbl0)
          have HFC := Lib.hid (show Cells ((wr.alloc (.cells #[.int .i64 q.1.value, .int .u8 q.1.lock.kind, .string q.1.lock.term, .int .i64 q.1.lock.n, .slice q.2.1 q.1.lock.kids.length q.2.2] 66)).alloc (.cells #[.int .i64 q.1.value, .int .u8 q.1.lock.kind, .string q.1.lock.term, .int .i64 q.1.lock.n, .slice q.2.1 q.1.lock.kids.length q.2.2, .int .i64 0] 87)) (some ⟨wr.heap.size + 1, 0, none⟩) [.int .i64 q.1.value, .int .u8 q.1.lock.kind, .string q.1.lock.term, .int .i64 q.1.lock.n, .slice q.2.1 q.1.lock.kids.length q.2.2, .int .i64 0] by
            have := fresh_cells (wr.alloc (.cells #[.int .i64 q.1.value, .int .u8 q.1.lock.kind, .string q.1.lock.term, .int .i64 q.1.lock.n, .slice q.2.1 q.1.lock.kids.length q.2.2] 66)) #[.int .i64 q.1.value, .int .u8 q.1.lock.kind, .string q.1.lock.term, .int .i64 q.1.lock.n, .slice q.2.1 q.1.lock.kids.length q.2.2, .int .i64 0] 87
            simpa using this)
          have HBL := Lib.hid (hbr.trans (hbl0.mono hbr.size))
          have hsz1 : V2.heap.size ≤ ((wr.alloc (.cells #[.int .i64 q.1.value, .int .u8 q.1.lock.kind, .string q.1.lock.term, .int .i64 q.1.lock.n, .slice q.2.1 q.1.lock.kids.length q.2.2] 66)).alloc (.cells #[.int .i64 q.1.value, .int .u8 q.1.lock.kind, .string q.1.lock.term, .int .i64 q.1.lock.n, .slice q.2.1 q.1.lock.kids.length q.2.2, .int .i64 0] 87)).heap.size := Nat.le_trans hbr.size hbl0.size
          have hn1 : (n + 1) * 72 ≤ 140737488355328 := by omega
          have hn2 : n + 1 ≤ 140737488355328 := by omega
          have HN1 := Lib.hid hn1
          have HN2 := Lib.hid hn2
          have HSZ := Lib.hid hsz1
          clear hn hn1 hn2 hsn hbo hbx hbl0 hown hsz1 hs2'
          go_wp2_with (at_builtin; refine wpList_appk slD rfl _ _ rfl V2.heap.size _ n _ rfl HOL.out (some ⟨wr.heap.size + 1, 0, none⟩) 1 1 [.int .i64 q.1.value, .int .u8 q.1.lock.kind, .string q.1.lock.term, .int .i64 q.1.lock.n, .slice q.2.1 q.1.lock.kids.length q.2.2, .int .i64 0] rfl rfl HFC.out (encD_one (lineOf q).2) HN1.out HN2.out HSZ.out ?_; intro v' w6 hown hgr hbl hat)
          have hend : w6.ownsRow V2.heap.size 87 6 v' (linesO d ([a, b].take (k + 1))).length (((linesO d ([a, b].take (k + 1))).map Prod.snd).flatMap encD) := by
            rw [HSN.out, List.length_append, List.map_append, List.flatMap_append, HNN.out]
            exact hown
          have HEND := Lib.hid hend
          have HBE := Lib.hid (HBL.out.trans hbl)
          clear hend hown hgr hbl hat
          go_roundw
          case rel => exact ⟨k + 1, v', rfl, by omega, by go_num, HBE.out, HEND.out⟩
          case measure => simp [intOf]; omega
        · have hs2' : bigO d q = false := decide_eq_false hbig
          rw [hs2', if_neg (by decide)] at hsn
          rw [← hn, ← hsn] at hown
          have HEND := Lib.hid (show (wr.alloc (.cells #[.int .i64 q.1.value, .int .u8 q.1.lock.kind, .string q.1.lock.term, .int .i64 q.1.lock.n, .slice q.2.1 q.1.lock.kids.length q.2.2] 66)).ownsRow V2.heap.size 87 6 vL (linesO d ([a, b].take (k + 1))).length (((linesO d ([a, b].take (k + 1))).map Prod.snd).flatMap encD) from own_below hown hbo)
          have HBE := Lib.hid (hbr.trans (hbo.mono hbr.size))
          clear hn hsn hbo hbx hown hs2'
          go_wp2_with fail
          go_roundw
          case rel => exact ⟨k + 1, vL, rfl, by omega, by go_num, HBE.out, HEND.out⟩
          case measure => simp [intOf]; omega
      · have hkn : k = 2 := by omega
        subst hkn
        have hown2 : wr.ownsRow V2.heap.size 87 6 vL (linesO d [a, b]).length (((linesO d [a, b]).map Prod.snd).flatMap encD) := hown
        have hbw := HB2.out.trans (hbr.mono HB2.out.size)
        have p0 : wr.cell? ⟨w.heap.size, 0, none⟩ = some (.string tx) := cell_below hbr (cell_of (j := 0) F0.out rfl)
        have p1 : wr.cell? ⟨w.heap.size, 1, none⟩ = some (.int .i64 pn) := cell_below hbr (cell_of (j := 1) F0.out rfl)
        have hwq := rwhole_q tx pn 0 (linesO d [a, b]) vL V2.heap.size w wr (by omega) hbw HB2.out.size hown2 (fun r hr => (HKK.out r hr).mono hbw (DepEq.below hbw)) HPT.out htx
        have h4 := F4.out.below hbr
        have HWQ := Lib.hid hwq
        have HBW := Lib.hid hbw
        have H4 := Lib.hid h4
        have hv4 : w.heap.size + 1 + 1 + 1 + 1 + 1 ≤ V2.heap.size := hs2
        have hv5 := hbr.size
        have hv6 := HB2.out.size
        clear hwq hbw h4 hown hown2 hbr hlt hk2
        go_wp2_with fail
        refine HWQ.out.mono ?_
        rintro e wA ⟨t, ws, rfl, ⟨A, ca, B, cb, rfl, hT⟩, -, F, hFb, hfA⟩
        have HT2 := Lib.hid hT
        have hbA : TxBox wA (w.heap.size + 1 + 1 + 1 + 1) none 0 0 none 0 0 0 0 := (hfA.block _ (lt_of_block H4.out) (fun h => by have := hFb _ h; omega)).trans H4.out
        have hBA : Below w.heap.size w wA := HBW.out.trans (hfA.toBelowOf (B := w.heap.size) HBW.out.size (fun i hi => Nat.le_trans hv6 (hFb i hi)))
        obtain ⟨t1, e1, hR1, hR2⟩ : ∃ t1 e1, (wholeE tx pn ((linesO d [a, b]).map (·.1)) 0).1 = t1 ∧ (wholeE tx pn ((linesO d [a, b]).map (·.1)) 0).2.2 = e1 := ⟨_, _, rfl, rfl⟩
        rw [hR1] at HT2 ⊢
        rw [hR1, hR2] at HRE2
        rw [hR2]
        have HBA := Lib.hid hbA
        have HBB := Lib.hid hBA
        have hb7 : Below wA.heap.size wA (wA.alloc (.cells #[.slice A t1.ins.length ca, .slice B t1.outs.length cb, .int .i64 t1.after, .int .i64 t1.tag] 45)) := (Below.refl _ _).alloc (Nat.le_refl _) _
        have hx7 : TxBox (wA.alloc (.cells #[.slice A t1.ins.length ca, .slice B t1.outs.length cb, .int .i64 t1.after, .int .i64 t1.tag] 45)) wA.heap.size A t1.ins.length ca B t1.outs.length cb t1.after t1.tag := Go.heap_alloc_new wA _
        obtain ⟨y0, y1, y2, y3⟩ := hx7.cells
        have h47 := HBA.out.below hb7
        obtain ⟨z0, z1, z2, z3⟩ := h47.cells
        have zf := h47.frozen
        have H47 := Lib.hid h47
        have HB7 := Lib.hid hb7
        clear hT hbA hBA hfA hFb hR1 hR2 p0 p1 hb7 hx7 h47
        go_wp2_with fail
        change bodyPost _ _ _ _ _ (putL (wA.alloc (.cells #[.slice A t1.ins.length ca, .slice B t1.outs.length cb, .int .i64 t1.after, .int .i64 t1.tag] 45)) (w.heap.size + 1 + 1 + 1 + 1) (.slice A t1.ins.length ca) (.slice B t1.outs.length cb) (.int .i64 t1.after) (.int .i64 t1.tag))
        generalize wA.alloc (.cells #[.slice A t1.ins.length ca, .slice B t1.outs.length cb, .int .i64 t1.after, .int .i64 t1.tag] 45) = WB at H47 HB7 ⊢
        have hP := H47.out.put A t1.ins.length ca B t1.outs.length cb t1.after t1.tag
        have hF := putL_fr WB (w.heap.size + 1 + 1 + 1 + 1) (.slice A t1.ins.length ca) (.slice B t1.outs.length cb) (.int .i64 t1.after) (.int .i64 t1.tag) (F := [w.heap.size + 1 + 1 + 1 + 1]) (List.mem_singleton.2 rfl)
        generalize putL WB (w.heap.size + 1 + 1 + 1 + 1) (.slice A t1.ins.length ca) (.slice B t1.outs.length cb) (.int .i64 t1.after) (.int .i64 t1.tag) = Wf at hP hF ⊢
        have hBB := HBB.out.trans (HB7.out.mono HBB.out.size)
        have hBt := hF.toBelowOf (B := w.heap.size) hBB.size (fun i hi => by rw [List.mem_singleton.1 hi]; omega)
        have hSt := (Stay.below HB7.out).trans (stay_tx H47.out hF)
        obtain ⟨u0, u1, u2, u3⟩ := hP.cells
        rw [← HRE2.out]
        exact bodyPost_ret (v := .tuple #[.agg #[.slice A t1.ins.length ca, .slice B t1.outs.length cb, .int .i64 t1.after, .int .i64 t1.tag], .int .i64 e1]) (by simp [results, Tryz.results34, go_sem, u0, u1, u2, u3]) rfl ⟨_, rfl, ⟨A, ca, B, cb, rfl, fun W x y => HT2.out W (((HB7.out.mono HBB.out.size).trans hBt).trans x) (hSt.trans y)⟩, hBB.trans hBt⟩
  · have HRE2 := Lib.hid (show (zeroTx, dealE d) = R by rw [← HRE.out, if_neg hd])
    have hdz : (dealE d != 0) = true := by simp [hd]
    obtain ⟨z0, z1, z2, z3⟩ := G4.out.cells
    have zf := G4.out.frozen
    obtain ⟨de, hde⟩ : ∃ de, dealE d = de := ⟨_, rfl⟩
    rw [hde] at hdz HRE2 ⊢
    clear hd hde
    go_wp2_with fail
    change bodyPost _ _ _ _ _ (putL w1 (w.heap.size + 1 + 1 + 1 + 1) (.slice none 0 0) (.slice none 0 0) (.int .i64 0) (.int .i64 0))
    have hP := G4.out.put none 0 0 none 0 0 0 0
    have hF := putL_fr w1 (w.heap.size + 1 + 1 + 1 + 1) (.slice none 0 0) (.slice none 0 0) (.int .i64 0) (.int .i64 0) (F := [w.heap.size + 1 + 1 + 1 + 1]) (List.mem_singleton.2 rfl)
    generalize putL w1 (w.heap.size + 1 + 1 + 1 + 1) (.slice none 0 0) (.slice none 0 0) (.int .i64 0) (.int .i64 0) = Wf at hP hF ⊢
    obtain ⟨u0, u1, u2, u3⟩ := hP.cells
    rw [← HRE2.out]
    exact bodyPost_ret (v := .tuple #[.agg #[.slice none 0 0, .slice none 0 0, .int .i64 0, .int .i64 0], .int .i64 de]) (by simp [results, Tryz.results34, go_sem, u0, u1, u2, u3]) rfl ⟨_, rfl, TxF.zero _ _, HB1.out.trans (hF.toBelowOf HB1.out.size (fun i hi => by rw [List.mem_singleton.1 hi]; omega))⟩
end Go.Proofs.YtncniomiplnaaaaGreatDoor
