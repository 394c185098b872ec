/- A range over a function, at the wide fence: the statement, a round; (*Log).pages' iterator. · slices.Chunk; the iterator of a log's pages. · A region that draws its order, in a round. · The closure of Append that writes the pages. -/
import Derived.Test.YtladknjmoahdoaaC1
import Derived.Test.YtladknjmoahdoaaO2
import Derived.Test.YtladknjmoahdoaaAnyG
import Derived.OrdersIn
set_option linter.all false
namespace Go.Proofs.Ytladknjmoahdoaa
open Go.RowKit Go.Shelf
attribute [local go_sem] Oper.semAt_some

theorem range_at {F : Fence} {P : Program} {n : Nat} {g : Operand} {ps : Array Tmp} {assign body : Code} {Q : Exit → Act → World → Prop} {a : Act} {w : World} {gf : Nat} {lb : Array Value} (hro : F.round = none) (hfn : ∀ f, F.fn f) (hd : F.depth.isSome = true → 1 ≤ n)
    (hg : a.eval g = .func (.func gf) #[] lb) (eg : ∀ args w, (callFunc gf args).run P w = .ok (.enter gf args) w)
    (h : ∀ fn, CallsIn F (n - 1) P gf (#[.func (.yield (w.heap.size + 1)) #[] #[]] ++ lb) ((w.alloc (.deferred (some []))).alloc (.loop { state := .ready, pending := none, fn, tmps := a.tmps, params := ps, assign, body, defers := w.heap.size }))
      (rangePost F n P (w.heap.size + 1) Q { a with defers := { target := .collected w.heap.size, args := #[] } :: a.defers })) :
    (Code.rangeFunc g ps assign body).wpIn F n P Q a w := by
  refine wpIn_rangeFunc ?_
  intro fn _
  rw [hro]
  have h2 := h fn
  obtain ⟨W1, hW1⟩ : ∃ W1, (w.alloc (.deferred (some []))).alloc (.loop { state := .ready, pending := none, fn, tmps := a.tmps, params := ps, assign, body, defers := w.heap.size }) = W1 := ⟨_, rfl⟩
  rw [hW1] at h2
  refine ⟨w.heap.size + 1, [{ target := .collected w.heap.size, args := #[] }], W1, { target := .fn (.func gf) lb, args := #[.func (.yield (w.heap.size + 1)) #[] #[]] }, W1, gf,
    #[.func (.yield (w.heap.size + 1)) #[] #[]] ++ lb, W1, ?_, ?_, ?_, ?_, hd, ?_⟩
  · rw [← hW1]; exact run_enterLoop_outer _ _ _ _ _
  · simp only [resolve, hg]
    simp [go_sem]
  · intro f' _
    exact hfn f'
  · simp [invoke, go_sem, eg]
  · exact h2
/-- The statement: two blocks are laid, and the function is called. -/
theorem range_wide {P : Program} {n : Nat} {g : Operand} {ps : Array Tmp} {assign body : Code} {Q : Exit → Act → World → Prop} {a : Act} {w : World} {gf : Nat} {lb : Array Value}
    (hg : a.eval g = .func (.func gf) #[] lb) (eg : ∀ args w, (callFunc gf args).run P w = .ok (.enter gf args) w)
    (h : ∀ fn, CallsIn Fence.wide (n - 1) P gf (#[.func (.yield (w.heap.size + 1)) #[] #[]] ++ lb) ((w.alloc (.deferred (some []))).alloc (.loop { state := .ready, pending := none, fn, tmps := a.tmps, params := ps, assign, body, defers := w.heap.size }))
      (rangePost Fence.wide n P (w.heap.size + 1) Q { a with defers := { target := .collected w.heap.size, args := #[] } :: a.defers })) :
    (Code.rangeFunc g ps assign body).wpIn Fence.wide n P Q a w := range_at rfl (fun _ => trivial) (fun h => (by cases h)) hg eg h
/-- The same, the new blocks by their words. -/
theorem range_words {P : Program} {n : Nat} {g : Operand} {ps : Array Tmp} {assign body : Code} {Q : Exit → Act → World → Prop} {a : Act} {w : World} {gf : Nat} {lb : Array Value}
    (hg : a.eval g = .func (.func gf) #[] lb) (eg : ∀ args w, (callFunc gf args).run P w = .ok (.enter gf args) w)
    (h : ∀ (fn : FuncId) (rc : LoopState → Option Code → Loop) (W1 : World), (rc = fun st pe => { state := st, pending := pe, fn, tmps := a.tmps, params := ps, assign, body, defers := w.heap.size }) → W1.heap.size = w.heap.size + 2 → Below w.heap.size w W1 → W1.heap[w.heap.size]? = some (.deferred (some [])) → W1.heap[w.heap.size + 1]? = some (.loop (rc .ready none)) →
      CallsIn Fence.wide (n - 1) P gf (#[.func (.yield (w.heap.size + 1)) #[] #[]] ++ lb) W1 (rangePost Fence.wide n P (w.heap.size + 1) Q { a with defers := { target := .collected w.heap.size, args := #[] } :: a.defers })) :
    (Code.rangeFunc g ps assign body).wpIn Fence.wide n P Q a w := by
  refine range_wide hg eg fun fn => h fn _ _ rfl (by simp) (((Below.refl w.heap.size w).alloc (Nat.le_refl _) _).alloc (by simp) _) ?_ ?_
  · exact (Below.heap_alloc _ _ _ (by simp)).trans (World.alloc_heap_new w _)
  · have := World.alloc_heap_new (w.alloc (.deferred (some []))) (.loop { state := .ready, pending := none, fn, tmps := a.tmps, params := ps, assign, body, defers := w.heap.size })
    rwa [World.size_alloc] at this
/-- A round. -/
theorem yield_wide {P : Program} {m L : Nat} {r : Loop} {args : Array Value} {W : World} {R : Ending → World → Prop} (hl : W.heap[L]? = some (.loop r)) (hs : args.size = r.params.size)
    (h : r.assign.wpIn (Fence.wide.inRound L) m P (Exit.then (fun a1 w1 => ∃ w2, (Instr.beginRound L).run P w1 = .ok () w2 ∧ r.body.wpIn (Fence.wide.inRound L) m P (roundPost P L R) a1 w2) (fun _ _ _ => False))
      { tmps := (r.params.zip args).foldl (fun tmps (t, a) => tmps.setIfInBounds t a) r.tmps, defers := [] } W) : YieldAt Fence.wide m P L args W R :=
  ⟨r.fn, _, r.assign, r.body, run_yield hl hs, roundIn_of_wpIn trivial h⟩
theorem yield_post {P : Program} {m L : Nat} {args : Array Value} {W : World} {R : Ending → World → Prop} (h : ∀ R' : Ending → World → Prop, (∀ e V, R e V → R' e V) → YieldAt Fence.wide m P L args W R') : YieldAt Fence.wide m P L args W R := h R fun _ _ h => h
theorem roundIn_deep {P : Program} {m m' l : Nat} {f : FuncId} {tmps : Array Value} {assign body : Code} {w : World} {R : Ending → World → Prop} (h : RoundIn Fence.wide m P l f tmps assign body w R) : RoundIn Fence.wide m' P l f tmps assign body w R :=
  ⟨h.1, fun c cs _ => h.2 c cs (room_wide _)⟩
theorem roundIn_in {P : Program} {m m' l k : Nat} {f : FuncId} {tmps : Array Value} {assign body : Code} {w : World} {R : Ending → World → Prop} (h : RoundIn Fence.wide m P l f tmps assign body w R) : RoundIn (Fence.wide.inRound k) m' P l f tmps assign body w R :=
  ⟨h.1, fun c cs _ => h.2 c cs (room_wide _)⟩
theorem put_one (p : Tmp) (v : Value) (ts : Array Value) : (Array.zip #[p] #[v]).foldl (fun tmps (t, a) => tmps.setIfInBounds t a) ts = ts.setIfInBounds p v := by simp
theorem put_two (p q : Tmp) (v u : Value) (ts : Array Value) : (Array.zip #[p, q] #[v, u]).foldl (fun tmps (t, a) => tmps.setIfInBounds t a) ts = (ts.setIfInBounds p v).setIfInBounds q u := by simp
/-- Only blocks from B on, six of them, are touched. -/
structure Tch (B : Nat) (A C : World) : Prop where
  os : C.os = A.os
  tape : C.tape = A.tape
  output : C.output = A.output
  size : A.heap.size ≤ C.heap.size
  same : ∀ i, i < A.heap.size → i < B ∨ B + 6 ≤ i → C.heap[i]? = A.heap[i]?
theorem Tch.refl (B : Nat) (A : World) : Tch B A A := ⟨rfl, rfl, rfl, Nat.le_refl _, fun _ _ _ => rfl⟩
theorem Tch.trans {B : Nat} {A C D : World} (h : Tch B A C) (k : Tch B C D) : Tch B A D := ⟨k.os.trans h.os, k.tape.trans h.tape, k.output.trans h.output, Nat.le_trans h.size k.size, fun i hi hb => (k.same i (Nat.lt_of_lt_of_le hi h.size) hb).trans (h.same i hi hb)⟩
theorem Tch.put {B : Nat} {A C : World} (h : Tch B A C) (j : Nat) (o : Obj) (h1 : B ≤ j) (h2 : j < B + 6) : Tch B A (C.putObj j o) :=
  ⟨h.os, h.tape, h.output, by rw [World.putObj_size]; exact h.size, fun i hi hb => (World.putObj_heap_other (by omega)).trans (h.same i hi hb)⟩
theorem Tch.cell {B : Nat} {A C : World} (h : Tch B A C) (p : Addr) (v : Value) (h1 : B ≤ p.block) (h2 : p.block < B + 6) : Tch B A (C.setCell p v) :=
  ⟨h.os, h.tape, h.output, by rw [show (C.setCell p v).heap.size = C.heap.size from by unfold World.setCell; simp]; exact h.size, fun i hi hb => (Below.heap_setCell C p v i (by omega)).trans (h.same i hi hb)⟩
theorem Tch.drewN {B : Nat} {A C : World} (h : Tch B A C) (q : Nat) : Tch B A (C.drewN q) := ⟨h.os, h.tape, h.output, h.size, h.same⟩
theorem Tch.below {B : Nat} {A C : World} (h : Below A.heap.size A C) : Tch B A C := ⟨h.os, h.tape, h.output, h.size, fun i hi _ => h.block i hi⟩
/-- What a frame says of it. -/
theorem Tch.fr {B : Nat} {A C : World} (h : Tch B A C) : Fr [B, B + 1, B + 2, B + 3, B + 4, B + 5] A C := ⟨h.os, h.tape, h.output, h.size, fun i hi hn => h.same i hi (by
  simp only [List.mem_cons, List.not_mem_nil, or_false, not_or] at hn
  omega)⟩
end Go.Proofs.Ytladknjmoahdoaa

set_option linter.all false
namespace Go.Proofs.Ytladknjmoahdoaa
open Go.RowKit Go.Shelf
attribute [local go_sem] Oper.semAt_some

theorem cell_same {V V' : World} {p : Addr} (h : V'.heap[p.block]? = V.heap[p.block]?) : V'.cell? p = V.cell? p := by unfold World.cell?; rw [h]
theorem frozen_same {V V' : World} {p : Addr} (h : V'.heap[p.block]? = V.heap[p.block]?) : V'.frozen? p = V.frozen? p := by unfold World.frozen?; rw [h]
set_option maxHeartbeats 1000000 in
theorem chunkF_any (A : Option Addr) (n c : Nat) (W : World) : Calls Try.prog 49 #[.slice A n c, .int .i64 256] W fun e w' => e = .returned (.func (.func 53) #[] #[.pointer (some ⟨W.heap.size, 0, none⟩), .pointer (some ⟨W.heap.size + 1, 0, none⟩)]) ∧ (W.alloc (.cells #[.slice A n c] 30)).alloc (.cells #[.int .i64 256] 3) = w' := by
  go_enter Try.func49, Try.ntmps49
  go_wp2_with fail
  go_ret
  exact ⟨rfl, rfl⟩
theorem alloc1 (W : World) (o : Obj) {i : Nat} (h : i = W.heap.size) : (W.alloc o).heap[i]? = some o := by rw [h]; exact Go.heap_alloc_new W o
theorem alloc_old {W : World} (o : Obj) {i : Nat} {x : Obj} (h : W.heap[i]? = some x) : (W.alloc o).heap[i]? = some x := (Below.heap_alloc W o i (lt_of_block h)).trans h
theorem alloc4 (W : World) (a b c d : Obj) : ∃ w4, (((W.alloc a).alloc b).alloc c).alloc d = w4 ∧ w4.heap.size = W.heap.size + 4 ∧ Below W.heap.size W w4 ∧ w4.heap[W.heap.size]? = some a ∧ w4.heap[W.heap.size + 1]? = some b ∧ w4.heap[W.heap.size + 2]? = some c ∧ w4.heap[W.heap.size + 3]? = some d :=
  ⟨_, rfl, by simp, (((Below.refl W.heap.size W).alloc (Nat.le_refl _) _).alloc (by simp) _ |>.alloc (by simp; omega) _).alloc (by simp; omega) _,
    alloc_old _ (alloc_old _ (alloc_old _ (alloc1 W a rfl))), alloc_old _ (alloc_old _ (alloc1 _ b (by simp))), alloc_old _ (alloc1 _ c (by simp)), alloc1 _ d (by simp)⟩
/-- The iterator's own six blocks lie as they lay. -/
structure Own6 (B : Nat) (V V' : World) : Prop where
  size : V.heap.size ≤ V'.heap.size
  same : ∀ i, B ≤ i → i < B + 6 → V'.heap[i]? = V.heap[i]?
set_option maxRecDepth 100000 in
set_option maxHeartbeats 8000000 in
theorem pages_in {L bl bb lp m : Nat} {ad : Addr} {n c long : Nat} {J : Nat → World → Prop} {Jx : World → Prop} {W : World}
    (h1 : W.cell? ⟨bl, 0, none⟩ = some (.pointer (some ⟨lp, 0, none⟩))) (h2 : W.cell? ⟨bb, 0, none⟩ = some (.slice (some ad) n c)) (h3 : W.cell? ⟨lp, 2, none⟩ = some (.int .i64 (long : Int)))
    (hJ : ∀ k A C, J k A → Tch W.heap.size A C → J k C) (hJx : ∀ A C, Jx A → Tch W.heap.size A C → Jx C)
    (hY : ∀ k V, J k V → k * 256 < n → W.heap.size + 6 ≤ V.heap.size → YieldAt Fence.wide 0 Try.prog L #[.int .i64 ((long / 256 + 1 + k : Nat) : Int), chunkV ad n k] V fun e V' => ((e = .returned (.bool true) ∧ J (k + 1) V') ∨ (e = .returned (.bool false) ∧ Jx V')) ∧ Own6 W.heap.size V V')
    (h0 : J 0 W) (hn : n ≤ 1000000000) (hc : n ≤ c) (hlong : long ≤ 1000000000) :
    CallsIn Fence.wide m Try.prog 48 #[.func (.yield L) #[] #[], .pointer (some ⟨bl, 0, none⟩), .pointer (some ⟨bb, 0, none⟩)] W fun e W' => (∃ v, e = .returned v) ∧ ((∃ k, n ≤ k * 256 ∧ (k = 0 ∨ (k - 1) * 256 < n) ∧ J k W') ∨ Jx W') := by
  have HY := Lib.hid hY
  have HJ := Lib.hid hJ
  have HJX := Lib.hid hJx
  have H0 := Lib.hid h0
  have k1 := fun o => cell_below ((Below.refl W.heap.size W).alloc (Nat.le_refl _) o) h1
  have k2 := fun o o' => cell_below (((Below.refl W.heap.size W).alloc (Nat.le_refl _) o).alloc (by simp) o') h2
  have k3 := fun o => cell_below ((Below.refl W.heap.size W).alloc (Nat.le_refl _) o) h3
  have hlq : Int.tdiv (long : Int) 256 = ((long / 256 : Nat) : Int) := by rw [Int.tdiv_eq_ediv_of_nonneg (by omega)]; omega
  clear hY hJ hJx h0 h1 h2 h3
  refine callsIn_of_wp_marks Try.func48 rfl trivial ?_ rfl
  simp only [Try.ntmps48, List.size_toArray, List.length_cons, List.length_nil, Nat.reduceAdd, Nat.reduceSub, Array.replicate_succ, Array.replicate_zero, List.push_toArray, List.append_toArray, List.nil_append, List.cons_append]
  gi_wp2
  refine ⟨trivial, fun h => (by cases h), CallsIn.mono (callsIn_wide.2 (chunkF_any _ _ _ _)) ?_⟩
  rintro e w' ⟨rfl, rfl⟩
  dsimp only
  simp only [World.size_alloc]
  have hq : (long : Int) / 256 + 1 = ((long / 256 + 1 + 0 : Nat) : Int) := by omega
  rw [hq]
  clear hq hlq
  obtain ⟨w4, hw4, hs4, hb4, o0, o1, o2, o3⟩ := alloc4 W (.cells #[.func (.yield L) #[] #[]] 94) (.cells #[.int .i64 ((long / 256 + 1 + 0 : Nat) : Int)] 3) (.cells #[.slice (some ad) n c] 30) (.cells #[.int .i64 256] 3)
  rw [hw4]
  clear hw4 k1 k2 k3
  have HB4 := Lib.hid hb4
  obtain ⟨B, hB⟩ : ∃ B, W.heap.size = B := ⟨_, rfl⟩
  rw [hB] at o0 o1 o2 o3 hs4
  simp only [hB] at HY HJ HJX ⊢
  gi_wp2
  refine range_words rfl (enters_of Try.func53 (by kernel_rfl) rfl) ?_
  intro fn rc W1 hrc hs1 hbw hdf hlp
  have hold : ∀ (i : Nat) (x : Obj), w4.heap[i]? = some x → W1.heap[i]? = some x := fun i x hx => (hbw.block i (lt_of_block hx)).trans hx
  rw [hs4] at hs1 hdf hlp hrc ⊢
  dsimp only at hrc
  show CallsIn Fence.wide (m - 1) Try.prog 53 #[.func (.yield (B + 5)) #[] #[], .pointer (some ⟨B + 2, 0, none⟩), .pointer (some ⟨B + 3, 0, none⟩)] W1 _
  have HRC := Lib.hid hrc
  have hj1 : J 0 W1 := HJ.out 0 W W1 H0.out (Tch.below (HB4.out.trans (hbw.mono (by omega))))
  have hst : (rc .ready none).state = .ready ∧ (rc .ready none).params = #[14] := by rw [hrc]; exact ⟨rfl, rfl⟩
  have HRE := Lib.hid (show ∀ st st' pe, ({ ({ rc .ready none with state := st' } : Loop) with state := st, pending := pe } : Loop) = rc st pe from fun st st' pe => by rw [hrc])
  clear hrc
  refine (chunk_in (b1 := B + 2) (b2 := B + 3) (ad := ad) (n := n) (c := c)
    (J := fun k V => V.heap[B]? = some (.cells #[.func (.yield L) #[] #[]] 94) ∧ V.heap[B + 1]? = some (.cells #[.int .i64 ((long / 256 + 1 + k : Nat) : Int)] 3) ∧ V.heap[B + 2]? = some (.cells #[.slice (some ad) n c] 30) ∧ V.heap[B + 3]? = some (.cells #[.int .i64 256] 3) ∧ V.heap[B + 4]? = some (.deferred (some [])) ∧ V.heap[B + 5]? = some (.loop (rc .ready none)) ∧ J k V)
    (Jx := fun V => V.heap[B + 4]? = some (.deferred (some [])) ∧ V.heap[B + 5]? = some (.loop (rc .done (some .ret))) ∧ Jx V)
    (fun k V h => cell_of (j := 0) h.2.2.1 rfl) (fun k V h => cell_of (j := 0) h.2.2.2.1 rfl) (fun k V q h => ⟨h.1, h.2.1, h.2.2.1, h.2.2.2.1, h.2.2.2.2.1, h.2.2.2.2.2.1, HJ.out k V _ h.2.2.2.2.2.2 ((Tch.refl _ _).drewN q)⟩) ?_ ⟨hold _ _ o0, hold _ _ o1, hold _ _ o2, hold _ _ o3, hdf, hlp, hj1⟩ hn hc).mono ?_
  · rintro k V ⟨p0, p1, p2, p3, p4, p5, pj⟩ hlt
    refine yield_post fun R' hR' => ?_
    have HR' := Lib.hid hR'
    have hsz : B + 6 ≤ V.heap.size := (Array.getElem?_eq_some_iff.1 p5).1
    have ha := congrArg (fun f => (f LoopState.ready none).assign) HRC.out
    have hbo := congrArg (fun f => (f LoopState.ready none).body) HRC.out
    have ht := congrArg (fun f => (f LoopState.ready none).tmps) HRC.out
    dsimp only at ha hbo ht
    clear hR'
    refine yield_wide p5 (by rw [hst.2]; rfl) ?_
    rw [ha, ht, hst.2, hbo, put_one]
    simp only [List.setIfInBounds_toArray, List.set_cons_succ, List.set_cons_zero]
    clear ha hbo ht
    gi_wp2
    refine ⟨_, run_beginRound p5 hst.1, ?_⟩
    obtain ⟨rb, hrb⟩ : ∃ rb : Loop, ({ rc .ready none with state := .busy } : Loop) = rb := ⟨_, rfl⟩
    have hre2 : ∀ st pe, ({ rb with state := st, pending := pe } : Loop) = rc st pe := fun st pe => by rw [← hrb]; exact HRE.out st .busy pe
    have HRE2 := Lib.hid hre2
    rw [hrb]
    have r0 := (World.putObj_heap_other (o := .loop rb) (show B ≠ B + 5 by omega)).trans p0
    have r1 := (World.putObj_heap_other (o := .loop rb) (show B + 1 ≠ B + 5 by omega)).trans p1
    have r2 := (World.putObj_heap_other (o := .loop rb) (show B + 2 ≠ B + 5 by omega)).trans p2
    have r3 := (World.putObj_heap_other (o := .loop rb) (show B + 3 ≠ B + 5 by omega)).trans p3
    have r4 := (World.putObj_heap_other (o := .loop rb) (show B + 4 ≠ B + 5 by omega)).trans p4
    have r5 : (V.putObj (B + 5) (.loop rb)).heap[B + 5]? = some (.loop rb) := World.putObj_heap_same (by omega)
    have rj := HJ.out k V _ pj ((Tch.refl B V).put (B + 5) (.loop rb) (by omega) (by omega))
    have rs : (V.putObj (B + 5) (.loop rb)).heap.size = V.heap.size := World.putObj_size
    generalize V.putObj (B + 5) (.loop rb) = V1 at r0 r1 r2 r3 r4 r5 rj rs ⊢
    obtain ⟨fn', tmps', assign', body', hy, hR⟩ := HY.out k V1 rj hlt (by omega)
    have e0 : V1.cell? ⟨B, 0, none⟩ = some (.func (.yield L) #[] #[]) := cell_of (j := 0) r0 rfl
    have e1 : V1.cell? ⟨B + 1, 0, none⟩ = some (.int .i64 ((long / 256 + 1 + k : Nat) : Int)) := cell_of (j := 0) r1 rfl
    have HHS := Lib.hid hst
    obtain ⟨ks, hks⟩ : ∃ ks : Nat, long / 256 + 1 + k = ks := ⟨_, rfl⟩
    rw [hks] at hy e1 r1
    have HKS := Lib.hid hks
    clear hks p0 p1 p2 p3 p4 p5 pj hre2 hst
    gi_wp2
    refine ⟨fun h => (by cases h), (roundIn_in hR).mono ?_⟩
    rintro e V2 ⟨(⟨rfl, hj2⟩ | ⟨rfl, hjx⟩), hk⟩
    · clear hy hR e0 e1
      have s1 := (hk.same (B + 1) (by omega) (by omega)).trans r1
      have e1 : V2.cell? ⟨B + 1, 0, none⟩ = some (.int .i64 (ks : Int)) := cell_of (j := 0) s1 rfl
      have f1 : V2.frozen? ⟨B + 1, 0, none⟩ = false := free_of s1 0
      have hkb : ks ≤ 100000000 := by have := HKS.out; omega
      gi_wp2
      have hwr : ((ks : Int) + 1) = ((long / 256 + 1 + (k + 1) : Nat) : Int) := by have := HKS.out; omega
      rw [hwr]
      have t1 := setCell_heap (j := 0) (.int .i64 ((long / 256 + 1 + (k + 1) : Nat) : Int)) s1
      have tn : ∀ i, i ≠ B + 1 → (V2.setCell ⟨B + 1, 0, none⟩ (.int .i64 ((long / 256 + 1 + (k + 1) : Nat) : Int))).heap[i]? = V2.heap[i]? := fun i hi => Below.heap_setCell V2 ⟨B + 1, 0, none⟩ _ i hi
      have tt : Tch B V2 (V2.setCell ⟨B + 1, 0, none⟩ (.int .i64 ((long / 256 + 1 + (k + 1) : Nat) : Int))) := (Tch.refl B V2).cell _ _ (Nat.le_succ B) (Nat.add_lt_add_left (by decide) B)
      generalize V2.setCell ⟨B + 1, 0, none⟩ (.int .i64 ((long / 256 + 1 + (k + 1) : Nat) : Int)) = V3 at t1 tn tt ⊢
      have u5 : V3.heap[B + 5]? = some (.loop rb) := (tn _ (by omega)).trans ((hk.same _ (by omega) (by omega)).trans r5)
      have hend := run_endRound (P := Try.prog) none u5
      rw [show ({ rb with state := if (none : Option Code).isNone then LoopState.ready else LoopState.done, pending := none } : Loop) = rc .ready none from HRE2.out .ready none] at hend
      have pn : ∀ i, i ≠ B + 5 → (V3.putObj (B + 5) (.loop (rc .ready none))).heap[i]? = V3.heap[i]? := fun i hi => World.putObj_heap_other hi
      refine ⟨_, _, hend, HR'.out _ _ (.inl ⟨rfl, ?_, ?_, ?_, ?_, ?_, ?_, ?_⟩)⟩
      · exact (pn _ (by omega)).trans ((tn _ (by omega)).trans ((hk.same _ (by omega) (by omega)).trans r0))
      · exact (pn _ (by omega)).trans t1
      · exact (pn _ (by omega)).trans ((tn _ (by omega)).trans ((hk.same _ (by omega) (by omega)).trans r2))
      · exact (pn _ (by omega)).trans ((tn _ (by omega)).trans ((hk.same _ (by omega) (by omega)).trans r3))
      · exact (pn _ (by omega)).trans ((tn _ (by omega)).trans ((hk.same _ (by omega) (by omega)).trans r4))
      · exact World.putObj_heap_same (lt_of_block u5)
      · exact HJ.out _ _ _ hj2 (tt.put _ _ (by omega) (by omega))
    · clear hy hR e0 e1
      gi_wp2
      have u5 : V2.heap[B + 5]? = some (.loop rb) := (hk.same _ (by omega) (by omega)).trans r5
      have hend := run_endRound (P := Try.prog) (some .ret) u5
      rw [show ({ rb with state := if (some Code.ret).isNone then LoopState.ready else LoopState.done, pending := some .ret } : Loop) = rc .done (some .ret) from HRE2.out .done (some .ret)] at hend
      refine ⟨_, _, hend, HR'.out _ _ (.inr ⟨rfl, ?_, ?_, ?_⟩)⟩
      · exact (World.putObj_heap_other (by omega)).trans ((hk.same _ (by omega) (by omega)).trans r4)
      · exact World.putObj_heap_same (lt_of_block u5)
      · exact HJX.out _ _ hjx ((Tch.refl B V2).put _ _ (by omega) (by omega))
  · rintro e W2 ⟨⟨v, rfl⟩, (⟨k, hk1, hk2, p0, p1, p2, p3, p4, p5, pj⟩ | ⟨p4, p5, pj⟩)⟩
    · have hend := run_endLoop (P := Try.prog) p5 (by rw [hst.1]; simp)
      rw [show (rc .ready none).pending = none from by rw [HRC.out]] at hend
      refine ⟨none, _, hend, ?_⟩
      gi_wp2
      refine ⟨by simp, .inl ⟨_, _, rfl, run_takeDeferred ((World.putObj_heap_other (by omega)).trans p4), ?_⟩⟩
      exact ⟨_, results_none rfl _ _ _, ⟨_, rfl⟩, .inl ⟨k, hk1, hk2, HJ.out _ _ _ pj (((Tch.refl B W2).put _ _ (by omega) (by omega)).put _ _ (by omega) (by omega))⟩⟩
    · have hend := run_endLoop (P := Try.prog) p5 (by rw [HRC.out]; simp)
      rw [show (rc .done (some .ret)).pending = some .ret from by rw [HRC.out]] at hend
      refine ⟨some .ret, _, hend, ?_⟩
      gi_wp2
      refine ⟨by simp, .inl ⟨_, _, rfl, run_takeDeferred ((World.putObj_heap_other (by omega)).trans p4), ?_⟩⟩
      exact ⟨_, results_none rfl _ _ _, ⟨_, rfl⟩, .inr (HJX.out _ _ pj (((Tch.refl B W2).put _ _ (by omega) (by omega)).put _ _ (by omega) (by omega)))⟩
end Go.Proofs.Ytladknjmoahdoaa

set_option linter.all false
namespace Go.Proofs.Ytladknjmoahdoaa
open Go.RowKit Go.Shelf Go
attribute [local go_sem] Oper.semAt_some

def noDefer (o : Oper) : Bool := match o.op with | .defer _ => false | _ => true
theorem noDefer_ne {o : Oper} (h : noDefer o = true) : ∀ c, o.op ≠ .defer c := fun c e => by
  unfold noDefer at h
  rw [e] at h
  cases h
theorem op_in {P : Program} {ops : Array Oper} {Q : Exit → Act → World → Prop} {l n i : Nat} {K K' : Act → World → Prop} {a : Act} {w : World} (hno : ¬ LetsOut Q) (hnd : ops.all noDefer = true) (hK : ∀ a w, K a w → K' a w) (h : wpOp P ops Q i K a w) :
    wpOpIn (Fence.wide.inRound l) n P ops Q i K' a w := by
  unfold wpOp at h
  unfold wpOpIn
  cases ho : ops[i]? with
  | none =>
    rw [ho] at h
    exact hK _ _ h
  | some o =>
    rw [ho] at h
    dsimp only at h ⊢
    have hd : noDefer o = true := by
      rw [Array.all_eq_true] at hnd
      obtain ⟨hi, he⟩ := Array.getElem?_eq_some_iff.1 ho
      rw [← he]; exact hnd i hi
    split
    · rename_i hw
      rw [if_pos hw] at h
      have h2 := h.resolve_right fun h3 => hno h3.2
      refine ⟨fun _ _ => trivial, ?_⟩
      rw [show (Fence.wide.inRound l).round = some l from rfl, Oper.semAt_some l a.eval o (noDefer_ne hd)]
      unfold Oper.wp at h2
      generalize (execOp a.eval o).run P w = r at h2 ⊢
      cases r with
      | ok x w' =>
        cases x with
        | value v => exact hK _ _ h2
        | skip => exact hK _ _ h2
        | defer d => exact hK _ _ h2
        | enter f args =>
          refine ⟨fun h => (by cases h), ?_⟩
          refine CallsIn.inRound l (callsIn_wide.2 (Calls.mono h2 fun e w'' he => ?_))
          cases e <;> first | exact hK _ _ he | exact he
        | row row args =>
          refine ⟨fun h => (by cases h), fun c cs _ => ?_⟩
          obtain ⟨v, w2, r, st⟩ := h2 c cs
          exact ⟨v, w2, hK _ _ r, stepsIn_wide.2 st⟩
        | _ => exact h2.elim
      | halt x w' => cases x <;> first | exact h2 | exact h2.elim
    · rename_i hw
      rw [if_neg hw] at h
      exact ⟨fun _ _ => trivial, hK _ _ h⟩
theorem anyIn_of_any {P : Program} {md : Region.Mode} {ops : Array Oper} {Q : Exit → Act → World → Prop} {l n : Nat} (hno : ¬ LetsOut Q) (hnd : ops.all noDefer = true) :
    ∀ (f : Nat) (li : Array Bool) (a : Act) (w : World), wpAny P md ops Q f li a w → wpAnyIn (Fence.wide.inRound l) n P md ops Q f li a w
  | 0, _, _, _, h => h
  | f + 1, _, _, _, h => ⟨h.1, fun i hi => op_in hno hnd (fun a w => anyIn_of_any hno hnd f _ a w) (h.2 i hi)⟩
end Go.Proofs.Ytladknjmoahdoaa

set_option linter.all false
namespace Go.Proofs.Ytladknjmoahdoaa
open Go.RowKit Go.Shelf Go
attribute [local go_sem] Oper.semAt_some

/-- The piece number k of bytes. -/
def pieceL (bs : List UInt8) (k : Nat) : List UInt8 := (bs.drop (k * 256)).take 256
/-- So many pieces written one behind the other, from a page on, as far as the first error. -/
def writesD (d : DiskT) (name : ByteArray) (a : Nat) (bs : List UInt8) : Nat → Int × DiskT
  | 0 => (0, d)
  | k + 1 => if (writesD d name a bs k).1 = 0 then writeD (writesD d name a bs k).2 name ((a + k : Nat) : Int) (pieceL bs k) else writesD d name a bs k
theorem writesD_stop {d : DiskT} {name : ByteArray} {a : Nat} {bs : List UInt8} {k : Nat} (h : (writesD d name a bs k).1 ≠ 0) : ∀ j, writesD d name a bs (k + j) = writesD d name a bs k
  | 0 => rfl
  | j + 1 => by
    have ih := writesD_stop h j
    show (if (writesD d name a bs (k + j)).1 = 0 then writeD (writesD d name a bs (k + j)).2 name ((a + (k + j) : Nat) : Int) (pieceL bs (k + j)) else writesD d name a bs (k + j)) = _
    rw [ih, if_neg h]
theorem writesD_steps (d : DiskT) (name : ByteArray) (a : Nat) (bs : List UInt8) : ∀ k, (writesD d name a bs k).2.steps ≤ d.steps + k
  | 0 => Nat.le_refl _
  | k + 1 => by
    have ih := writesD_steps d name a bs k
    unfold writesD
    split
    · have := write_steps (writesD d name a bs k).2 name ((a + k : Nat) : Int) (pieceL bs k)
      omega
    · omega
theorem writesD_inv {d : DiskT} (h : Inv d) (name : ByteArray) (a : Nat) (bs : List UInt8) : ∀ k, Inv (writesD d name a bs k).2
  | 0 => h
  | k + 1 => by
    have ih := writesD_inv h name a bs k
    unfold writesD
    split
    · exact ih.writeD' _ _ _
    · exact ih
theorem pieceL_len {bs : List UInt8} {n : Nat} (h : bs.length = n) (k : Nat) : (pieceL bs k).length = min 256 (n - k * 256) := by
  unfold pieceL
  rw [List.length_take, List.length_drop, h]
set_option maxHeartbeats 1000000 in
theorem pagesF_any (A : Option Addr) (n c : Nat) (p : Addr) (W : World) : Calls Try.prog 30 #[.pointer (some p), .slice A n c] W fun e w' => e = .returned (.func (.func 48) #[] #[.pointer (some ⟨W.heap.size, 0, none⟩), .pointer (some ⟨W.heap.size + 1, 0, none⟩)]) ∧ (W.alloc (.cells #[.pointer (some p)] 24)).alloc (.cells #[.slice A n c] 30) = w' := by
  go_enter Try.func30, Try.ntmps30
  go_wp2_with fail
  go_ret
  exact ⟨rfl, rfl⟩
theorem left_of {B dp : Nat} {F F' : List Nat} {d' : DiskT} {W A C : World} (h : Fr F W A) (hd : DkO A dp F' d') (hn : ∀ i ∈ F', i ∈ F ∨ B + 11 ≤ i) (hB : W.heap.size = B) (hF : ∀ i ∈ F, i < B) (hf : Fr [B, B + 3, B + 4] A C) : LeftO W dp F d' F' C :=
  ⟨hd.fr hf fun i hi hm => by
    simp only [List.mem_cons, List.not_mem_nil, or_false] at hm
    rcases hn i hi with h1 | h1
    · have := hF i h1; omega
    · omega, h.trans hf fun i hm hl => by
    simp only [List.mem_cons, List.not_mem_nil, or_false] at hm
    omega, fun i hi => (hn i hi).imp id fun h1 => by omega⟩
theorem results_cell1 {fn : Func} {p : Tmp} {ty : TypeId} (h : fn.results = #[.cell p ty]) (tmps : Array Value) (P : Program) (w : World) {a : Addr} {v : Value} (hp : tmps.getD p undef = .pointer (some a)) (hl : (loadVar ty a).run P w = .ok v w) : (results fn tmps).run P w = .ok v w := by
  simp only [Array.getD_eq_getD_getElem?] at hp
  simp only [results, h]
  simp [Sem.run_bind, Result.andThen, hp, asAddr, hl]
theorem load_errno {w : World} {b : Nat} {v : Int} (h : w.cell? ⟨b, 0, none⟩ = some (.int .i64 v)) : (loadVar 26 ⟨b, 0, none⟩).run Try.prog w = .ok (.int .i64 v) w := by
  go_simp
/-- What a loop over a function leaves behind it: its record, the result's cell, the block of deferred calls. -/
theorem fr_three {B : Nat} {A : World} (o o' : Obj) (v : Value) : Fr [B, B + 3, B + 4] A (((A.putObj (B + 4) o).setCell ⟨B, 0, none⟩ v).putObj (B + 3) o') :=
  ⟨rfl, rfl, rfl, by rw [World.putObj_size]; show _ ≤ (World.setCell _ _ _).heap.size; unfold World.setCell; simp, fun i _ hn => by
    simp only [List.mem_cons, List.not_mem_nil, or_false, not_or] at hn
    exact (World.putObj_heap_other (by omega)).trans ((Below.heap_setCell _ ⟨B, 0, none⟩ _ i (by simp; omega)).trans (World.putObj_heap_other (by omega)))⟩
theorem fr_two {B : Nat} {A : World} (o o' : Obj) : Fr [B, B + 3, B + 4] A ((A.putObj (B + 4) o).putObj (B + 3) o') :=
  ⟨rfl, rfl, rfl, by rw [World.putObj_size, World.putObj_size]; exact Nat.le_refl _, fun i _ hn => by
    simp only [List.mem_cons, List.not_mem_nil, or_false, not_or] at hn
    exact (World.putObj_heap_other (by omega)).trans (World.putObj_heap_other (by omega))⟩
theorem cells_drop {w : World} {ad : Addr} {xs : List Value} (h : Cells w (some ad) xs) (k : Nat) : Cells w (some (ad.add k)) (xs.drop k) := fun hn => by
  obtain ⟨ad', e, hc⟩ := h (by rw [List.length_drop] at hn; omega)
  injection e with e
  subst e
  refine ⟨_, rfl, fun j u hj => ?_⟩
  rw [List.getElem?_drop] at hj
  have h1 := hc _ _ hj
  have e2 : (ad.add k).add j = ad.add (k + j) := by
    unfold Addr.add
    by_cases hk : k = 0
    · subst hk; simp
    · by_cases hj0 : j = 0
      · subst hj0; simp [hk]
      · rw [if_neg hk, if_neg hj0, if_neg (by omega)]; simp [Nat.add_assoc]
  rw [e2]; exact h1
theorem add_block (ad : Addr) (j : Nat) : (ad.add j).block = ad.block := by unfold Addr.add; split <;> rfl
theorem cells_fr {F : List Nat} {w w' : World} {ad : Addr} {xs : List Value} (h : Cells w (some ad) xs) (hf : Fr F w w') (hn : ad.block ∉ F) : Cells w' (some ad) xs := fun hl => by
  obtain ⟨a, e, hc⟩ := h hl
  injection e with e
  subst e
  exact ⟨_, rfl, fun j u hj => hf.cellKept (by rw [add_block]; exact hn) (hc j u hj)⟩
theorem alloc3 (W : World) (a b c : Obj) : ∃ w3, ((W.alloc a).alloc b).alloc c = w3 ∧ w3.heap.size = W.heap.size + 3 ∧ Below W.heap.size W w3 ∧ w3.heap[W.heap.size]? = some a ∧ w3.heap[W.heap.size + 1]? = some b ∧ w3.heap[W.heap.size + 2]? = some c :=
  ⟨_, rfl, by simp, ((Below.refl W.heap.size W).alloc (Nat.le_refl _) _ |>.alloc (by simp) _).alloc (by simp; omega) _, alloc_old _ (alloc_old _ (alloc1 W a rfl)), alloc_old _ (alloc1 _ b (by simp)), alloc1 _ c (by simp)⟩
set_option maxRecDepth 100000 in
set_option maxHeartbeats 8000000 in
theorem append3_any {bl bb lp dp n c long : Nat} {F : List Nat} {d : DiskT} {name : ByteArray} {ad : Addr} {bs : List UInt8} {W : World}
    (hd : DkO W dp F d) (hst : d.steps ≤ 1000000000) (h1 : W.cell? ⟨bl, 0, none⟩ = some (.pointer (some ⟨lp, 0, none⟩))) (h2 : W.cell? ⟨bb, 0, none⟩ = some (.slice (some ad) n c)) (g0 : W.cell? ⟨lp, 0, none⟩ = some (.pointer (some ⟨dp, 0, none⟩))) (g1 : W.cell? ⟨lp, 1, none⟩ = some (.string name)) (g2 : W.cell? ⟨lp, 2, none⟩ = some (.int .i64 (long : Int)))
    (hb : Cells W (some ad) (bv bs)) (hn : bs.length = n) (hnl : n ≤ 1000000000) (hc : n ≤ c) (hlong : long ≤ 1000000000) (hFl : bl ∉ F) (hFp : lp ∉ F) (hFa : ad.block ∉ F) :
    Calls Try.prog 29 #[.pointer (some ⟨bl, 0, none⟩), .pointer (some ⟨bb, 0, none⟩)] W fun e w' => e = .returned (.int .i64 (writesD d name (long / 256 + 1) bs ((n + 255) / 256)).1) ∧ ∃ F', LeftO W dp F (writesD d name (long / 256 + 1) bs ((n + 255) / 256)).2 F' w' := by
  have HD := Lib.hid hd
  have HB := Lib.hid hb
  have HN := Lib.hid hn
  have HFL := Lib.hid hFl
  have HFP := Lib.hid hFp
  have HFA := Lib.hid hFa
  have HST := Lib.hid hst
  have H1 := Lib.hid h1
  have HG0 := Lib.hid g0
  have HG1 := Lib.hid g1
  have HG2 := Lib.hid g2
  have k1 := fun o => cell_below ((Below.refl W.heap.size W).alloc (Nat.le_refl _) o) h1
  have k2 := fun o => cell_below ((Below.refl W.heap.size W).alloc (Nat.le_refl _) o) h2
  clear hd hb hn hst h1 h2 g0 g1 g2 hFl hFp hFa
  refine (callsIn_wide (n := 9)).1 (callsIn_of_wp_marks Try.func29 rfl trivial ?_ rfl)
  simp only [Try.ntmps29, List.size_toArray, List.length_cons, List.length_nil, Nat.reduceAdd, Nat.reduceSub, Array.replicate_succ, Array.replicate_zero, List.push_toArray, List.append_toArray, List.nil_append, List.cons_append]
  gi_wp2
  refine ⟨trivial, CallsIn.mono (callsIn_wide.2 (pagesF_any _ _ _ _ _)) ?_⟩
  rintro e w' ⟨rfl, rfl⟩
  dsimp only
  simp only [World.size_alloc]
  clear k1 k2
  obtain ⟨w3, hw3, hs3, hb3, o0, o1, o2⟩ := alloc3 W (.cells #[.int .i64 0] 26) (.cells #[.pointer (some ⟨lp, 0, none⟩)] 24) (.cells #[.slice (some ad) n c] 30)
  rw [hw3]
  have HB3 := Lib.hid hb3
  clear hw3 hb3
  obtain ⟨B, hB⟩ : ∃ B, W.heap.size = B := ⟨_, rfl⟩
  rw [hB] at o0 o1 o2 hs3
  simp only [hB] at ⊢
  gi_wp2
  refine range_words rfl (enters_of Try.func48 (by kernel_rfl) rfl) ?_
  intro fn rc W1 hrc hs1 hbw hdf hlp
  rw [hs3] at hs1 hdf hlp hrc ⊢
  dsimp only at hrc
  have hold : ∀ (i : Nat) (x : Obj), w3.heap[i]? = some x → W1.heap[i]? = some x := fun i x hx => (hbw.block i (lt_of_block hx)).trans hx
  show CallsIn Fence.wide (9 - 1) Try.prog 48 #[.func (.yield (B + 4)) #[] #[], .pointer (some ⟨B + 1, 0, none⟩), .pointer (some ⟨B + 2, 0, none⟩)] W1 _
  have HRC := Lib.hid hrc
  have hst : (rc .ready none).state = .ready ∧ (rc .ready none).params = #[9, 10] := by rw [hrc]; exact ⟨rfl, rfl⟩
  have HRE := Lib.hid (show ∀ st st' pe, ({ ({ rc .ready none with state := st' } : Loop) with state := st, pending := pe } : Loop) = rc st pe from fun st st' pe => by rw [hrc])
  have HB1 := Lib.hid (show Below W.heap.size W W1 from HB3.out.trans (hbw.mono (by omega)))
  clear hrc
  have hs1 : W1.heap.size = B + 5 := by omega
  have hFB : ∀ i ∈ F, i < B := fun i hi => by rw [← hB]; exact HD.out.lt i hi
  have HFB := Lib.hid hFB
  have hdk : ∀ (A C : World) (F' : List Nat) (d' : DiskT), Tch (B + 5) A C → DkO A dp F' d' → (∀ i ∈ F', i ∈ F ∨ B + 11 ≤ i) → DkO C dp F' d' := fun _ _ _ _ ht h hF' => h.fr ht.fr fun i hi hm => by
    simp only [List.mem_cons, List.not_mem_nil, or_false] at hm
    rcases hF' i hi with h1 | h1
    · have := HFB.out i h1; omega
    · omega
  have hfr : ∀ (A C : World), Tch (B + 5) A C → Fr F W A → Fr F W C := fun _ _ ht h => h.trans ht.fr fun i hm hl => by
    simp only [List.mem_cons, List.not_mem_nil, or_false] at hm
    omega
  have HDK := Lib.hid hdk
  have HFR := Lib.hid hfr
  clear hdk hfr
  have hbk : ∀ (A C : World) (i : Nat) (o : Obj), Tch (B + 5) A C → i < B + 5 → A.heap[i]? = some o → C.heap[i]? = some o := fun _ _ _ _ ht hi h => (ht.same _ (lt_of_block h) (.inl hi)).trans h
  have HBK := Lib.hid hbk
  clear hbk hFB
  have hj0 : Fr F W W1 := Fr.below HB1.out
  have hd1 : DkO W1 dp F d := HD.out.below HB1.out
  have hbl : bl < B := by rw [← hB]; exact World.block_lt_of_cell? W _ H1.out
  have hlpb : lp < B := by rw [← hB]; exact World.block_lt_of_cell? W _ HG0.out
  refine (pages_in (W := W1) (bl := B + 1) (bb := B + 2) (lp := lp) (ad := ad) (n := n) (c := c) (long := long) (J := fun k V => V.heap[B + 4]? = some (.loop (rc .ready none)) ∧ V.heap[B + 3]? = some (.deferred (some [])) ∧ V.heap[B]? = some (.cells #[.int .i64 0] 26) ∧ Fr F W V ∧ (writesD d name (long / 256 + 1) bs k).1 = 0 ∧ ∃ F', DkO V dp F' (writesD d name (long / 256 + 1) bs k).2 ∧ ∀ i ∈ F', i ∈ F ∨ B + 11 ≤ i)
    (Jx := fun V => V.heap[B + 4]? = some (.loop (rc .done (some .ret))) ∧ V.heap[B + 3]? = some (.deferred (some [])) ∧ ∃ k, k * 256 < n ∧ (writesD d name (long / 256 + 1) bs (k + 1)).1 ≠ 0 ∧ V.heap[B]? = some (.cells #[.int .i64 (writesD d name (long / 256 + 1) bs (k + 1)).1] 26) ∧ Fr F W V ∧ ∃ F', DkO V dp F' (writesD d name (long / 256 + 1) bs (k + 1)).2 ∧ ∀ i ∈ F', i ∈ F ∨ B + 11 ≤ i)
    (cell_of (j := 0) (hold _ _ o1) rfl) (cell_of (j := 0) (hold _ _ o2) rfl) (cell_below HB1.out HG2.out) ?hJ ?hJx ?hY ?h0 hnl hc hlong).mono ?_
  case hJ =>
    rw [hs1]
    rintro k A C ⟨p0, p1, p2, p3, p4, F', p5, p6⟩ ht
    exact ⟨HBK.out _ _ _ _ ht (by omega) p0, HBK.out _ _ _ _ ht (by omega) p1, HBK.out _ _ _ _ ht (by omega) p2, HFR.out _ _ ht p3, p4, F', HDK.out _ _ _ _ ht p5 p6, p6⟩
  case hJx =>
    rw [hs1]
    rintro A C ⟨p0, p1, k, p2, p3, p4, p5, F', p6, p7⟩ ht
    exact ⟨HBK.out _ _ _ _ ht (by omega) p0, HBK.out _ _ _ _ ht (by omega) p1, k, p2, p3, HBK.out _ _ _ _ ht (by omega) p4, HFR.out _ _ ht p5, F', HDK.out _ _ _ _ ht p6 p7, p7⟩
  case h0 => exact ⟨hlp, hdf, hold _ _ o0, hj0, rfl, F, hd1, fun i hi => .inl hi⟩
  case hY =>
    rw [hs1]
    rintro k V ⟨p0, p1, p2, p3, p4, F', p5, p6⟩ hlt hsz
    refine yield_post fun R' hR' => ?_
    have HR' := Lib.hid hR'
    have ha := congrArg (fun f => (f LoopState.ready none).assign) HRC.out
    have hbo := congrArg (fun f => (f LoopState.ready none).body) HRC.out
    have ht := congrArg (fun f => (f LoopState.ready none).tmps) HRC.out
    dsimp only at ha hbo ht
    clear hR'
    obtain ⟨ks, hks⟩ : ∃ ks : Nat, long / 256 + 1 + k = ks := ⟨_, rfl⟩
    obtain ⟨mn, hmn⟩ : ∃ mn, min 256 (n - k * 256) = mn := ⟨_, rfl⟩
    have hcv : chunkV ad n k = .slice (some (ad.add (k * 256))) mn mn := by unfold chunkV; rw [hmn]
    have hpl : (pieceL bs k).length = mn := (pieceL_len HN.out k).trans hmn
    rw [hcv, hks]
    have HKS := Lib.hid hks
    have HPL := Lib.hid hpl
    refine yield_wide p0 (by rw [hst.2]; rfl) ?_
    rw [ha, ht, hst.2, hbo, put_two]
    simp only [List.setIfInBounds_toArray, List.set_cons_succ, List.set_cons_zero]
    clear ha hbo ht hks hmn hcv hpl
    gi_wp2
    refine ⟨_, run_beginRound p0 hst.1, ?_⟩
    obtain ⟨rb, hrb⟩ : ∃ rb : Loop, ({ rc .ready none with state := .busy } : Loop) = rb := ⟨_, rfl⟩
    have HRE2 := Lib.hid (show ∀ st pe, ({ rb with state := st, pending := pe } : Loop) = rc st pe from fun st pe => by rw [← hrb]; exact HRE.out st .busy pe)
    rw [hrb]
    have hfp : Fr [B + 4] V (V.putObj (B + 4) (.loop rb)) := ⟨rfl, rfl, rfl, by rw [World.putObj_size]; exact Nat.le_refl _, fun i _ hn => World.putObj_heap_other (by simpa using hn)⟩
    have r4 : (V.putObj (B + 4) (.loop rb)).heap[B + 4]? = some (.loop rb) := World.putObj_heap_same (by omega)
    have HFV := Lib.hid hfp
    clear hfp
    generalize V.putObj (B + 4) (.loop rb) = V1 at HFV r4 ⊢
    have r3 := HFV.out.kept (by simp) p1
    have r0 := HFV.out.kept (by simp) p2
    have hd5 := p5.fr HFV.out fun i hi hm => by
      simp only [List.mem_singleton] at hm
      rcases p6 i hi with h1 | h1
      · have := HFB.out i h1; omega
      · omega
    have c0 := HFV.out.cellKept (show bl ∉ [B + 4] by simp; omega) (p3.cellKept HFL.out H1.out)
    have c1 := HFV.out.cellKept (show lp ∉ [B + 4] by simp; omega) (p3.cellKept HFP.out HG0.out)
    have c2 := HFV.out.cellKept (show lp ∉ [B + 4] by simp; omega) (p3.cellKept HFP.out HG1.out)
    have hadb : ad.block < B := by
      obtain ⟨a, e, hcc⟩ := HB.out (by unfold bv; rw [List.length_map, HN.out]; omega)
      injection e with e
      subst e
      have := cell_lt (hcc 0 _ (List.getElem?_eq_getElem (by unfold bv; rw [List.length_map, HN.out]; omega)))
      rw [add_block] at this
      omega
    have hcb : Cells V1 (some ad) (bv bs) := cells_fr (cells_fr HB.out p3 HFA.out) HFV.out (by simp; omega)
    have hcp : Cells V1 (some (ad.add (k * 256))) (bv (pieceL bs k)) := by
      unfold pieceL bv
      rw [List.map_take, List.map_drop]
      exact (cells_drop hcb (k * 256)).take 256
    have hstk : (writesD d name (long / 256 + 1) bs k).2.steps ≤ 3000000000 := by
      have h2 := writesD_steps d name (long / 256 + 1) bs k
      have h3 := HST.out
      omega
    have hwr := fun V' (hV : Fr [] V1 V') => DkO.write (hd5.fr hV fun _ _ => by simp) (Nat.le_trans hstk (by decide)) name (ks : Int) (pieceL bs k) (some (ad.add (k * 256))) mn mn (hcp.keep fun p v h => hV.cellKept (by simp) h) HPL.out
    obtain ⟨rw_, hrw⟩ : ∃ r, writeD (writesD d name (long / 256 + 1) bs k).2 name (ks : Int) (pieceL bs k) = r := ⟨_, rfl⟩
    have hws : writesD d name (long / 256 + 1) bs (k + 1) = rw_ := by
      rw [← hrw, ← HKS.out]
      show (if (writesD d name (long / 256 + 1) bs k).1 = 0 then _ else _) = _
      rw [if_pos p4]
    rw [hrw] at hwr
    have HWR := Lib.hid hwr
    have HWS := Lib.hid hws
    have P3 := Lib.hid p3
    have P6 := Lib.hid p6
    have HKL := Lib.hid hlt
    have HF5 := Lib.hid (fun i hi => hd5.lt i hi)
    clear p0 p1 p2 p3 p4 p5 p6 hwr hws hcb hcp hrw hd5 hstk
    gi_wp2
    refine wpIn_region_any (by kernel_rfl) (anyIn_of_any (fun ⟨_, _, h⟩ => h) (by kernel_rfl) _ _ _ _ (anyG_any (S := fun V' : World => V'.cell? ⟨bl, 0, none⟩ = some (.pointer (some ⟨lp, 0, none⟩)) ∧ V'.cell? ⟨lp, 0, none⟩ = some (.pointer (some ⟨dp, 0, none⟩)) ∧ V'.cell? ⟨lp, 1, none⟩ = some (.string name)) (n := 11) _ _ _ _ ?_))
    have hS : V1.drew.cell? ⟨bl, 0, none⟩ = some (.pointer (some ⟨lp, 0, none⟩)) ∧ V1.drew.cell? ⟨lp, 0, none⟩ = some (.pointer (some ⟨dp, 0, none⟩)) ∧ V1.drew.cell? ⟨lp, 1, none⟩ = some (.string name) := ⟨c0, c1, c2⟩
    clear c0 c1 c2
    change AnyG _ _ _ _ _ _ 12 (Array.replicate 12 false) _ V1.drew
    refine anyG_take (i := 0) (oi := ⟨_, _, _, _, _, _⟩) (v := ?_) rfl rfl (by kernel_rfl) (by kernel_rfl) (by kernel_rfl) (by kernel_rfl) (by kernel_rfl) (fun _ _ _ h => h) (Or.inl ⟨by rfl, ?_⟩) hS ?_
    rotate_left
    · (intro w' hSw; obtain ⟨s1, s2, s3⟩ := hSw; go_simp; (try with_reducible rfl))
    try simp only [Act.put, List.setIfInBounds_toArray, List.set_cons_zero, List.set_cons_succ]
    refine anyG_take (i := 1) (oi := ⟨_, _, _, _, _, _⟩) (v := ?_) rfl rfl (by kernel_rfl) (by kernel_rfl) (by kernel_rfl) (by kernel_rfl) (by kernel_rfl) (fun _ _ _ h => h) (Or.inl ⟨by rfl, ?_⟩) hS ?_
    rotate_left
    · (intro w' hSw; skip; go_simp; (try with_reducible rfl))
    try simp only [Act.put, List.setIfInBounds_toArray, List.set_cons_zero, List.set_cons_succ]
    refine anyG_take (i := 2) (oi := ⟨_, _, _, _, _, _⟩) (v := ?_) rfl rfl (by kernel_rfl) (by kernel_rfl) (by kernel_rfl) (by kernel_rfl) (by kernel_rfl) (fun _ _ _ h => h) (Or.inl ⟨by rfl, ?_⟩) hS ?_
    rotate_left
    · (intro w' hSw; skip; go_simp; (try with_reducible rfl))
    try simp only [Act.put, List.setIfInBounds_toArray, List.set_cons_zero, List.set_cons_succ]
    refine anyG_take (i := 3) (oi := ⟨_, _, _, _, _, _⟩) (v := ?_) rfl rfl (by kernel_rfl) (by kernel_rfl) (by kernel_rfl) (by kernel_rfl) (by kernel_rfl) (fun _ _ _ h => h) (Or.inl ⟨by rfl, ?_⟩) hS ?_
    rotate_left
    · (intro w' hSw; obtain ⟨s1, s2, s3⟩ := hSw; go_simp; (try with_reducible rfl))
    try simp only [Act.put, List.setIfInBounds_toArray, List.set_cons_zero, List.set_cons_succ]
    refine anyG_take (i := 4) (oi := ⟨_, _, _, _, _, _⟩) (v := ?_) rfl rfl (by kernel_rfl) (by kernel_rfl) (by kernel_rfl) (by kernel_rfl) (by kernel_rfl) (fun _ _ _ h => h) (Or.inl ⟨by rfl, ?_⟩) hS ?_
    rotate_left
    · (intro w' hSw; obtain ⟨s1, s2, s3⟩ := hSw; go_simp; (try with_reducible rfl))
    try simp only [Act.put, List.setIfInBounds_toArray, List.set_cons_zero, List.set_cons_succ]
    refine anyG_take (i := 5) (oi := ⟨_, _, _, _, _, _⟩) (v := ?_) rfl rfl (by kernel_rfl) (by kernel_rfl) (by kernel_rfl) (by kernel_rfl) (by kernel_rfl) (fun _ _ _ h => h) (Or.inl ⟨by rfl, ?_⟩) hS ?_
    rotate_left
    · (intro w' hSw; skip; go_simp; (try with_reducible rfl))
    try simp only [Act.put, List.setIfInBounds_toArray, List.set_cons_zero, List.set_cons_succ]
    refine anyG_take (i := 6) (oi := ⟨_, _, _, _, _, _⟩) (v := ?_) rfl rfl (by kernel_rfl) (by kernel_rfl) (by kernel_rfl) (by kernel_rfl) (by kernel_rfl) (fun _ _ _ h => h) (Or.inl ⟨by rfl, ?_⟩) hS ?_
    rotate_left
    · (intro w' hSw; skip; go_simp; (try with_reducible rfl))
    try simp only [Act.put, List.setIfInBounds_toArray, List.set_cons_zero, List.set_cons_succ]
    refine anyG_take (i := 7) (oi := ⟨_, _, _, _, _, _⟩) (v := ?_) rfl rfl (by kernel_rfl) (by kernel_rfl) (by kernel_rfl) (by kernel_rfl) (by kernel_rfl) (fun _ _ _ h => h) (Or.inl ⟨by rfl, ?_⟩) hS ?_
    rotate_left
    · (intro w' hSw; obtain ⟨s1, s2, s3⟩ := hSw; go_simp; (try with_reducible rfl))
    try simp only [Act.put, List.setIfInBounds_toArray, List.set_cons_zero, List.set_cons_succ]
    refine anyG_take (i := 8) (oi := ⟨_, _, _, _, _, _⟩) (v := ?_) rfl rfl (by kernel_rfl) (by kernel_rfl) (by kernel_rfl) (by kernel_rfl) (by kernel_rfl) (fun _ _ _ h => h) (Or.inl ⟨by rfl, ?_⟩) hS ?_
    rotate_left
    · (intro w' hSw; skip; go_simp; (try with_reducible rfl))
    try simp only [Act.put, List.setIfInBounds_toArray, List.set_cons_zero, List.set_cons_succ]
    refine anyG_take (i := 9) (oi := ⟨_, _, _, _, _, _⟩) (v := ?_) rfl rfl (by kernel_rfl) (by kernel_rfl) (by kernel_rfl) (by kernel_rfl) (by kernel_rfl) (fun _ _ _ h => h) (Or.inl ⟨by rfl, ?_⟩) hS ?_
    rotate_left
    · (intro w' hSw; skip; go_simp; (try with_reducible rfl))
    try simp only [Act.put, List.setIfInBounds_toArray, List.set_cons_zero, List.set_cons_succ]
    refine anyG_all (rs := [10]) (by kernel_rfl) (by simp) (List.forall_mem_singleton.2 ?_)
    refine wpOp_step (o := ⟨_, _, _, _, _, _⟩) rfl (fun K' hK => ?_)
    have HK := Lib.hid hK
    clear hK
    rw [if_pos (by rfl)]
    go_simp
    refine (HWR.out _ (Fr.refl _ _).drew).mono ?_
    rintro e V2 ⟨rfl, F'', hL⟩
    have HL := Lib.hid hL
    have hF2 : ∀ i ∈ F'', i ∈ F ∨ B + 11 ≤ i := fun i hi => by
      rcases hL.new i hi with h1 | h1
      · exact P6.out i h1
      · right
        have h2 : V1.heap.size ≤ i := h1
        have h3 := HFV.out.size
        omega
    have HF2 := Lib.hid hF2
    have hS : V2.cell? ⟨bl, 0, none⟩ = some (.pointer (some ⟨lp, 0, none⟩)) ∧ V2.cell? ⟨lp, 0, none⟩ = some (.pointer (some ⟨dp, 0, none⟩)) ∧ V2.cell? ⟨lp, 1, none⟩ = some (.string name) := ⟨hL.fr.cellKept (fun hi => by rcases P6.out _ hi with h | h; exact HFL.out h; have h2 : B + 11 ≤ bl := h; omega) hS.1, hL.fr.cellKept (fun hi => by rcases P6.out _ hi with h | h; exact HFP.out h; have h2 : B + 11 ≤ lp := h; omega) hS.2.1, hL.fr.cellKept (fun hi => by rcases P6.out _ hi with h | h; exact HFP.out h; have h2 : B + 11 ≤ lp := h; omega) hS.2.2⟩
    clear hL hF2
    go_wp2_with fail
    refine HK.out _ _ ⟨fun _ => hS, ?_⟩
    clear HK hS
    try simp only [Act.put, List.setIfInBounds_toArray, List.set_cons_zero, List.set_cons_succ]
    refine anyG_all (rs := [11]) (by kernel_rfl) (by simp) (List.forall_mem_singleton.2 ?_)
    refine wpOp_step (o := ⟨_, _, _, _, _, _⟩) rfl (fun K' hK => ?_)
    have HK := Lib.hid hK
    clear hK
    rw [if_pos (by rfl)]
    go_simp
    refine HK.out _ _ ⟨fun h => absurd rfl h, anyG_done (by kernel_rfl) ?_⟩
    clear HK
    have n4 : B + 4 ∉ F' := fun hi => by rcases P6.out _ hi with h | h; have := HFB.out _ h; omega; omega
    have n3 : B + 3 ∉ F' := fun hi => by rcases P6.out _ hi with h | h; have := HFB.out _ h; omega; omega
    have n0 : B ∉ F' := fun hi => by rcases P6.out _ hi with h | h; have := HFB.out _ h; omega; omega
    have q4 := HL.out.fr.kept n4 r4
    have q3 := HL.out.fr.kept n3 r3
    have q0 := HL.out.fr.kept n0 r0
    have hfw : Fr F W V2 := (P3.out.trans HFV.out fun i hm hl => by simp only [List.mem_singleton] at hm; omega).trans (show Fr F' V1 V2 from ⟨HL.out.fr.os, HL.out.fr.tape, HL.out.fr.output, HL.out.fr.size, HL.out.fr.block⟩) fun i hm hl => by
      rcases P6.out i hm with h | h
      · exact h
      · omega
    have ho6 : ∀ i, B + 5 ≤ i → i < B + 5 + 6 → V2.heap[i]? = V.heap[i]? := fun i hi hi2 => by
      have h1 := HL.out.fr.block i (show i < V1.heap.size by have := HFV.out.size; omega) fun hm => by
        rcases P6.out i hm with h | h
        · have := HFB.out _ h; omega
        · omega
      have h2 := HFV.out.block i (by omega) (by simp; omega)
      exact h1.trans h2
    have hsv : V.heap.size ≤ V2.heap.size := Nat.le_trans HFV.out.size HL.out.fr.size
    obtain ⟨er, her⟩ : ∃ er, rw_.1 = er := ⟨_, rfl⟩
    rw [her]
    have HER := Lib.hid her
    have HFW := Lib.hid hfw
    have HO6 := Lib.hid ho6
    have Q4 := Lib.hid q4
    have Q3 := Lib.hid q3
    have Q0 := Lib.hid q0
    clear her hfw ho6 q4 q3 r0 r3 r4 n0 n3 n4
    by_cases hz : er = 0
    · subst hz
      clear q0
      gi_wp2
      have hend := run_endRound (P := Try.prog) none Q4.out
      rw [show ({ rb with state := if (none : Option Code).isNone then LoopState.ready else LoopState.done, pending := none } : Loop) = rc .ready none from HRE2.out .ready none] at hend
      have hpp : Fr [B + 4] V2 (V2.putObj (B + 4) (.loop (rc .ready none))) := ⟨rfl, rfl, rfl, by rw [World.putObj_size]; exact Nat.le_refl _, fun i _ hn => World.putObj_heap_other (by simpa using hn)⟩
      have hd6 : DkO (V2.putObj (B + 4) (.loop (rc .ready none))) dp F'' rw_.2 := HL.out.at_.fr hpp fun i hi hm => by
        simp only [List.mem_singleton] at hm
        rcases HF2.out i hi with h | h
        · have := HFB.out _ h; omega
        · omega
      refine ⟨_, _, hend, HR'.out _ _ ⟨.inl ⟨rfl, World.putObj_heap_same (lt_of_block Q4.out), hpp.kept (by simp) Q3.out, hpp.kept (by simp) Q0.out, HFW.out.trans hpp fun i hm hl => (by simp only [List.mem_singleton] at hm; omega), by rw [HWS.out]; exact HER.out, F'', by rw [HWS.out]; exact hd6, HF2.out⟩, ?_⟩⟩
      · exact ⟨by rw [World.putObj_size]; exact hsv, fun i hi hi2 => (World.putObj_heap_other (by omega)).trans (HO6.out i hi hi2)⟩
    · have e0 : V2.cell? ⟨B, 0, none⟩ = some (.int .i64 0) := cell_of (j := 0) q0 rfl
      have f0 : V2.frozen? ⟨B, 0, none⟩ = false := free_of q0 0
      clear q0
      gi_wp2
      have t0 := setCell_heap (j := 0) (.int .i64 er) Q0.out
      have hps : Fr [B] V2 (V2.setCell ⟨B, 0, none⟩ (.int .i64 er)) := (Fr.refl [B] V2).put B 0 _ (.inl (by simp))
      have HPS := Lib.hid hps
      generalize V2.setCell ⟨B, 0, none⟩ (.int .i64 er) = V3 at t0 HPS ⊢
      have q4 := HPS.out.kept (by simp) Q4.out
      have hend := run_endRound (P := Try.prog) (some .ret) q4
      rw [show ({ rb with state := if (some Code.ret).isNone then LoopState.ready else LoopState.done, pending := some .ret } : Loop) = rc .done (some .ret) from HRE2.out .done (some .ret)] at hend
      have hpp : Fr [B + 4] V3 (V3.putObj (B + 4) (.loop (rc .done (some .ret)))) := ⟨rfl, rfl, rfl, by rw [World.putObj_size]; exact Nat.le_refl _, fun i _ hn => World.putObj_heap_other (by simpa using hn)⟩
      have hd6 : DkO (V3.putObj (B + 4) (.loop (rc .done (some .ret)))) dp F'' rw_.2 := (HL.out.at_.fr HPS.out fun i hi hm => by
        simp only [List.mem_singleton] at hm
        rcases HF2.out i hi with h | h
        · have := HFB.out _ h; omega
        · omega).fr hpp fun i hi hm => by
        simp only [List.mem_singleton] at hm
        rcases HF2.out i hi with h | h
        · have := HFB.out _ h; omega
        · omega
      refine ⟨_, _, hend, HR'.out _ _ ⟨.inr ⟨rfl, World.putObj_heap_same (lt_of_block q4), hpp.kept (by simp) (HPS.out.kept (by simp) Q3.out), k, HKL.out, by rw [HWS.out, HER.out]; exact hz, by rw [HWS.out, HER.out]; exact hpp.kept (by simp) t0, (HFW.out.trans HPS.out fun i hm hl => (by simp only [List.mem_singleton] at hm; omega)).trans hpp fun i hm hl => (by simp only [List.mem_singleton] at hm; omega), F'', by rw [HWS.out]; exact hd6, HF2.out⟩, ?_⟩⟩
      · exact ⟨by rw [World.putObj_size]; exact Nat.le_trans hsv HPS.out.size, fun i hi hi2 => (World.putObj_heap_other (by omega)).trans ((HPS.out.block i (by omega) (by simp; omega)).trans (HO6.out i hi hi2))⟩
  · rintro e W2 ⟨⟨v, rfl⟩, (⟨k, hk1, hk2, p0, p1, p2, p3, p4, F', p5, p6⟩ | ⟨p0, p1, k, hk1, hk2, p2, p3, F', p5, p6⟩)⟩
    · have hend := run_endLoop (P := Try.prog) p0 (by rw [hst.1]; simp)
      rw [show (rc .ready none).pending = none from by rw [HRC.out]] at hend
      refine ⟨none, _, hend, ?_⟩
      have e0 : ∀ o, (W2.putObj (B + 4) o).cell? ⟨B, 0, none⟩ = some (.int .i64 0) := fun o => cell_of (j := 0) ((World.putObj_heap_other (by omega)).trans p2) rfl
      have f0 : ∀ o, (W2.putObj (B + 4) o).frozen? ⟨B, 0, none⟩ = false := fun o => free_of ((World.putObj_heap_other (by omega)).trans p2) 0
      gi_wp2
      have hcnt : (n + 255) / 256 = k := by omega
      rw [hcnt]
      refine ⟨by simp, .inl ⟨_, _, rfl, run_takeDeferred ((Below.heap_setCell _ ⟨B, 0, none⟩ _ (B + 3) (by simp)).trans ((World.putObj_heap_other (by omega)).trans p1)), ?_⟩⟩
      refine ⟨.int .i64 0, results_cell1 rfl _ _ _ rfl (load_errno (cell_of (j := 0) ((World.putObj_heap_other (by omega)).trans (setCell_heap (j := 0) _ ((World.putObj_heap_other (by omega)).trans p2))) rfl)), by rw [p4], F', ?_⟩
      exact left_of p3 p5 p6 hB (fun i hi => HFB.out i hi) (fr_three _ _ _)
    · have hend := run_endLoop (P := Try.prog) p0 (by rw [HRC.out]; simp)
      rw [show (rc .done (some .ret)).pending = some .ret from by rw [HRC.out]] at hend
      refine ⟨some .ret, _, hend, ?_⟩
      gi_wp2
      have hcnt : writesD d name (long / 256 + 1) bs ((n + 255) / 256) = writesD d name (long / 256 + 1) bs (k + 1) := by
        rw [show (n + 255) / 256 = (k + 1) + ((n + 255) / 256 - (k + 1)) by omega]
        exact writesD_stop hk2 _
      rw [hcnt]
      refine ⟨by simp, .inl ⟨_, _, rfl, run_takeDeferred ((World.putObj_heap_other (by omega)).trans p1), ?_⟩⟩
      refine ⟨_, results_cell1 rfl _ _ _ rfl (load_errno (cell_of (j := 0) ((World.putObj_heap_other (by omega)).trans ((World.putObj_heap_other (by omega)).trans p2)) rfl)), rfl, F', ?_⟩
      exact left_of p3 p5 p6 hB (fun i hi => HFB.out i hi) (fr_two _ _)
end Go.Proofs.Ytladknjmoahdoaa
