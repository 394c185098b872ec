/- What laying a page and an open write leave of a disk. -/
import Derived.Test.YtladknjmoahdoaaK7
import Derived.Test.YtladknjmoahdoaaAnyG
set_option linter.all false
namespace Go.Proofs.Ytladknjmoahdoaa
open Go.RowKit

theorem mset_cons {α : Type} (p : ByteArray × α) (r : List (ByteArray × α)) (k : ByteArray) (v : α) : mset (p :: r) k v = if p.1 = k then (k, v) :: r else p :: mset r k v := rfl
theorem mset_mset {α : Type} (l : List (ByteArray × α)) (k : ByteArray) (a b : α) : mset (mset l k a) k b = mset l k b := by
  induction l with
  | nil => simp [mset]
  | cons p r ih =>
    rw [mset_cons, mset_cons]
    by_cases h : p.1 = k
    · rw [if_pos h, if_pos h, mset_cons, if_pos rfl]
    · rw [if_neg h, if_neg h, mset_cons, if_neg h, ih]
theorem grown_ofDrew {a w : World} {row : Option Nat} (h : a.drew.grownBy w row) : a.grownBy w row := ⟨h.os, h.tape, h.output, h.size, h.block⟩
theorem OpL.trans {w w1 w2 : World} {p m : Nat} {sb sb1 sb2 : Option Nat} {es es1 es2 : List (ByteArray × FileM)} {d1 d2 : DiskT} (h : OpL w p m sb es d1 sb1 es1 w1) (h' : OpL w1 p m sb1 es1 d2 sb2 es2 w2) : OpL w p m sb es d2 sb2 es2 w2 :=
  ⟨h'.at_, h.fr.trans h'.fr fun i hi hl => by
    rcases h.new i hi with h1 | h1
    · exact h1
    · omega, h.new.trans h'.new h.fr.size⟩
theorem OpL.below {w w1 w2 : World} {p m : Nat} {sb sb1 : Option Nat} {es es1 : List (ByteArray × FileM)} {d1 : DiskT} (h : OpL w p m sb es d1 sb1 es1 w1) (hb : Below w1.heap.size w1 w2) : OpL w p m sb es d1 sb1 es1 w2 :=
  ⟨h.at_.below hb, h.fr.and (Fr.below hb), h.new⟩
theorem OpL.start {w w1 w2 : World} {p m : Nat} {sb sb1 : Option Nat} {es es1 : List (ByteArray × FileM)} {d1 : DiskT} (hb : Below w.heap.size w w1) (h : OpL w1 p m sb es d1 sb1 es1 w2) : OpL w p m sb es d1 sb1 es1 w2 :=
  ⟨h.at_, (Fr.below hb).and h.fr, fun i hi => by
    rcases h.new i hi with h1 | h1
    · exact .inl h1
    · exact .inr (Nat.le_trans hb.size h1)⟩
theorem OpL.here {w : World} {p m : Nat} {sb : Option Nat} {es : List (ByteArray × FileM)} {d : DiskT} (h : DiskAt w p m sb es d) : OpL w p m sb es d sb es w := ⟨h, Fr.refl _ _, NewFp.refl _ _⟩
/-- A store into the disk's own block. -/
theorem OpL.head {w w1 : World} {p m j : Nat} {sb sb1 : Option Nat} {es es1 : List (ByteArray × FileM)} {d1 d2 : DiskT} {u : Value} (h : OpL w p m sb es d1 sb1 es1 w1) (h2 : DiskAt (w1.setCell ⟨p, j, none⟩ u) p m sb1 es1 d2) : OpL w p m sb es d2 sb1 es1 (w1.setCell ⟨p, j, none⟩ u) :=
  ⟨h2, h.fr.put p j u (.inl mem_p), h.new⟩
theorem OpL.drew1 {w w1 : World} {p m : Nat} {sb sb1 : Option Nat} {es es1 : List (ByteArray × FileM)} {d1 : DiskT} (h : OpL w p m sb es d1 sb1 es1 w1) : OpL w p m sb es d1 sb1 es1 w1.drew := ⟨h.at_.drew, h.fr.drew, h.new⟩
theorem DiskAt.drewN {w : World} {p m : Nat} {sb : Option Nat} {es : List (ByteArray × FileM)} {d : DiskT} (h : DiskAt w p m sb es d) (k : Nat) : DiskAt (w.drewN k) p m sb es d := h.fr ((Fr.refl [] w).drewN k) fun _ _ => by simp
theorem OpL.drewN {w w1 : World} {p m : Nat} {sb sb1 : Option Nat} {es es1 : List (ByteArray × FileM)} {d1 : DiskT} (h : OpL w p m sb es d1 sb1 es1 w1) (k : Nat) : OpL w p m sb es d1 sb1 es1 (w1.drewN k) := ⟨h.at_.drewN k, h.fr.drewN k, h.new⟩
section
variable {P : Program} {ops : Array Oper} {o : Oper} {a : Act} {S : World → Prop}
theorem exec_wide {w : World} {ty : TypeId} {x : Operand} (ho : o.op = .load ty x) {b j : Nat} (hx : a.eval x = .pointer (some ⟨b, j, none⟩)) {cs : Array Value} {d : TypeDesc} (hS : w.rangeAt b j cs.toList)
    (hu : P.underlying ty = some d) (hd : d.isRow = true) (hi : (P.info? ty).map (·.size) = some cs.size) : (execOp a.eval o).run P w = .ok (.value (.agg cs)) w := by
  unfold execOp
  simp only [ho, hx, Sem.run_bind, Sem.run_pure, run_load_wide hS hu hd hi, Result.andThen_ok]
theorem exec_build {w : World} {t : TypeId} {parts : Array (Nat × Operand)} (ho : o.op = .build t parts) {cs : Array Value} (hb : P.built t (parts.map fun (i, x) => (i, a.eval x)).toList = some cs) : (execOp a.eval o).run P w = .ok (.value (.agg cs)) w := by
  unfold execOp
  simp only [ho, Sem.run_bind, run_build w t _ cs hb, Result.andThen_ok]
  rfl
theorem yieldsWide (hw : Region.wanted o (yielded ops a.tmps) = true) (ty : TypeId) (x : Operand) (ho : o.op = .load ty x) (b j : Nat) (hx : a.eval x = .pointer (some ⟨b, j, none⟩)) (cs : Array Value) {d : TypeDesc} (hS : ∀ V, S V → V.rangeAt b j cs.toList)
    (hu : P.underlying ty = some d) (hd : d.isRow = true) (hi : (P.info? ty).map (·.size) = some cs.size) : YieldsIf P ops S o (.agg cs) a := by
  have := yieldsIf_load_mid (P := P) (S := S) hw ty x ho b j hx cs.toList d hS hu hd (by rw [Array.length_toList]; exact hi)
  rwa [Array.toArray_toList] at this
theorem yieldsBuild (hw : Region.wanted o (yielded ops a.tmps) = true) (t : TypeId) (parts : Array (Nat × Operand)) (ho : o.op = .build t parts) (cs : Array Value) (hb : P.built t (parts.map fun (i, x) => (i, a.eval x)).toList = some cs) : YieldsIf P ops S o (.agg cs) a :=
  .inl ⟨hw, fun w _ => by
    unfold execOp
    simp only [ho, Sem.run_bind, run_build w t _ cs hb, Result.andThen_ok]
    rfl⟩
theorem wp_slice1 {w : World} {K : Act → World → Prop} {Q : Exit → Act → World → Prop} {T E : TypeId} {z : Value} {size bytes : Nat} (S : SlTyK P T E z size bytes) (i : Nat) (x : Operand) (ho : o.op = .buildSlice T 1 #[(i, x)]) (hi0 : i = 0) (cs : Array Value) (hx : (a.eval x).cells = cs) (hcs : cs.size = size) (hsm : size ≤ 2 ^ 24)
    (h : K (a.put o.dst (.slice (some ⟨w.heap.size, 0, none⟩) 1 1)) (w.alloc (.cells cs E))) : o.wp P a w K Q := by
  subst hi0
  obtain ⟨ie, hie, hz0, hz1, hz2⟩ := info_parts S.info
  refine wp_buildSlice T E 1 _ ho cs ie z S.ul hie hz0 (by omega) (by have := S.pos; omega) ?_ h
  have := fill_one S.pos (a.eval x) ((Array.range (1 * ie.size)).map (z.cells[· % z.cells.size]!)) (by rw [hx]; exact hcs) (by simp [hz1])
  rw [hx] at this
  rw [hz1] at this ⊢
  simpa using this
theorem wp_appk {w : World} {K : Act → World → Prop} {Q : Exit → Act → World → Prop} {T E : TypeId} {z : Value} {size bytes : Nat}
    (S : SlTyK P T E z size bytes) (s x : Operand) (ho : o.op = .call { callee := .builtin .append, args := #[s, x], argTypes := #[T, T] })
    (base : Nat) (v : Value) (n : Nat) (xs : List Value) (hs : a.eval s = v) (hown : w.ownsRow base E size v n xs)
    (A : Option Addr) (m c : Nat) (news : List Value) (hx : a.eval x = .slice A m c) (hl : news.length = m * size) (hnews : Cells w A news) (h1 : ∀ u ∈ news, u.oneCell' = true)
    (hlen : (n + m) * bytes ≤ 140737488355328) (h63 : n + m ≤ 140737488355328) (hbase : base ≤ w.heap.size)
    (h : ∀ v' w', w'.ownsRow base E size v' (n + m) (xs ++ news) → w.grownBy w' v.ownBlock → Below base w w' → (v'.ownBlock = v.ownBlock ∨ v'.ownBlock = some w.heap.size) → K (a.put o.dst v') w') : o.wp P a w K Q := by
  obtain ⟨v', w', hr, h2, hg, hb, hat⟩ := run_appk S o.type hown A m c news hl hnews h1 hlen h63 hbase (fun _ => by cases A; exact .inl rfl; exact .inr ⟨_, rfl⟩)
  unfold Oper.wp execOp
  simp only [ho, resolve, invoke, builtin, Sem.run_bind, Sem.run_pure, Result.andThen_ok, List.map_toArray, List.map_cons, List.map_nil, hs, hx, hr]
  exact h v' w' h2 hg hb hat
end
theorem put_lay {w w' : World} {p m : Nat} {sb : Option Nat} {es : List (ByteArray × FileM)} {d : DiskT} {name : ByteArray} {x : FileM} {l : List PageT} {vn : Value} (h : DiskAt w p m sb es d) (hx : mget es name = some x) (hl : 0 < l.length) (hL : LayP w x.bl x.vn x.vs x.vo l vn w') :
    OpL w p m sb es { d with files := mset d.files name ⟨l, x.f.settled, x.f.opens⟩ } sb (mset es name ⟨x.bl, vn, x.vs, x.vo, ⟨l, x.f.settled, x.f.opens⟩⟩) w' := by
  have hfa := h.files _ (mget_mem hx)
  dsimp only at hfa
  have hap := fp_parts hfa.apart
  have hlt := hfa.lt
  have hfp : ∀ i ∈ x.bl :: x.vn.ownBlock.toList, i ∈ x.fp := fun i hi => by
    rcases List.mem_cons.1 hi with e | e
    · exact FileM.mem_fp.2 (.inl e)
    · exact FileM.mem_fp.2 (.inr (.inl (by simpa using e)))
  have hnx : ∀ g, vn.ownBlock = some g → x.vn.ownBlock = some g ∨ w.heap.size ≤ g := fun g hg => by
    rcases hL.next with e | ⟨g', e, hg'⟩
    · exact .inl (e.symm.trans hg)
    · rw [hg] at e; injection e with e; subst e; exact .inr hg'
  refine h.put (x' := ⟨x.bl, vn, x.vs, x.vo, ⟨l, x.f.settled, x.f.opens⟩⟩) hx rfl ⟨hL.blk, hL.own, ?_, ?_, fun e => absurd e (Nat.ne_of_gt hl), hfa.zs, hfa.zo, ?_⟩ ?_ hL.fr (fun i hi => .inr (hfp i hi)) (hL.fr.kept (fun hi => h.p_ne.2.2 _ (mget_mem hx) p (hfp p hi) rfl) h.blk) rfl rfl
  · exact own_fr hfa.settled hL.fr fun g hg hi => by
      rcases List.mem_cons.1 hi with e | e
      · exact (hap.2.1 g hg).1 e
      · exact (hap.1 g (by simpa using e)).2.1 hg
  · exact own_fr hfa.opens hL.fr fun g hg hi => by
      rcases List.mem_cons.1 hi with e | e
      · exact hap.2.2 g hg e
      · exact (hap.1 g (by simpa using e)).2.2 hg
  · refine fp_nodup (fun g hg => own_ne hL.own (by decide) hL.blk g hg) (fun g hg => (hap.2.1 g hg).1) hap.2.2 (fun g hg e => ?_) (fun g hg e => ?_) (fun g hg => (hap.2.1 g hg).2)
    · rcases hnx g hg with h1 | h1
      · exact (hap.1 g h1).2.1 e
      · have := hlt g (FileM.mem_fp.2 (.inr (.inr (.inl e)))); omega
    · rcases hnx g hg with h1 | h1
      · exact (hap.1 g h1).2.2 e
      · have := hlt g (FileM.mem_fp.2 (.inr (.inr (.inr e)))); omega
  · intro i hi
    rcases FileM.mem_fp.1 hi with e | e | e | e
    · exact .inl (FileM.mem_fp.2 (.inl e))
    · rcases hnx i e with h1 | h1
      · exact .inl (FileM.mem_fp.2 (.inr (.inl h1)))
      · exact .inr h1
    · exact .inl (FileM.mem_fp.2 (.inr (.inr (.inl e))))
    · exact .inl (FileM.mem_fp.2 (.inr (.inr (.inr e))))
/-- An open write more. -/
theorem put_open {w w1 : World} {p m : Nat} {sb : Option Nat} {es : List (ByteArray × FileM)} {d : DiskT} {name : ByteArray} {x : FileM} {r : WrT} {vo : Value} (h : DiskAt w p m sb es d) (hx : mget es name = some x) (hg : w.grownBy w1 x.vo.ownBlock) (ho : w1.ownsRow 0 77 258 vo (x.f.opens.length + 1) (wrsC x.f.opens ++ wrL r)) (hat : OwnNext w.heap.size x.vo vo) :
    OpL w p m sb es { d with files := mset d.files name ⟨x.f.now, x.f.settled, x.f.opens ++ [r]⟩ } sb (mset es name ⟨x.bl, x.vn, x.vs, vo, ⟨x.f.now, x.f.settled, x.f.opens ++ [r]⟩⟩) (w1.setCell ⟨x.bl, 2, none⟩ vo) := by
  have hfa := h.files _ (mget_mem hx)
  dsimp only at hfa
  have hap := fp_parts hfa.apart
  have hlt := hfa.lt
  have hnx : ∀ g, vo.ownBlock = some g → x.vo.ownBlock = some g ∨ w.heap.size ≤ g := fun g hg => by
    rcases hat with e | ⟨g', e, hg'⟩
    · exact .inl (e.symm.trans hg)
    · rw [hg] at e; injection e with e; subst e; exact .inr hg'
  have hf1 : Fr x.vo.ownBlock.toList w w1 := Fr.grown hg fun k hk _ => by rw [hk]; simp
  have hblk1 : w1.heap[x.bl]? = some (.cells #[x.vn, x.vs, x.vo] 73) := hf1.kept (fun hi => hap.2.2 _ (by simpa using hi) rfl) hfa.blk
  have hf : Fr (x.bl :: x.vo.ownBlock.toList) w (w1.setCell ⟨x.bl, 2, none⟩ vo) := (hf1.mono fun i hi _ => List.mem_cons_of_mem _ hi).put x.bl 2 vo (.inl (by simp))
  have hfp : ∀ i ∈ x.bl :: x.vo.ownBlock.toList, i ∈ x.fp := fun i hi => by
    rcases List.mem_cons.1 hi with e | e
    · exact FileM.mem_fp.2 (.inl e)
    · exact FileM.mem_fp.2 (.inr (.inr (.inr (by simpa using e))))
  refine h.put (x' := ⟨x.bl, x.vn, x.vs, vo, ⟨x.f.now, x.f.settled, x.f.opens ++ [r]⟩⟩) hx rfl ⟨setCell_heap vo hblk1, ?_, ?_, ?_, hfa.zn, hfa.zs, fun e => absurd e (by simp), ?_⟩ ?_ hf (fun i hi => .inr (hfp i hi)) (hf.kept (fun hi => h.p_ne.2.2 _ (mget_mem hx) p (hfp p hi) rfl) h.blk) rfl rfl
  · exact own_fr hfa.now hf fun g hg hi => by
      rcases List.mem_cons.1 hi with e | e
      · exact (hap.1 g hg).1 e
      · exact (hap.1 g hg).2.2 (by simpa using e)
  · exact own_fr hfa.settled hf fun g hg hi => by
      rcases List.mem_cons.1 hi with e | e
      · exact (hap.2.1 g hg).1 e
      · exact (hap.2.1 g hg).2 (by simpa using e)
  · have e1 : wrsC (x.f.opens ++ [r]) = wrsC x.f.opens ++ wrL r := by simp [wrsC]
    show World.ownsRow _ _ _ _ _ (x.f.opens ++ [r]).length (wrsC (x.f.opens ++ [r]))
    rw [e1, List.length_append]
    exact ownsRow_block ho fun g hg => Below.heap_setCell w1 ⟨x.bl, 2, none⟩ vo g (own_ne ho (by decide) hblk1 g hg)
  · refine fp_nodup (fun g hg => (hap.1 g hg).1) (fun g hg => (hap.2.1 g hg).1) (fun g hg => own_ne ho (by decide) hblk1 g hg) (fun g hg => (hap.1 g hg).2.1) (fun g hg e => ?_) (fun g hg e => ?_)
    · rcases hnx g e with h1 | h1
      · exact (hap.1 g hg).2.2 h1
      · have := hlt g (FileM.mem_fp.2 (.inr (.inl hg))); omega
    · rcases hnx g e with h1 | h1
      · exact (hap.2.1 g hg).2 h1
      · have := hlt g (FileM.mem_fp.2 (.inr (.inr (.inl hg)))); omega
  · intro i hi
    rcases FileM.mem_fp.1 hi with e | e | e | e
    · exact .inl (FileM.mem_fp.2 (.inl e))
    · exact .inl (FileM.mem_fp.2 (.inr (.inl e)))
    · exact .inl (FileM.mem_fp.2 (.inr (.inr (.inl e))))
    · rcases hnx i e with h1 | h1
      · exact .inl (FileM.mem_fp.2 (.inr (.inr (.inr h1))))
      · exact .inr h1
/-! A write as a value -/
theorem fill_cons {place : Nat → Option (Nat × Nat)} {i off n : Nat} {v : Value} {cells : Array Value} {rest : List (Nat × Value)} (h : place i = some (off, n)) (hv : v.cells.size = n) (hfit : off + n ≤ cells.size) :
    ∃ cells', cells'.size = cells.size ∧ (∀ k, cells'[k]? = if off ≤ k ∧ k < off + n then v.cells[k - off]? else cells[k]?) ∧ Instr.fill place cells ((i, v) :: rest) = Instr.fill place cells' rest := by
  obtain ⟨g1, g2⟩ := Great.foldl_set off v.cells.toList 0 cells
  refine ⟨(v.cells.toList.zipIdx 0).foldl (fun cs (x : Value × Nat) => cs.setIfInBounds (off + x.2) x.1) cells, g1, fun k => ?_, ?_⟩
  · rw [g2 k]
    simp only [Nat.add_zero, Array.length_toList, hv]
    by_cases hk : off ≤ k ∧ k < off + n
    · rw [if_pos hk, if_pos ⟨hk.1, hk.2, by omega⟩]; simp
    · rw [if_neg hk, if_neg (fun e => hk ⟨e.1, e.2.1⟩)]
  · rw [Instr.fill]
    simp only [h, hv]
    rw [if_neg (by simp; omega)]
    congr 1
    rw [← Array.foldl_toList, Array.toList_zipIdx]
theorem fill3 {k : Nat} (place : Nat → Option (Nat × Nat)) (h0 : place 0 = some (0, 1)) (h1 : place 1 = some (1, 1)) (h2 : place 2 = some (2, k)) (z : Array Value) (hz : z.size = k + 2) (a b : Value) (cs : Array Value) (ha : a.cells = #[a]) (hb : b.cells = #[b]) (hc : cs.size = k) :
    Instr.fill place z [(0, a), (1, b), (2, .agg cs)] = some (#[a, b] ++ cs) := by
  obtain ⟨c1, s1, e1, f1⟩ := fill_cons (rest := [(1, b), (2, .agg cs)]) (v := a) (cells := z) h0 (by rw [ha]; rfl) (by omega)
  obtain ⟨c2, s2, e2, f2⟩ := fill_cons (rest := [(2, .agg cs)]) (v := b) (cells := c1) h1 (by rw [hb]; rfl) (by omega)
  obtain ⟨c3, s3, e3, f3⟩ := fill_cons (rest := []) (v := .agg cs) (cells := c2) h2 hc (by omega)
  rw [f1, f2, f3]
  unfold Instr.fill
  congr 1
  apply Array.ext_getElem?
  intro j
  have hcc : (Value.agg cs).cells = cs := rfl
  rw [e3 j, e2 j, e1 j, hcc, ha, hb]
  by_cases h2j : 2 ≤ j ∧ j < 2 + k
  · rw [if_pos h2j, Array.getElem?_append_right (by simp; omega)]
    simp
  · rw [if_neg h2j]
    by_cases hj : j < 2
    · rw [Array.getElem?_append_left (by simpa using hj)]
      rcases (show j = 0 ∨ j = 1 by omega) with rfl | rfl
      · simp
      · simp
    · rw [if_neg (by omega), if_neg (by omega), Array.getElem?_eq_none (by omega), Array.getElem?_eq_none (by simp; omega)]
theorem built_struct {P : Program} {t : TypeId} {fields : Array Field} {it : TypeInfo} {z : Value} {places : List (Nat × Nat)} {parts : List (Nat × Value)} (hi : P.info? t = some it) (hu : P.underlying t = some (.struct fields)) (hz : it.zero = some z)
    (hp : fields.toList.mapM (fun f => (P.info? f.type).map fun i => (f.offset, i.size)) = some places) : P.built t parts = Instr.fill (places.toArray[·]?) z.cells parts := by
  unfold Program.built
  simp only [hi, hu, hz, hp]
theorem write_built (n k : Int) (cs : Array Value) (hc : cs.size = 256) : Try.prog.built 77 [(0, .int .i64 n), (1, .int .i64 k), (2, .agg cs)] = some (#[.int .i64 n, .int .i64 k] ++ cs) := by
  have hz : ((Try.prog.info? 77).bind (·.zero)) = some (.agg (wrC ⟨0, 0, zeroP⟩)) := by kernel_rfl
  cases hi : Try.prog.info? 77 with
  | none => rw [hi] at hz; cases hz
  | some it =>
    rw [hi] at hz
    have hz' : it.zero = some (.agg (wrC ⟨0, 0, zeroP⟩)) := hz
    rw [built_struct (places := [(0, 1), (1, 1), (2, 256)]) hi Try.underlying77 hz' (by kernel_rfl)]
    exact fill3 _ rfl rfl rfl _ (wrC_size _) _ _ cs rfl rfl hc
end Go.Proofs.Ytladknjmoahdoaa
