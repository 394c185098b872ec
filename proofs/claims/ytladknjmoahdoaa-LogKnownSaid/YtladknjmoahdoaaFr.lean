/- What a call may touch; blocks and rows that stay. -/
import Derived.Test.YtladknjmoahdoaaWide
import Derived.BigQuiet
import Derived.Deep.QuietTactic
import Derived.IntWalk
import Derived.Deep.RegionHeld3
import Derived.Deep.DeepMust
import Derived.StillTailTactics
import Derived.RegionTactic
import Derived.BigRegion
import Derived.Deep.RegionLaw
import Derived.Lib.LazyBuf
set_option linter.all false
namespace Go.Proofs.Ytladknjmoahdoaa
open Go.RowKit

/-- w' is w but for the blocks of F and new ones. -/
structure Fr (F : List Nat) (w w' : World) : Prop where
  os : w'.os = w.os
  tape : w'.tape = w.tape
  output : w'.output = w.output
  size : w.heap.size ≤ w'.heap.size
  block : ∀ i, i < w.heap.size → i ∉ F → w'.heap[i]? = w.heap[i]?
theorem Fr.refl (F : List Nat) (w : World) : Fr F w w := ⟨rfl, rfl, rfl, Nat.le_refl _, fun _ _ _ => rfl⟩
theorem Fr.below {F : List Nat} {w w' : World} (h : Below w.heap.size w w') : Fr F w w' := ⟨h.os, h.tape, h.output, h.size, fun i hi _ => h.block i hi⟩
theorem Fr.grown {F : List Nat} {w w' : World} {row : Option Nat} (h : w.grownBy w' row) (hr : ∀ k, row = some k → k < w.heap.size → k ∈ F) : Fr F w w' :=
  ⟨h.os, h.tape, h.output, h.size, fun i hi hn => h.block i hi (fun e => hn (hr i e.symm hi))⟩
theorem Fr.mono {F G : List Nat} {w w' : World} (h : Fr F w w') (hs : ∀ i ∈ F, i < w.heap.size → i ∈ G) : Fr G w w' := ⟨h.os, h.tape, h.output, h.size, fun i hi hn => h.block i hi fun hf => hn (hs i hf hi)⟩
theorem Fr.trans {F G : List Nat} {w w' w'' : World} (h : Fr F w w') (h' : Fr G w' w'') (hs : ∀ i ∈ G, i < w.heap.size → i ∈ F) : Fr F w w'' :=
  ⟨h'.os.trans h.os, h'.tape.trans h.tape, h'.output.trans h.output, Nat.le_trans h.size h'.size, fun i hi hn => (h'.block i (Nat.lt_of_lt_of_le hi h.size) fun hg => hn (hs i hg hi)).trans (h.block i hi hn)⟩
theorem Fr.and {F : List Nat} {w w' w'' : World} (h : Fr F w w') (h' : Fr F w' w'') : Fr F w w'' := h.trans h' fun _ hi _ => hi
theorem Fr.toBelow {w w' : World} (h : Fr [] w w') : Below w.heap.size w w' := ⟨h.os, h.tape, h.output, h.size, fun i hi => h.block i hi (by simp)⟩
theorem Fr.toBelowOf {F : List Nat} {B : Nat} {w w' : World} (h : Fr F w w') (hB : B ≤ w.heap.size) (hF : ∀ i ∈ F, B ≤ i) : Below B w w' := ⟨h.os, h.tape, h.output, h.size, fun i hi => h.block i (Nat.lt_of_lt_of_le hi hB) fun hf => absurd (hF i hf) (by omega)⟩
theorem Fr.alloc {F : List Nat} {w w' : World} (h : Fr F w w') (o : Obj) : Fr F w (w'.alloc o) := h.trans (G := F) (Fr.below ((Below.refl _ _).alloc (Nat.le_refl _) o)) fun _ hi _ => hi
theorem Fr.drew {F : List Nat} {w w' : World} (h : Fr F w w') : Fr F w w'.drew := ⟨h.os, h.tape, h.output, h.size, h.block⟩
theorem Fr.ofDrew {F : List Nat} {w w' : World} (h : Fr F w.drew w') : Fr F w w' := ⟨h.os, h.tape, h.output, h.size, h.block⟩
theorem Fr.drewN {F : List Nat} {w w' : World} (h : Fr F w w') (k : Nat) : Fr F w (w'.drewN k) := ⟨h.os, h.tape, h.output, h.size, h.block⟩
theorem Fr.put {F : List Nat} {w w' : World} (h : Fr F w w') (g j : Nat) (u : Value) (hg : g ∈ F ∨ w.heap.size ≤ g) : Fr F w (w'.setCell ⟨g, j, none⟩ u) :=
  h.trans (G := [g]) ⟨rfl, rfl, rfl, by simp [World.setCell], fun i _ hn => Below.heap_setCell w' ⟨g, j, none⟩ u i (fun e => hn (by rw [show i = g from e]; simp))⟩ fun i hi hl => by
    simp at hi; subst hi
    rcases hg with hg | hg
    · exact hg
    · omega
theorem Fr.cellKept {F : List Nat} {w w' : World} (h : Fr F w w') {a : Addr} (ha : a.block ∉ F) {v : Value} (hc : w.cell? a = some v) : w'.cell? a = some v := by
  have hl := World.block_lt_of_cell? w _ hc
  have hb := h.block _ hl ha
  unfold World.cell? at hc ⊢
  rw [hb]; exact hc
theorem Fr.kept {F : List Nat} {w w' : World} (h : Fr F w w') {b : Nat} {o : Obj} (hb : b ∉ F) (hc : w.heap[b]? = some o) : w'.heap[b]? = some o := (h.block b (lt_of_block hc) hb).trans hc
theorem cell_of {w : World} {b j : Nat} {cs : Array Value} {T : TypeId} {z : Nat × Nat} {u : Value} (h : w.heap[b]? = some (.cells cs T z)) (hj : cs[j]? = some u) : w.cell? ⟨b, j, none⟩ = some u := by
  unfold World.cell?
  rw [h]
  simpa using hj
theorem free_of {w : World} {b : Nat} {cs : Array Value} {T : TypeId} (h : w.heap[b]? = some (.cells cs T)) (j : Nat) : w.frozen? ⟨b, j, none⟩ = false := by
  simp [World.frozen?, h]
theorem ownsRow_block {w w' : World} {base : Nat} {E : TypeId} {k : Nat} {v : Value} {n : Nat} {xs : List Value} (h : w.ownsRow base E k v n xs) (hk : ∀ g, v.ownBlock = some g → w'.heap[g]? = w.heap[g]?) : w'.ownsRow base E k v n xs := by
  refine ⟨h.1, ?_⟩
  rcases h.2 with h0 | ⟨g, cap, cur, rfl, hg, hh, rest⟩
  · exact .inl h0
  · exact .inr ⟨g, cap, cur, rfl, hg, (hk g rfl).trans hh, rest⟩
theorem own_below {w w' : World} {base : Nat} {E : TypeId} {k : Nat} {v : Value} {n : Nat} {xs : List Value} (h : w.ownsRow base E k v n xs) (hb : Below w.heap.size w w') : w'.ownsRow base E k v n xs :=
  ownsRow_block h fun g hg => hb.block g (World.ownsRow.lt h g hg).2
theorem own_fr {F : List Nat} {w w' : World} {base : Nat} {E : TypeId} {k : Nat} {v : Value} {n : Nat} {xs : List Value} (h : w.ownsRow base E k v n xs) (hf : Fr F w w') (hF : ∀ g, v.ownBlock = some g → g ∉ F) : w'.ownsRow base E k v n xs :=
  ownsRow_block h fun g hg => hf.block g (World.ownsRow.lt h g hg).2 (hF g hg)
theorem own_to {w : World} {base : Nat} {E : TypeId} {k : Nat} {v : Value} {n : Nat} {xs : List Value} (h : w.ownsRow base E k v n xs) {b2 : Nat} (hb : b2 ≤ base) : w.ownsRow b2 E k v n xs := by
  refine ⟨h.1, ?_⟩
  rcases h.2 with h0 | ⟨g, cap, cur, hv, hg, rest⟩
  · exact .inl h0
  · exact .inr ⟨g, cap, cur, hv, Nat.le_trans hb hg, rest⟩
theorem own_nil {w : World} {base : Nat} {E : TypeId} {k : Nat} {v : Value} {n : Nat} {xs : List Value} (h : w.ownsRow base E k v n xs) (hn : 0 < n) : ∃ g c, v = .slice (some ⟨g, 0, none⟩) n c ∧ n ≤ c := by
  rcases h.2 with ⟨_, h0⟩ | ⟨g, cap, cur, rfl, _, _, hc, _⟩
  · omega
  · exact ⟨g, cap, rfl, hc⟩
theorem fresh_cells (w : World) (cs : Array Value) (E : TypeId) : Cells (w.alloc (.cells cs E)) (some ⟨w.heap.size, 0, none⟩) cs.toList := fun _ => ⟨_, rfl, fun j u h => by
  have hh : (w.alloc (.cells cs E)).heap[w.heap.size]? = some (.cells cs E (0, 0)) := Go.heap_alloc_new w _
  have hj : cs[j]? = some u := by simpa using h
  have := cell_of hh hj
  unfold Addr.add
  by_cases h0 : j = 0
  · subst h0; simpa using this
  · rw [if_neg h0]; simpa using this⟩
/-- A block read whole, or from a cell on. -/
theorem run_cellsFrom {P : Program} {w : World} {b o n : Nat} {cs : List Value} (hl : cs.length = n) (h : w.rangeAt b o cs) : (loadCellsFrom ⟨b, o, none⟩ 0 n #[]).run P w = .ok cs.toArray w := by
  subst hl
  exact run_loadCells_list (P := P) w ⟨b, o, none⟩ cs (fun j v hv => by rw [Addr.add_mid]; exact h j v hv)
theorem range_block {w : World} {b : Nat} {cs : Array Value} {T : TypeId} {fr : Nat × Nat} (h : w.heap[b]? = some (.cells cs T fr)) : w.rangeAt b 0 cs.toList := fun j v hj => by
  rw [Nat.zero_add]
  exact cell_of h (by simpa using hj)
theorem rangeAt_heap {w w' : World} {b o : Nat} {cs : List Value} (h : w.rangeAt b o cs) (e : w'.heap = w.heap) : w'.rangeAt b o cs := fun j v hj => by
  have := h j v hj
  unfold World.cell? at this ⊢
  rw [e]; exact this
theorem run_load_wide {P : Program} {w : World} {b o : Nat} {ty : TypeId} {cs : Array Value} {d : TypeDesc} (hc : w.rangeAt b o cs.toList) (hu : P.underlying ty = some d) (hd : d.isRow = true) (hi : (P.info? ty).map (·.size) = some cs.size) :
    (Instr.loadAt ty (.pointer (some ⟨b, o, none⟩))).run P w = .ok (.agg cs) w := by
  have := run_loadAt_mid (P := P) w b o ty cs.toList d hc hu hd (by rw [Array.length_toList]; exact hi)
  rwa [Array.toArray_toList] at this
/-- A value of many cells read, where a region only reads. -/
theorem wpStill_wide {P : Program} {ops : Array Oper} {w : World} {Q : Act → Prop} {a : Act} {rest : List Oper} {op : Oper} (hg : op.guard = none) (ty : TypeId) (x : Operand) (ho : op.op = .load ty x) (b o : Nat) (hx : a.eval x = .pointer (some ⟨b, o, none⟩)) (cs : Array Value) {d : TypeDesc}
    (hc : w.rangeAt b o cs.toList) (hu : P.underlying ty = some d) (hd : d.isRow = true) (hi : (P.info? ty).map (·.size) = some cs.size) (h : wpStill P ops w Q rest (a.put op.dst (.agg cs))) : wpStill P ops w Q (op :: rest) a := by
  unfold wpStill
  rw [if_pos (by simp [Region.wanted, hg])]
  unfold Oper.still execOp
  simp only [ho, hx, Sem.run_bind, Sem.run_pure, run_load_wide hc hu hd hi, Result.andThen_ok]
  exact ⟨rfl, h⟩
theorem cell_put {w : World} {a b : Addr} {u v : Value} (h : w.cell? b = some v) (hne : b.block ≠ a.block ∨ b.off ≠ a.off) : (w.setCell a u).cell? b = some v := by
  have hab : a ≠ b := by
    rintro rfl
    rcases hne with h | h <;> exact h rfl
  have h2 : (w.setCell a u).cell? b = w.cell? b := World.cell?_setCell_other w a b u hab
  exact h2.trans h
theorem SMap.fr {F : List Nat} {w w' : World} {b : Nat} {l : List (ByteArray × Value)} (h : SMap w b l) (hf : Fr F w w') (hb : b ∉ F) : SMap w' b l := h.block (hf.block b h.lt hb)
theorem setCell_heap {w : World} {b j : Nat} {cs : Array Value} {T : TypeId} {z : Nat × Nat} (u : Value) (h : w.heap[b]? = some (.cells cs T z)) : (w.setCell ⟨b, j, none⟩ u).heap[b]? = some (.cells (cs.setIfInBounds j u) T z) := by
  simp [World.setCell, Array.getElem?_modify, h]
theorem menc_len {α β : Type} (f : α → β) (l : List (ByteArray × α)) : (menc f l).length = l.length := by simp [menc]
theorem menc_keys {α β : Type} (f : α → β) (l : List (ByteArray × α)) : (menc f l).map Prod.fst = l.map Prod.fst := by simp [menc, Function.comp_def]
theorem menc_menc {α β γ : Type} (f : α → β) (g : β → γ) (l : List (ByteArray × α)) : menc g (menc f l) = menc (fun x => g (f x)) l := by simp [menc, Function.comp_def]

/-! What a look-up, a store and a delete leave, up to order -/
section perms
variable {α : Type}
theorem perm_get {l : List (ByteArray × α)} {k : ByteArray} {x : α} (h : mget l k = some x) : l.Perm ((k, x) :: mdel l k) := by
  induction l with
  | nil => cases h
  | cons p r ih =>
    unfold mget at h
    unfold mdel
    split at h
    · rename_i e
      injection h with h
      rw [if_pos e, ← h, ← e]
    · rename_i e
      rw [if_neg e]
      exact ((ih h).cons p).trans (List.Perm.swap ..)
theorem perm_set (l : List (ByteArray × α)) (k : ByteArray) (x : α) : (mset l k x).Perm ((k, x) :: mdel l k) := by
  induction l with
  | nil => exact List.Perm.refl _
  | cons p r ih =>
    unfold mset mdel
    by_cases e : p.1 = k
    · rw [if_pos e, if_pos e]
    · rw [if_neg e, if_neg e]
      exact (ih.cons p).trans (List.Perm.swap ..)
theorem mdel_of_none {l : List (ByteArray × α)} {k : ByteArray} (h : mget l k = none) : mdel l k = l := by
  induction l with
  | nil => rfl
  | cons p r ih =>
    unfold mget at h
    unfold mdel
    by_cases e : p.1 = k
    · rw [if_pos e] at h; cases h
    · rw [if_neg e] at h ⊢
      rw [ih h]
theorem mdel_sub (l : List (ByteArray × α)) (k : ByteArray) : (mdel l k).Sublist l := by
  induction l with
  | nil => exact List.Sublist.slnil
  | cons p r ih =>
    unfold mdel
    split
    · exact List.sublist_cons_self ..
    · exact ih.cons_cons p
theorem mget_del_same {l : List (ByteArray × α)} (hn : (l.map Prod.fst).Nodup) (k : ByteArray) : mget (mdel l k) k = none := by
  induction l with
  | nil => rfl
  | cons p r ih =>
    rw [List.map_cons, List.nodup_cons] at hn
    unfold mdel
    by_cases e : p.1 = k
    · rw [if_pos e]
      refine mget_none fun q hq e2 => hn.1 ?_
      rw [e, ← e2]
      exact List.mem_map.2 ⟨q, hq, rfl⟩
    · rw [if_neg e]; unfold mget; rw [if_neg e]; exact ih hn.2
theorem mget_del_other (l : List (ByteArray × α)) {k k' : ByteArray} (h : k' ≠ k) : mget (mdel l k) k' = mget l k' := by
  induction l with
  | nil => rfl
  | cons p r ih =>
    unfold mdel
    by_cases e : p.1 = k
    · rw [if_pos e]
      show _ = mget (p :: r) k'
      unfold mget
      rw [if_neg (by rw [e]; exact Ne.symm h)]
      cases r with
      | nil => rfl
      | cons q r' => rfl
    · rw [if_neg e]; unfold mget; rw [ih]
theorem mget_of_mem {l : List (ByteArray × α)} (hn : (l.map Prod.fst).Nodup) {p : ByteArray × α} (h : p ∈ l) : mget l p.1 = some p.2 := by
  obtain ⟨j, hj⟩ := List.getElem?_of_mem h
  exact mget_at hn hj
theorem mget_perm {l r : List (ByteArray × α)} (h : l.Perm r) (hn : (l.map Prod.fst).Nodup) (k : ByteArray) : mget l k = mget r k := by
  have hn' : (r.map Prod.fst).Nodup := (h.map Prod.fst).nodup_iff.1 hn
  cases h1 : mget l k with
  | some x => rw [mget_of_mem hn' (p := (k, x)) (h.mem_iff.1 (mget_mem h1))]
  | none =>
    cases h2 : mget r k with
    | none => rfl
    | some y =>
      rw [mget_of_mem hn (p := (k, y)) (h.mem_iff.2 (mget_mem h2))] at h1
      cases h1
end perms
end Go.Proofs.Ytladknjmoahdoaa
