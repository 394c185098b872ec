/- Pages and writes as cells: values of 256 and of 258 cells, which no walk opens; rows of such. -/
import Derived.Test.YtladknjmoahdoaaDiskM
import Derived.Test.YtladknjmoahdoaaRow
import Derived.Test.YtladknjmoahdoaaStructs
import Derived.Great.BuildSlice
import Derived.Deep.MidRow
set_option linter.all false
namespace Go.Proofs.Ytladknjmoahdoaa
open Go.RowKit

section flat
variable {α : Type} {f : α → List Value} {k : Nat}
theorem flat_len (hk : ∀ x, (f x).length = k) (l : List α) : (l.flatMap f).length = l.length * k := by
  induction l with
  | nil => simp
  | cons x r ih => rw [List.flatMap_cons, List.length_append, ih, hk, List.length_cons, Nat.add_mul, Nat.one_mul]; omega
theorem flat_drop (hk : ∀ x, (f x).length = k) (l : List α) (i : Nat) : (l.flatMap f).drop (i * k) = (l.drop i).flatMap f := by
  induction l generalizing i with
  | nil => simp
  | cons x r ih =>
    cases i with
    | zero => simp
    | succ i =>
      rw [List.flatMap_cons, List.drop_append, hk, Nat.add_mul, Nat.one_mul, List.drop_of_length_le (by rw [hk]; omega), Nat.add_sub_cancel, ih]
      rfl
theorem flat_take (hk : ∀ x, (f x).length = k) (l : List α) (i : Nat) : (l.flatMap f).take (i * k) = (l.take i).flatMap f := by
  induction l generalizing i with
  | nil => simp
  | cons x r ih =>
    cases i with
    | zero => simp
    | succ i =>
      rw [List.flatMap_cons, List.take_append, hk, Nat.add_mul, Nat.one_mul, List.take_of_length_le (by rw [hk]; omega), Nat.add_sub_cancel, ih]
      rfl
theorem flat_one (h1 : ∀ x, ∀ u ∈ f x, u.oneCell' = true) (l : List α) : ∀ u ∈ l.flatMap f, u.oneCell' = true := by
  intro u hu
  obtain ⟨x, -, hx⟩ := List.mem_flatMap.1 hu
  exact h1 x u hx
theorem flat_at (hk : ∀ x, (f x).length = k) (l : List α) {i j : Nat} (hi : i < l.length) (hj : j < k) : (l.flatMap f)[i * k + j]? = (f l[i])[j]? := by
  have h := congrArg (fun x => x[j]?) (flat_drop hk l i)
  simp only [List.getElem?_drop] at h
  rw [h, List.drop_eq_getElem_cons hi, List.flatMap_cons, List.getElem?_append_left (by rw [hk]; exact hj)]
theorem flat_set (hk : ∀ x, (f x).length = k) (l : List α) {i : Nat} (hi : i < l.length) (x : α) : (l.set i x).flatMap f = (l.flatMap f).take (i * k) ++ f x ++ (l.flatMap f).drop ((i + 1) * k) := by
  rw [flat_drop hk, flat_take hk, List.set_eq_take_append_cons_drop, if_pos hi, List.flatMap_append, List.flatMap_cons, List.append_assoc]
/-- An element of an owned row, where it lies. -/
theorem row_range {w : World} {base : Nat} {E : TypeId} {g cap n : Nat} {l : List α} (hk : ∀ x, (f x).length = k) (h : w.ownsRow base E k (.slice (some ⟨g, 0, none⟩) n cap) n (l.flatMap f)) (hn : l.length = n) {i : Nat} (hi : i < n) :
    w.rangeAt g (i * k) (f (l[i]'(by omega))) := by
  subst hn
  intro j v hj
  have hjk : j < k := by
    have := (List.getElem?_eq_some_iff.1 hj).1
    rwa [hk] at this
  have hlt : i * k + j < l.length * k := by
    have : (i + 1) * k ≤ l.length * k := Nat.mul_le_mul_right k hi
    rw [Nat.add_mul, Nat.one_mul] at this
    omega
  rw [World.ownsRow.cellAt h _ hlt, flat_at hk l hi hjk]
  exact hj
/-- Such an element may be written. -/
theorem row_there {w : World} {base : Nat} {E : TypeId} {g cap n : Nat} {xs : List Value} (h : w.ownsRow base E k (.slice (some ⟨g, 0, none⟩) n cap) n xs) {i : Nat} (hi : i < n) : w.there g (i * k) k := by
  intro j hj
  have hlt : i * k + j < n * k := by
    have : (i + 1) * k ≤ n * k := Nat.mul_le_mul_right k hi
    rw [Nat.add_mul, Nat.one_mul] at this
    omega
  refine ⟨?_, World.ownsRow.frozenAt h _⟩
  rw [World.ownsRow.cellAt h _ hlt, List.getElem?_eq_getElem (by rw [h.1]; exact hlt)]
  rfl
/-- What a store of an element leaves. -/
theorem row_stored {w : World} {base : Nat} {E : TypeId} {g cap n : Nat} {l : List α} (hk : ∀ x, (f x).length = k) (h : w.ownsRow base E k (.slice (some ⟨g, 0, none⟩) n cap) n (l.flatMap f)) (hn : l.length = n) {i : Nat} (hi : i < n) (x : α) :
    (w.setCells g (i * k) (f x)).ownsRow base E k (.slice (some ⟨g, 0, none⟩) n cap) n ((l.set i x).flatMap f) ∧ w.grownBy (w.setCells g (i * k) (f x)) (some g) := by
  subst hn
  refine ⟨?_, ?_⟩
  · rcases h.2 with ⟨h0, -⟩ | ⟨g', cap', cur, hv, hb, hg, hnc, hm, hs, ht⟩
    · cases h0
    · injection hv with h1 h2 h3
      injection h1 with h1
      injection h1 with h1 _ _
      subst h1; subst h3
      have hle : i * k + k ≤ l.length * k := by
        have : (i + 1) * k ≤ l.length * k := Nat.mul_le_mul_right k hi
        rw [Nat.add_mul, Nat.one_mul] at this
        exact this
      have hcap : l.length * k ≤ cap * k := Nat.mul_le_mul_right k hnc
      obtain ⟨cur', hb', hsz, hlst, -⟩ := setCells_block (f x) (i * k) w cur hg (by rw [hk]; omega)
      refine ⟨by rw [flat_len hk, List.length_set], .inr ⟨g, cap, cur', rfl, hb, hb', hnc, hm, by rw [hsz]; exact hs, ?_⟩⟩
      rw [hlst, hk, flat_set hk l hi x, ← ht]
      have e1 : (cur.toList.take (l.length * k)).take (i * k) = cur.toList.take (i * k) := by rw [List.take_take, Nat.min_eq_left (by omega)]
      have e2 : (cur.toList.take (l.length * k)).drop ((i + 1) * k) = (cur.toList.drop (i * k + k)).take (l.length * k - (i * k + k)) := by rw [List.drop_take, Nat.add_mul, Nat.one_mul]
      rw [e1, e2, List.append_assoc, List.take_append, List.length_take, Nat.min_eq_left (by simp; omega), List.take_append, hk, List.append_assoc]
      rw [List.take_of_length_le (by rw [List.length_take]; omega), List.take_of_length_le (l := f x) (by rw [hk]; omega)]
      congr 2
      congr 1
      omega
  · have hlt := (World.ownsRow.lt h g rfl).2
    rcases h.2 with ⟨h0, -⟩ | ⟨g', cap', cur, hv, hb, hg, hnc, hm, hs, ht⟩
    · cases h0
    · injection hv with h1 h2 h3
      injection h1 with h1
      injection h1 with h1 _ _
      subst h1; subst h3
      have hle : i * k + k ≤ l.length * k := by
        have : (i + 1) * k ≤ l.length * k := Nat.mul_le_mul_right k hi
        rw [Nat.add_mul, Nat.one_mul] at this
        exact this
      have hcap : l.length * k ≤ cap * k := Nat.mul_le_mul_right k hnc
      obtain ⟨_, _, _, _, hgr⟩ := setCells_block (f x) (i * k) w cur hg (by rw [hk]; omega)
      exact hgr
end flat

/-- A page's cells. -/
def pgC (p : PageT) : Array Value := (bv p.b).toArray
theorem pgC_size (p : PageT) : (pgC p).size = 256 := by unfold pgC; simp [bv_length, p.len]
theorem pgC_one (p : PageT) : ∀ u ∈ (pgC p).toList, u.oneCell' = true := by unfold pgC; simpa using bv_one p.b
theorem pgC_all (p : PageT) : (pgC p).all (·.oneCell') = true := Array.all_eq_true_iff_forall_mem.2 fun v hv => pgC_one p v (by simpa using hv)
def pgL (p : PageT) : List Value := (pgC p).toList
theorem pgL_len (p : PageT) : (pgL p).length = 256 := by unfold pgL; simp [pgC_size]
theorem pgL_one (p : PageT) : ∀ u ∈ pgL p, u.oneCell' = true := pgC_one p
theorem pgL_bv (p : PageT) : pgL p = bv p.b := by simp [pgL, pgC]
/-- A write's cells. -/
def wrC (x : WrT) : Array Value := #[.int .i64 x.no, .int .i64 x.place] ++ pgC x.page
def wrL (x : WrT) : List Value := (wrC x).toList
theorem wrC_size (x : WrT) : (wrC x).size = 258 := by unfold wrC; simp [pgC_size]
theorem wrL_len (x : WrT) : (wrL x).length = 258 := by unfold wrL; simp [wrC_size]
theorem wrL_eq (x : WrT) : wrL x = .int .i64 x.no :: .int .i64 x.place :: pgL x.page := by simp [wrL, wrC, pgL]
theorem wrL_one (x : WrT) : ∀ u ∈ wrL x, u.oneCell' = true := by
  intro u hu
  rw [wrL_eq] at hu
  simp only [List.mem_cons] at hu
  rcases hu with rfl | rfl | hu
  · rfl
  · rfl
  · exact pgL_one _ u hu
def pagesC (l : List PageT) : List Value := l.flatMap pgL
def wrsC (l : List WrT) : List Value := l.flatMap wrL
theorem pagesC_len (l : List PageT) : (pagesC l).length = l.length * 256 := flat_len pgL_len l
theorem wrsC_len (l : List WrT) : (wrsC l).length = l.length * 258 := flat_len wrL_len l

/-! Values of many cells in a walk -/
theorem slice_toArray_drop {cs : Array Value} (h : 2 ≤ cs.size) (a b : Value) (h0 : cs[0]? = some a) (h1 : cs[1]? = some b) : cs = #[a, b] ++ (cs.toList.drop 2).toArray := by
  apply Array.ext'
  rcases cs with ⟨l⟩
  match l, h with
  | x :: y :: r, _ =>
    simp at h0 h1
    subst h0; subst h1
    simp
/-- One part that fills all. -/
theorem fill_one {k : Nat} (hk : 0 < k) (v : Value) (cells : Array Value) (hv : v.cells.size = k) (hc : cells.size = k) : Instr.fill (fun i => some (i * k, k)) cells [(0, v)] = some v.cells := by
  obtain ⟨r, hr, hsz, hat⟩ := Great.fill_dense hk [v] 0 cells (by simpa using hv) (by simp [hc])
  have hr' : Instr.fill (fun i => some (i * k, k)) cells [(0, v)] = some r := hr
  rw [hr']
  congr 1
  apply Array.ext_getElem?
  intro j
  rw [hat j]
  by_cases hj : j < k
  · rw [if_pos (by simpa using hj)]
    simp [Nat.div_eq_of_lt hj, Nat.mod_eq_of_lt hj]
  · rw [if_neg (by simpa using hj)]
    rw [Array.getElem?_eq_none (by omega), Array.getElem?_eq_none (by omega)]
section walk
variable {P : Program} {ops : Array Oper} {rest : List Oper} {o : Oper} {a : Act} {w : World} {Q : Exit → Act → World → Prop}
/-- []T{v}: one element of many cells. -/
theorem wpList_slice1 {T E : TypeId} {z : Value} {size bytes : Nat} (S : SlTyK P T E z size bytes) (hg : o.guard = none) (i : Nat) (x : Operand) (ho : o.op = .buildSlice T 1 #[(i, x)]) (hi0 : i = 0) (cs : Array Value) (hx : (a.eval x).cells = cs) (hcs : cs.size = size) (hsm : size ≤ 2 ^ 24)
    (h : wpList P ops Q rest (a.put o.dst (.slice (some ⟨w.heap.size, 0, none⟩) 1 1)) (w.alloc (.cells cs E))) : wpList P ops Q (o :: rest) a w := by
  subst hi0
  obtain ⟨ie, hie, hz0, hz1, hz2⟩ := info_parts S.info
  refine wpList_buildSlice hg T E 1 _ ho cs ie z S.ul hie hz0 (by omega) (by have := S.pos; omega) ?_ h
  have := fill_one S.pos (a.eval x) ((Array.range (1 * ie.size)).map (z.cells[· % z.cells.size]!)) (by rw [hx]; exact hcs) (by simp [hz1])
  rw [hx] at this
  rw [hz1] at this ⊢
  simpa using this
/-- A value that nothing is put into. -/
theorem wpList_zero (hg : o.guard = none) (t : TypeId) (ho : o.op = .build t #[]) (cs : Array Value) (hf : P.built t [] = some cs)
    (h : wpList P ops Q rest (a.put o.dst (.agg cs)) w) : wpList P ops Q (o :: rest) a w :=
  wpList_buildTo hg t #[] ho o.dst rfl cs (by simpa using hf) h
end walk
end Go.Proofs.Ytladknjmoahdoaa
