/- A slice of the call's own that may begin anywhere in its block: what it holds, what reslicing and appending do to it. -/
import Derived.Test.YtladknjmoahdoaaBase
import Derived.ArgAppend
import Derived.Laws.IdiomCopy
set_option linter.all false
namespace Go.Proofs.Ytladknjmoahdoaa
open Go.RowKit

/-- No cell of a block of n cells is marked as one that may not be written. -/
def Free (fr : Nat × Nat) (n : Nat) : Prop := ∀ i, i < n → ¬ (fr.1 ≤ i ∧ i < fr.2)
theorem Free.none (n : Nat) : Free (0, 0) n := fun i _ h => absurd h.2 (Nat.not_lt_zero i)
/-- v is a slice of one-cell elements of type E in a block of the call's own (from base on) that reads as xs. -/
def Row (w : World) (base : Nat) (E : TypeId) (v : Value) (xs : List Value) : Prop :=
  (v = .slice none 0 0 ∧ xs = []) ∨
  ∃ g off cap cur fr, v = .slice (some ⟨g, off, none⟩) xs.length cap ∧ base ≤ g ∧ w.heap[g]? = some (.cells cur E fr) ∧ Free fr cur.size ∧ xs.length ≤ cap ∧ cap ≤ maxLen ∧ off + cap ≤ cur.size ∧ (cur.toList.drop off).take xs.length = xs

theorem Cells.take {w : World} {A : Option Addr} {xs : List Value} (h : Cells w A xs) (k : Nat) : Cells w A (xs.take k) := fun hn => by
  obtain ⟨ad, e, hc⟩ := h (by rw [List.length_take] at hn; omega)
  refine ⟨ad, e, fun j u hj => hc j u ?_⟩
  rw [List.getElem?_take] at hj
  split at hj
  · exact hj
  · cases hj
theorem Row.nil (w : World) (base : Nat) (E : TypeId) : Row w base E (.slice none 0 0) [] := .inl ⟨rfl, rfl⟩
theorem Row.of_own {w : World} {base : Nat} {E : TypeId} {v : Value} {xs : List Value} (h : Own1 w base E v xs) : Row w base E v xs := by
  rcases h.2 with ⟨rfl, hn⟩ | ⟨g, cap, cur, rfl, hg, hh, hnc, hm, hs, ht⟩
  · exact .inl ⟨rfl, List.eq_nil_of_length_eq_zero hn⟩
  · exact .inr ⟨g, 0, cap, cur, (0, 0), rfl, hg, hh, Free.none _, hnc, hm, by omega, by simpa using ht⟩
theorem Row.cellAt {w : World} {base : Nat} {E : TypeId} {g off cap : Nat} {xs : List Value} (h : Row w base E (.slice (some ⟨g, off, none⟩) xs.length cap) xs) (j : Nat) (u : Value) (hj : xs[j]? = some u) : w.cell? ⟨g, off + j, none⟩ = some u := by
  rcases h with ⟨h, _⟩ | ⟨g', off', cap', cur, fr, he, _, hh, _, _, _, hc, ht⟩
  · cases h
  · injection he with he1 _ he2
    injection he1 with he1
    injection he1 with h1 h2 _
    subst h1; subst h2; subst he2
    rw [← ht, List.getElem?_take] at hj
    split at hj
    · rw [List.getElem?_drop] at hj
      simp only [World.cell?, hh]
      simpa using hj
    · cases hj
theorem Row.shape {w : World} {base : Nat} {E : TypeId} {v : Value} {xs : List Value} (h : Row w base E v xs) : ∃ A c, v = .slice A xs.length c ∧ xs.length ≤ c ∧ Cells w A xs := by
  have h0 := h
  rcases h with ⟨rfl, rfl⟩ | ⟨g, off, cap, cur, fr, rfl, _, hh, _, hnc, _, hc, ht⟩
  · exact ⟨none, 0, rfl, by simp, Cells.nil _ _⟩
  · refine ⟨_, cap, rfl, hnc, fun _ => ⟨_, rfl, fun j u hj => ?_⟩⟩
    have := h0.cellAt j u hj
    unfold Addr.add
    split
    · rename_i hz; subst hz; exact this
    · exact this
theorem Row.alloc {w : World} {base : Nat} {E : TypeId} {v : Value} {xs : List Value} (h : Row w base E v xs) (o : Obj) : Row (w.alloc o) base E v xs := by
  rcases h with h | ⟨g, off, cap, cur, fr, rfl, hb, hh, r⟩
  · exact .inl h
  · exact .inr ⟨g, off, cap, cur, fr, rfl, hb, (Below.heap_alloc w o g (lt_of_block hh)).trans hh, r⟩
theorem Row.grown {w w' : World} {base : Nat} {E : TypeId} {v : Value} {xs : List Value} {row : Option Nat} (h : Row w base E v xs) (hg : w.grownBy w' row) (hne : v.ownBlock = none ∨ v.ownBlock ≠ row) : Row w' base E v xs := by
  rcases h with h | ⟨g, off, cap, cur, fr, rfl, hb, hh, r⟩
  · exact .inl h
  · refine .inr ⟨g, off, cap, cur, fr, rfl, hb, (hg.block g (lt_of_block hh) ?_).trans hh, r⟩
    rcases hne with h | h
    · cases h
    · exact h
theorem Row.below {w w' : World} {base : Nat} {E : TypeId} {v : Value} {xs : List Value} (h : Row w base E v xs) (hb : Below w.heap.size w w') : Row w' base E v xs :=
  h.grown (grown_of_below hb none) (by cases v.ownBlock <;> simp)
theorem Row.drewN {w : World} {base : Nat} {E : TypeId} {v : Value} {xs : List Value} (h : Row w base E v xs) (n : Nat) : Row (w.drewN n) base E v xs := h
theorem Row.base_le {w : World} {base base' : Nat} {E : TypeId} {v : Value} {xs : List Value} (h : Row w base E v xs) (hb : base' ≤ base) : Row w base' E v xs := by
  rcases h with h | ⟨g, off, cap, cur, fr, rfl, hg, r⟩
  · exact .inl h
  · exact .inr ⟨g, off, cap, cur, fr, rfl, by omega, r⟩
theorem Row.own {w : World} {base : Nat} {E : TypeId} {v : Value} {xs : List Value} (h : Row w base E v xs) : ∀ k, v.ownBlock = some k → base ≤ k ∧ k < w.heap.size := by
  intro k hk
  rcases h with ⟨rfl, _⟩ | ⟨g, off, cap, cur, fr, rfl, hg, hh, _⟩
  · cases hk
  · injection hk with hk
    subst hk
    exact ⟨hg, lt_of_block hh⟩
/-- s[k:]. -/
theorem Row.drop {w : World} {base : Nat} {E : TypeId} {A : Option Addr} {n cap : Nat} {xs : List Value} (h : Row w base E (.slice A n cap) xs) {k : Nat} (hk : k ≤ n) :
    Row w base E (.slice (if cap = k then A else A.map (·.add k)) (n - k) (cap - k)) (xs.drop k) := by
  rcases h with ⟨h, rfl⟩ | ⟨g, off, cap', cur, fr, he, hg, hh, hfr, hnc, hm, hc, ht⟩
  · injection h with h1 h2 h3
    subst h1; subst h2; subst h3
    have : k = 0 := by omega
    subst this
    exact .inl ⟨by simp, by simp⟩
  · injection he with h1 h2 h3
    subst h1; subst h2; subst h3
    have hxs : (cur.toList.drop (off + k)).take (xs.length - k) = xs.drop k := by
      have h' := congrArg (List.drop k) ht
      rw [List.drop_take, List.drop_drop] at h'
      exact h'
    by_cases hck : cap = k
    · subst hck
      have hx : xs.drop cap = [] := List.drop_of_length_le (by omega)
      rw [if_pos rfl, hx, show xs.length - cap = 0 by omega, show cap - cap = 0 by omega]
      exact .inr ⟨g, off, 0, cur, fr, rfl, hg, hh, hfr, Nat.le_refl _, Nat.zero_le _, by omega, by simp⟩
    · rw [if_neg hck]
      refine .inr ⟨g, off + k, cap - k, cur, fr, ?_, hg, hh, hfr, by rw [List.length_drop]; omega, by omega, by omega, by rw [List.length_drop]; exact hxs⟩
      rw [List.length_drop]
      simp only [Option.map_some]
      congr 2
      unfold Addr.add
      split
      · rename_i hz; subst hz; rfl
      · rfl
theorem own_drop {A : Option Addr} {n c k j m d : Nat} (h : (Value.slice (if c = k then A else A.map (·.add k)) m d).ownBlock = some j) : (Value.slice A n c).ownBlock = some j := by
  split at h
  · cases A with
    | none => cases h
    | some ad => exact h
  · cases A with
    | none => cases h
    | some ad =>
      simp only [Option.map_some, Value.ownBlock] at h ⊢
      rw [← h]
      unfold Addr.add
      split <;> rfl
theorem own_apart {w : World} {base : Nat} {E : TypeId} {v u : Value} {xs : List Value} (h : Row w base E u xs) (hv : ∀ k, v.ownBlock = some k → k < base) : v.ownBlock = none ∨ v.ownBlock ≠ u.ownBlock := by
  cases hb : v.ownBlock with
  | none => exact .inl rfl
  | some k =>
    refine .inr fun e => ?_
    have h1 := hv k hb
    have h2 := (h.own k e.symm).1
    omega
theorem apart_symm {a b : Option Nat} (h : a = none ∨ a ≠ b) : b = none ∨ b ≠ a := by
  cases b with
  | none => exact .inl rfl
  | some k =>
    rcases h with h | h
    · exact .inr (by rw [h]; simp)
    · exact .inr (Ne.symm h)
theorem apart_new {w : World} {base : Nat} {E : TypeId} {u : Value} {xs : List Value} (h : Row w base E u xs) {a a' : Option Nat} (ha : a = none ∨ a ≠ u.ownBlock) {k : Nat} (hk : w.heap.size ≤ k) (hat : a' = a ∨ a' = some k) : a' = none ∨ a' ≠ u.ownBlock := by
  rcases hat with e | e
  · rw [e]; exact ha
  · refine .inr fun e2 => ?_
    have := (h.own k (by rw [← e2, e])).2
    omega
/-- s[:k]. -/
theorem Row.take {w : World} {base : Nat} {E : TypeId} {A : Option Addr} {n cap : Nat} {xs : List Value} (h : Row w base E (.slice A n cap) xs) {k : Nat} (hk : k ≤ n) : Row w base E (.slice A k cap) (xs.take k) := by
  rcases h with ⟨h, rfl⟩ | ⟨g, off, cap', cur, fr, he, hg, hh, hfr, hnc, hm, hc, ht⟩
  · injection h with h1 h2 h3
    subst h1; subst h2; subst h3
    have : k = 0 := by omega
    subst this
    exact .inl ⟨rfl, rfl⟩
  · injection he with h1 h2 h3
    subst h1; subst h2; subst h3
    have hl : (xs.take k).length = k := by rw [List.length_take]; omega
    refine .inr ⟨g, off, cap, cur, fr, by rw [hl], hg, hh, hfr, by omega, hm, hc, ?_⟩
    rw [hl]
    have := congrArg (List.take k) ht
    rw [List.take_take, Nat.min_eq_left hk] at this
    exact this
theorem setCells_block {g : Nat} {E : TypeId} {fr : Nat × Nat} : ∀ (vs : List Value) (o : Nat) (w : World) (cur : Array Value), w.heap[g]? = some (.cells cur E fr) → o + vs.length ≤ cur.size →
    ∃ cur', (w.setCells g o vs).heap[g]? = some (.cells cur' E fr) ∧ cur'.size = cur.size ∧ cur'.toList = cur.toList.take o ++ vs ++ cur.toList.drop (o + vs.length) ∧ w.grownBy (w.setCells g o vs) (some g) := by
  intro vs
  induction vs with
  | nil => intro o w cur h _; exact ⟨cur, h, rfl, by simp, World.grownBy.refl w _⟩
  | cons v vs ih =>
    intro o w cur h hl
    simp only [List.length_cons] at hl
    have h1 : (w.setCell ⟨g, o, none⟩ v).heap[g]? = some (.cells (cur.setIfInBounds o v) E fr) := by
      simp [World.setCell, Array.getElem?_modify, h]
    obtain ⟨cur', h2, h3, h4, h5⟩ := ih (o + 1) _ _ h1 (by simp; omega)
    refine ⟨cur', h2, by simpa using h3, ?_, (only_setCell (World.grownBy.refl w (some g)) (.inl rfl) v).trans h5⟩
    rw [h4]
    have hs : (cur.setIfInBounds o v).toList = cur.toList.take o ++ v :: cur.toList.drop (o + 1) := by
      rw [Array.toList_setIfInBounds, List.set_eq_take_append_cons_drop, if_pos (by simp; omega)]
    rw [hs]
    have hlo : (cur.toList.take o).length = o := by rw [List.length_take]; simp; omega
    rw [List.take_append, hlo, List.drop_append, hlo]
    have e1 : (cur.toList.take o).take (o + 1) = cur.toList.take o := List.take_of_length_le (by omega)
    have e2 : (cur.toList.take o).drop (o + 1 + vs.length) = [] := List.drop_of_length_le (by omega)
    rw [e1, e2, show o + 1 - o = 1 by omega, show o + 1 + vs.length - o = vs.length + 1 by omega]
    simp [List.drop_drop, Nat.add_assoc]
    congr 2
    omega
/-- append: in place where there is room, else in a new block. -/
theorem run_append_row {P : Program} {T E : TypeId} {z : Value} {bytes : Nat} (S : SlTy P T E z bytes) (ty : TypeId) {w : World} {base : Nat} {v : Value} {xs : List Value} (h : Row w base E v xs)
    (ad : Addr) (m c : Nat) (news : List Value) (hl : news.length = m) (hnews : ∀ j u, news[j]? = some u → w.cell? (ad.add j) = some u) (h1 : ∀ u ∈ news, u.oneCell' = true)
    (hlen : (xs.length + m) * bytes ≤ 140737488355328) (h63 : xs.length + m ≤ 140737488355328) (hbase : base ≤ w.heap.size) :
    ∃ v' w', (Builtin.append_ #[T, T] ty #[v, .slice (some ad) m c]).run P w = .ok v' w' ∧ Row w' base E v' (xs ++ news) ∧ w.grownBy w' v.ownBlock ∧ (v'.ownBlock = v.ownBlock ∨ v'.ownBlock = some w.heap.size) := by
  obtain ⟨i, hi, hz0, hz1, hz2⟩ := info_parts S.info
  rcases h with ⟨rfl, rfl⟩ | ⟨g, off, cap, cur, fr, rfl, hg, hh, hfr, hnc, hm, hc, ht⟩
  · obtain ⟨v', w', hr, h2, hg, _, hat⟩ := run_append_own_at (P := P) w base T ty E i z 1 bytes S.ul hi hz0 hz1 hz2 S.one (by decide) (.slice none 0 0) 0 [] (World.ownsRow_nil _ _ _ _) ad m c news (by omega) hnews h1
      (by unfold maxLen; simp at h63; omega) (by simpa using hlen) hbase
    refine ⟨v', w', hr, Row.of_own ?_, hg, hat⟩
    unfold Own1
    rw [List.nil_append, hl]
    simpa using h2
  · by_cases hroom : xs.length + m ≤ cap
    · have hfit : off + xs.length + news.length ≤ cur.size := by omega
      obtain ⟨cur', hb, hsz, hlst, hgr⟩ := setCells_block news (off + xs.length) w cur hh hfit
      have hr := run_append_room_cells (P := P) w T ty E i S.ul hi g off xs.length cap ad m c news (by rw [hz1]; omega) hnews h1 hroom
        (fun j hj => by rw [hz1, Nat.mul_one]; simp [World.cell?, hh]; omega) (fun j hj => by
          have := hfr (off + xs.length + j) (by omega)
          rw [hz1, Nat.mul_one]
          simp only [World.frozen?, hh]
          simpa using this)
      rw [hz1, Nat.mul_one] at hr
      refine ⟨_, _, hr, .inr ⟨g, off, cap, cur', fr, by rw [List.length_append, hl], hg, hb, by rw [hsz]; exact hfr, by rw [List.length_append]; omega, hm, by omega, ?_⟩, hgr, .inl rfl⟩
      rw [hlst, List.length_append]
      have hlo : (cur.toList.take (off + xs.length)).length = off + xs.length := by rw [List.length_take]; simp; omega
      have e0 : (cur.toList.take (off + xs.length)).drop off = xs := by
        rw [List.drop_take, show off + xs.length - off = xs.length by omega]; exact ht
      rw [List.append_assoc, List.drop_append, hlo, e0, show off - (off + xs.length) = 0 by omega, List.drop_zero]
      rw [← List.append_assoc]
      exact List.take_left' (by rw [List.length_append])
    · have holds : ∀ j u, xs[j]? = some u → w.cell? ((⟨g, off, none⟩ : Addr).add j) = some u := by
        intro j u hj
        have := Row.cellAt (w := w) (base := base) (E := E) (.inr ⟨g, off, cap, cur, fr, rfl, hg, hh, hfr, hnc, hm, hc, ht⟩) j u hj
        unfold Addr.add
        split
        · rename_i hz; subst hz; exact this
        · exact this
      have hr := run_append_grow (P := P) w T ty E i z S.ul hi hz0 ⟨g, off, none⟩ xs.length cap xs (by rw [hz1]; omega) holds ad m c news (by rw [hz1]; omega) hnews (by omega) (by omega)
        (growslice_fits (by omega) (by rw [hz2]; exact hlen))
      have hge := grownCap_ge w (xs.length + m) cap E
      have hcm : grownCap w (xs.length + m) cap E ≤ maxLen := grownCap_le_maxLen w (xs.length + m) cap E (by unfold maxLen; omega)
      refine ⟨_, _, hr, .inr ⟨w.heap.size, 0, _, _, (0, 0), by rw [List.length_append, hl], hbase, heap_alloc_new w.drew _, Free.none _, by rw [List.length_append, hl]; exact hge, hcm, ?_, ?_⟩, ⟨rfl, rfl, rfl, by simp, fun k hk _ => Below.heap_alloc w.drew _ k hk⟩, .inr rfl⟩
      · simp only [Array.size_append, List.size_toArray, size_zeroCells, S.one]
        omega
      · rw [List.drop_zero, List.length_append]
        simp only [Array.toList_append]
        exact List.take_left' (by rw [List.length_append])

/-- append(s, y..) for the walk: the new elements are read at an address. -/
theorem wpList_row {P : Program} {w : World} {ops : Array Oper} {rest : List Oper} {o : Oper} {a : Act} {Q : Exit → Act → World → Prop} {T E : TypeId} {z : Value} {bytes : Nat}
    (S : SlTy P T E z bytes) (hgd : o.guard = none) (s x : Operand)
    (ho : o.op = .call { callee := .builtin .append, args := #[s, x], argTypes := #[T, T] })
    (base : Nat) (v : Value) (xs : List Value) (hs : a.eval s = v) (hrow : Row w base E v xs)
    (ad : Addr) (m c : Nat) (news : List Value) (hx : a.eval x = .slice (some ad) m c) (hl : news.length = m) (hnews : ∀ j u, news[j]? = some u → w.cell? (ad.add j) = some u) (h1 : ∀ u ∈ news, u.oneCell' = true)
    (hlen : (xs.length + m) * bytes ≤ 140737488355328) (h63 : xs.length + m ≤ 140737488355328) (hbase : base ≤ w.heap.size)
    (h : ∀ v' w', Row w' base E v' (xs ++ news) → w.grownBy w' v.ownBlock → Below base w w' → (v'.ownBlock = v.ownBlock ∨ v'.ownBlock = some w.heap.size) → wpList P ops Q rest (a.put o.dst v') w') :
    wpList P ops Q (o :: rest) a w := by
  refine wpList_plain hgd fun K hK => ?_
  obtain ⟨v', w', hr, h2, hg, hat⟩ := run_append_row S o.type hrow ad m c news hl hnews h1 hlen h63 hbase
  unfold Oper.wp execOp
  simp only [ho, resolve, invoke, builtin, Sem.run_bind, Sem.run_pure, Result.andThen_ok, List.map_toArray, List.map_cons, List.map_nil, hs, hx, hr]
  exact hK _ _ (h v' w' h2 hg ((Below.refl _ _).grown hg hbase (fun k hk => (hrow.own k hk).1)) hat)
/-- append(s, y): the one element lies in a block of its own, laid just before. -/
theorem wpList_row1 {P : Program} {w : World} {ops : Array Oper} {rest : List Oper} {o : Oper} {a : Act} {Q : Exit → Act → World → Prop} {T E : TypeId} {z : Value} {bytes : Nat}
    (S : SlTy P T E z bytes) (hgd : o.guard = none) (s x : Operand)
    (ho : o.op = .call { callee := .builtin .append, args := #[s, x], argTypes := #[T, T] })
    (base : Nat) (v : Value) (xs : List Value) (hs : a.eval s = v) (hrow : Row w base E v xs)
    (y : Value) (hx : a.eval x = .slice (some ⟨w.heap.size, 0, none⟩) 1 1) (h1 : y.oneCell' = true)
    (hlen : (xs.length + 1) * bytes ≤ 140737488355328) (h63 : xs.length + 1 ≤ 140737488355328) (hbase : base ≤ w.heap.size)
    (h : ∀ v' w', Row w' base E v' (xs ++ [y]) → w.grownBy w' v.ownBlock → Below base w w' → (v'.ownBlock = v.ownBlock ∨ v'.ownBlock = some (w.heap.size + 1)) → wpList P ops Q rest (a.put o.dst v') w') :
    wpList P ops Q (o :: rest) a (w.alloc (.cells #[y] E)) := by
  refine wpList_row S hgd s x ho base v xs hs (hrow.alloc _) ⟨w.heap.size, 0, none⟩ 1 1 [y] hx rfl (cell_one_new _ _ _) (by simpa using h1) hlen h63 (by simp; omega) ?_
  intro v' w' h2 hg hb hat
  exact h v' w' h2 ((World.grownBy_alloc w _ _).trans hg) (((Below.refl _ _).alloc hbase _).trans hb) (by simpa using hat)
theorem setCell_cells {w : World} {g : Nat} {cs : Array Value} {t : TypeId} {fr : Nat × Nat} (h : w.heap[g]? = some (.cells cs t fr)) (i : Nat) (u : Value) : (w.setCell ⟨g, i, none⟩ u).heap[g]? = some (.cells (cs.setIfInBounds i u) t fr) := by
  simp [World.setCell, Array.getElem?_modify, h]
/-- A store into a slice of the call's own. -/
theorem row_put {w : World} {base : Nat} {E : TypeId} {A : Option Addr} {n c : Nat} {xs : List Value} (h : Row w base E (.slice A n c) xs) (hn : xs.length = n) {k : Nat} (hk : k < n) (u : Value) :
    ∃ ad, A = some ad ∧ n ≤ 9223372036854775807 ∧ base ≤ (ad.add k).block ∧ w.cell? (ad.add k) = some (xs[k]'(by omega)) ∧ w.frozen? (ad.add k) = false ∧ Row (w.setCell (ad.add k) u) base E (.slice A n c) (xs.set k u) := by
  have h0 := h
  rcases h with ⟨hv, rfl⟩ | ⟨g, off, cap, cur, fr, hv, hge, hblk, hfr, hnc, hm, hc, ht⟩
  · simp at hn; omega
  · injection hv with ha hb hd
    subst ha; subst hd
    have e : (⟨g, off, none⟩ : Addr).add k = ⟨g, off + k, none⟩ := Go.WideShapes.add_plain ..
    rw [hn] at ht hnc
    refine ⟨⟨g, off, none⟩, rfl, by unfold maxLen at hm; omega, by rw [e]; exact hge, ?_, ?_, ?_⟩
    · rw [e]
      subst hn
      exact h0.cellAt k _ (List.getElem?_eq_getElem hk)
    · rw [e]
      have hf := hfr (off + k) (by omega)
      simp only [World.frozen?, hblk]
      simpa using hf
    · rw [e]
      have hl : (xs.set k u).length = n := by simp [hn]
      refine .inr ⟨g, off, c, _, fr, by rw [hl], hge, setCell_cells hblk (off + k) u, by simpa using hfr, by rw [hl]; omega, hm, by simp; omega, ?_⟩
      rw [hl, Array.toList_setIfInBounds, List.drop_set, if_neg (by omega), show off + k - off = k by omega, List.take_set, ht]

end Go.Proofs.Ytladknjmoahdoaa
