/- Slices of the call's own whose elements have several cells: what appending any readable slice leaves. -/
import Derived.Test.YtladknjmoahdoaaBase
set_option linter.all false
namespace Go.Proofs.Ytladknjmoahdoaa
open Go.RowKit

structure SlTyK (P : Program) (T E : TypeId) (z : Value) (size bytes : Nat) : Prop where
  ul : P.underlying T = some (.slice E)
  info : (P.info? E).map (fun i => (i.zero, i.size, i.bytes)) = some (some z, size, bytes)
  one : z.cells.size = size
  pos : 0 < size
theorem own_shape {w : World} {base : Nat} {E : TypeId} {k : Nat} {v : Value} {n : Nat} {xs : List Value} (h : w.ownsRow base E k v n xs) : ∃ A c, v = .slice A n c ∧ n ≤ c ∧ Cells w A xs := by
  have hc := h
  rcases h.2 with ⟨rfl, hn⟩ | ⟨g, cap, cur, rfl, _, _, hnc, _⟩
  · subst hn
    refine ⟨none, 0, rfl, Nat.le_refl _, fun h0 => absurd h0 ?_⟩
    rw [h.1]; omega
  · exact ⟨_, cap, rfl, hnc, fun _ => ⟨_, rfl, World.ownsRow.cells hc rfl⟩⟩
theorem run_append_ownk_none {P : Program} {T E : TypeId} {z : Value} {size bytes : Nat} (S : SlTyK P T E z size bytes) (ty : TypeId) {w : World} {base : Nat} {v : Value} {n : Nat} {xs : List Value} (h : w.ownsRow base E size v n xs) (c : Nat) :
    (Builtin.append_ #[T, T] ty #[v, .slice none 0 c]).run P w = .ok v w := by
  obtain ⟨i, hi, hz0, hz1, hz2⟩ := info_parts S.info
  rcases h.2 with ⟨rfl, rfl⟩ | ⟨g, cap, cur, rfl, hg, hh, hnc, hm, hs, ht⟩
  · simp [Builtin.append_, run_underlying S.ul, sizeOf, typeInfo, hi, Builtin.lenOf, Builtin.firstCells]
  · simp [Builtin.append_, run_underlying S.ul, sizeOf, typeInfo, hi, Builtin.lenOf, Builtin.firstCells, hnc, storeCells]
/-- What an append of a readable slice to one of the call's own gives. -/
theorem run_appk {P : Program} {T E : TypeId} {z : Value} {size bytes : Nat} (S : SlTyK P T E z size bytes) (ty : TypeId) {w : World} {base : Nat} {v : Value} {n : Nat} {xs : List Value} (hown : w.ownsRow base E size v n xs)
    (A : Option Addr) (m c : Nat) (news : List Value) (hl : news.length = m * size) (hnews : Cells w A news) (h1 : ∀ u ∈ news, u.oneCell' = true)
    (hlen : (n + m) * bytes ≤ 140737488355328) (h63 : n + m ≤ 140737488355328) (hbase : base ≤ w.heap.size) (hA : m = 0 → A = none ∨ ∃ ad, A = some ad) :
    ∃ v' w', (Builtin.append_ #[T, T] ty #[v, .slice A m c]).run P w = .ok v' w' ∧ w'.ownsRow base E size v' (n + m) (xs ++ news) ∧ w.grownBy w' v.ownBlock ∧ Below base w w' ∧ (v'.ownBlock = v.ownBlock ∨ v'.ownBlock = some w.heap.size) := by
  obtain ⟨i, hi, hz0, hz1, hz2⟩ := info_parts S.info
  rcases A with _ | ad
  · have hm : m = 0 := by
      rcases Nat.eq_zero_or_pos m with h | h
      · exact h
      · have : 0 < news.length := by rw [hl]; exact Nat.mul_pos h S.pos
        obtain ⟨ad, he, _⟩ := hnews this
        cases he
    subst hm
    have hn : news = [] := List.eq_nil_of_length_eq_zero (by rw [hl, Nat.zero_mul])
    subst hn
    exact ⟨v, w, run_append_ownk_none S ty hown c, by simpa using hown, World.grownBy.refl w _, Below.refl _ _, .inl rfl⟩
  · have hcells : ∀ j u, news[j]? = some u → w.cell? (ad.add j) = some u := by
      intro j u hj
      have hpos : 0 < news.length := by
        have := (List.getElem?_eq_some_iff.1 hj).1
        omega
      obtain ⟨ad', he, hc⟩ := hnews hpos
      injection he with he
      subst he
      exact hc j u hj
    obtain ⟨v', w', hr, h2, hg, _, hat⟩ := run_append_own_at (P := P) w base T ty E i z size bytes S.ul hi hz0 hz1 hz2 S.one S.pos v n xs hown ad m c news hl hcells h1 (by unfold maxLen; omega) hlen hbase
    exact ⟨v', w', hr, h2, hg, (Below.refl _ _).grown hg hbase (fun k hk => (World.ownsRow.lt hown k hk).1), hat⟩
theorem wpList_appk {P : Program} {w : World} {ops : Array Oper} {rest : List Oper} {o : Oper} {a : Act} {Q : Exit → Act → World → Prop} {T E : TypeId} {z : Value} {size bytes : Nat}
    (S : SlTyK P T E z size bytes) (hgd : o.guard = none) (s x : Operand)
    (ho : o.op = .call { callee := .builtin .append, args := #[s, x], argTypes := #[T, T] })
    (base : Nat) (v : Value) (n : Nat) (xs : List Value) (hs : a.eval s = v) (hown : w.ownsRow base E size v n xs)
    (A : Option Addr) (m c : Nat) (news : List Value) (hx : a.eval x = .slice A m c) (hl : news.length = m * size) (hnews : Cells w A news) (h1 : ∀ u ∈ news, u.oneCell' = true)
    (hlen : (n + m) * bytes ≤ 140737488355328) (h63 : n + m ≤ 140737488355328) (hbase : base ≤ w.heap.size)
    (h : ∀ v' w', w'.ownsRow base E size v' (n + m) (xs ++ news) → w.grownBy w' v.ownBlock → Below base w w' → (v'.ownBlock = v.ownBlock ∨ v'.ownBlock = some w.heap.size) → wpList P ops Q rest (a.put o.dst v') w') :
    wpList P ops Q (o :: rest) a w := by
  refine wpList_plain hgd fun K hK => ?_
  obtain ⟨v', w', hr, h2, hg, hb, hat⟩ := run_appk S o.type hown A m c news hl hnews h1 hlen h63 hbase (fun _ => by cases A; exact .inl rfl; exact .inr ⟨_, rfl⟩)
  unfold Oper.wp execOp
  simp only [ho, resolve, invoke, builtin, Sem.run_bind, Sem.run_pure, Result.andThen_ok, List.map_toArray, List.map_cons, List.map_nil, hs, hx, hr]
  exact hK _ _ (h v' w' h2 hg hb hat)
end Go.Proofs.Ytladknjmoahdoaa
