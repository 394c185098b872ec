/- []byte(s): a slice of the call's own. -/
import Derived.Test.YtmlcojhanimnpaaRow
namespace Go.Proofs.Ytmlcojhanimnpaa
open Go.RowKit

/-- The run of []byte(s), with what the new slice holds: the result behind names. -/
theorem conv_bytes {P : Program} (w : World) (src dst E : TypeId) (s : ByteArray) (hs : P.underlying src = some .string) (hd : P.underlying dst = some (.slice E)) (he : P.underlying E = some (.int .u8)) (hm : s.size ≤ 1000000000) :
    ∃ c w', (convert src dst (.string s)).run P w = .ok (.slice (some ⟨w.heap.size, 0, none⟩) s.size c) w' ∧ Row w' w.heap.size E (.slice (some ⟨w.heap.size, 0, none⟩) s.size c) (bv s.data.toList) ∧ Below w.heap.size w w' ∧ w.heap.size < w'.heap.size := by
  refine ⟨_, _, run_bytes_of_string w src dst E s hs hd he, ?_, (((Below.refl _ _).drew).alloc (Nat.le_refl _) _), by simp⟩
  have hge := grownCap_ge w s.size 0 E
  have hcm := grownCap_le_maxLen w s.size 0 E (by unfold maxLen; omega)
  have hl : (bv s.data.toList).length = s.size := by rw [bv_length]; simp
  have hsz : (bytesRow s (grownCap w s.size 0 E)).size = grownCap w s.size 0 E := by
    unfold bytesRow
    rw [Array.size_append, Array.size_map, Array.size_replicate]
    show s.size + _ = _
    omega
  refine .inr ⟨w.heap.size, 0, _, _, _, by rw [hl], Nat.le_refl _, heap_alloc_new w.drew _, ?_, by rw [hl]; exact hge, hcm, by rw [hsz]; omega, ?_⟩
  · intro i hi h
    omega
  · rw [List.drop_zero, hl]
    unfold bytesRow
    simp only [Array.toList_append, Array.toList_map]
    exact List.take_left' (by rw [List.length_map]; simp)

theorem run_append_row_none {P : Program} {T E : TypeId} {z : Value} {bytes : Nat} (S : SlTy P T E z bytes) (ty : TypeId) {w : World} {base : Nat} {v : Value} {xs : List Value} (h : Row w base E v xs) (c : Nat) :
    (Builtin.append_ #[T, T] ty #[v, .slice none 0 c]).run P w = .ok v w := by
  obtain ⟨i, hi, hz0, hz1, hz2⟩ := info_parts S.info
  rcases h with ⟨rfl, rfl⟩ | ⟨g, off, cap, cur, fr, rfl, hg, hh, hfr, hnc, hm, hc, ht⟩
  · simp [Builtin.append_, run_underlying S.ul, sizeOf, typeInfo, hi, Builtin.lenOf, Builtin.firstCells]
  · simp [Builtin.append_, run_underlying S.ul, sizeOf, typeInfo, hi, Builtin.lenOf, Builtin.firstCells, hnc, storeCells]
theorem wpList_row_any {P : Program} {w : World} {ops : Array Oper} {rest : List Oper} {o : Oper} {a : Act} {Q : Exit → Act → World → Prop} {T E : TypeId} {z : Value} {bytes : Nat}
    (S : SlTy P T E z bytes) (hgd : o.guard = none) (s x : Operand)
    (ho : o.op = .call { callee := .builtin .append, args := #[s, x], argTypes := #[T, T] })
    (base : Nat) (v : Value) (xs : List Value) (hs : a.eval s = v) (hrow : Row w base E v xs)
    (A : Option Addr) (m c : Nat) (news : List Value) (hx : a.eval x = .slice A m c) (hl : news.length = m) (hnews : Cells w A news) (h1 : ∀ u ∈ news, u.oneCell' = true)
    (hlen : (xs.length + m) * bytes ≤ 140737488355328) (h63 : xs.length + m ≤ 140737488355328) (hbase : base ≤ w.heap.size)
    (h : ∀ v' w', Row w' base E v' (xs ++ news) → w.grownBy w' v.ownBlock → Below base w w' → (v'.ownBlock = v.ownBlock ∨ v'.ownBlock = some w.heap.size) → wpList P ops Q rest (a.put o.dst v') w') :
    wpList P ops Q (o :: rest) a w := by
  rcases A with _ | ad
  · have hn : news = [] := by
      cases news with
      | nil => rfl
      | cons u l => obtain ⟨ad, he, _⟩ := hnews (by simp); cases he
    subst hn
    subst hl
    refine wpList_plain hgd fun K hK => ?_
    have hr := run_append_row_none S o.type hrow c
    unfold Oper.wp execOp
    simp only [List.length_nil] at hx
    simp only [ho, resolve, invoke, builtin, Sem.run_bind, Sem.run_pure, Result.andThen_ok, List.map_toArray, List.map_cons, List.map_nil, hs, hx, hr]
    exact hK _ _ (h v w (by simpa using hrow) (World.grownBy.refl w _) (Below.refl _ _) (.inl rfl))
  · by_cases hm : 0 < news.length
    · obtain ⟨ad', he, hc⟩ := hnews hm
      injection he with he
      subst he
      exact wpList_row S hgd s x ho base v xs hs hrow ad m c news hx hl hc h1 hlen h63 hbase h
    · have hn : news = [] := List.eq_nil_of_length_eq_zero (by omega)
      subst hn
      exact wpList_row S hgd s x ho base v xs hs hrow ad m c [] hx hl (fun j u hj => by simp at hj) h1 hlen h63 hbase h
end Go.Proofs.Ytmlcojhanimnpaa
