/- Words for memory that the walks of this seat share: a slice that reads as a list, a row of the call's own, and what an append leaves. -/
import Derived.WalkKit
import Derived.WalkSpells
import Derived.WalkLawsBesides
import Derived.Lib.Hide
import Derived.Maps.AppendAt
import Derived.Deep.AppendLies
import Derived.Deep.Draws
import Derived.Laws.BytesArg
import Derived.Laws.IdiomStrings
set_option linter.all false
namespace Go.Proofs.Ytladknjmoahdoaa
open Go.RowKit

/-- The cells of a list of bytes. -/
def bv (l : List UInt8) : List Value := l.map fun b => .int .u8 (b.toNat : Int)
theorem ret_int {k : IntKind} {a b : Int} (h : a = b) : Ending.returned (.int k a) = Ending.returned (.int k b) := by rw [h]
theorem ret_bool {a b : Bool} (h : a = b) : Ending.returned (.bool a) = Ending.returned (.bool b) := by rw [h]
theorem bv_length (l : List UInt8) : (bv l).length = l.length := by simp [bv]
theorem bv_append (a b : List UInt8) : bv (a ++ b) = bv a ++ bv b := by simp [bv]
theorem bv_snoc (l : List UInt8) (b : UInt8) : bv (l ++ [b]) = bv l ++ [.int .u8 (b.toNat : Int)] := by simp [bv]
theorem bv_get (l : List UInt8) (k : Nat) (h : k < l.length) : (bv l)[k]? = some (.int .u8 (l[k].toNat : Int)) := by simp [bv, h]
theorem bv_one (l : List UInt8) : ∀ u ∈ bv l, u.oneCell' = true := by
  intro u hu; simp only [bv, List.mem_map] at hu; obtain ⟨b, _, rfl⟩ := hu; rfl

/-- The slice at A reads as the one-cell values xs. -/
def Cells (w : World) (A : Option Addr) (xs : List Value) : Prop :=
  0 < xs.length → ∃ ad, A = some ad ∧ ∀ j u, xs[j]? = some u → w.cell? (ad.add j) = some u

theorem cell_lt {w : World} {a : Addr} {v : Value} (h : w.cell? a = some v) : a.block < w.heap.size := by
  rcases Nat.lt_or_ge a.block w.heap.size with hl | hl
  · exact hl
  · simp [World.cell?, Array.getElem?_eq_none hl] at h
theorem cell_below {w w' : World} {a : Addr} {v : Value} (hb : Below w.heap.size w w') (h : w.cell? a = some v) : w'.cell? a = some v := (hb.cell (cell_lt h)).trans h

theorem Cells.nil (w : World) (A : Option Addr) : Cells w A [] := fun h => absurd h (by simp)
theorem Cells.at_ {w : World} {A : Option Addr} {xs : List Value} (h : Cells w A xs) {k : Nat} (hk : k < xs.length) : ∃ ad, A = some ad ∧ w.cell? (ad.add k) = some xs[k] := by
  obtain ⟨ad, e, hc⟩ := h (by omega)
  exact ⟨ad, e, hc k _ (List.getElem?_eq_getElem hk)⟩
theorem Cells.byte {w : World} {A : Option Addr} {l : List UInt8} (h : Cells w A (bv l)) {k : Nat} (hk : k < l.length) : ∃ ad, A = some ad ∧ w.cell? (ad.add k) = some (.int .u8 (l[k].toNat : Int)) := by
  obtain ⟨ad, e, hc⟩ := h.at_ (k := k) (by simpa [bv_length] using hk)
  exact ⟨ad, e, by rw [hc]; simp [bv]⟩
theorem Cells.keep {w w' : World} {A : Option Addr} {xs : List Value} (h : Cells w A xs) (hk : ∀ p v, w.cell? p = some v → w'.cell? p = some v) : Cells w' A xs := fun hn => by
  obtain ⟨ad, e, hc⟩ := h hn
  exact ⟨ad, e, fun j u hu => hk _ _ (hc j u hu)⟩
theorem Cells.below {w w' : World} {A : Option Addr} {xs : List Value} (h : Cells w A xs) (hb : Below w.heap.size w w') : Cells w' A xs := h.keep fun _ _ hc => cell_below hb hc
theorem Cells.drew {w : World} {A : Option Addr} {xs : List Value} (h : Cells w A xs) : Cells w.drew A xs := h
theorem Cells.drewN {w : World} {A : Option Addr} {xs : List Value} (h : Cells w A xs) (n : Nat) : Cells (w.drewN n) A xs := h
theorem Cells.alloc {w : World} {A : Option Addr} {xs : List Value} (h : Cells w A xs) (o : Obj) : Cells (w.alloc o) A xs :=
  h.below ((Below.refl _ _).alloc (Nat.le_refl _) o)

/-- A store into a one-cell block that holds none of these values leaves the slice as it was. -/
theorem Cells.other {w w' : World} {A : Option Addr} {xs : List Value} {B : Nat} {u : Value} {t : TypeId} {fr : Nat × Nat} (h : Cells w A xs) (hB : w.heap[B]? = some (.cells #[u] t fr)) (hne : u ∉ xs) (hg : w.grownBy w' (some B)) : Cells w' A xs := fun hn => by
  obtain ⟨ad, e, hc⟩ := h hn
  refine ⟨ad, e, fun j v hv => ?_⟩
  have hcell := hc j v hv
  have hlt := cell_lt hcell
  by_cases hb : (ad.add j).block = B
  · exfalso
    refine hne ?_
    unfold World.cell? at hcell
    rw [hb, hB] at hcell
    simp only at hcell
    split at hcell
    · cases hcell
    · have : (ad.add j).off = 0 := by
        rcases Nat.eq_zero_or_pos (ad.add j).off with h0 | h0
        · exact h0
        · rw [Array.getElem?_eq_none (by simp; omega)] at hcell; cases hcell
      rw [this] at hcell
      simp at hcell
      rw [hcell]
      exact List.mem_of_getElem? hv
  · exact (World.cell?_of_block (hg.block _ hlt (by simpa using hb))).trans hcell

/-- v is a slice of the call's own (blocks from base on) of one-cell elements of type E that holds xs. -/
def Own1 (w : World) (base : Nat) (E : TypeId) (v : Value) (xs : List Value) : Prop := w.ownsRow base E 1 v xs.length xs

theorem Own1.nil (w : World) (base : Nat) (E : TypeId) : Own1 w base E (.slice none 0 0) [] := World.ownsRow_nil _ _ _ _
theorem Own1.shape {w : World} {base : Nat} {E : TypeId} {v : Value} {xs : List Value} (h : Own1 w base E v xs) :
    ∃ A c, v = .slice A xs.length c ∧ xs.length ≤ c ∧ Cells w A xs := by
  have hc := h
  rcases h.2 with ⟨rfl, hn⟩ | ⟨g, cap, cur, rfl, _, _, hnc, _⟩
  · exact ⟨none, 0, by rw [hn], by omega, fun h => absurd h (by omega)⟩
  · exact ⟨_, cap, rfl, hnc, fun _ => ⟨_, rfl, World.ownsRow.cells hc rfl⟩⟩
theorem Own1.alloc {w : World} {base : Nat} {E : TypeId} {v : Value} {xs : List Value} (h : Own1 w base E v xs) (o : Obj) : Own1 (w.alloc o) base E v xs := World.ownsRow.alloc h o
theorem Own1.drewN {w : World} {base : Nat} {E : TypeId} {v : Value} {xs : List Value} (h : Own1 w base E v xs) (n : Nat) : Own1 (w.drewN n) base E v xs := h
theorem below_drewN {B : Nat} {a w : World} (h : Below B a w) (n : Nat) : Below B a (w.drewN n) := ⟨h.os, h.tape, h.output, h.size, h.block⟩
theorem grown_of_below {w w' : World} (h : Below w.heap.size w w') (row : Option Nat) : w.grownBy w' row := ⟨h.os, h.tape, h.output, h.size, fun i hi _ => h.block i hi⟩
theorem Own1.grown {w w' : World} {base : Nat} {E : TypeId} {v : Value} {xs : List Value} {row : Option Nat} (h : Own1 w base E v xs) (hg : w.grownBy w' row) (hne : v.ownBlock = none ∨ v.ownBlock ≠ row) : Own1 w' base E v xs :=
  World.ownsRow.kept h hg hne
theorem only_drew {a w : World} {row : Option Nat} (h : a.grownBy w row) : a.grownBy w.drew row := ⟨h.os, h.tape, h.output, h.size, h.block⟩
theorem only_drewN {a w : World} {row : Option Nat} (h : a.grownBy w row) (n : Nat) : a.grownBy (w.drewN n) row := ⟨h.os, h.tape, h.output, h.size, h.block⟩
theorem only_alloc {a w : World} {row : Option Nat} (h : a.grownBy w row) (o : Obj) : a.grownBy (w.alloc o) row :=
  ⟨h.os, h.tape, h.output, Nat.le_trans h.size (by simp), fun i hi hne => (Below.heap_alloc w o i (Nat.lt_of_lt_of_le hi h.size)).trans (h.block i hi hne)⟩
theorem only_setCell {a w : World} {g : Nat} (h : a.grownBy w (some g)) {p : Addr} (hp : p.block = g ∨ a.heap.size ≤ p.block) (u : Value) : a.grownBy (w.setCell p u) (some g) :=
  ⟨h.os, h.tape, h.output, by simpa [World.setCell] using h.size, fun i hi hne => (Below.heap_setCell w p u i (by
    rintro rfl
    rcases hp with hp | hp
    · exact hne (by rw [hp])
    · omega)).trans (h.block i hi hne)⟩
theorem Own1.below {w w' : World} {base : Nat} {E : TypeId} {v : Value} {xs : List Value} (h : Own1 w base E v xs) (hb : Below w.heap.size w w') : Own1 w' base E v xs :=
  h.grown (grown_of_below hb none) (by cases hv : v.ownBlock <;> simp)
theorem Own1.base_le {w : World} {base base' : Nat} {E : TypeId} {v : Value} {xs : List Value} (h : Own1 w base E v xs) (hb : base' ≤ base) : Own1 w base' E v xs := by
  refine ⟨h.1, ?_⟩
  rcases h.2 with h | ⟨g, cap, cur, rfl, hg, rest⟩
  · exact .inl h
  · exact .inr ⟨g, cap, cur, rfl, by omega, rest⟩

/-- string(b) of a slice that reads as l. -/
theorem conv_str {P : Program} {w : World} {A : Option Addr} {l : List UInt8} (h : Cells w A (bv l)) (c : Nat) (src dst e : TypeId) (hs : P.underlying src = some (.slice e)) (he : P.underlying e = some (.int .u8)) (hd : P.underlying dst = some .string) :
    (convert src dst (.slice A l.length c)).run P w = .ok (.string ⟨l.toArray⟩) w := by
  rcases A with _ | ad
  · have hl : l = [] := by
      cases l with
      | nil => rfl
      | cons b l => obtain ⟨ad, he, _⟩ := h (by simp [bv]); cases he
    subst hl
    exact run_convert_bytes_nil w src e hs he _ _ dst hd
  · refine run_convert_bytes_back w src dst e ad c l hs he hd fun j hj => ?_
    obtain ⟨ad', he, hc⟩ := h.byte hj
    injection he with he
    subst he
    exact hc

/-- A slice type of one-cell elements, as the program's tables have it. -/
structure SlTy (P : Program) (T E : TypeId) (z : Value) (bytes : Nat) : Prop where
  ul : P.underlying T = some (.slice E)
  info : (P.info? E).map (fun i => (i.zero, i.size, i.bytes)) = some (some z, 1, bytes)
  one : z.cells.size = 1

/-- append(s, y..) where s is the call's own and the new elements are read at an address. -/
theorem wpList_app {P : Program} {w : World} {ops : Array Oper} {rest : List Oper} {o : Oper} {a : Act} {Q : Exit → Act → World → Prop} {T E : TypeId} {z : Value} {bytes : Nat}
    (S : SlTy P T E z bytes) (hgd : o.guard = none) (s x : Operand)
    (ho : o.op = .call { callee := .builtin .append, args := #[s, x], argTypes := #[T, T] })
    (base : Nat) (v : Value) (xs : List Value) (hs : a.eval s = v) (hown : Own1 w base E v xs)
    (ad : Addr) (m c : Nat) (news : List Value) (hx : a.eval x = .slice (some ad) m c) (hl : news.length = m) (hnews : ∀ j u, news[j]? = some u → w.cell? (ad.add j) = some u) (h1 : ∀ u ∈ news, u.oneCell' = true)
    (hlen : (xs.length + m) * bytes ≤ 140737488355328) (h63 : xs.length + m ≤ 140737488355328) (hbase : base ≤ w.heap.size)
    (h : ∀ v' w', Own1 w' base E v' (xs ++ news) → w.grownBy w' v.ownBlock → (v'.ownBlock = v.ownBlock ∨ v'.ownBlock = some w.heap.size) → wpList P ops Q rest (a.put o.dst v') w') :
    wpList P ops Q (o :: rest) a w := by
  obtain ⟨i, hi, hz0, hz1, hz2⟩ := info_parts S.info
  refine wpList_append_own_at w hgd s x T ho base E i z 1 bytes S.ul hi hz0 hz1 hz2 S.one (by decide) v xs.length xs hs hown ad m c news hx (by omega) hnews h1 (by unfold maxLen; omega) hlen hbase ?_
  intro v' w' h2 hg _ hat
  refine h v' w' ?_ hg hat
  unfold Own1
  rw [List.length_append, hl]
  exact h2

/-- append(s, y): the one element lies in a block of its own, laid just before. -/
theorem wpList_app1 {P : Program} {w : World} {ops : Array Oper} {rest : List Oper} {o : Oper} {a : Act} {Q : Exit → Act → World → Prop} {T E : TypeId} {z : Value} {bytes : Nat}
    (S : SlTy P T E z bytes) (hgd : o.guard = none) (s x : Operand)
    (ho : o.op = .call { callee := .builtin .append, args := #[s, x], argTypes := #[T, T] })
    (base : Nat) (v : Value) (xs : List Value) (hs : a.eval s = v) (hown : Own1 w base E v xs)
    (y : Value) (hx : a.eval x = .slice (some ⟨w.heap.size, 0, none⟩) 1 1) (h1 : y.oneCell' = true)
    (hlen : (xs.length + 1) * bytes ≤ 140737488355328) (h63 : xs.length + 1 ≤ 140737488355328) (hbase : base ≤ w.heap.size) (hv : ∀ k, v.ownBlock = some k → base ≤ k)
    (h : ∀ v' w', Own1 w' base E v' (xs ++ [y]) → w.grownBy w' v.ownBlock → Below base w w' → (v'.ownBlock = v.ownBlock ∨ v'.ownBlock = some (w.heap.size + 1)) → wpList P ops Q rest (a.put o.dst v') w') :
    wpList P ops Q (o :: rest) a (w.alloc (.cells #[y] E)) := by
  refine wpList_app S hgd s x ho base v xs hs (hown.alloc _) ⟨w.heap.size, 0, none⟩ 1 1 [y] hx rfl (cell_one_new _ _ _) (by simpa using h1) hlen h63 (by simp; omega) ?_
  intro v' w' h2 hg hat
  have hg' : w.grownBy w' v.ownBlock := (World.grownBy_alloc w _ _).trans hg
  exact h v' w' h2 hg' ((Below.refl _ _).grown hg' hbase hv) (by simpa using hat)
theorem Own1.own_ge {w : World} {base : Nat} {E : TypeId} {v : Value} {xs : List Value} (h : Own1 w base E v xs) : ∀ k, v.ownBlock = some k → base ≤ k := fun k hk => (World.ownsRow.lt h k hk).1
theorem Own1.own_lt {w : World} {base : Nat} {E : TypeId} {v : Value} {xs : List Value} (h : Own1 w base E v xs) : ∀ k, v.ownBlock = some k → k < w.heap.size := fun k hk => (World.ownsRow.lt h k hk).2

/-- append(s, y) as one step of a region that draws its order. -/
theorem step_app1 {P : Program} {w : World} {ops : Array Oper} {o : Oper} {a : Act} {K : Act → World → Prop} {Q : Exit → Act → World → Prop} {F : Prop} {T E : TypeId} {z : Value} {bytes : Nat}
    (S : SlTy P T E z bytes) (hgd : o.guard = none) (s x : Operand)
    (ho : o.op = .call { callee := .builtin .append, args := #[s, x], argTypes := #[T, T] })
    (base : Nat) (v : Value) (xs : List Value) (hs : a.eval s = v) (hown : Own1 w base E v xs)
    (y : Value) (ad : Addr) (c : Nat) (hx : a.eval x = .slice (some ad) 1 c) (hy : w.cell? ad = some y) (h1 : y.oneCell' = true)
    (hlen : (xs.length + 1) * bytes ≤ 140737488355328) (h63 : xs.length + 1 ≤ 140737488355328) (hbase : base ≤ w.heap.size)
    (h : ∀ v' w', Own1 w' base E v' (xs ++ [y]) → w.grownBy w' v.ownBlock → Below base w w' → (v'.ownBlock = v.ownBlock ∨ v'.ownBlock = some w.heap.size) → K (a.put o.dst v') w') :
    if Region.wanted o (yielded ops a.tmps) = true then Oper.wp P o a w K Q else F := by
  have hw : Region.wanted o (yielded ops a.tmps) = true := by simp [Region.wanted, hgd]
  rw [if_pos hw]
  obtain ⟨i, hi, hz0, hz1, hz2⟩ := info_parts S.info
  obtain ⟨v', w', hr, h2, hg, _, hat⟩ := run_append_own_at (P := P) w base T o.type E i z 1 bytes S.ul hi hz0 hz1 hz2 S.one (by decide) v xs.length xs hown ad 1 c [y] rfl
    (fun j u hj => by
      match j, hj with
      | 0, hj =>
        have hj' : some y = some u := hj
        rw [← hj']
        exact hy)
    (by simpa using h1) (by unfold maxLen; omega) hlen hbase
  unfold Oper.wp execOp
  simp only [ho, resolve, invoke, builtin, Sem.run_bind, Sem.run_pure, Result.andThen_ok, List.map_toArray, List.map_cons, List.map_nil, hs, hx, hr]
  refine h v' w' ?_ hg ((Below.refl _ _).grown hg hbase (fun k hk => (World.ownsRow.lt hown k hk).1)) hat
  unfold Own1
  rw [List.length_append]
  exact h2
end Go.Proofs.Ytladknjmoahdoaa
