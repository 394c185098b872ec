/- What one leg of an ended hold gives back: plain; and the two closures that say to which side. -/
import Derived.Test.YtmlcojhanimnpaaI13
namespace Go.Proofs.Ytmlcojhanimnpaa
open Go.RowKit

theorem legSum_append (p : Leg → Bool) (l r : List Leg) : legSum p (l ++ r) = legSum p l + legSum p r := by simp [legSum]
theorem holdSum_nonneg (p : Leg → Bool) (L : List HoldR) (h : ∀ x ∈ L, ∀ y ∈ x.legs, 1 ≤ y.amt) : 0 ≤ holdSum p L := by
  induction L with
  | nil => exact Int.le_refl _
  | cons x r ih =>
    have h1 := legSum_nonneg p x.legs (h x (List.mem_cons_self ..))
    have h2 := ih fun z hz => h z (List.mem_cons_of_mem _ hz)
    rw [holdSum_cons]; omega
theorem legSum_held (p : Leg → Bool) (L : List HoldR) (h : ∀ x ∈ L, ∀ y ∈ x.legs, 1 ≤ y.amt) {x : HoldR} (hx : x ∈ L) : legSum p x.legs ≤ holdSum p L := by
  induction L with
  | nil => cases hx
  | cons z r ih =>
    have h1 := legSum_nonneg p z.legs (h z (List.mem_cons_self ..))
    have h2 := holdSum_nonneg p r fun q hq => h q (List.mem_cons_of_mem _ hq)
    rw [holdSum_cons]
    rcases List.mem_cons.1 hx with rfl | hx
    · omega
    · have := ih (fun q hq => h q (List.mem_cons_of_mem _ hq)) hx; omega
theorem legSum_take (p : Leg → Bool) (l : List Leg) (h : ∀ y ∈ l, 1 ≤ y.amt) (k : Nat) : legSum p (l.take k) ≤ legSum p l := by
  have h1 := legSum_append p (l.take k) (l.drop k)
  rw [List.take_append_drop] at h1
  have := legSum_nonneg p (l.drop k) fun y hy => h y (List.mem_of_mem_drop hy)
  omega
def toSide (settled : Bool) (c : Chan) (x : Leg) : ByteArray := if settled then c.other x.src else x.src
theorem giveAll_succ (settled : Bool) (l : List (ByteArray × Chan)) (legs : List Leg) (k : Nat) (hk : k < legs.length) : giveAll settled l (legs.take (k + 1)) = give1 settled (giveAll settled l (legs.take k)) legs[k] := by
  rw [List.take_succ_eq_append_getElem hk]
  unfold giveAll
  rw [List.foldl_append]
  rfl
theorem give_step {s : Led} (h : Inv s) (settled : Bool) {x : HoldR} (hx : x ∈ s.holds) (k : Nat) (hk : k < x.legs.length) :
    ∃ c n, mget (giveAll settled s.chans (x.legs.take k)) x.legs[k].ch = some c ∧ c.has (toSide settled c x.legs[k]) = some n ∧ c.a ≠ c.b ∧ 0 ≤ n ∧ 0 ≤ n + x.legs[k].amt ∧ n + x.legs[k].amt ≤ maxMoney ∧ 1 ≤ x.legs[k].amt ∧
      giveAll settled s.chans (x.legs.take (k + 1)) = mset (giveAll settled s.chans (x.legs.take k)) x.legs[k].ch (c.put (toSide settled c x.legs[k]) (n + x.legs[k].amt)) := by
  have hall := h.hs x hx
  have hpos : ∀ z ∈ s.holds, ∀ y ∈ z.legs, 1 ≤ y.amt := fun z hz y hy => (h.hs z hz y hy).lo
  obtain ⟨g1, g2⟩ := giveAll_ok settled h.ch (legs := x.legs.take k) fun y hy => hall y (List.mem_of_mem_take hy)
  obtain ⟨g3, g4⟩ := giveAll_ok settled h.ch (legs := x.legs.take (k + 1)) fun y hy => hall y (List.mem_of_mem_take hy)
  have hlk : LegOk (giveAll settled s.chans (x.legs.take k)) x.legs[k] := (hall _ (List.getElem_mem hk)).same g2
  obtain ⟨c, hc, -⟩ := hlk.on
  obtain ⟨n, hn⟩ := legOk_has hlk hc settled
  have hco := g1 _ _ hc
  have h0 := has_nonneg hco hn
  have hlo := hlk.lo
  have hstep : giveAll settled s.chans (x.legs.take (k + 1)) = mset (giveAll settled s.chans (x.legs.take k)) x.legs[k].ch (c.put (toSide settled c x.legs[k]) (n + x.legs[k].amt)) := by
    rw [giveAll_succ _ _ _ _ hk]
    unfold give1
    rw [hc]
    show mset _ _ (c.put (toSide settled c x.legs[k]) ((c.has (toSide settled c x.legs[k])).getD 0 + x.legs[k].amt)) = _
    rw [show c.has (toSide settled c x.legs[k]) = some n from hn]
    rfl
  refine ⟨c, n, hc, hn, hco.ne, h0, by omega, ?_, hlo, hstep⟩
  have hg : mget (giveAll settled s.chans (x.legs.take (k + 1))) x.legs[k].ch = some (c.put (toSide settled c x.legs[k]) (n + x.legs[k].amt)) := by rw [hstep, mget_mset_same]
  have ho := g3 _ _ hg
  have hsum := ho.sum
  have ha := ho.a0
  have hb := ho.b0
  have hheld := legSum_held (fun y => y.ch == x.legs[k].ch) s.holds hpos hx
  have htake := legSum_take (fun y => y.ch == x.legs[k].ch) x.legs (fun y hy => hpos x hx y hy) (k + 1)
  have hcap : (c.put (toSide settled c x.legs[k]) (n + x.legs[k].amt)).cap ≤ maxCoin := by
    obtain ⟨c', hc', hsh⟩ := (Same.get (Eq.symm g4) hg)
    have := cap_le h hc'
    unfold Chan.shape at hsh
    simp only [Prod.mk.injEq] at hsh
    rw [← hsh.2.2.2]; exact this
  have hin : n + x.legs[k].amt ≤ (c.put (toSide settled c x.legs[k]) (n + x.legs[k].amt)).hasA + (c.put (toSide settled c x.legs[k]) (n + x.legs[k].amt)).hasB := by
    unfold Chan.put at ha hb ⊢
    split
    · rename_i e; rw [if_pos e] at ha hb; simp only at ha hb ⊢; omega
    · rename_i e; rw [if_neg e] at ha hb; simp only at ha hb ⊢; omega
  have hf : heldF s.holds x.legs[k].ch = holdSum (fun y => y.ch == x.legs[k].ch) s.holds := rfl
  unfold maxCoin at hcap
  unfold maxMoney
  omega
/-- Where the side lies, and what is left in its cell. -/
theorem has_cell (g : Nat) {c : Chan} {y : ByteArray} {n : Int} (h : c.has y = some n) :
    ∃ j : Nat, (j = 4 ∨ j = 5) ∧ sideAt g c y = .pointer (some ⟨g, j, none⟩) ∧ #[Value.string c.name, .string c.a, .string c.b, .int .i64 c.cap, .int .i64 c.hasA, .int .i64 c.hasB][j]? = some (.int .i64 n) ∧
      ∀ m, (#[Value.string c.name, .string c.a, .string c.b, .int .i64 c.cap, .int .i64 c.hasA, .int .i64 c.hasB].setIfInBounds j (.int .i64 m)) = #[Value.string (c.put y m).name, .string (c.put y m).a, .string (c.put y m).b, .int .i64 (c.put y m).cap, .int .i64 (c.put y m).hasA, .int .i64 (c.put y m).hasB] := by
  unfold Chan.has at h
  unfold sideAt Chan.put
  split at h
  · rename_i e
    injection h with h; subst h
    exact ⟨4, .inl rfl, by rw [if_pos e], rfl, fun m => by rw [if_pos e]; rfl⟩
  · rename_i e
    split at h
    · rename_i e2
      injection h with h; subst h
      exact ⟨5, .inr rfl, by rw [if_neg e, if_pos e2], rfl, fun m => by rw [if_neg e]; rfl⟩
    · cases h
theorem settle1_any (g : Nat) (c : Chan) (x : Leg) (w : World) (hA : w.cell? ⟨g, 1, none⟩ = some (.string c.a)) (hB : w.cell? ⟨g, 2, none⟩ = some (.string c.b)) :
    Calls Try.prog 39 #[.pointer (some ⟨g, 0, none⟩), .agg #[.string x.ch, .string x.src, .int .i64 x.amt]] w fun e w' => e = .returned (.string (toSide true c x)) ∧ Below w.heap.size w w' := by
  have hA' : ∀ o, (w.alloc o).cell? ⟨g, 1, none⟩ = some (.string c.a) := fun o => cell_below ((Below.refl _ _).alloc (Nat.le_refl _) o) hA
  have hB' : ∀ o, (w.alloc o).cell? ⟨g, 2, none⟩ = some (.string c.b) := fun o => cell_below ((Below.refl _ _).alloc (Nat.le_refl _) o) hB
  go_enter Try.func39, Try.ntmps39
  go_wp2_with fail
  refine (other_any g c x.src _ (hA' _) (hB' _)).mono ?_
  rintro e w' ⟨rfl, rfl⟩
  go_wp2_with fail
  go_ret
  exact ⟨rfl, (Below.refl _ _).alloc (Nat.le_refl _) _⟩
theorem fail1_any (g : Nat) (c : Chan) (x : Leg) (w : World) (_hA : w.cell? ⟨g, 1, none⟩ = some (.string c.a)) (_hB : w.cell? ⟨g, 2, none⟩ = some (.string c.b)) :
    Calls Try.prog 58 #[.pointer (some ⟨g, 0, none⟩), .agg #[.string x.ch, .string x.src, .int .i64 x.amt]] w fun e w' => e = .returned (.string (toSide false c x)) ∧ Below w.heap.size w w' := by
  go_enter Try.func58, Try.ntmps58
  go_wp2
  go_ret
  exact ⟨rfl, (Below.refl _ _).alloc (Nat.le_refl _) _⟩
end Go.Proofs.Ytmlcojhanimnpaa
