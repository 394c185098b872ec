/- The small functions of the ledger: names, coins, sides, the sum of all coins. -/
import Derived.Test.YtmlcojhanimnpaaIdealI
import Derived.Test.YtmlcojhanimnpaaRow
import Derived.Test.YtmlcojhanimnpaaChecked
namespace Go.Proofs.Ytmlcojhanimnpaa
open Go.RowKit

def encI (n : Int) : Value := .int .i64 n
def encC (c : Chan) : Value := .agg #[.string c.name, .string c.a, .string c.b, .int .i64 c.cap, .int .i64 c.hasA, .int .i64 c.hasB]
theorem encI_inj : ∀ x y, encI x = encI y → x = y := fun x y h => by injection h
theorem encC_inj : ∀ x y, encC x = encC y → x = y := by
  rintro ⟨a, b, c, d, e, f⟩ ⟨a', b', c', d', e', f'⟩ h
  simp [encC] at h
  obtain ⟨rfl, rfl, rfl, rfl, rfl, rfl⟩ := h
  rfl
theorem str_empty (s : ByteArray) (h : 1 ≤ s.size) : s.toList.isEmpty = false ∧ (!s.toList.isEmpty) = true := by
  have h1 : s.toList = s.data.toList := Go.ByteArray.toList_eq s
  have h2 : s.toList.isEmpty = false := by
    rw [h1]
    cases hd : s.data.toList with
    | nil =>
      exfalso
      have h : s.data.toList.length = 0 := by rw [hd]; rfl
      have h2 : s.size = 0 := by simpa using h
      omega
    | cons a l => rfl
  exact ⟨h2, by rw [h2]; rfl⟩
theorem str_none (s : ByteArray) (h : s.size = 0) : s = ⟨#[]⟩ := by
  have hl : s.data.toList = [] := List.eq_nil_of_length_eq_zero (by simpa using h)
  cases s; simp at hl ⊢; exact hl

theorem tl_inj {x y : ByteArray} (h : x.toList = y.toList) : x = y := by
  rw [Go.ByteArray.toList_eq, Go.ByteArray.toList_eq] at h
  cases x; cases y
  simp at h
  rw [h]
theorem tl_t {x y : ByteArray} (h : x = y) : (x.toList == y.toList) = true := by rw [h]; simp
theorem tl_f {x y : ByteArray} (h : x ≠ y) : (x.toList == y.toList) = false := by simpa using fun e => h (tl_inj e)
theorem tl_nt {x y : ByteArray} (h : x = y) : (x.toList != y.toList) = false := by rw [h]; simp
theorem tl_nf {x y : ByteArray} (h : x ≠ y) : (x.toList != y.toList) = true := by simpa using fun e => h (tl_inj e)
theorem named_any (s : ByteArray) (w : World) : Calls Try.prog 65 #[.string s] w fun e w' => e = .returned (.bool (namedB s)) ∧ w = w' := by
  by_cases h0 : s.size = 0
  · have hs := str_none s h0
    subst hs
    clear h0
    go_enter Try.func65, Try.ntmps65
    go_wp2
    go_ret
    exact ⟨rfl, rfl⟩
  · obtain ⟨h1, h2⟩ := str_empty s (by omega)
    by_cases h3 : s.size ≤ 100
    · have hb : namedB s = true := by unfold namedB; simp; omega
      rw [hb]
      go_enter Try.func65, Try.ntmps65
      go_wp2
      go_ret
      exact ⟨ret_bool (by simp; omega), rfl⟩
    · have hb : namedB s = false := by unfold namedB; simp; omega
      rw [hb]
      go_enter Try.func65, Try.ntmps65
      go_wp2
      go_ret
      exact ⟨ret_bool (by simp; omega), rfl⟩
theorem ok_dec (n : Int) : okCoin n = (decide (0 ≤ n) && decide (n ≤ 2100000000000000)) := rfl
theorem coins_any (n : Int) (w : World) : Calls Try.prog 88 #[.int .i64 n] w fun e w' => e = .returned (.bool (okCoin n)) ∧ w = w' := by
  by_cases h0 : 0 ≤ n
  · go_enter Try.func88, Try.ntmps88
    go_wp2
    go_ret
    exact ⟨ret_bool (by rw [ok_dec]; simp [h0]), rfl⟩
  · go_enter Try.func88, Try.ntmps88
    go_wp2
    go_ret
    exact ⟨ret_bool (by rw [ok_dec, decide_eq_false (by omega : ¬ 0 ≤ n)]; rfl), rfl⟩
theorem milli_any (n : Int) (w : World) : Calls Try.prog 66 #[.int .i64 n] w fun e w' => e = .returned (if okCoin n = true then .tuple #[.int .i64 (n * 1000), .int .i64 0] else .tuple #[.int .i64 0, .int .i64 40]) ∧ w = w' := by
  cases hb : okCoin n with
  | true =>
    have h := okCoin_iff.1 hb
    have h1 := h.1
    have h2 : ¬ 2100000000000000 < n := by have := h.2; unfold maxCoin at this; omega
    clear h
    have HB := Lib.hid hb; clear hb
    go_enter Try.func66, Try.ntmps66
    go_wp2_with (go_at_call 88; refine (coins_any _ _).mono ?_; rintro e w' ⟨rfl, rfl⟩; rw [HB.out])
    go_ret2
    exact ⟨rfl, rfl⟩
  | false =>
    have HB := Lib.hid hb; clear hb
    go_enter Try.func66, Try.ntmps66
    go_wp2_with (go_at_call 88; refine (coins_any _ _).mono ?_; rintro e w' ⟨rfl, rfl⟩; rw [HB.out])
    go_ret2
    exact ⟨rfl, rfl⟩
/-- A channel lies in block g, whole. -/
def ChanAt (w : World) (g : Nat) (c : Chan) : Prop := w.heap[g]? = some (.cells #[.string c.name, .string c.a, .string c.b, .int .i64 c.cap, .int .i64 c.hasA, .int .i64 c.hasB] 87)
theorem ChanAt.cells {w : World} {g : Nat} {c : Chan} (h : ChanAt w g c) : w.cell? ⟨g, 1, none⟩ = some (.string c.a) ∧ w.cell? ⟨g, 2, none⟩ = some (.string c.b) ∧ w.cell? ⟨g, 4, none⟩ = some (.int .i64 c.hasA) ∧ w.cell? ⟨g, 5, none⟩ = some (.int .i64 c.hasB) := by
  unfold ChanAt at h
  refine ⟨?_, ?_, ?_, ?_⟩ <;> simp [World.cell?, h]
/-- Where a side's amount lies in a channel's block. -/
def sideAt (g : Nat) (c : Chan) (x : ByteArray) : Value := if x = c.a then .pointer (some ⟨g, 4, none⟩) else if x = c.b then .pointer (some ⟨g, 5, none⟩) else .pointer none
theorem side_any (g : Nat) (c : Chan) (x : ByteArray) (w : World) (hA : w.cell? ⟨g, 1, none⟩ = some (.string c.a)) (hB : w.cell? ⟨g, 2, none⟩ = some (.string c.b)) :
    Calls Try.prog 70 #[.pointer (some ⟨g, 0, none⟩), .string x] w fun e w' => e = .returned (sideAt g c x) ∧ w = w' := by
  by_cases h1 : x = c.a
  · have hs : sideAt g c x = .pointer (some ⟨g, 4, none⟩) := by unfold sideAt; rw [if_pos h1]
    rw [hs]; clear hs
    have he := tl_t h1
    clear h1
    go_enter Try.func70, Try.ntmps70
    go_wp2
    go_ret
    exact ⟨rfl, rfl⟩
  · have he := tl_f h1
    by_cases h2 : x = c.b
    · have hs : sideAt g c x = .pointer (some ⟨g, 5, none⟩) := by unfold sideAt; rw [if_neg h1, if_pos h2]
      rw [hs]; clear hs
      have he2 := tl_t h2
      clear h1 h2
      go_enter Try.func70, Try.ntmps70
      go_wp2
      go_ret
      exact ⟨rfl, rfl⟩
    · have he2 := tl_f h2
      have hs : sideAt g c x = .pointer none := by unfold sideAt; rw [if_neg h1, if_neg h2]
      rw [hs]; clear hs
      clear h1 h2
      go_enter Try.func70, Try.ntmps70
      go_wp2
      go_ret
      exact ⟨rfl, rfl⟩
theorem other_any (g : Nat) (c : Chan) (x : ByteArray) (w : World) (hA : w.cell? ⟨g, 1, none⟩ = some (.string c.a)) (hB : w.cell? ⟨g, 2, none⟩ = some (.string c.b)) :
    Calls Try.prog 40 #[.pointer (some ⟨g, 0, none⟩), .string x] w fun e w' => e = .returned (.string (c.other x)) ∧ w = w' := by
  by_cases h1 : x = c.a
  · have hs : c.other x = c.b := by unfold Chan.other; rw [if_pos h1]
    rw [hs]; clear hs
    have he := tl_t h1
    clear h1
    go_enter Try.func40, Try.ntmps40
    go_wp2
    go_ret
    exact ⟨rfl, rfl⟩
  · have he := tl_f h1
    have hs : c.other x = c.a := by unfold Chan.other; rw [if_neg h1]
    rw [hs]; clear hs h1
    go_enter Try.func40, Try.ntmps40
    go_wp2
    go_ret
    exact ⟨rfl, rfl⟩
theorem zeroI (w : World) : (zeroValue 2).run Try.prog w = .ok (.int .i64 0) w := by kernel_rfl
def chan0 : Chan := ⟨⟨#[]⟩, ⟨#[]⟩, ⟨#[]⟩, 0, 0, 0⟩
theorem zeroC (w : World) : (zeroValue 87).run Try.prog w = .ok (encC chan0) w := by kernel_rfl
/-- The two look-ups of a map of coins, of channels. -/
theorem look_coins {w : World} {b : Nat} {l : List (ByteArray × Int)} (h : SMap w b (menc encI l)) (key : ByteArray) (ok : Bool) :
    (Instr.lookup 64 (.map (some b)) (.string key) ok).run Try.prog w = .ok (if ok then .tuple #[.int .i64 ((mget l key).getD 0), .bool (mget l key).isSome] else .int .i64 ((mget l key).getD 0)) w := by
  rw [h.look Try.underlying64 Try.underlying9 (zeroI w) key ok, mget_menc]
  cases mget l key <;> rfl
theorem look_chans {w : World} {b : Nat} {l : List (ByteArray × Chan)} (h : SMap w b (menc encC l)) (key : ByteArray) (ok : Bool) :
    (Instr.lookup 65 (.map (some b)) (.string key) ok).run Try.prog w = .ok (if ok then .tuple #[encC ((mget l key).getD chan0), .bool (mget l key).isSome] else encC ((mget l key).getD chan0)) w := by
  rw [h.look Try.underlying65 Try.underlying9 (zeroC w) key ok, mget_menc]
  cases mget l key <;> rfl
theorem SMap.alloc {w : World} {b : Nat} {l : List (ByteArray × Value)} (h : SMap w b l) (o : Obj) : SMap (w.alloc o) b l := h.block (Go.heap_alloc_old w o h.lt)
theorem both_any (c d : Nat) (s : Led) (x y : ByteArray) (w : World) (hc : SMap w c (menc encI s.coins)) :
    Calls Try.prog 64 #[.agg #[.map (some c), .map (some d)], .string x, .string y] w fun e w' => e = .returned (.bool (both s x y)) ∧ Below w.heap.size w w' := by
  have h1 := fun o => look_coins (hc.alloc o) x true
  have h2 := fun o => look_coins (hc.alloc o) y true
  simp only [if_true] at h1 h2
  unfold both
  generalize (mget s.coins x).getD 0 = vx at *
  generalize (mget s.coins y).getD 0 = vy at *
  generalize (mget s.coins x).isSome = bx at *
  generalize (mget s.coins y).isSome = by_ at *
  cases bx
  · go_enter Try.func64, Try.ntmps64
    go_wp2
    go_ret
    exact ⟨rfl, (Below.refl _ _).alloc (Nat.le_refl _) _⟩
  · go_enter Try.func64, Try.ntmps64
    go_wp2
    go_ret
    exact ⟨rfl, (Below.refl _ _).alloc (Nat.le_refl _) _⟩
end Go.Proofs.Ytmlcojhanimnpaa
