/- Transactions in plain Lean: which are right; how many parts they have. · Transactions in memory. · SameLock at equal locks. · Claims in memory; two claims that are the same. -/
import Derived.Test.YtaonadgelkdbcaaGreatDoorQ1
import Derived.Test.YtaonadgelkdbcaaGreatDoorQ14
import Derived.StillTailTactics
import Derived.Test.YtaonadgelkdbcaaGreatDoorS1
import Derived.Test.YtaonadgelkdbcaaGreatDoorQ16
namespace Go.Proofs.YtaonadgelkdbcaaGreatDoor

structure InT where
  tx : ByteArray
  pn : Int
  age : Int
structure OutT where
  value : Int
  lock : LockT
structure TxT where
  ins : List InT
  outs : List OutT
  after : Int
  tag : Int
def idByte (c : UInt8) : Bool := (decide (48 ≤ c.toNat) && decide (c.toNat ≤ 57)) || (decide (97 ≤ c.toNat) && decide (c.toNat ≤ 102))
def idB (t : ByteArray) : Bool := t.data.toList.all idByte && decide (t.size = 64)
def inB (x : InT) : Bool := idB x.tx && decide (0 ≤ x.pn) && decide (x.pn < 64) && decide (0 ≤ x.age) && decide (x.age < 1073741824)
def ptEq (x y : InT) : Bool := x.tx.toList == y.tx.toList && x.pn == y.pn
/-- Inputs behind others: each right, no point twice. -/
def insB : List InT → List InT → Bool
  | _, [] => true
  | seen, x :: r => inB x && !(seen.any (ptEq x)) && insB (seen ++ [x]) r
def maxCoin : Int := 2100000000000000
def outsB : Int → List OutT → Bool
  | _, [] => true
  | left, x :: r => decide (1 ≤ x.value) && decide (x.value ≤ left) && lockB x.lock && outsB (left - x.value) r
def outsR : Int → List OutT → Bool
  | sum, [] => decide (sum ≤ maxCoin)
  | sum, x :: r => decide (1 ≤ x.value) && decide (x.value ≤ maxCoin) && lockB x.lock && outsR (sum + x.value) r
theorem outsR_over : ∀ (r : List OutT) (sum : Int), maxCoin < sum → outsR sum r = false
  | [], sum, h => by unfold outsR; exact decide_eq_false (by omega)
  | x :: r, sum, h => by
    unfold outsR
    by_cases h1 : 1 ≤ x.value
    · rw [outsR_over r (sum + x.value) (by omega), Bool.and_false]
    · rw [decide_eq_false h1]; rfl
theorem outs_eq : ∀ (r : List OutT) (sum : Int), 0 ≤ sum → sum ≤ maxCoin → outsR sum r = outsB (maxCoin - sum) r
  | [], sum, _, h => by unfold outsR outsB; exact decide_eq_true h
  | x :: r, sum, h0, h => by
    unfold outsR outsB
    by_cases h1 : 1 ≤ x.value
    · by_cases h2 : x.value ≤ maxCoin - sum
      · rw [decide_eq_true h2, decide_eq_true (show x.value ≤ maxCoin by omega), outs_eq r (sum + x.value) (by omega) (by omega), show maxCoin - (sum + x.value) = maxCoin - sum - x.value by omega]
      · rw [decide_eq_false h2, outsR_over r (sum + x.value) (by omega)]
        simp
    · rw [decide_eq_false h1]; rfl
def timeB (n : Int) : Bool := decide (0 ≤ n) && decide (n < 1073741824)
/-- What is asked of a transaction's numbers. -/
def headB (t : TxT) : Bool := decide (t.ins.length ≤ 64) && decide (1 ≤ t.outs.length) && decide (t.outs.length ≤ 64) && timeB t.after && decide (0 ≤ t.tag) && decide (t.tag ≤ 4611686018427387904)
def txB (t : TxT) : Bool := headB t && insB [] t.ins && outsB maxCoin t.outs
theorem txB_ref (t : TxT) : (headB t && insB [] t.ins && outsR 0 t.outs) = txB t := by
  unfold txB
  rw [outs_eq t.outs 0 (Int.le_refl _) (by unfold maxCoin; omega), Int.sub_zero]
theorem insB_next {seen : List InT} {x : InT} {r : List InT} (h1 : inB x = true) (h2 : seen.any (ptEq x) = false) : insB seen (x :: r) = insB (seen ++ [x]) r := by
  conv => lhs; unfold insB
  rw [h1, h2]; rfl
theorem insB_bad {seen : List InT} {x : InT} {r : List InT} (h1 : inB x = false) : insB seen (x :: r) = false := by
  unfold insB
  rw [h1]; rfl
theorem insB_met {seen : List InT} {x : InT} {r : List InT} (h2 : seen.any (ptEq x) = true) : insB seen (x :: r) = false := by
  unfold insB
  rw [h2]; simp
theorem outsB_next {left : Int} {x : OutT} {r : List OutT} (h1 : 1 ≤ x.value) (h2 : x.value ≤ left) (h3 : lockB x.lock = true) : outsB left (x :: r) = outsB (left - x.value) r := by
  conv => lhs; unfold outsB
  rw [decide_eq_true h1, decide_eq_true h2, h3]; rfl
theorem outsR_next {left : Int} {x : OutT} {r : List OutT} (h1 : 1 ≤ x.value) (h2 : x.value ≤ maxCoin) (h3 : lockB x.lock = true) : outsR left (x :: r) = outsR (left + x.value) r := by
  conv => lhs; unfold outsR
  rw [decide_eq_true h1, decide_eq_true h2, h3]; rfl
mutual
/-- The statements' reckoning: parts, and bytes of terms by 64, up to a bound and one. -/
def lsizeT : LockT → Int → Int
  | .node _ t _ l, top => min (lsizeTs l top (1 + (t.size : Int) / 64)) (top + 1)
def lsizeTs : List LockT → Int → Int → Int
  | [], _, n => n
  | x :: r, top, n => if n ≤ top then lsizeTs r top (n + lsizeT x top) else n
end
mutual
theorem lsizeT_ge : ∀ (x : LockT) (top : Int), 0 ≤ top → 1 ≤ lsizeT x top ∧ lsizeT x top ≤ top + 1
  | .node _ t _ l, top, h => by
    unfold lsizeT
    have := lsizeTs_ge l top (1 + (t.size : Int) / 64) h
    omega
theorem lsizeTs_ge : ∀ (l : List LockT) (top n : Int), 0 ≤ top → n ≤ lsizeTs l top n
  | [], top, n, _ => by unfold lsizeTs; omega
  | x :: r, top, n, h => by
    unfold lsizeTs
    split
    · have h1 := lsizeT_ge x top h
      have h2 := lsizeTs_ge r top (n + lsizeT x top) h
      omega
    · omega
end
theorem lsizeTs_next {x : LockT} {r : List LockT} {top n : Int} (h : n ≤ top) : lsizeTs (x :: r) top n = lsizeTs r top (n + lsizeT x top) := by
  conv => lhs; unfold lsizeTs
  rw [if_pos h]
theorem lsizeTs_stop {l : List LockT} {top n : Int} (h : ¬ n ≤ top) : lsizeTs l top n = n := by
  cases l with
  | nil => unfold lsizeTs; rfl
  | cons x r => unfold lsizeTs; rw [if_neg h]
def insN : List InT → Int → Int → Int
  | [], _, n => n
  | x :: r, top, n => if n ≤ top then insN r top (n + 1 + (x.tx.size : Int) / 64) else n
def outsN : List OutT → Int → Int → Int
  | [], _, n => n
  | x :: r, top, n => if n ≤ top then outsN r top (n + lsizeT x.lock top) else n
def txN (t : TxT) (top : Int) : Int := min (outsN t.outs top (insN t.ins top 1)) (top + 1)
theorem insN_next {x : InT} {r : List InT} {top n : Int} (h : n ≤ top) : insN (x :: r) top n = insN r top (n + 1 + (x.tx.size : Int) / 64) := by
  conv => lhs; unfold insN
  rw [if_pos h]
theorem insN_stop {l : List InT} {top n : Int} (h : ¬ n ≤ top) : insN l top n = n := by
  cases l with
  | nil => rfl
  | cons x r => unfold insN; rw [if_neg h]
theorem outsN_next {x : OutT} {r : List OutT} {top n : Int} (h : n ≤ top) : outsN (x :: r) top n = outsN r top (n + lsizeT x.lock top) := by
  conv => lhs; unfold outsN
  rw [if_pos h]
theorem outsN_stop {l : List OutT} {top n : Int} (h : ¬ n ≤ top) : outsN l top n = n := by
  cases l with
  | nil => rfl
  | cons x r => unfold outsN; rw [if_neg h]
theorem insN_ge : ∀ (l : List InT) (top n : Int), n ≤ insN l top n
  | [], top, n => by unfold insN; omega
  | x :: r, top, n => by
    unfold insN
    split
    · have h2 := insN_ge r top (n + 1 + (x.tx.size : Int) / 64)
      omega
    · omega
theorem outsN_ge : ∀ (l : List OutT) (top n : Int), 0 ≤ top → n ≤ outsN l top n
  | [], top, n, _ => by unfold outsN; omega
  | x :: r, top, n, h => by
    unfold outsN
    split
    · have h1 := lsizeT_ge x.lock top h
      have h2 := outsN_ge r top (n + lsizeT x.lock top) h
      omega
    · omega
end Go.Proofs.YtaonadgelkdbcaaGreatDoor

namespace Go.Proofs.YtaonadgelkdbcaaGreatDoor
open Go.RowKit

def insC (l : List InT) : List Value := l.flatMap fun x => [.string x.tx, .int .i64 x.pn, .int .i64 x.age]
def OutsC (w : World) : List OutT → List Value → Prop
  | [], xs => xs = []
  | x :: r, xs => ∃ cs rest, xs = .int .i64 x.value :: cs ++ rest ∧ LockC w x.lock cs ∧ OutsC w r rest
theorem OutsC.below {w w' : World} (hb : Below w.heap.size w w') : ∀ (l : List OutT) (xs : List Value), OutsC w l xs → OutsC w' l xs
  | [], xs, h => by unfold OutsC at h ⊢; exact h
  | x :: r, xs, h => by
    unfold OutsC at h ⊢
    obtain ⟨cs, rest, h1, h2, h3⟩ := h
    exact ⟨cs, rest, h1, LockC.below hb x.lock cs h2, OutsC.below hb r rest h3⟩
theorem LockC.len {w : World} {x : LockT} {cs : List Value} (h : LockC w x cs) : cs.length = 4 := by
  obtain ⟨A, cap, ys, hcs, -, -⟩ := h.shape
  rw [hcs]; rfl
theorem OutsC.at_ {w : World} : ∀ {l : List OutT} {xs : List Value}, OutsC w l xs → ∀ (k : Nat) (hk : k < l.length), ∃ cs, LockC w l[k].lock cs ∧ cs.length = 4 ∧ xs[k * 5]? = some (.int .i64 l[k].value) ∧ ∀ j, j < 4 → xs[k * 5 + (j + 1)]? = cs[j]?
  | [], xs, _, k, hk => absurd hk (by simp)
  | x :: r, xs, h, k, hk => by
    unfold OutsC at h
    obtain ⟨cs, rest, rfl, h2, h3⟩ := h
    have hl := h2.len
    cases k with
    | zero => exact ⟨cs, h2, hl, rfl, fun j hj => by rw [Nat.zero_mul, Nat.zero_add, List.cons_append, List.getElem?_cons_succ, List.getElem?_append_left (by omega)]⟩
    | succ k =>
      obtain ⟨ds, g1, g2, g3, g4⟩ := OutsC.at_ h3 k (by simpa using hk)
      refine ⟨ds, g1, g2, ?_, fun j hj => ?_⟩
      · rw [show (k + 1) * 5 = (k * 5 + 4) + 1 by omega, List.cons_append, List.getElem?_cons_succ, List.getElem?_append_right (by omega), hl, show k * 5 + 4 - 4 = k * 5 by omega]
        exact g3
      · rw [show (k + 1) * 5 + (j + 1) = (k * 5 + (j + 1) + 4) + 1 by omega, List.cons_append, List.getElem?_cons_succ, List.getElem?_append_right (by omega), hl, show k * 5 + (j + 1) + 4 - 4 = k * 5 + (j + 1) by omega]
        exact g4 j hj
theorem OutsC.len {w : World} : ∀ {l : List OutT} {xs : List Value}, OutsC w l xs → xs.length = l.length * 5
  | [], xs, h => by unfold OutsC at h; subst h; rfl
  | x :: r, xs, h => by
    unfold OutsC at h
    obtain ⟨cs, rest, rfl, h2, h3⟩ := h
    rw [List.length_append, List.length_cons, h2.len, OutsC.len h3, List.length_cons]; omega
/-- The k-th output of a row: its cells, what they tell. -/
theorem out_at {w : World} {A : Option Addr} {l : List OutT} {xs : List Value} (hc : Cells w A xs) (h : OutsC w l xs) {k : Nat} (hk : k < l.length) : ∃ (ad : Addr) (B : Option Addr) (cap : Nat), A = some ad ∧
    w.cell? (ad.add (k * 5)) = some (.int .i64 l[k].value) ∧ w.cell? ⟨(ad.add (k * 5)).block, (ad.add (k * 5)).off + 1, none⟩ = some (.int .u8 l[k].lock.kind) ∧ w.cell? ⟨(ad.add (k * 5)).block, (ad.add (k * 5)).off + 2, none⟩ = some (.string l[k].lock.term) ∧ w.cell? ⟨(ad.add (k * 5)).block, (ad.add (k * 5)).off + 3, none⟩ = some (.int .i64 l[k].lock.n) ∧ w.cell? ⟨(ad.add (k * 5)).block, (ad.add (k * 5)).off + 4, none⟩ = some (.slice B l[k].lock.kids.length cap) ∧
    LockC w l[k].lock [.int .u8 l[k].lock.kind, .string l[k].lock.term, .int .i64 l[k].lock.n, .slice B l[k].lock.kids.length cap] := by
  obtain ⟨ad, he, hcc⟩ := hc (by rw [h.len]; omega)
  obtain ⟨cs, h1, h2, h0, h3⟩ := h.at_ k hk
  obtain ⟨B, cap, ys, hcs, -, -⟩ := h1.shape
  subst hcs
  refine ⟨ad, B, cap, he, hcc _ _ h0, ?_, ?_, ?_, ?_, h1⟩
  · rw [add_next _ _ _ (by decide)]; exact hcc _ _ (h3 0 (by decide))
  · rw [add_next _ _ _ (by decide)]; exact hcc _ _ (h3 1 (by decide))
  · rw [add_next _ _ _ (by decide)]; exact hcc _ _ (h3 2 (by decide))
  · rw [add_next _ _ _ (by decide)]; exact hcc _ _ (h3 3 (by decide))
theorem insC_get : ∀ (l : List InT) (k : Nat) (hk : k < l.length), (insC l)[k * 3]? = some (.string l[k].tx) ∧ (insC l)[k * 3 + 1]? = some (.int .i64 l[k].pn) ∧ (insC l)[k * 3 + 2]? = some (.int .i64 l[k].age)
  | [], k, hk => absurd hk (by simp)
  | x :: r, 0, _ => ⟨rfl, rfl, rfl⟩
  | x :: r, k + 1, hk => by
    have h := insC_get r k (by simpa using hk)
    have e : insC (x :: r) = [.string x.tx, .int .i64 x.pn, .int .i64 x.age] ++ insC r := rfl
    rw [e, show (k + 1) * 3 = k * 3 + 3 by omega, List.getElem?_append_right (by simp), List.getElem?_append_right (by simp), List.getElem?_append_right (by simp)]
    refine ⟨?_, ?_, ?_⟩
    · rw [show k * 3 + 3 - [Value.string x.tx, .int .i64 x.pn, .int .i64 x.age].length = k * 3 by simp]; exact h.1
    · rw [show k * 3 + 3 + 1 - [Value.string x.tx, .int .i64 x.pn, .int .i64 x.age].length = k * 3 + 1 by simp]; exact h.2.1
    · rw [show k * 3 + 3 + 2 - [Value.string x.tx, .int .i64 x.pn, .int .i64 x.age].length = k * 3 + 2 by simp]; exact h.2.2
theorem insC_len : ∀ (l : List InT), (insC l).length = l.length * 3
  | [] => rfl
  | x :: r => by
    have e : insC (x :: r) = [.string x.tx, .int .i64 x.pn, .int .i64 x.age] ++ insC r := rfl
    rw [e, List.length_append, insC_len r, List.length_cons]; simp; omega
theorem in_at {w : World} {A : Option Addr} {l : List InT} (hc : Cells w A (insC l)) {k : Nat} (hk : k < l.length) : ∃ (ad : Addr), A = some ad ∧
    w.cell? (ad.add (k * 3)) = some (.string l[k].tx) ∧ w.cell? ⟨(ad.add (k * 3)).block, (ad.add (k * 3)).off + 1, none⟩ = some (.int .i64 l[k].pn) ∧ w.cell? ⟨(ad.add (k * 3)).block, (ad.add (k * 3)).off + 2, none⟩ = some (.int .i64 l[k].age) := by
  obtain ⟨ad, he, hcc⟩ := hc (by rw [insC_len]; omega)
  obtain ⟨h0, h1, h2⟩ := insC_get l k hk
  refine ⟨ad, he, hcc _ _ h0, ?_, ?_⟩
  · rw [add_next _ _ _ (by decide)]; exact hcc _ _ h1
  · rw [add_next _ _ _ (by decide)]; exact hcc _ _ h2
/-- The four cells of a transaction. -/
def TxC (w : World) (t : TxT) (A : Option Addr) (B : Option Addr) : Prop := Cells w A (insC t.ins) ∧ ∃ ys, Cells w B ys ∧ OutsC w t.outs ys
theorem TxC.below {w w' : World} {t : TxT} {A B : Option Addr} (h : TxC w t A B) (hb : Below w.heap.size w w') : TxC w' t A B := by
  obtain ⟨h1, ys, h2, h3⟩ := h
  exact ⟨h1.below hb, ys, h2.below hb, OutsC.below hb t.outs ys h3⟩
/-- What the statements' bound leaves: all locks are small. -/
theorem lsize_small : ∀ (m : Nat) (x : LockT), sizeT x ≤ m → lsizeT x 150 ≤ 150 → smallT x
  | 0, x, h, _ => absurd (sizeT_pos x) (by omega)
  | m + 1, .node k t n l, h, hl => by
    unfold lsizeT at hl
    unfold sizeT at h
    have h0 : lsizeTs l 150 (1 + (t.size : Int) / 64) ≤ 150 := by omega
    have go : ∀ (l : List LockT) (c : Int), 0 ≤ c → sizeTs l ≤ m → lsizeTs l 150 c ≤ 150 → smallTs l ∧ c + (l.length : Int) ≤ 150 := by
      intro l
      induction l with
      | nil => intro c _ _ h; unfold lsizeTs at h; exact ⟨by unfold smallTs; trivial, by simp; omega⟩
      | cons x r ih =>
        intro c hc hs h
        unfold sizeTs at hs
        unfold lsizeTs at h
        split at h
        · have g := lsizeT_ge x 150 (by omega)
          obtain ⟨i1, i2⟩ := ih (c + lsizeT x 150) (by omega) (by omega) h
          have g2 := lsizeTs_ge r 150 (c + lsizeT x 150) (by omega)
          have hx : lsizeT x 150 ≤ 150 := by omega
          exact ⟨by unfold smallTs; exact ⟨lsize_small m x (by omega) hx, i1⟩, by rw [List.length_cons]; push_cast; omega⟩
        · omega
    have hn : 0 ≤ (t.size : Int) / 64 := Int.ediv_nonneg (by omega) (by omega)
    obtain ⟨g1, g2⟩ := go l _ (by omega) (by omega) h0
    unfold smallT
    refine ⟨?_, ?_, g1⟩
    · have h5 : (t.size : Int) / 64 ≤ 150 := by omega
      omega
    · omega
end Go.Proofs.YtaonadgelkdbcaaGreatDoor

namespace Go.Proofs.YtaonadgelkdbcaaGreatDoor
open Go.RowKit

set_option maxRecDepth 100000 in
set_option maxHeartbeats 8000000 in
theorem same_step (k : Int) (t : ByteArray) (n : Int) (l : List LockT) (A B : Option Addr) (ca cb : Nat) (xs ys : List Value) (w : World) (hll : l.length ≤ 1000000) (hcx : Cells w A xs) (hlx : LocksC w l xs) (hcy : Cells w B ys) (hly : LocksC w l ys)
    (HK : ∀ (i : Nat) (hi : i < l.length) (W : World) (cs ds : List Value), LockC W l[i] cs → LockC W l[i] ds → Calls Tryz.prog 28 #[.agg cs.toArray, .agg ds.toArray] W fun e w' => e = .returned (.bool true) ∧ Below W.heap.size W w') :
    Calls Tryz.prog 28 #[.agg #[.int .u8 k, .string t, .int .i64 n, .slice A l.length ca], .agg #[.int .u8 k, .string t, .int .i64 n, .slice B l.length cb]] w fun e w' => e = .returned (.bool true) ∧ Below w.heap.size w w' := by
  have hbA : Below w.heap.size w (w.alloc (.cells #[.int .u8 k, .string t, .int .i64 n, .slice A l.length ca] 32)) := (Below.refl _ _).alloc (Nat.le_refl _) _
  have hbB : Below (w.alloc (.cells #[.int .u8 k, .string t, .int .i64 n, .slice A l.length ca] 32)).heap.size (w.alloc (.cells #[.int .u8 k, .string t, .int .i64 n, .slice A l.length ca] 32)) ((w.alloc (.cells #[.int .u8 k, .string t, .int .i64 n, .slice A l.length ca] 32)).alloc (.cells #[.int .u8 k, .string t, .int .i64 n, .slice B l.length cb] 32)) := (Below.refl _ _).alloc (Nat.le_refl _) _
  have p0 : ((w.alloc (.cells #[.int .u8 k, .string t, .int .i64 n, .slice A l.length ca] 32)).alloc (.cells #[.int .u8 k, .string t, .int .i64 n, .slice B l.length cb] 32)).cell? ⟨w.heap.size, 0, none⟩ = some (.int .u8 k) := cell_below hbB (alloc_cells 0 _ rfl)
  have p1 : ((w.alloc (.cells #[.int .u8 k, .string t, .int .i64 n, .slice A l.length ca] 32)).alloc (.cells #[.int .u8 k, .string t, .int .i64 n, .slice B l.length cb] 32)).cell? ⟨w.heap.size, 1, none⟩ = some (.string t) := cell_below hbB (alloc_cells 1 _ rfl)
  have p2 : ((w.alloc (.cells #[.int .u8 k, .string t, .int .i64 n, .slice A l.length ca] 32)).alloc (.cells #[.int .u8 k, .string t, .int .i64 n, .slice B l.length cb] 32)).cell? ⟨w.heap.size, 2, none⟩ = some (.int .i64 n) := cell_below hbB (alloc_cells 2 _ rfl)
  have p3 : ((w.alloc (.cells #[.int .u8 k, .string t, .int .i64 n, .slice A l.length ca] 32)).alloc (.cells #[.int .u8 k, .string t, .int .i64 n, .slice B l.length cb] 32)).cell? ⟨w.heap.size, 3, none⟩ = some (.slice A l.length ca) := cell_below hbB (alloc_cells 3 _ rfl)
  have hsz : (w.alloc (.cells #[.int .u8 k, .string t, .int .i64 n, .slice A l.length ca] 32)).heap.size = w.heap.size + 1 := by simp
  have q0 : ((w.alloc (.cells #[.int .u8 k, .string t, .int .i64 n, .slice A l.length ca] 32)).alloc (.cells #[.int .u8 k, .string t, .int .i64 n, .slice B l.length cb] 32)).cell? ⟨w.heap.size + 1, 0, none⟩ = some (.int .u8 k) := by rw [← hsz]; exact alloc_cells 0 _ rfl
  have q1 : ((w.alloc (.cells #[.int .u8 k, .string t, .int .i64 n, .slice A l.length ca] 32)).alloc (.cells #[.int .u8 k, .string t, .int .i64 n, .slice B l.length cb] 32)).cell? ⟨w.heap.size + 1, 1, none⟩ = some (.string t) := by rw [← hsz]; exact alloc_cells 1 _ rfl
  have q2 : ((w.alloc (.cells #[.int .u8 k, .string t, .int .i64 n, .slice A l.length ca] 32)).alloc (.cells #[.int .u8 k, .string t, .int .i64 n, .slice B l.length cb] 32)).cell? ⟨w.heap.size + 1, 2, none⟩ = some (.int .i64 n) := by rw [← hsz]; exact alloc_cells 2 _ rfl
  have q3 : ((w.alloc (.cells #[.int .u8 k, .string t, .int .i64 n, .slice A l.length ca] 32)).alloc (.cells #[.int .u8 k, .string t, .int .i64 n, .slice B l.length cb] 32)).cell? ⟨w.heap.size + 1, 3, none⟩ = some (.slice B l.length cb) := by rw [← hsz]; exact alloc_cells 3 _ rfl
  have HB := Lib.hid (hbA.trans (hbB.mono hbA.size))
  have P3 := Lib.hid p3
  have Q3 := Lib.hid q3
  have HKK := Lib.hid HK
  have HCX := Lib.hid hcx
  have HLX := Lib.hid hlx
  have HCY := Lib.hid hcy
  have HLY := Lib.hid hly
  clear HK hcx hlx hcy hly hbA hbB hsz
  go_enter Tryz.func28, Tryz.ntmps28
  go_wp2_with fail
  go_loopw [5] (fun i wr => ∃ (j : Nat), j ≤ l.length ∧ i = .int .i64 (j : Int) ∧ Below ((w.alloc (.cells #[.int .u8 k, .string t, .int .i64 n, .slice A l.length ca] 32)).alloc (.cells #[.int .u8 k, .string t, .int .i64 n, .slice B l.length cb] 32)).heap.size ((w.alloc (.cells #[.int .u8 k, .string t, .int .i64 n, .slice A l.length ca] 32)).alloc (.cells #[.int .u8 k, .string t, .int .i64 n, .slice B l.length cb] 32)) wr) (fun i _ => l.length - (intOf i).toNat)
  case atStart => exact ⟨0, Nat.zero_le _, rfl, Below.refl _ _⟩
  case round =>
    obtain ⟨j, hj, rfl, hbr⟩ := hrel
    have c3 := cell_below hbr P3.out
    have d3 := cell_below hbr Q3.out
    have HBR := Lib.hid (HB.out.trans (hbr.mono HB.out.size))
    have HBR2 := Lib.hid hbr
    clear p0 p1 p2 p3 q0 q1 q2 q3
    by_cases hlt : j < l.length
    · have hbr0 := HBR.out
      obtain ⟨ad, C, cp, rfl, x0, x1, x2, x3, hlk⟩ := lock_at (Cells.below HCX.out hbr0) (LocksC.below hbr0 l xs HLX.out) hlt
      obtain ⟨bd, D, cq, rfl, y0, y1, y2, y3, hlm⟩ := lock_at (Cells.below HCY.out hbr0) (LocksC.below hbr0 l ys HLY.out) hlt
      have hbd : Below wr.heap.size wr wr.drew := (Below.refl _ _).drew
      have HG := Lib.hid (HKK.out j hlt wr.drew _ _ (LockC.below hbd _ _ hlk) (LockC.below hbd _ _ hlm))
      have HBD := Lib.hid (HBR2.out.drew)
      clear hlk hlm hbr hbr0 hbd
      go_upto_region 6 with fail
      go_still_tail 10, (by kernel_rfl)
      change wpList _ _ _ _ _ wr.drew
      generalize hdr : wr.drew = wd at HG HBD ⊢
      go_wp2_with (go_at_call 28; refine HG.out.mono ?_; rintro e w1 ⟨rfl, hb1⟩)
      have HB1 := Lib.hid (HBD.out.trans (hb1.mono HBD.out.size))
      clear hb1 hdr
      go_wp2_with fail
      go_roundw
      case rel => exact ⟨j + 1, by omega, by go_num, HB1.out⟩
      case measure => simp [intOf]; omega
    · have gj : decide ((j : Int) < (l.length : Int)) = false := decide_eq_false (by omega)
      clear hbr
      go_wp2_with fail
      go_ret
      exact ⟨rfl, HBR.out⟩
theorem same_all : ∀ (m : Nat) (x : LockT) (cs ds : List Value) (w : World), sizeT x ≤ m → smallT x → LockC w x cs → LockC w x ds → Calls Tryz.prog 28 #[.agg cs.toArray, .agg ds.toArray] w fun e w' => e = .returned (.bool true) ∧ Below w.heap.size w w'
  | 0, x, _, _, _, hm, _, _, _ => absurd (sizeT_pos x) (by omega)
  | m + 1, .node k t n l, cs, ds, w, hm, hs, hc, hd => by
    unfold LockC at hc hd
    obtain ⟨A, ca, xs, rfl, h2, h3⟩ := hc
    obtain ⟨B, cb, ys, rfl, g2, g3⟩ := hd
    obtain ⟨s1, s2, s3⟩ := smallT_parts hs
    exact same_step k t n l A B ca cb xs ys w s2 h2 h3 g2 g3 fun i hi W cs ds a b =>
      same_all m l[i] cs ds W (by have := sizeTs_at i hi; have e := sizeT_kids (.node k t n l); simp only [LockT.kids] at e; omega) (smallTs_at s3 i hi) a b
theorem sameLock_eq (x : LockT) (cs ds : List Value) (w : World) (hs : smallT x) (hc : LockC w x cs) (hd : LockC w x ds) : Calls Tryz.prog 28 #[.agg cs.toArray, .agg ds.toArray] w fun e w' => e = .returned (.bool true) ∧ Below w.heap.size w w' :=
  same_all (sizeT x) x cs ds w (Nat.le_refl _) hs hc hd
end Go.Proofs.YtaonadgelkdbcaaGreatDoor

namespace Go.Proofs.YtaonadgelkdbcaaGreatDoor
open Go.RowKit

/-- The ten cells of a claim. -/
def ClaimC (w : World) (n : Int) (o : OutT) (c : ClaimR) (cs : List Value) : Prop := ∃ (C0 : Option Addr) (cp0 : Nat) (K0 : Option Addr) (kc0 : Nat) (P0 : Option Addr) (pc0 : Nat),
  cs = [.int .i64 n, .int .i64 o.value, .int .u8 o.lock.kind, .string o.lock.term, .int .i64 o.lock.n, .slice C0 o.lock.kids.length cp0, .int .i64 c.after, .int .i64 c.age, .slice K0 c.keys.length kc0, .slice P0 c.pres.length pc0] ∧ LockC w o.lock [.int .u8 o.lock.kind, .string o.lock.term, .int .i64 o.lock.n, .slice C0 o.lock.kids.length cp0] ∧ Cells w K0 (strs c.keys) ∧ Cells w P0 (strs c.pres)
theorem ClaimC.below {w w' : World} {n : Int} {o : OutT} {c : ClaimR} {cs : List Value} (h : ClaimC w n o c cs) (hb : Below w.heap.size w w') : ClaimC w' n o c cs := by
  obtain ⟨C, cp, K, kc, P, pc, h1, h2, h3, h4⟩ := h
  exact ⟨C, cp, K, kc, P, pc, h1, LockC.below hb _ _ h2, Cells.below h3 hb, Cells.below h4 hb⟩
def out0 : OutT := ⟨0, .node 0 ⟨#[]⟩ 0 []⟩
theorem ClaimC.mk0 {w : World} {c : ClaimR} {K P : Option Addr} {kc pc : Nat} (h1 : Cells w K (strs c.keys)) (h2 : Cells w P (strs c.pres)) : ClaimC w 0 out0 c [.int .i64 0, .int .i64 0, .int .u8 0, .string ⟨#[]⟩, .int .i64 0, .slice none 0 0, .int .i64 c.after, .int .i64 c.age, .slice K c.keys.length kc, .slice P c.pres.length pc] :=
  ⟨none, 0, K, kc, P, pc, rfl, ⟨none, 0, [], rfl, Cells.nil _ _, rfl⟩, h1, h2⟩
theorem small0 : smallT out0.lock := by
  unfold out0
  simp only
  unfold smallT
  exact ⟨by decide, by simp, by unfold smallTs; trivial⟩
set_option maxRecDepth 100000 in
set_option maxHeartbeats 8000000 in
theorem same_step2 (n : Int) (o : OutT) (c : ClaimR) (C1 C2 K1 K2 P1 P2 : Option Addr) (cp1 cp2 kc1 kc2 pc1 pc2 : Nat) (w : World) (hs : smallT o.lock) (hl1 : c.keys.length ≤ 1000000) (hl2 : c.pres.length ≤ 1000000) (h1 : LockC w o.lock [.int .u8 o.lock.kind, .string o.lock.term, .int .i64 o.lock.n, .slice C1 o.lock.kids.length cp1]) (h2 : LockC w o.lock [.int .u8 o.lock.kind, .string o.lock.term, .int .i64 o.lock.n, .slice C2 o.lock.kids.length cp2])
    (hk1 : Cells w K1 (strs c.keys)) (hk2 : Cells w K2 (strs c.keys)) (hp1 : Cells w P1 (strs c.pres)) (hp2 : Cells w P2 (strs c.pres)) :
    Calls Tryz.prog 9 #[.agg #[.int .i64 n, .int .i64 o.value, .int .u8 o.lock.kind, .string o.lock.term, .int .i64 o.lock.n, .slice C1 o.lock.kids.length cp1, .int .i64 c.after, .int .i64 c.age, .slice K1 c.keys.length kc1, .slice P1 c.pres.length pc1], .agg #[.int .i64 n, .int .i64 o.value, .int .u8 o.lock.kind, .string o.lock.term, .int .i64 o.lock.n, .slice C2 o.lock.kids.length cp2, .int .i64 c.after, .int .i64 c.age, .slice K2 c.keys.length kc2, .slice P2 c.pres.length pc2]] w fun e w' => e = .returned (.bool true) ∧ Below w.heap.size w w' := by
  have hb1 : Below w.heap.size w (w.alloc (.cells #[.int .i64 n, .int .i64 o.value, .int .u8 o.lock.kind, .string o.lock.term, .int .i64 o.lock.n, .slice C1 o.lock.kids.length cp1, .int .i64 c.after, .int .i64 c.age, .slice K1 c.keys.length kc1, .slice P1 c.pres.length pc1] 36)) := (Below.refl _ _).alloc (Nat.le_refl _) _
  have hb2 : Below (w.alloc (.cells #[.int .i64 n, .int .i64 o.value, .int .u8 o.lock.kind, .string o.lock.term, .int .i64 o.lock.n, .slice C1 o.lock.kids.length cp1, .int .i64 c.after, .int .i64 c.age, .slice K1 c.keys.length kc1, .slice P1 c.pres.length pc1] 36)).heap.size (w.alloc (.cells #[.int .i64 n, .int .i64 o.value, .int .u8 o.lock.kind, .string o.lock.term, .int .i64 o.lock.n, .slice C1 o.lock.kids.length cp1, .int .i64 c.after, .int .i64 c.age, .slice K1 c.keys.length kc1, .slice P1 c.pres.length pc1] 36)) ((w.alloc (.cells #[.int .i64 n, .int .i64 o.value, .int .u8 o.lock.kind, .string o.lock.term, .int .i64 o.lock.n, .slice C1 o.lock.kids.length cp1, .int .i64 c.after, .int .i64 c.age, .slice K1 c.keys.length kc1, .slice P1 c.pres.length pc1] 36)).alloc (.cells #[.int .i64 n, .int .i64 o.value, .int .u8 o.lock.kind, .string o.lock.term, .int .i64 o.lock.n, .slice C2 o.lock.kids.length cp2, .int .i64 c.after, .int .i64 c.age, .slice K2 c.keys.length kc2, .slice P2 c.pres.length pc2] 39)) := (Below.refl _ _).alloc (Nat.le_refl _) _
  have hb := hb1.trans (hb2.mono hb1.size)
  have hsz : (w.alloc (.cells #[.int .i64 n, .int .i64 o.value, .int .u8 o.lock.kind, .string o.lock.term, .int .i64 o.lock.n, .slice C1 o.lock.kids.length cp1, .int .i64 c.after, .int .i64 c.age, .slice K1 c.keys.length kc1, .slice P1 c.pres.length pc1] 36)).heap.size = w.heap.size + 1 := by simp
  have x0 : ((w.alloc (.cells #[.int .i64 n, .int .i64 o.value, .int .u8 o.lock.kind, .string o.lock.term, .int .i64 o.lock.n, .slice C1 o.lock.kids.length cp1, .int .i64 c.after, .int .i64 c.age, .slice K1 c.keys.length kc1, .slice P1 c.pres.length pc1] 36)).alloc (.cells #[.int .i64 n, .int .i64 o.value, .int .u8 o.lock.kind, .string o.lock.term, .int .i64 o.lock.n, .slice C2 o.lock.kids.length cp2, .int .i64 c.after, .int .i64 c.age, .slice K2 c.keys.length kc2, .slice P2 c.pres.length pc2] 39)).cell? ⟨w.heap.size, 0, none⟩ = some (.int .i64 n) := cell_below hb2 (alloc_cells 0 _ rfl)
  have x1 : ((w.alloc (.cells #[.int .i64 n, .int .i64 o.value, .int .u8 o.lock.kind, .string o.lock.term, .int .i64 o.lock.n, .slice C1 o.lock.kids.length cp1, .int .i64 c.after, .int .i64 c.age, .slice K1 c.keys.length kc1, .slice P1 c.pres.length pc1] 36)).alloc (.cells #[.int .i64 n, .int .i64 o.value, .int .u8 o.lock.kind, .string o.lock.term, .int .i64 o.lock.n, .slice C2 o.lock.kids.length cp2, .int .i64 c.after, .int .i64 c.age, .slice K2 c.keys.length kc2, .slice P2 c.pres.length pc2] 39)).cell? ⟨w.heap.size, 1, none⟩ = some (.int .i64 o.value) := cell_below hb2 (alloc_cells 1 _ rfl)
  have x2 : ((w.alloc (.cells #[.int .i64 n, .int .i64 o.value, .int .u8 o.lock.kind, .string o.lock.term, .int .i64 o.lock.n, .slice C1 o.lock.kids.length cp1, .int .i64 c.after, .int .i64 c.age, .slice K1 c.keys.length kc1, .slice P1 c.pres.length pc1] 36)).alloc (.cells #[.int .i64 n, .int .i64 o.value, .int .u8 o.lock.kind, .string o.lock.term, .int .i64 o.lock.n, .slice C2 o.lock.kids.length cp2, .int .i64 c.after, .int .i64 c.age, .slice K2 c.keys.length kc2, .slice P2 c.pres.length pc2] 39)).cell? ⟨w.heap.size, 2, none⟩ = some (.int .u8 o.lock.kind) := cell_below hb2 (alloc_cells 2 _ rfl)
  have x3 : ((w.alloc (.cells #[.int .i64 n, .int .i64 o.value, .int .u8 o.lock.kind, .string o.lock.term, .int .i64 o.lock.n, .slice C1 o.lock.kids.length cp1, .int .i64 c.after, .int .i64 c.age, .slice K1 c.keys.length kc1, .slice P1 c.pres.length pc1] 36)).alloc (.cells #[.int .i64 n, .int .i64 o.value, .int .u8 o.lock.kind, .string o.lock.term, .int .i64 o.lock.n, .slice C2 o.lock.kids.length cp2, .int .i64 c.after, .int .i64 c.age, .slice K2 c.keys.length kc2, .slice P2 c.pres.length pc2] 39)).cell? ⟨w.heap.size, 3, none⟩ = some (.string o.lock.term) := cell_below hb2 (alloc_cells 3 _ rfl)
  have x4 : ((w.alloc (.cells #[.int .i64 n, .int .i64 o.value, .int .u8 o.lock.kind, .string o.lock.term, .int .i64 o.lock.n, .slice C1 o.lock.kids.length cp1, .int .i64 c.after, .int .i64 c.age, .slice K1 c.keys.length kc1, .slice P1 c.pres.length pc1] 36)).alloc (.cells #[.int .i64 n, .int .i64 o.value, .int .u8 o.lock.kind, .string o.lock.term, .int .i64 o.lock.n, .slice C2 o.lock.kids.length cp2, .int .i64 c.after, .int .i64 c.age, .slice K2 c.keys.length kc2, .slice P2 c.pres.length pc2] 39)).cell? ⟨w.heap.size, 4, none⟩ = some (.int .i64 o.lock.n) := cell_below hb2 (alloc_cells 4 _ rfl)
  have x5 : ((w.alloc (.cells #[.int .i64 n, .int .i64 o.value, .int .u8 o.lock.kind, .string o.lock.term, .int .i64 o.lock.n, .slice C1 o.lock.kids.length cp1, .int .i64 c.after, .int .i64 c.age, .slice K1 c.keys.length kc1, .slice P1 c.pres.length pc1] 36)).alloc (.cells #[.int .i64 n, .int .i64 o.value, .int .u8 o.lock.kind, .string o.lock.term, .int .i64 o.lock.n, .slice C2 o.lock.kids.length cp2, .int .i64 c.after, .int .i64 c.age, .slice K2 c.keys.length kc2, .slice P2 c.pres.length pc2] 39)).cell? ⟨w.heap.size, 5, none⟩ = some (.slice C1 o.lock.kids.length cp1) := cell_below hb2 (alloc_cells 5 _ rfl)
  have x6 : ((w.alloc (.cells #[.int .i64 n, .int .i64 o.value, .int .u8 o.lock.kind, .string o.lock.term, .int .i64 o.lock.n, .slice C1 o.lock.kids.length cp1, .int .i64 c.after, .int .i64 c.age, .slice K1 c.keys.length kc1, .slice P1 c.pres.length pc1] 36)).alloc (.cells #[.int .i64 n, .int .i64 o.value, .int .u8 o.lock.kind, .string o.lock.term, .int .i64 o.lock.n, .slice C2 o.lock.kids.length cp2, .int .i64 c.after, .int .i64 c.age, .slice K2 c.keys.length kc2, .slice P2 c.pres.length pc2] 39)).cell? ⟨w.heap.size, 6, none⟩ = some (.int .i64 c.after) := cell_below hb2 (alloc_cells 6 _ rfl)
  have x7 : ((w.alloc (.cells #[.int .i64 n, .int .i64 o.value, .int .u8 o.lock.kind, .string o.lock.term, .int .i64 o.lock.n, .slice C1 o.lock.kids.length cp1, .int .i64 c.after, .int .i64 c.age, .slice K1 c.keys.length kc1, .slice P1 c.pres.length pc1] 36)).alloc (.cells #[.int .i64 n, .int .i64 o.value, .int .u8 o.lock.kind, .string o.lock.term, .int .i64 o.lock.n, .slice C2 o.lock.kids.length cp2, .int .i64 c.after, .int .i64 c.age, .slice K2 c.keys.length kc2, .slice P2 c.pres.length pc2] 39)).cell? ⟨w.heap.size, 7, none⟩ = some (.int .i64 c.age) := cell_below hb2 (alloc_cells 7 _ rfl)
  have x8 : ((w.alloc (.cells #[.int .i64 n, .int .i64 o.value, .int .u8 o.lock.kind, .string o.lock.term, .int .i64 o.lock.n, .slice C1 o.lock.kids.length cp1, .int .i64 c.after, .int .i64 c.age, .slice K1 c.keys.length kc1, .slice P1 c.pres.length pc1] 36)).alloc (.cells #[.int .i64 n, .int .i64 o.value, .int .u8 o.lock.kind, .string o.lock.term, .int .i64 o.lock.n, .slice C2 o.lock.kids.length cp2, .int .i64 c.after, .int .i64 c.age, .slice K2 c.keys.length kc2, .slice P2 c.pres.length pc2] 39)).cell? ⟨w.heap.size, 8, none⟩ = some (.slice K1 c.keys.length kc1) := cell_below hb2 (alloc_cells 8 _ rfl)
  have x9 : ((w.alloc (.cells #[.int .i64 n, .int .i64 o.value, .int .u8 o.lock.kind, .string o.lock.term, .int .i64 o.lock.n, .slice C1 o.lock.kids.length cp1, .int .i64 c.after, .int .i64 c.age, .slice K1 c.keys.length kc1, .slice P1 c.pres.length pc1] 36)).alloc (.cells #[.int .i64 n, .int .i64 o.value, .int .u8 o.lock.kind, .string o.lock.term, .int .i64 o.lock.n, .slice C2 o.lock.kids.length cp2, .int .i64 c.after, .int .i64 c.age, .slice K2 c.keys.length kc2, .slice P2 c.pres.length pc2] 39)).cell? ⟨w.heap.size, 9, none⟩ = some (.slice P1 c.pres.length pc1) := cell_below hb2 (alloc_cells 9 _ rfl)
  have y0 : ((w.alloc (.cells #[.int .i64 n, .int .i64 o.value, .int .u8 o.lock.kind, .string o.lock.term, .int .i64 o.lock.n, .slice C1 o.lock.kids.length cp1, .int .i64 c.after, .int .i64 c.age, .slice K1 c.keys.length kc1, .slice P1 c.pres.length pc1] 36)).alloc (.cells #[.int .i64 n, .int .i64 o.value, .int .u8 o.lock.kind, .string o.lock.term, .int .i64 o.lock.n, .slice C2 o.lock.kids.length cp2, .int .i64 c.after, .int .i64 c.age, .slice K2 c.keys.length kc2, .slice P2 c.pres.length pc2] 39)).cell? ⟨w.heap.size + 1, 0, none⟩ = some (.int .i64 n) := by rw [← hsz]; exact alloc_cells 0 _ rfl
  have y1 : ((w.alloc (.cells #[.int .i64 n, .int .i64 o.value, .int .u8 o.lock.kind, .string o.lock.term, .int .i64 o.lock.n, .slice C1 o.lock.kids.length cp1, .int .i64 c.after, .int .i64 c.age, .slice K1 c.keys.length kc1, .slice P1 c.pres.length pc1] 36)).alloc (.cells #[.int .i64 n, .int .i64 o.value, .int .u8 o.lock.kind, .string o.lock.term, .int .i64 o.lock.n, .slice C2 o.lock.kids.length cp2, .int .i64 c.after, .int .i64 c.age, .slice K2 c.keys.length kc2, .slice P2 c.pres.length pc2] 39)).cell? ⟨w.heap.size + 1, 1, none⟩ = some (.int .i64 o.value) := by rw [← hsz]; exact alloc_cells 1 _ rfl
  have y2 : ((w.alloc (.cells #[.int .i64 n, .int .i64 o.value, .int .u8 o.lock.kind, .string o.lock.term, .int .i64 o.lock.n, .slice C1 o.lock.kids.length cp1, .int .i64 c.after, .int .i64 c.age, .slice K1 c.keys.length kc1, .slice P1 c.pres.length pc1] 36)).alloc (.cells #[.int .i64 n, .int .i64 o.value, .int .u8 o.lock.kind, .string o.lock.term, .int .i64 o.lock.n, .slice C2 o.lock.kids.length cp2, .int .i64 c.after, .int .i64 c.age, .slice K2 c.keys.length kc2, .slice P2 c.pres.length pc2] 39)).cell? ⟨w.heap.size + 1, 2, none⟩ = some (.int .u8 o.lock.kind) := by rw [← hsz]; exact alloc_cells 2 _ rfl
  have y3 : ((w.alloc (.cells #[.int .i64 n, .int .i64 o.value, .int .u8 o.lock.kind, .string o.lock.term, .int .i64 o.lock.n, .slice C1 o.lock.kids.length cp1, .int .i64 c.after, .int .i64 c.age, .slice K1 c.keys.length kc1, .slice P1 c.pres.length pc1] 36)).alloc (.cells #[.int .i64 n, .int .i64 o.value, .int .u8 o.lock.kind, .string o.lock.term, .int .i64 o.lock.n, .slice C2 o.lock.kids.length cp2, .int .i64 c.after, .int .i64 c.age, .slice K2 c.keys.length kc2, .slice P2 c.pres.length pc2] 39)).cell? ⟨w.heap.size + 1, 3, none⟩ = some (.string o.lock.term) := by rw [← hsz]; exact alloc_cells 3 _ rfl
  have y4 : ((w.alloc (.cells #[.int .i64 n, .int .i64 o.value, .int .u8 o.lock.kind, .string o.lock.term, .int .i64 o.lock.n, .slice C1 o.lock.kids.length cp1, .int .i64 c.after, .int .i64 c.age, .slice K1 c.keys.length kc1, .slice P1 c.pres.length pc1] 36)).alloc (.cells #[.int .i64 n, .int .i64 o.value, .int .u8 o.lock.kind, .string o.lock.term, .int .i64 o.lock.n, .slice C2 o.lock.kids.length cp2, .int .i64 c.after, .int .i64 c.age, .slice K2 c.keys.length kc2, .slice P2 c.pres.length pc2] 39)).cell? ⟨w.heap.size + 1, 4, none⟩ = some (.int .i64 o.lock.n) := by rw [← hsz]; exact alloc_cells 4 _ rfl
  have y5 : ((w.alloc (.cells #[.int .i64 n, .int .i64 o.value, .int .u8 o.lock.kind, .string o.lock.term, .int .i64 o.lock.n, .slice C1 o.lock.kids.length cp1, .int .i64 c.after, .int .i64 c.age, .slice K1 c.keys.length kc1, .slice P1 c.pres.length pc1] 36)).alloc (.cells #[.int .i64 n, .int .i64 o.value, .int .u8 o.lock.kind, .string o.lock.term, .int .i64 o.lock.n, .slice C2 o.lock.kids.length cp2, .int .i64 c.after, .int .i64 c.age, .slice K2 c.keys.length kc2, .slice P2 c.pres.length pc2] 39)).cell? ⟨w.heap.size + 1, 5, none⟩ = some (.slice C2 o.lock.kids.length cp2) := by rw [← hsz]; exact alloc_cells 5 _ rfl
  have y6 : ((w.alloc (.cells #[.int .i64 n, .int .i64 o.value, .int .u8 o.lock.kind, .string o.lock.term, .int .i64 o.lock.n, .slice C1 o.lock.kids.length cp1, .int .i64 c.after, .int .i64 c.age, .slice K1 c.keys.length kc1, .slice P1 c.pres.length pc1] 36)).alloc (.cells #[.int .i64 n, .int .i64 o.value, .int .u8 o.lock.kind, .string o.lock.term, .int .i64 o.lock.n, .slice C2 o.lock.kids.length cp2, .int .i64 c.after, .int .i64 c.age, .slice K2 c.keys.length kc2, .slice P2 c.pres.length pc2] 39)).cell? ⟨w.heap.size + 1, 6, none⟩ = some (.int .i64 c.after) := by rw [← hsz]; exact alloc_cells 6 _ rfl
  have y7 : ((w.alloc (.cells #[.int .i64 n, .int .i64 o.value, .int .u8 o.lock.kind, .string o.lock.term, .int .i64 o.lock.n, .slice C1 o.lock.kids.length cp1, .int .i64 c.after, .int .i64 c.age, .slice K1 c.keys.length kc1, .slice P1 c.pres.length pc1] 36)).alloc (.cells #[.int .i64 n, .int .i64 o.value, .int .u8 o.lock.kind, .string o.lock.term, .int .i64 o.lock.n, .slice C2 o.lock.kids.length cp2, .int .i64 c.after, .int .i64 c.age, .slice K2 c.keys.length kc2, .slice P2 c.pres.length pc2] 39)).cell? ⟨w.heap.size + 1, 7, none⟩ = some (.int .i64 c.age) := by rw [← hsz]; exact alloc_cells 7 _ rfl
  have y8 : ((w.alloc (.cells #[.int .i64 n, .int .i64 o.value, .int .u8 o.lock.kind, .string o.lock.term, .int .i64 o.lock.n, .slice C1 o.lock.kids.length cp1, .int .i64 c.after, .int .i64 c.age, .slice K1 c.keys.length kc1, .slice P1 c.pres.length pc1] 36)).alloc (.cells #[.int .i64 n, .int .i64 o.value, .int .u8 o.lock.kind, .string o.lock.term, .int .i64 o.lock.n, .slice C2 o.lock.kids.length cp2, .int .i64 c.after, .int .i64 c.age, .slice K2 c.keys.length kc2, .slice P2 c.pres.length pc2] 39)).cell? ⟨w.heap.size + 1, 8, none⟩ = some (.slice K2 c.keys.length kc2) := by rw [← hsz]; exact alloc_cells 8 _ rfl
  have y9 : ((w.alloc (.cells #[.int .i64 n, .int .i64 o.value, .int .u8 o.lock.kind, .string o.lock.term, .int .i64 o.lock.n, .slice C1 o.lock.kids.length cp1, .int .i64 c.after, .int .i64 c.age, .slice K1 c.keys.length kc1, .slice P1 c.pres.length pc1] 36)).alloc (.cells #[.int .i64 n, .int .i64 o.value, .int .u8 o.lock.kind, .string o.lock.term, .int .i64 o.lock.n, .slice C2 o.lock.kids.length cp2, .int .i64 c.after, .int .i64 c.age, .slice K2 c.keys.length kc2, .slice P2 c.pres.length pc2] 39)).cell? ⟨w.heap.size + 1, 9, none⟩ = some (.slice P2 c.pres.length pc2) := by rw [← hsz]; exact alloc_cells 9 _ rfl
  have HB := Lib.hid hb
  have HL := Lib.hid (sameLock_eq o.lock _ _ ((w.alloc (.cells #[.int .i64 n, .int .i64 o.value, .int .u8 o.lock.kind, .string o.lock.term, .int .i64 o.lock.n, .slice C1 o.lock.kids.length cp1, .int .i64 c.after, .int .i64 c.age, .slice K1 c.keys.length kc1, .slice P1 c.pres.length pc1] 36)).alloc (.cells #[.int .i64 n, .int .i64 o.value, .int .u8 o.lock.kind, .string o.lock.term, .int .i64 o.lock.n, .slice C2 o.lock.kids.length cp2, .int .i64 c.after, .int .i64 c.age, .slice K2 c.keys.length kc2, .slice P2 c.pres.length pc2] 39)) hs (LockC.below hb _ _ h1) (LockC.below hb _ _ h2))
  have HK1 := Lib.hid (hk1.below hb)
  have HK2 := Lib.hid (hk2.below hb)
  have HP1 := Lib.hid (hp1.below hb)
  have HP2 := Lib.hid (hp2.below hb)
  clear hb hb1 hb2 h1 h2 hk1 hk2 hp1 hp2 hsz
  go_enter Tryz.func9, Tryz.ntmps9
  go_wp2_with fail
  refine HL.out.mono ?_
  rintro e w1 ⟨rfl, hb1⟩
  have u6 := cell_below hb1 x6
  have v6 := cell_below hb1 y6
  have u7 := cell_below hb1 x7
  have v7 := cell_below hb1 y7
  have u8 := cell_below hb1 x8
  have v8 := cell_below hb1 y8
  have u9 := cell_below hb1 x9
  have v9 := cell_below hb1 y9
  have HB1 := Lib.hid (HB.out.trans (hb1.mono HB.out.size))
  have HT := Lib.hid (sameTerms_eq c.keys K1 K2 kc1 kc2 w1 hl1 (HK1.out.below hb1) (HK2.out.below hb1))
  have HQ := Lib.hid (fun m => sameTerms_eq c.pres P1 P2 pc1 pc2 (w1.drewN m) hl2 ((HP1.out.below hb1).drewN m) ((HP2.out.below hb1).drewN m))
  clear hb1 x0 y0 x1 y1 x2 y2 x3 y3 x4 y4 x5 y5 x6 y6 x7 y7 x8 y8 x9 y9
  go_wp2_with fail
  refine HT.out.mono ?_
  rintro e w2 ⟨rfl, m, rfl⟩
  go_wp2_with fail
  refine (HQ.out m).mono ?_
  rintro e w3 ⟨rfl, m3, rfl⟩
  go_wp2_with fail
  go_ret
  exact ⟨rfl, below_drewN HB1.out _⟩
theorem sameC_any {n : Int} {o : OutT} {c : ClaimR} {cs ds : List Value} {w : World} (hs : smallT o.lock) (hl1 : c.keys.length ≤ 1000000) (hl2 : c.pres.length ≤ 1000000) (h1 : ClaimC w n o c cs) (h2 : ClaimC w n o c ds) :
    Calls Tryz.prog 9 #[.agg cs.toArray, .agg ds.toArray] w fun e w' => e = .returned (.bool true) ∧ Below w.heap.size w w' := by
  obtain ⟨C1, cp1, K1, kc1, P1, pc1, rfl, a2, a3, a4⟩ := h1
  obtain ⟨C2, cp2, K2, kc2, P2, pc2, rfl, b2, b3, b4⟩ := h2
  exact same_step2 n o c C1 C2 K1 K2 P1 P2 cp1 cp2 kc1 kc2 pc1 pc2 w hs hl1 hl2 a2 b2 a3 b3 a4 b4
end Go.Proofs.YtaonadgelkdbcaaGreatDoor
