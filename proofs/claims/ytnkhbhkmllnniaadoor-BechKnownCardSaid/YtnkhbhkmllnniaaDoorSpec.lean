/- The plain functions of layer 6 (bech): what the program and the reference compute, over lists of bytes and natural numbers. -/
namespace Bech

/-- The five numbers of the check. -/
def gen : Nat → Nat
  | 0 => 996825010
  | 1 => 642813549
  | 2 => 513874426
  | 3 => 1027748829
  | 4 => 705979059
  | _ => 0
/-- c behind the first k of the five exclusive ors. -/
def inn (t c : Nat) : Nat → Nat
  | 0 => c
  | k + 1 => inn t c k ^^^ gen k * (t / 2 ^ k % 2)
/-- One word more. -/
def step (c w : Nat) : Nat := inn (c / 33554432) (c % 33554432 * 32 ^^^ w) 5
def chkFrom (c : Nat) (ws : List UInt8) : Nat := ws.foldl (fun c w => step c w.toNat) c
def chk (ws : List UInt8) : Nat := chkFrom 1 ws

theorem gen_lt (k : Nat) : gen k < 2 ^ 30 := by
  match k with
  | 0 | 1 | 2 | 3 | 4 => decide
  | n + 5 => show (0 : Nat) < 2 ^ 30; decide
theorem inn_lt {t c : Nat} (hc : c < 2 ^ 32) (k : Nat) : inn t c k < 2 ^ 32 := by
  induction k with
  | zero => exact hc
  | succ k ih =>
    unfold inn
    refine Nat.xor_lt_two_pow ih ?_
    have := gen_lt k
    rcases Nat.mod_two_eq_zero_or_one (t / 2 ^ k) with h | h <;> rw [h] <;> omega
theorem step_lt (c w : Nat) (hw : w < 256) : step c w < 2 ^ 32 := by
  unfold step
  refine inn_lt ?_ 5
  refine Nat.xor_lt_two_pow ?_ (by omega)
  have := Nat.mod_lt c (show 0 < 33554432 by decide)
  omega
theorem chkFrom_lt (ws : List UInt8) : ∀ c, c < 2 ^ 32 → chkFrom c ws < 2 ^ 32 := by
  induction ws with
  | nil => exact fun c h => h
  | cons w ws ih => exact fun c _ => ih _ (step_lt _ _ w.toNat_lt)
theorem chk_lt (ws : List UInt8) : chk ws < 2 ^ 32 := chkFrom_lt ws 1 (by decide)
theorem chkFrom_snoc (c : Nat) (ws : List UInt8) (k : Nat) (h : k < ws.length) : chkFrom c (ws.take (k + 1)) = step (chkFrom c (ws.take k)) ws[k].toNat := by
  rw [List.take_succ_eq_append_getElem h]
  unfold chkFrom
  rw [List.foldl_append]
  rfl
theorem chkFrom_append (c : Nat) (a b : List UInt8) : chkFrom c (a ++ b) = chkFrom (chkFrom c a) b := by simp [chkFrom]

/-- The highest three, the lowest five bits of a byte. -/
def hi (b : UInt8) : UInt8 := UInt8.ofNat (b.toNat / 32)
def lo (b : UInt8) : UInt8 := UInt8.ofNat (b.toNat % 32)
theorem hi_nat (b : UInt8) : (hi b).toNat = b.toNat / 32 := by
  have := b.toNat_lt
  unfold hi
  rw [UInt8.toNat_ofNat']
  omega
theorem lo_nat (b : UInt8) : (lo b).toNat = b.toNat % 32 := by
  unfold lo
  rw [UInt8.toNat_ofNat']
  omega
/-- The words of a head. -/
def heads (l : List UInt8) : List UInt8 := l.map hi ++ 0 :: l.map lo
theorem map_take_snoc (f : UInt8 → UInt8) (l : List UInt8) (k : Nat) (h : k < l.length) : (l.take (k + 1)).map f = (l.take k).map f ++ [f l[k]] := by
  rw [List.take_succ_eq_append_getElem h, List.map_append]
  rfl
theorem chkFrom_one (c : Nat) (a : List UInt8) (b : UInt8) : chkFrom c (a ++ [b]) = step (chkFrom c a) b.toNat := by
  rw [chkFrom_append]; rfl

/-- The letters of the words. -/
def letters : List UInt8 := [113, 112, 122, 114, 121, 57, 120, 56, 103, 102, 50, 116, 118, 100, 119, 48, 115, 51, 106, 110, 53, 52, 107, 104, 99, 101, 54, 109, 117, 97, 55, 108]
def letter (w : Nat) : UInt8 := letters.getD w 0
/-- A letter's word; 32 where it is none's. -/
def wordOf (c : UInt8) : Nat := letters.findIdx (· == c)
theorem wordOf_le (c : UInt8) : wordOf c ≤ 32 := List.findIdx_le_length
def NotTo (c : UInt8) (k : Nat) : Prop := ∀ j, j < k → letter j ≠ c
theorem NotTo.step {c : UInt8} {k : Nat} (h : NotTo c k) (hk : letter k ≠ c) : NotTo c (k + 1) := by
  intro j hj
  rcases Nat.lt_or_ge j k with h' | h'
  · exact h j h'
  · obtain rfl : j = k := by omega
    exact hk
theorem wordOf_none {c : UInt8} (h : NotTo c 32) : wordOf c = 32 := by
  have h' : letters.findIdx (· == c) = letters.length := by
    rw [List.findIdx_eq_length]
    intro x hx
    obtain ⟨j, hj, rfl⟩ := List.mem_iff_getElem.1 hx
    have := h j hj
    unfold letter at this
    rw [List.getD_eq_getElem?_getD, List.getElem?_eq_getElem hj] at this
    simpa using this
  exact h'
theorem wordOf_some {c : UInt8} {k : Nat} (hk : k < 32) (h : NotTo c k) (he : letter k = c) : wordOf c = k := by
  unfold wordOf
  rw [List.findIdx_eq (show k < letters.length from hk)]
  have hg : ∀ (j : Nat) (hj : j < letters.length), letters[j] = letter j := by
    intro j hj
    unfold letter
    rw [List.getD_eq_getElem?_getD, List.getElem?_eq_getElem hj]
    rfl
  refine ⟨by rw [hg]; simpa using he, fun j hj => ?_⟩
  rw [hg]
  simpa using h j hj
/-- The same, 99 where it is none's. -/
def refWord (c : UInt8) : Nat := if wordOf c = 32 then 99 else wordOf c
theorem refWord_none {c : UInt8} (h : NotTo c 32) : refWord c = 99 := by unfold refWord; rw [wordOf_none h]; rfl
theorem refWord_some {c : UInt8} {k : Nat} (hk : k < 32) (h : NotTo c k) (he : letter k = c) : refWord c = k := by
  unfold refWord
  rw [wordOf_some hk h he, if_neg (by omega)]
theorem lit_get (k : Nat) (h : k < (ByteArray.mk #[113, 112, 122, 114, 121, 57, 120, 56, 103, 102, 50, 116, 118, 100, 119, 48, 115, 51, 106, 110, 53, 52, 107, 104, 99, 101, 54, 109, 117, 97, 55, 108]).size) :
    (ByteArray.mk #[113, 112, 122, 114, 121, 57, 120, 56, 103, 102, 50, 116, 118, 100, 119, 48, 115, 51, 106, 110, 53, 52, 107, 104, 99, 101, 54, 109, 117, 97, 55, 108])[k] = letter k := by
  have hk : k < letters.length := h
  unfold letter
  rw [List.getD_eq_getElem?_getD, List.getElem?_eq_getElem hk]
  rfl

def okByte (c : UInt8) : Bool := decide (33 ≤ c.toNat) && decide (c.toNat ≤ 126)
def isLow (c : UInt8) : Bool := decide (97 ≤ c.toNat) && decide (c.toNat ≤ 122)
def isUp (c : UInt8) : Bool := decide (65 ≤ c.toNat) && decide (c.toNat ≤ 90)
def lower (c : UInt8) : UInt8 := if isUp c = true then c + 32 else c
theorem any_snoc (p : UInt8 → Bool) (l : List UInt8) (k : Nat) (h : k < l.length) : (l.take (k + 1)).any p = ((l.take k).any p || p l[k]) := by
  rw [List.take_succ_eq_append_getElem h, List.any_append]
  simp
theorem all_snoc (p : UInt8 → Bool) (l : List UInt8) (k : Nat) (h : k < l.length) : (l.take (k + 1)).all p = ((l.take k).all p && p l[k]) := by
  rw [List.take_succ_eq_append_getElem h, List.all_append]
  simp
theorem lower_up {c : UInt8} (h : isUp c = true) : (lower c).toNat = c.toNat + 32 := by
  unfold lower
  rw [if_pos h]
  simp only [isUp, Bool.and_eq_true, decide_eq_true_eq] at h
  rw [UInt8.toNat_add]
  have : (32 : UInt8).toNat = 32 := rfl
  omega
theorem lower_not {c : UInt8} (h : isUp c = false) : lower c = c := by
  unfold lower
  rw [h]
  rfl
/-- What the reference's small gives. -/
def smallText (l : List UInt8) : List UInt8 := if l.all okByte = true then l.map lower else []
def smallOk (l : List UInt8) : Bool := l.all okByte && !(l.any isLow && l.any isUp)

/-- May a byte stand in a head? -/
def okc (c : UInt8) : Bool := decide (33 ≤ c.toNat) && decide (c.toNat ≤ 126) && !(decide (65 ≤ c.toNat) && decide (c.toNat ≤ 90))
def isHead (l : List UInt8) : Bool := l.all okc && decide (1 ≤ l.length) && decide (l.length ≤ 83)
def zeros6 : List UInt8 := [0, 0, 0, 0, 0, 0]
/-- The check of a head and words, with six words 0 behind, exclusive or 1. -/
def sumOf (h ws : List UInt8) : Nat := chk (heads h ++ ws ++ zeros6) ^^^ 1
/-- The letters of the six words of a check. -/
def sumText (c : Nat) : List UInt8 := [letter (c / 33554432 % 32), letter (c / 1048576 % 32), letter (c / 32768 % 32), letter (c / 1024 % 32), letter (c / 32 % 32), letter (c % 32)]
def wordsText (ws : List UInt8) : List UInt8 := ws.map fun w => letter w.toNat
def wordsOk (ws : List UInt8) : Bool := ws.all fun w => decide (w.toNat ≤ 31)
def encErr (h ws : List UInt8) : Int := if isHead h = false then 60 else if wordsOk ws = false then 60 else if 32768 < h.length + ws.length + 7 then 3 else 0
def encText (h ws : List UInt8) : List UInt8 := if encErr h ws = 0 then h ++ [49] ++ wordsText ws ++ sumText (sumOf h ws) else []
end Bech
