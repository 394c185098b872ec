/- Plain mathematics of the check: a step is one to one in the word and in the check; six words added at the end. -/
import Derived.Test.YtnkhbhkmllnniaaDoorSpec
namespace Bech
theorem xor_back (a x : Nat) : a ^^^ (a ^^^ x) = x := by rw [← Nat.xor_assoc, Nat.xor_self, Nat.zero_xor]
theorem xor_inj {a x y : Nat} (h : a ^^^ x = a ^^^ y) : x = y := by rw [← xor_back a x, h, xor_back]
theorem inn_eq (t c k : Nat) : inn t c k = c ^^^ inn t 0 k := by
  induction k with
  | zero => simp [inn]
  | succ k ih => simp only [inn]; rw [ih, Nat.xor_assoc]
def gsum (t : Nat) : Nat := inn t 0 5
theorem step_eq (c w : Nat) : step c w = w ^^^ (c % 33554432 * 32 ^^^ gsum (c / 33554432)) := by
  unfold step
  rw [inn_eq, Nat.xor_comm (c % 33554432 * 32) w, Nat.xor_assoc]
  rfl
theorem inn_lt30 (t k : Nat) : inn t 0 k < 2 ^ 30 := by
  induction k with
  | zero => unfold inn; decide
  | succ k ih =>
    unfold inn
    refine Nat.xor_lt_two_pow ih ?_
    have := gen_lt k
    rcases Nat.mod_two_eq_zero_or_one (t / 2 ^ k) with h | h <;> rw [h] <;> omega
theorem step_lt30 (c w : Nat) (hw : w < 32) : step c w < 2 ^ 30 := by
  rw [step_eq]
  refine Nat.xor_lt_two_pow (by omega) (Nat.xor_lt_two_pow ?_ (inn_lt30 _ _))
  have := Nat.mod_lt c (show 0 < 33554432 by decide)
  omega
theorem step_inj_w {c x y : Nat} (h : step c x = step c y) : x = y := by
  rw [step_eq, step_eq, Nat.xor_comm x, Nat.xor_comm y] at h
  exact xor_inj h
theorem gsum_low : ∀ t, t < 32 → ∀ t', t' < 32 → gsum t % 32 = gsum t' % 32 → t = t' := by decide +kernel
theorem step_inj_c {c c' w : Nat} (hc : c < 2 ^ 30) (hc' : c' < 2 ^ 30) (h : step c w = step c' w) : c = c' := by
  rw [step_eq, step_eq] at h
  have h1 := xor_inj h
  have h2 : (c % 33554432 * 32 ^^^ gsum (c / 33554432)) % 2 ^ 5 = (c' % 33554432 * 32 ^^^ gsum (c' / 33554432)) % 2 ^ 5 := by rw [h1]
  rw [Nat.xor_mod_two_pow, Nat.xor_mod_two_pow] at h2
  have e1 : c % 33554432 * 32 % 2 ^ 5 = 0 := by omega
  have e2 : c' % 33554432 * 32 % 2 ^ 5 = 0 := by omega
  rw [e1, e2, Nat.zero_xor, Nat.zero_xor] at h2
  have h3 := gsum_low (c / 33554432) (by omega) (c' / 33554432) (by omega) h2
  rw [h3, Nat.xor_comm, Nat.xor_comm (c' % 33554432 * 32)] at h1
  have h4 := xor_inj h1
  omega
theorem step_add (a z w : Nat) (hz : z < 33554432) : step (a ^^^ z) w = step a w ^^^ (z * 32) := by
  rw [step_eq, step_eq]
  have h1 : (a ^^^ z) / 33554432 = a / 33554432 := by
    have := Nat.xor_div_two_pow (a := a) (b := z) (n := 25)
    rw [show (2 : Nat) ^ 25 = 33554432 from rfl] at this
    rw [this, Nat.div_eq_of_lt hz, Nat.xor_zero]
  have h2 : (a ^^^ z) % 33554432 * 32 = (a % 33554432 * 32) ^^^ (z * 32) := by
    have h3 := Nat.xor_mod_two_pow (a := a) (b := z) (n := 25)
    rw [show (2 : Nat) ^ 25 = 33554432 from rfl] at h3
    rw [h3, Nat.mod_eq_of_lt hz]
    have h4 := Nat.shiftLeft_xor_distrib (a := a % 33554432) (b := z) (i := 5)
    simp only [Nat.shiftLeft_eq] at h4
    exact h4
  rw [h1, h2]
  rw [Nat.xor_assoc, Nat.xor_assoc, Nat.xor_comm (z * 32), Nat.xor_assoc]
theorem chkFrom_lt30 (ws : List UInt8) (hw : ∀ b ∈ ws, b.toNat < 32) : ∀ c, c < 2 ^ 30 → chkFrom c ws < 2 ^ 30 := by
  induction ws with
  | nil => exact fun c h => h
  | cons w ws ih => exact fun c _ => ih (fun b hb => hw b (List.mem_cons_of_mem _ hb)) _ (step_lt30 _ _ (hw w (List.mem_cons_self ..)))
theorem chkFrom_inj (ws : List UInt8) (hw : ∀ b ∈ ws, b.toNat < 32) : ∀ c c', c < 2 ^ 30 → c' < 2 ^ 30 → chkFrom c ws = chkFrom c' ws → c = c' := by
  induction ws with
  | nil => exact fun _ _ _ _ h => h
  | cons w ws ih =>
    intro c c' hc hc' h
    have h0 := hw w (List.mem_cons_self ..)
    exact step_inj_c hc hc' (ih (fun b hb => hw b (List.mem_cons_of_mem _ hb)) _ _ (step_lt30 _ _ h0) (step_lt30 _ _ h0) h)
/-- One word turned: another check. -/
theorem chk_turned {a b : List UInt8} {x y : UInt8} (hb : ∀ z ∈ b, z.toNat < 32) (hx : x.toNat < 32) (hy : y.toNat < 32) (h : chk (a ++ x :: b) = chk (a ++ y :: b)) : x = y := by
  unfold chk at h
  rw [chkFrom_append, chkFrom_append] at h
  have h1 := chkFrom_inj b hb _ _ (step_lt30 _ _ hx) (step_lt30 _ _ hy) h
  exact UInt8.toNat_inj.1 (step_inj_w h1)
/-- The six words of a number below 2^30. -/
def pieces (s : Nat) : List UInt8 := [UInt8.ofNat (s / 33554432 % 32), UInt8.ofNat (s / 1048576 % 32), UInt8.ofNat (s / 32768 % 32), UInt8.ofNat (s / 1024 % 32), UInt8.ofNat (s / 32 % 32), UInt8.ofNat (s % 32)]
theorem step_word (a z w : Nat) (hz : z < 33554432) : step (a ^^^ z) w = step a 0 ^^^ (z * 32 ^^^ w) := by
  rw [step_add _ _ _ hz, step_eq, step_eq, Nat.zero_xor, Nat.xor_comm w, Nat.xor_assoc, Nat.xor_comm w]
theorem step_word0 (a w : Nat) : step a w = step a 0 ^^^ w := by
  rw [step_eq, step_eq, Nat.zero_xor, Nat.xor_comm]
theorem join5 (z w : Nat) (hw : w < 32) : z * 32 ^^^ w = z * 32 + w := by
  have h := Nat.two_pow_add_eq_or_of_lt (i := 5) (b := w) (by simpa using hw) z
  have h2 : (2 ^ 5 * z ||| w) = 2 ^ 5 * z ^^^ w := by
    apply Nat.eq_of_testBit_eq
    intro i
    simp only [Nat.testBit_or, Nat.testBit_xor, Nat.testBit_two_pow_mul]
    by_cases hi : 5 ≤ i
    · have : w.testBit i = false := Nat.testBit_lt_two_pow (Nat.lt_of_lt_of_le hw (by
        have := Nat.pow_le_pow_right (n := 2) (by decide) hi
        exact this))
      simp [this]
    · simp [hi]
  rw [Nat.mul_comm z 32]
  have e : (2 : Nat) ^ 5 = 32 := rfl
  rw [e] at h h2
  rw [← h2, ← h]
theorem chk_pieces (c s : Nat) (hs : s < 2 ^ 30) : chkFrom c (pieces s) = chkFrom c zeros6 ^^^ s := by
  have e : ∀ n, (UInt8.ofNat (n % 32)).toNat = n % 32 := fun n => by rw [UInt8.toNat_ofNat']; omega
  have z : (0 : UInt8).toNat = 0 := rfl
  simp only [chkFrom, pieces, zeros6, List.foldl_cons, List.foldl_nil, e, z]
  rw [step_word0 c, step_word _ _ _ (by omega), join5 _ _ (by omega), step_word _ _ _ (by omega), join5 _ _ (by omega), step_word _ _ _ (by omega), join5 _ _ (by omega), step_word _ _ _ (by omega), join5 _ _ (by omega), step_word _ _ _ (by omega), join5 _ _ (by omega)]
  congr 1
  omega
end Bech
