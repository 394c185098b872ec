/- Plain mathematics of layer 6: rows of bits, cut into pieces. -/
import Derived.Test.YtnkhbhkmllnniaaDoorSpec
namespace Bech

/-- v as n bits, the highest one first. -/
def toBits : Nat → Nat → List UInt8
  | 0, _ => []
  | n + 1, v => UInt8.ofNat (v / 2 ^ n % 2) :: toBits n v
/-- A row of bits as a number. -/
def numOf (l : List UInt8) : Nat := l.foldl (fun n b => 2 * n + b.toNat) 0
def IsBits (l : List UInt8) : Prop := ∀ b ∈ l, b.toNat < 2

theorem toBits_length (n v : Nat) : (toBits n v).length = n := by
  induction n with
  | zero => rfl
  | succ n ih => simp [toBits, ih]
theorem bit_nat (x : Nat) : (UInt8.ofNat (x % 2)).toNat = x % 2 := by rw [UInt8.toNat_ofNat']; omega
theorem toBits_isBits (n v : Nat) : IsBits (toBits n v) := by
  induction n with
  | zero => intro b hb; cases hb
  | succ n ih =>
    intro b hb
    simp only [toBits, List.mem_cons] at hb
    rcases hb with rfl | hb
    · rw [bit_nat]; omega
    · exact ih b hb
theorem numOf_from (l : List UInt8) : ∀ n, l.foldl (fun n b => 2 * n + b.toNat) n = n * 2 ^ l.length + numOf l := by
  induction l with
  | nil => intro n; simp [numOf]
  | cons b l ih =>
    intro n
    have h2 := ih (2 * 0 + b.toNat)
    simp only [numOf, List.foldl_cons, List.length_cons] at h2 ⊢
    rw [ih, h2, Nat.pow_succ, Nat.mul_comm (2 ^ l.length) 2, ← Nat.mul_assoc]
    simp only [numOf, Nat.add_mul, Nat.mul_comm 2 n]
    omega
theorem numOf_append (a b : List UInt8) : numOf (a ++ b) = numOf a * 2 ^ b.length + numOf b := by
  rw [numOf, List.foldl_append]
  exact numOf_from b _
theorem numOf_cons (x : UInt8) (l : List UInt8) : numOf (x :: l) = x.toNat * 2 ^ l.length + numOf l := by
  have := numOf_append [x] l
  simpa [numOf] using this
theorem numOf_lt {l : List UInt8} (h : IsBits l) : numOf l < 2 ^ l.length := by
  induction l with
  | nil => simp [numOf]
  | cons x l ih =>
    have h1 := ih (fun b hb => h b (List.mem_cons_of_mem _ hb))
    have h2 := h x (List.mem_cons_self)
    rw [numOf_cons, List.length_cons, Nat.pow_succ]
    have : x.toNat * 2 ^ l.length ≤ 1 * 2 ^ l.length := Nat.mul_le_mul_right _ (by omega)
    omega
theorem toBits_mod (n v : Nat) : ∀ m, n ≤ m → toBits n (v % 2 ^ m) = toBits n v := by
  induction n with
  | zero => intros; rfl
  | succ n ih =>
    intro m hm
    rw [toBits, toBits, ih m (by omega)]
    congr 2
    obtain ⟨d, rfl⟩ : ∃ d, m = n + (d + 1) := ⟨m - n - 1, by omega⟩
    rw [Nat.pow_add, Nat.mod_mul_right_div_self, Nat.pow_succ, Nat.mul_comm (2 ^ d) 2, Nat.mod_mul_right_mod]
theorem numOf_toBits (n v : Nat) : numOf (toBits n v) = v % 2 ^ n := by
  induction n with
  | zero => simp [toBits, numOf, Nat.mod_one]
  | succ n ih =>
    rw [toBits, numOf_cons, bit_nat, toBits_length, ih, Nat.pow_succ, Nat.mod_mul, Nat.mul_comm]
    omega
theorem toBits_numOf {l : List UInt8} (h : IsBits l) : toBits l.length (numOf l) = l := by
  induction l with
  | nil => rfl
  | cons x l ih =>
    have hl := ih (fun b hb => h b (List.mem_cons_of_mem _ hb))
    have hx := h x (List.mem_cons_self)
    have hlt := numOf_lt (fun b hb => h b (List.mem_cons_of_mem _ hb) : IsBits l)
    rw [List.length_cons, toBits, numOf_cons]
    have h1 : (x.toNat * 2 ^ l.length + numOf l) / 2 ^ l.length = x.toNat := by
      rw [Nat.mul_comm, Nat.mul_add_div (Nat.two_pow_pos _), Nat.div_eq_of_lt hlt, Nat.add_zero]
    rw [h1, ← toBits_mod _ _ l.length (Nat.le_refl _), Nat.mul_comm, Nat.mul_add_mod, Nat.mod_eq_of_lt hlt, hl]
    congr 1
    rw [← UInt8.toNat_inj, bit_nat]
    omega
theorem isBits_append {a b : List UInt8} (ha : IsBits a) (hb : IsBits b) : IsBits (a ++ b) := by
  intro x hx
  rcases List.mem_append.1 hx with h | h
  · exact ha x h
  · exact hb x h
theorem toBits_add (a b u v : Nat) (hv : v < 2 ^ b) : toBits (a + b) (u * 2 ^ b + v) = toBits a u ++ toBits b v := by
  have e := toBits_numOf (isBits_append (toBits_isBits a u) (toBits_isBits b v))
  rw [numOf_append, numOf_toBits, numOf_toBits, toBits_length, List.length_append, toBits_length, toBits_length, Nat.mod_eq_of_lt hv] at e
  rw [← e, ← toBits_mod (a + b) (u * 2 ^ b + v) (a + b) (Nat.le_refl _)]
  congr 1
  rw [Nat.add_comm a b, Nat.pow_add, Nat.mod_mul, Nat.mul_comm u, Nat.mul_add_mod, Nat.mod_eq_of_lt hv, Nat.mul_add_div (Nat.two_pow_pos _), Nat.div_eq_of_lt hv, Nat.add_zero, Nat.mul_comm, Nat.add_comm]
/-- The i-th bit. -/
theorem toBits_get (n v : Nat) : ∀ i (h : i < (toBits n v).length), ((toBits n v)[i]).toNat = v / 2 ^ (n - 1 - i) % 2 := by
  induction n with
  | zero => intro i h; simp [toBits] at h
  | succ n ih =>
    intro i h
    match i with
    | 0 => simp only [toBits, List.getElem_cons_zero]; rw [bit_nat]; simp
    | i + 1 =>
      simp only [toBits, List.getElem_cons_succ]
      rw [ih]
      congr 3
      omega

/-- A list of bytes as a row of bits, n for each. -/
def rowOf (n : Nat) (l : List UInt8) : List UInt8 := l.flatMap fun b => toBits n b.toNat
theorem rowOf_append (n : Nat) (a b : List UInt8) : rowOf n (a ++ b) = rowOf n a ++ rowOf n b := by simp [rowOf]
theorem rowOf_one (n : Nat) (b : UInt8) : rowOf n [b] = toBits n b.toNat := by simp [rowOf]
theorem rowOf_isBits (n : Nat) (l : List UInt8) : IsBits (rowOf n l) := by
  intro x hx
  obtain ⟨b, _, hb⟩ := List.mem_flatMap.1 hx
  exact toBits_isBits _ _ x hb
theorem rowOf_length (n : Nat) (l : List UInt8) : (rowOf n l).length = l.length * n := by
  induction l with
  | nil => simp [rowOf]
  | cons b l ih =>
    have : rowOf n (b :: l) = toBits n b.toNat ++ rowOf n l := by simp [rowOf]
    rw [this, List.length_append, toBits_length, ih, List.length_cons, Nat.add_mul]
    omega
theorem rowOf_snoc (n : Nat) (l : List UInt8) (k : Nat) (h : k < l.length) : rowOf n (l.take (k + 1)) = rowOf n (l.take k) ++ toBits n l[k].toNat := by
  rw [List.take_succ_eq_append_getElem h, rowOf_append, rowOf_one]

/-- row is cut into the pieces out (n bits each), and rest is left. -/
structure Cut (n : Nat) (row out rest : List UInt8) : Prop where
  eq : row = rowOf n out ++ rest
  small : ∀ b ∈ out, b.toNat < 2 ^ n
theorem Cut.nil (n : Nat) (row : List UInt8) : Cut n row [] row := ⟨rfl, fun b hb => by cases hb⟩
theorem Cut.more {n : Nat} {row out rest : List UInt8} (h : Cut n row out rest) (s : List UInt8) : Cut n (row ++ s) out (rest ++ s) := ⟨by rw [h.eq, List.append_assoc], h.small⟩
theorem Cut.piece {n : Nat} {row out c rest : List UInt8} (h : Cut n row out (c ++ rest)) (hn : n ≤ 8) (hc : c.length = n) (hb : IsBits c) : Cut n row (out ++ [UInt8.ofNat (numOf c)]) rest := by
  have hlt := numOf_lt hb
  rw [hc] at hlt
  have h8 : (2 : Nat) ^ n ≤ 2 ^ 8 := Nat.pow_le_pow_right (by decide) hn
  have hnat : (UInt8.ofNat (numOf c)).toNat = numOf c := by rw [UInt8.toNat_ofNat']; exact Nat.mod_eq_of_lt (by omega)
  refine ⟨?_, ?_⟩
  · rw [h.eq, rowOf_append, rowOf_one, hnat, List.append_assoc]
    congr 2
    rw [← hc]
    exact (toBits_numOf hb).symm
  · intro b hm
    rcases List.mem_append.1 hm with hm | hm
    · exact h.small b hm
    · rw [List.mem_singleton.1 hm, hnat]; exact hlt
theorem Cut.unique {n : Nat} : ∀ {row out out' rest rest' : List UInt8}, Cut n row out rest → Cut n row out' rest' → rest.length < n → rest'.length < n → out = out' ∧ rest = rest' := by
  intro row out
  induction out generalizing row with
  | nil =>
    intro out' rest rest' h h' hr hr'
    cases out' with
    | nil => exact ⟨rfl, List.append_cancel_left (h.eq.symm.trans h'.eq)⟩
    | cons b out' =>
      exfalso
      have e := congrArg List.length (h.eq.symm.trans h'.eq)
      rw [List.length_append, List.length_append, rowOf_length, rowOf_length, List.length_cons, List.length_nil, Nat.add_mul] at e
      omega
  | cons a out ih =>
    intro out' rest rest' h h' hr hr'
    cases out' with
    | nil =>
      exfalso
      have e := congrArg List.length (h.eq.symm.trans h'.eq)
      rw [List.length_append, List.length_append, rowOf_length, rowOf_length, List.length_cons, List.length_nil, Nat.add_mul] at e
      omega
    | cons b out' =>
      have e := h.eq.symm.trans h'.eq
      have ea : rowOf n (a :: out) = toBits n a.toNat ++ rowOf n out := by simp [rowOf]
      have eb : rowOf n (b :: out') = toBits n b.toNat ++ rowOf n out' := by simp [rowOf]
      rw [ea, eb, List.append_assoc, List.append_assoc] at e
      obtain ⟨e1, e2⟩ := List.append_inj e (by rw [toBits_length, toBits_length])
      have hab : a = b := by
        have := congrArg numOf e1
        rw [numOf_toBits, numOf_toBits, Nat.mod_eq_of_lt (h.small a (List.mem_cons_self)), Nat.mod_eq_of_lt (h'.small b (List.mem_cons_self))] at this
        exact UInt8.toNat_inj.1 this
      obtain ⟨h1, h2⟩ := ih (row := rowOf n out ++ rest) ⟨rfl, fun x hx => h.small x (List.mem_cons_of_mem _ hx)⟩ ⟨e2, fun x hx => h'.small x (List.mem_cons_of_mem _ hx)⟩ hr hr'
      exact ⟨by rw [hab, h1], h2⟩

theorem piece_val {R pre c r : List UInt8} (h : R = pre ++ (c ++ r)) (hb : IsBits c) (hr : IsBits r) : numOf R / 2 ^ r.length % 2 ^ c.length = numOf c := by
  have h1 := numOf_lt hb
  have h2 := numOf_lt hr
  rw [h, ← List.append_assoc, numOf_append, Nat.mul_comm, Nat.mul_add_div (Nat.two_pow_pos _), Nat.div_eq_of_lt h2, Nat.add_zero, numOf_append, Nat.mul_comm, Nat.mul_add_mod, Nat.mod_eq_of_lt h1]
theorem mask_val {R pre r : List UInt8} (h : R = pre ++ r) (hr : IsBits r) : numOf R % 2 ^ r.length = numOf r := by
  rw [h, numOf_append, Nat.mul_comm, Nat.mul_add_mod, Nat.mod_eq_of_lt (numOf_lt hr)]
theorem numOf_zeros (l : List UInt8) (k : Nat) : numOf (l ++ List.replicate k 0) = numOf l * 2 ^ k := by
  rw [numOf_append, List.length_replicate]
  have : numOf (List.replicate k 0) = 0 := by
    induction k with
    | zero => rfl
    | succ k ih => rw [List.replicate_succ, numOf_cons, ih]; simp
  omega
theorem zeros_isBits (k : Nat) : IsBits (List.replicate k 0) := by
  intro b hb
  rw [(List.mem_replicate.1 hb).2]
  decide

/-- What Bits gives: the pieces x and the error e. -/
def BitsRes (b : List UInt8) (from_ to_ : Int) (pad : Bool) (x : List UInt8) (e : Int) : Prop :=
  ((from_ < 1 ∨ 8 < from_ ∨ to_ < 1 ∨ 8 < to_) ∧ x = [] ∧ e = 2) ∨
  ((1 ≤ from_ ∧ from_ ≤ 8 ∧ 1 ≤ to_ ∧ to_ ≤ 8) ∧ (∃ c ∈ b, 2 ^ from_.toNat ≤ c.toNat) ∧ x = [] ∧ e = 50) ∨
  ((1 ≤ from_ ∧ from_ ≤ 8 ∧ 1 ≤ to_ ∧ to_ ≤ 8) ∧ (∀ c ∈ b, c.toNat < 2 ^ from_.toNat) ∧ ∃ out rest, Cut to_.toNat (rowOf from_.toNat b) out rest ∧ rest.length < to_.toNat ∧
    ((pad = true ∧ e = 0 ∧ x = if rest = [] then out else out ++ [UInt8.ofNat (numOf rest * 2 ^ (to_.toNat - rest.length))]) ∨
     (pad = false ∧ (from_.toNat ≤ rest.length ∨ numOf rest ≠ 0) ∧ x = [] ∧ e = 50) ∨
     (pad = false ∧ rest.length < from_.toNat ∧ numOf rest = 0 ∧ x = out ∧ e = 0)))
theorem BitsRes.unique {b : List UInt8} {from_ to_ : Int} {pad : Bool} {x x' : List UInt8} {e e' : Int} (h : BitsRes b from_ to_ pad x e) (h' : BitsRes b from_ to_ pad x' e') : x = x' ∧ e = e' := by
  rcases h with ⟨hb, hx, he⟩ | ⟨hb, ⟨c, hc, hl⟩, hx, he⟩ | ⟨hb, hs, out, rest, hcut, hlen, hr⟩ <;>
    rcases h' with ⟨hb', hx', he'⟩ | ⟨hb', ⟨c', hc', hl'⟩, hx', he'⟩ | ⟨hb', hs', out', rest', hcut', hlen', hr'⟩ <;>
    try (exfalso; omega)
  · exact ⟨hx.trans hx'.symm, he.trans he'.symm⟩
  · exact ⟨hx.trans hx'.symm, he.trans he'.symm⟩
  · exact absurd (hs' c hc) (by omega)
  · exact absurd (hs c' hc') (by omega)
  · obtain ⟨h1, h2⟩ := Cut.unique hcut hcut' hlen hlen'
    subst h1; subst h2
    rcases hr with ⟨hp, he, hx⟩ | ⟨hp, hn, hx, he⟩ | ⟨hp, h1, h2, hx, he⟩ <;>
      rcases hr' with ⟨hp', he', hx'⟩ | ⟨hp', hn', hx', he'⟩ | ⟨hp', h1', h2', hx', he'⟩ <;>
      first
        | exact ⟨hx.trans hx'.symm, he.trans he'.symm⟩
        | (exfalso; omega)
        | exact absurd (hp.symm.trans hp') (by decide)

theorem Cut.len {n : Nat} {row out rest : List UInt8} (h : Cut n row out rest) (hn : 1 ≤ n) : out.length ≤ row.length := by
  have e := congrArg List.length h.eq
  rw [List.length_append, rowOf_length] at e
  have := Nat.mul_le_mul_left out.length hn
  omega

theorem numOf_bd {l : List UInt8} {n : Nat} (h : IsBits l) (hn : l.length ≤ n) : numOf l < 2 ^ n :=
  Nat.lt_of_lt_of_le (numOf_lt h) (Nat.pow_le_pow_right (by decide) hn)
/-- One piece is cut off. -/
theorem round_lem {T m : Nat} {row out pre rem R : List UInt8} (hcut : Cut T row out rem) (hbits : IsBits rem) (hR : R = pre ++ rem) (hlen : rem.length = m + T) (hT8 : T ≤ 8) :
    ∃ pre' rem', rem'.length = m ∧ R = pre' ++ rem' ∧ Cut T row (out ++ [UInt8.ofNat (numOf R / 2 ^ m % 2 ^ T)]) rem' ∧ IsBits rem' := by
  have hsplit : rem = rem.take T ++ rem.drop T := (List.take_append_drop T rem).symm
  have hc : (rem.take T).length = T := by rw [List.length_take]; omega
  have hr : (rem.drop T).length = m := by rw [List.length_drop]; omega
  have hbc : IsBits (rem.take T) := fun b hb => hbits b (List.mem_of_mem_take hb)
  have hbr : IsBits (rem.drop T) := fun b hb => hbits b (List.mem_of_mem_drop hb)
  have hv := piece_val (R := R) (pre := pre) (c := rem.take T) (r := rem.drop T) (by rw [hR, ← hsplit]) hbc hbr
  rw [hc, hr] at hv
  refine ⟨pre ++ rem.take T, rem.drop T, hr, by rw [hR, List.append_assoc, ← hsplit], ?_, hbr⟩
  rw [hv]
  rw [hsplit] at hcut
  exact hcut.piece hT8 hc hbc
end Bech
