/- Plain mathematics of Decode. -/
import Derived.Test.YtnkhbhkmllnniaaDoorSpec
import Derived.Lib.Case
import Derived.Lib.LastIndexByte
namespace Bech
open Go

theorem lowerB_eq (b : UInt8) : Lib.lowerB b = lower b := by
  unfold Lib.lowerB lower Lib.isUpperB isUp
  by_cases h : 65 ≤ b.toNat ∧ b.toNat ≤ 90
  · have h1 : (65 : UInt8) ≤ b := UInt8.le_iff_toNat_le.2 h.1
    have h2 : b ≤ (90 : UInt8) := UInt8.le_iff_toNat_le.2 h.2
    simp [h.1, h.2, h1, h2]
  · have h' : ¬ ((65 : UInt8) ≤ b ∧ b ≤ (90 : UInt8)) := by
      rintro ⟨h1, h2⟩
      exact h ⟨UInt8.le_iff_toNat_le.1 h1, UInt8.le_iff_toNat_le.1 h2⟩
    have e1 : (decide (65 ≤ b.toNat) && decide (b.toNat ≤ 90)) = false := by
      rw [Bool.eq_false_iff]; intro hh; simp at hh; exact h hh
    rw [e1]
    split
    · rename_i hh; exfalso; simp at hh; exact h' hh
    · rfl
theorem toLowerA_eq (l : List UInt8) : Lib.toLowerA l = l.map lower := by
  unfold Lib.toLowerA
  exact List.map_congr_left fun b _ => lowerB_eq b

/-- a is the place of the last 1 of l; -1: there is none. -/
structure IsLast (l : List UInt8) (a : Int) : Prop where
  lo : -1 ≤ a
  hi : a < l.length
  at_ : 0 ≤ a → l[a.toNat]? = some 49
  none : ∀ j : Nat, a < j → j < l.length → l[j]? ≠ some 49
theorem IsLast.unique {l : List UInt8} {a b : Int} (h : IsLast l a) (h' : IsLast l b) : a = b := by
  rcases Int.lt_trichotomy a b with hl | hl | hl
  · exfalso
    have h1 := h'.at_ (by have := h.lo; omega)
    exact h.none b.toNat (by have := h.lo; omega) (by have := h'.hi; have := h.lo; omega) h1
  · exact hl
  · exfalso
    have h1 := h.at_ (by have := h'.lo; omega)
    exact h'.none a.toNat (by have := h'.lo; omega) (by have := h.hi; have := h'.lo; omega) h1
/-- The same by a reckoning. -/
def lastAt (l : List UInt8) : Int := (l.length : Int) - 1 - (l.reverse.findIdx (· == 49) : Nat)
theorem lastAt_isLast (l : List UInt8) : IsLast l (lastAt l) := by
  unfold lastAt
  have hle : l.reverse.findIdx (· == 49) ≤ l.length := by
    have := List.findIdx_le_length (p := (· == (49 : UInt8))) (xs := l.reverse)
    simpa using this
  obtain ⟨k, hk⟩ : ∃ k, k = l.reverse.findIdx (· == 49) := ⟨_, rfl⟩
  rw [← hk] at hle ⊢
  refine ⟨by omega, by omega, fun h0 => ?_, fun j hj hlt he => ?_⟩
  · have hlt : k < l.reverse.length := by simp; omega
    have := List.findIdx_getElem (p := (· == (49 : UInt8))) (xs := l.reverse) (w := by rw [← hk]; exact hlt)
    simp only [← hk] at this
    rw [List.getElem_reverse] at this
    have e : ((l.length : Int) - 1 - (k : Int)).toNat = l.length - 1 - k := by omega
    rw [e, List.getElem?_eq_getElem (by omega)]
    simpa using this
  · have hlt2 : l.length - 1 - j < k := by omega
    have := List.not_of_lt_findIdx (p := (· == (49 : UInt8))) (xs := l.reverse) (i := l.length - 1 - j) (by rw [← hk]; exact hlt2)
    rw [List.getElem_reverse] at this
    have e : l.length - 1 - (l.length - 1 - j) = j := by omega
    simp only [e] at this
    rw [List.getElem?_eq_getElem hlt] at he
    injection he with he
    rw [he] at this
    simp at this
theorem lib_isLast (s : ByteArray) : IsLast s.data.toList (Lib.lastIndexByte s 49) := by
  unfold Lib.lastIndexByte
  have hd : ∀ j, j < s.size → (((s.data[j]!).toNat : Int) = 49 ↔ s.data.toList[j]? = some 49) := by
    intro j hj
    have hj' : j < s.data.size := hj
    rw [List.getElem?_eq_getElem (by simpa using hj')]
    simp only [Array.getElem_toList, Option.some.injEq]
    rw [getElem!_pos s.data j hj', ← UInt8.toNat_inj]
    have : (49 : UInt8).toNat = 49 := rfl
    omega
  have hl : s.data.toList.length = s.size := by simp
  rcases Lib.lastIdx_spec s 49 s.size with ⟨h, hn⟩ | ⟨i, hi, h, ha, hn⟩
  · rw [h]
    exact ⟨by omega, by omega, fun h0 => by omega, fun j _ hj he => hn j (by omega) ((hd j (by omega)).2 he)⟩
  · rw [h]
    exact ⟨by omega, by omega, fun _ => by simpa using (hd i hi).1 ha, fun j h1 h2 he => hn j (by omega) (by omega) ((hd j (by omega)).2 he)⟩

/-- What Decode does with a text whose last 1 stands at a. -/
def tailOf (l : List UInt8) (a : Int) : List UInt8 := (l.map lower).drop (a + 1).toNat
def headOf (l : List UInt8) (a : Int) : List UInt8 := (l.map lower).take a.toNat
def wordsOf (t : List UInt8) : List UInt8 := t.map fun c => UInt8.ofNat (wordOf c)
def badShape (l : List UInt8) (a : Int) : Bool := !(l.all okByte) || (l.any isLow && l.any isUp) || (decide (a < 1) || decide (83 < a) || decide ((l.length : Int) - a ≤ 6))
def decErr (l : List UInt8) : Int :=
  if 32768 < l.length then 3 else if badShape l (lastAt l) = true then 60
  else if (tailOf l (lastAt l)).any (fun c => decide (wordOf c = 32)) = true then 60
  else if chk (heads (headOf l (lastAt l)) ++ wordsOf (tailOf l (lastAt l))) ≠ 1 then 61 else 0
def decHead (l : List UInt8) : List UInt8 := if decErr l = 0 then headOf l (lastAt l) else []
def decWords (l : List UInt8) : List UInt8 := if decErr l = 0 then (wordsOf (tailOf l (lastAt l))).take ((tailOf l (lastAt l)).length - 6) else []
end Bech
