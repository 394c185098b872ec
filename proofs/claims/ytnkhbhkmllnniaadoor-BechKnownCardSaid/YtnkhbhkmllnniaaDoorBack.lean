/- Plain mathematics of BechBack: what Decode reads Encode writes; bytes as words and back. -/
import Derived.Test.YtnkhbhkmllnniaaDoorTexts
import Derived.Test.YtnkhbhkmllnniaaDoorBitsM
namespace Bech
open Go
theorem letter_of {c : UInt8} (h : wordOf c ≠ 32) : letter (wordOf c) = c := by
  have hlt : wordOf c < letters.length := by
    have h1 := wordOf_le c
    show wordOf c < 32
    omega
  have h2 : (letters[wordOf c]'hlt == c) = true := List.findIdx_getElem (p := (· == c)) (xs := letters) (w := hlt)
  unfold letter
  rw [List.getD_eq_getElem?_getD, List.getElem?_eq_getElem hlt]
  simpa using h2
theorem words_letters {t : List UInt8} (h : ∀ c ∈ t, wordOf c ≠ 32) : wordsText (wordsOf t) = t := by
  unfold wordsText wordsOf
  rw [List.map_map]
  have : t.map ((fun w => letter w.toNat) ∘ fun c => UInt8.ofNat (wordOf c)) = t.map id := List.map_congr_left fun c hc => by
    show letter (UInt8.ofNat (wordOf c)).toNat = c
    have h1 := wordOf_le c
    rw [UInt8.toNat_ofNat', Nat.mod_eq_of_lt (by omega), letter_of (h c hc)]
  rw [this, List.map_id]
theorem wordsOf_lt {t : List UInt8} (h : ∀ c ∈ t, wordOf c ≠ 32) : ∀ b ∈ wordsOf t, b.toNat < 32 := by
  intro b hb
  unfold wordsOf at hb
  obtain ⟨c, hc, rfl⟩ := List.mem_map.1 hb
  have h1 := wordOf_le c
  have h2 := h c hc
  rw [UInt8.toNat_ofNat']
  omega
theorem pieces_of {l : List UInt8} (hl : l.length = 6) (hw : ∀ b ∈ l, b.toNat < 32) : ∃ z, z < 2 ^ 30 ∧ l = pieces z := by
  match l, hl with
  | [a, b, c, d, e, f], _ =>
    have ha := hw a (by simp)
    have hb := hw b (by simp)
    have hc := hw c (by simp)
    have hd := hw d (by simp)
    have he := hw e (by simp)
    have hf := hw f (by simp)
    refine ⟨((((a.toNat * 32 + b.toNat) * 32 + c.toNat) * 32 + d.toNat) * 32 + e.toNat) * 32 + f.toNat, by omega, ?_⟩
    unfold pieces
    have k : ∀ {x : UInt8} {n : Nat}, n = x.toNat → x = UInt8.ofNat n := fun h => by rw [h, UInt8.ofNat_toNat]
    rw [← k (x := a) (by omega), ← k (x := b) (by omega), ← k (x := c) (by omega), ← k (x := d) (by omega), ← k (x := e) (by omega), ← k (x := f) (by omega)]
theorem lower_okc {c : UInt8} (h : okByte c = true) : okc (lower c) = true := by
  unfold okByte at h
  simp only [Bool.and_eq_true, decide_eq_true_eq] at h
  unfold okc
  cases hu : isUp c with
  | false =>
    rw [lower_not hu]
    unfold isUp at hu
    rw [hu]
    simp [h.1, h.2]
  | true =>
    have h1 := lower_up hu
    unfold isUp at hu
    simp only [Bool.and_eq_true, decide_eq_true_eq] at hu
    rw [h1]
    simp only [Bool.and_eq_true, decide_eq_true_eq, Bool.not_eq_true', Bool.and_eq_false_iff, decide_eq_false_iff_not]
    omega
/-- What Decode reads Encode writes, in small letters. -/
theorem enc_dec {l : List UInt8} (h0 : decErr l = 0) : encErr (decHead l) (decWords l) = 0 ∧ encText (decHead l) (decWords l) = l.map lower := by
  have h0' := h0
  unfold decErr at h0
  split at h0
  · cases h0
  · rename_i hlim
    split at h0
    · cases h0
    · rename_i hshape
      split at h0
      · cases h0
      · rename_i hany
        split at h0
        · cases h0
        · rename_i hchk
          have hchk := Decidable.not_not.1 hchk
          have hn : ∀ c ∈ tailOf l (lastAt l), wordOf c ≠ 32 := by
            intro c hc he
            exact hany (List.any_eq_true.2 ⟨c, hc, by simpa using he⟩)
          have hD : decHead l = headOf l (lastAt l) := by unfold decHead; rw [if_pos h0']
          have hW : decWords l = (wordsOf (tailOf l (lastAt l))).take ((tailOf l (lastAt l)).length - 6) := by unfold decWords; rw [if_pos h0']
          have hL := lastAt_isLast l
          generalize lastAt l = a at *
          have hs : badShape l a = false := by simpa using hshape
          unfold badShape at hs
          simp only [Bool.or_eq_false_iff, decide_eq_false_iff_not, Bool.not_eq_false'] at hs
          obtain ⟨⟨hok, -⟩, ⟨ha1, ha2⟩, ha3⟩ := hs
          obtain ⟨n, rfl⟩ : ∃ n : Nat, a = n := ⟨a.toNat, by omega⟩
          have hln : n < l.length := by omega
          have hat := hL.at_ (by omega)
          rw [show (n : Int).toNat = n by omega] at hat
          have hhd : headOf l n = (l.map lower).take n := by unfold headOf; rw [show (n : Int).toNat = n by omega]
          have htl : tailOf l n = (l.map lower).drop (n + 1) := by unfold tailOf; rw [show ((n : Int) + 1).toNat = n + 1 by omega]
          have hmap : l.map lower = headOf l n ++ 49 :: tailOf l n := by
            have h1 : (l.map lower)[n]? = some 49 := by rw [List.getElem?_map, hat]; rfl
            have hlt : n < (l.map lower).length := by rw [List.length_map]; exact hln
            rw [List.getElem?_eq_getElem hlt] at h1
            rw [hhd, htl, ← Option.some.inj h1, ← List.drop_eq_getElem_cons hlt, List.take_append_drop]
          have hhlen : (headOf l n).length = n := by rw [hhd, List.length_take, List.length_map]; omega
          have htlen : (tailOf l n).length = l.length - (n + 1) := by rw [htl, List.length_drop, List.length_map]
          have hhead : isHead (headOf l n) = true := by
            unfold isHead
            simp only [Bool.and_eq_true, decide_eq_true_eq]
            refine ⟨⟨List.all_eq_true.2 fun c hc => ?_, by omega⟩, by omega⟩
            rw [hhd] at hc
            obtain ⟨d, hd, rfl⟩ := List.mem_map.1 (List.mem_of_mem_take hc)
            exact lower_okc (List.all_eq_true.1 hok d hd)
          have hwt := words_letters hn
          have hwl := wordsOf_lt hn
          have htsl : (wordsOf (tailOf l n)).length = (tailOf l n).length := by unfold wordsOf; rw [List.length_map]
          rw [hD, hW]
          generalize headOf l n = hd at *
          generalize tailOf l n = t at *
          generalize wordsOf t = ts at *
          have hsplit : ts = ts.take (t.length - 6) ++ ts.drop (t.length - 6) := (List.take_append_drop _ _).symm
          have hwlen : (ts.take (t.length - 6)).length = t.length - 6 := by rw [List.length_take]; omega
          have hw1 : ∀ b ∈ ts.take (t.length - 6), b.toNat < 32 := fun b hb => hwl b (List.mem_of_mem_take hb)
          obtain ⟨z, hz, hp⟩ := pieces_of (l := ts.drop (t.length - 6)) (by rw [List.length_drop]; omega) (fun b hb => hwl b (List.mem_of_mem_drop hb))
          rw [hp] at hsplit
          generalize ts.take (t.length - 6) = ws at *
          have hsum : sumOf hd ws = z := by
            have h1 : chk (heads hd ++ ws ++ pieces z) = 1 := by rw [List.append_assoc, ← hsplit]; exact hchk
            unfold chk at h1
            rw [chkFrom_append, chk_pieces _ _ hz, ← chkFrom_append] at h1
            have h2 := xor_back (chkFrom 1 (heads hd ++ ws ++ zeros6)) z
            rw [h1] at h2
            exact h2
          have hwok : wordsOk ws = true := by
            unfold wordsOk
            refine List.all_eq_true.2 fun b hb => ?_
            have := hw1 b hb
            simp only [decide_eq_true_eq]; omega
          have he : encErr hd ws = 0 := by
            unfold encErr
            rw [if_neg (by rw [hhead]; simp), if_neg (by rw [hwok]; simp), if_neg (by omega)]
          refine ⟨he, ?_⟩
          unfold encText
          rw [if_pos he, hsum, sumText_eq, hmap, ← hwt, hsplit]
          simp [wordsText]
/-- Bytes as words and back. -/
theorem bits_back {ws x : List UInt8} {e : Int} (h : BitsRes ws 8 5 true x e) : e = 0 ∧ BitsRes x 5 8 false ws 0 := by
  have h8 : ((8 : Int)).toNat = 8 := rfl
  have h5 : ((5 : Int)).toNat = 5 := rfl
  unfold BitsRes at h
  rw [h8, h5] at h
  rcases h with ⟨hb, -⟩ | ⟨-, ⟨c, -, hc⟩, -⟩ | ⟨-, -, out, rest, hcut, hlen, hr⟩
  · omega
  · have := c.toNat_lt; omega
  · rcases hr with ⟨-, he, hx⟩ | ⟨hp, -⟩ | ⟨hp, -⟩
    · refine ⟨he, ?_⟩
      have hrest : IsBits rest := by
        intro b hb
        have : b ∈ rowOf 8 ws := by rw [hcut.eq]; exact List.mem_append_right _ hb
        exact rowOf_isBits 8 ws b this
      obtain ⟨z, hz, hrow, hsm⟩ : ∃ z, z < 5 ∧ rowOf 5 x = rowOf 8 ws ++ List.replicate z 0 ∧ ∀ b ∈ x, b.toNat < 2 ^ 5 := by
        by_cases hn : rest = []
        · rw [if_pos hn] at hx
          refine ⟨0, by decide, ?_, by rw [hx]; exact hcut.small⟩
          rw [hx, hcut.eq, hn]; simp
        · rw [if_neg hn] at hx
          have hpos : 0 < rest.length := List.length_pos_iff.2 hn
          have h2 : Cut 5 (rowOf 8 ws ++ List.replicate (5 - rest.length) 0) out ((rest ++ List.replicate (5 - rest.length) 0) ++ []) := by
            rw [List.append_nil]; exact hcut.more _
          have h3 := h2.piece (by decide) (by rw [List.length_append, List.length_replicate]; omega) (isBits_append hrest (zeros_isBits _))
          rw [numOf_zeros, ← hx] at h3
          refine ⟨5 - rest.length, by omega, ?_, h3.small⟩
          rw [h3.eq, List.append_nil]
      refine .inr (.inr ⟨by decide, ?_, ws, List.replicate z 0, ?_, ?_, .inr (.inr ⟨rfl, ?_, ?_, rfl, rfl⟩)⟩)
      · rw [h5]; exact hsm
      · rw [h5, h8]
        exact ⟨hrow, fun b _ => b.toNat_lt⟩
      · rw [h8, List.length_replicate]; omega
      · rw [h5, List.length_replicate]; exact hz
      · have := numOf_zeros [] z
        rw [List.nil_append] at this
        rw [this]; simp [numOf]
    · cases hp
    · cases hp
end Bech
