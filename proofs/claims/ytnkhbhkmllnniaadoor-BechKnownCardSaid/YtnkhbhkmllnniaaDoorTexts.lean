/- Plain mathematics of the texts: what Encode writes Decode reads. -/
import Derived.Test.YtnkhbhkmllnniaaDoorSum
import Derived.Test.YtnkhbhkmllnniaaDoorDecM
namespace Bech
open Go
theorem letter_facts : ∀ w, w < 32 → wordOf (letter w) = w ∧ letter w ≠ 49 ∧ okByte (letter w) = true ∧ isUp (letter w) = false := by decide +kernel
theorem okc_parts {c : UInt8} (h : okc c = true) : okByte c = true ∧ isUp c = false := by
  unfold okc at h
  simp only [Bool.and_eq_true, Bool.not_eq_true'] at h
  unfold okByte isUp
  refine ⟨by simpa using h.1, ?_⟩
  have := h.2
  rw [Bool.and_eq_false_iff] at this ⊢
  simpa using this
/-- A text of a head and words: what Decode makes of it. -/
theorem lower_all {l : List UInt8} (h : ∀ c ∈ l, isUp c = false) : l.map lower = l := by
  have : l.map lower = l.map id := List.map_congr_left fun c hc => lower_not (h c hc)
  rw [this, List.map_id]
theorem mem_words {ts : List UInt8} (ht : ∀ b ∈ ts, b.toNat < 32) : ∀ c ∈ wordsText ts, wordOf c ≠ 32 ∧ c ≠ 49 ∧ okByte c = true ∧ isUp c = false := by
  intro c hc
  unfold wordsText at hc
  obtain ⟨b, hb, rfl⟩ := List.mem_map.1 hc
  have h := letter_facts b.toNat (ht b hb)
  have := ht b hb
  exact ⟨by rw [h.1]; omega, h.2⟩
theorem words_back {ts : List UInt8} (ht : ∀ b ∈ ts, b.toNat < 32) : wordsOf (wordsText ts) = ts := by
  unfold wordsOf wordsText
  rw [List.map_map]
  have : ts.map ((fun c => UInt8.ofNat (wordOf c)) ∘ fun w => letter w.toNat) = ts.map id := List.map_congr_left fun b hb => by
    show UInt8.ofNat (wordOf (letter b.toNat)) = b
    rw [(letter_facts b.toNat (ht b hb)).1]
    simp
  rw [this, List.map_id]
structure IsText (h ts l : List UInt8) : Prop where
  eq : l = h ++ 49 :: wordsText ts
  head : isHead h = true
  words : ∀ b ∈ ts, b.toNat < 32
  six : 6 ≤ ts.length
  fit : l.length ≤ 32768
variable {h ts l : List UInt8}
theorem IsText.up (T : IsText h ts l) : ∀ c ∈ l, okByte c = true ∧ isUp c = false := by
  intro c hc
  rw [T.eq] at hc
  rcases List.mem_append.1 hc with h1 | h1
  · have := T.head
    unfold isHead at this
    simp only [Bool.and_eq_true] at this
    exact okc_parts (List.all_eq_true.1 this.1.1 c h1)
  · rcases List.mem_cons.1 h1 with rfl | h1
    · exact ⟨rfl, rfl⟩
    · exact (mem_words T.words c h1).2.2
theorem IsText.last (T : IsText h ts l) : lastAt l = h.length := by
  refine (lastAt_isLast l).unique ⟨by omega, ?_, fun _ => ?_, fun j h1 h2 he => ?_⟩
  · rw [T.eq, List.length_append, List.length_cons]; omega
  · rw [T.eq, show ((h.length : Int)).toNat = h.length by omega, List.getElem?_append_right (Nat.le_refl _), Nat.sub_self]
    rfl
  · rw [T.eq, List.getElem?_append_right (by omega)] at he
    obtain ⟨i, hi⟩ : ∃ i, j - h.length = i + 1 := ⟨j - h.length - 1, by omega⟩
    rw [hi, List.getElem?_cons_succ] at he
    exact (mem_words T.words 49 (List.mem_of_getElem? he)).2.1 rfl
theorem IsText.len (T : IsText h ts l) : l.length = h.length + 1 + ts.length := by
  rw [T.eq, List.length_append, List.length_cons]; unfold wordsText; rw [List.length_map]; omega
theorem IsText.shape (T : IsText h ts l) : badShape l (lastAt l) = false := by
  have hh := T.head
  unfold isHead at hh
  simp only [Bool.and_eq_true, decide_eq_true_eq] at hh
  have h6 := T.six
  have hl := T.len
  rw [T.last]
  unfold badShape
  have h1 : l.all okByte = true := List.all_eq_true.2 fun c hc => (T.up c hc).1
  have h2 : l.any isUp = false := by
    rw [List.any_eq_false]; intro c hc; rw [(T.up c hc).2]; simp
  rw [h1, h2]
  simp only [Bool.not_true, Bool.and_false, Bool.false_or, Bool.or_eq_false_iff, decide_eq_false_iff_not]
  omega
theorem IsText.head_eq (T : IsText h ts l) : headOf l (lastAt l) = h := by
  unfold headOf
  rw [T.last, lower_all fun c hc => (T.up c hc).2, T.eq, show ((h.length : Int)).toNat = h.length by omega, List.take_left]
theorem IsText.tail_eq (T : IsText h ts l) : tailOf l (lastAt l) = wordsText ts := by
  unfold tailOf
  rw [T.last, lower_all fun c hc => (T.up c hc).2, T.eq, show ((h.length : Int) + 1).toNat = h.length + 1 by omega]
  rw [List.drop_append, List.drop_of_length_le (by omega), show h.length + 1 - h.length = 1 by omega]
  rfl
theorem IsText.err (T : IsText h ts l) : decErr l = if chk (heads h ++ ts) ≠ 1 then 61 else 0 := by
  unfold decErr
  have hf := T.fit
  rw [if_neg (by omega), if_neg (by rw [T.shape]; simp), T.tail_eq, T.head_eq, if_neg, words_back T.words]
  rw [List.any_eq_true]
  rintro ⟨c, hc, hw⟩
  exact (mem_words T.words c hc).1 (by simpa using hw)
theorem heads_lt (h : List UInt8) : ∀ b ∈ heads h, b.toNat < 32 := by
  intro b hb
  unfold heads at hb
  rcases List.mem_append.1 hb with h1 | h1
  · obtain ⟨c, -, rfl⟩ := List.mem_map.1 h1
    rw [hi_nat]; have := c.toNat_lt; omega
  · rcases List.mem_cons.1 h1 with rfl | h1
    · decide
    · obtain ⟨c, -, rfl⟩ := List.mem_map.1 h1
      rw [lo_nat]; omega
theorem chk_lt30 {ws : List UInt8} (hw : ∀ b ∈ ws, b.toNat < 32) : chk ws < 2 ^ 30 := chkFrom_lt30 ws hw 1 (by decide)
theorem sumText_eq (s : Nat) : sumText s = wordsText (pieces s) := by
  have e : ∀ n, (UInt8.ofNat (n % 32)).toNat = n % 32 := fun n => by rw [UInt8.toNat_ofNat']; omega
  simp only [sumText, wordsText, pieces, List.map_cons, List.map_nil, e]
theorem pieces_lt (s : Nat) : ∀ b ∈ pieces s, b.toNat < 32 := by
  have e : ∀ n, (UInt8.ofNat (n % 32)).toNat < 32 := fun n => by rw [UInt8.toNat_ofNat']; omega
  intro b hb
  simp only [pieces, List.mem_cons, List.not_mem_nil, or_false] at hb
  rcases hb with rfl | rfl | rfl | rfl | rfl | rfl <;> exact e _
/-- What Encode writes, where it writes. -/
theorem enc_text {h ws : List UInt8} (he : encErr h ws = 0) : IsText h (ws ++ pieces (sumOf h ws)) (encText h ws) ∧ chk (heads h ++ (ws ++ pieces (sumOf h ws))) = 1 := by
  have he' := he
  unfold encErr at he
  split at he
  · cases he
  · rename_i hh
    split at he
    · cases he
    · rename_i hw
      split at he
      · cases he
      · rename_i hl
        have hw2 : ∀ b ∈ ws, b.toNat < 32 := by
          intro b hb
          have := (by simpa using hw : wordsOk ws = true)
          unfold wordsOk at this
          have := List.all_eq_true.1 this b hb
          simp only [decide_eq_true_eq] at this
          omega
        have hw3 : ∀ b ∈ ws ++ pieces (sumOf h ws), b.toNat < 32 := fun b hb => (List.mem_append.1 hb).elim (hw2 b) (pieces_lt _ b)
        have et : encText h ws = h ++ 49 :: wordsText (ws ++ pieces (sumOf h ws)) := by
          unfold encText
          rw [if_pos he', sumText_eq]
          simp [wordsText]
        refine ⟨⟨et, (by simpa using hh : isHead h = true), hw3, by simp [pieces], ?_⟩, ?_⟩
        · rw [et]; simp [wordsText, pieces]; omega
        · have hz : ∀ b ∈ zeros6, b.toNat < 32 := by decide
          have hlt : chk (heads h ++ ws ++ zeros6) < 2 ^ 30 := chk_lt30 fun b hb => by
            rcases List.mem_append.1 hb with h1 | h1
            · exact (List.mem_append.1 h1).elim (heads_lt h b) (hw2 b)
            · exact hz b h1
          have hs : sumOf h ws < 2 ^ 30 := by
            unfold sumOf
            exact Nat.xor_lt_two_pow hlt (by decide)
          unfold chk
          rw [← List.append_assoc, chkFrom_append, chk_pieces _ _ hs, ← chkFrom_append]
          unfold sumOf chk
          exact xor_back _ _
/-- The round trip: what Encode writes Decode reads. -/
theorem dec_enc {h ws : List UInt8} (he : encErr h ws = 0) : decErr (encText h ws) = 0 ∧ decHead (encText h ws) = h ∧ decWords (encText h ws) = ws := by
  obtain ⟨T, hc⟩ := enc_text he
  have h0 : decErr (encText h ws) = 0 := by rw [T.err, if_neg (by rw [hc]; simp)]
  refine ⟨h0, by unfold decHead; rw [if_pos h0, T.head_eq], ?_⟩
  unfold decWords
  rw [if_pos h0, T.tail_eq, words_back T.words]
  simp [wordsText, pieces]
end Bech
namespace Bech
open Go
/-- One letter behind the head turned into another word's: the check fails. -/
theorem one_turned {h ts l : List UInt8} (T : IsText h ts l) (hc : chk (heads h ++ ts) = 1) (k : Nat) (hk1 : h.length < k) (hk2 : k < l.length) (b : Nat) (hb : b < 32) (hne : l[k] ≠ letter b) :
    decErr (l.set k (letter b)) = 61 := by
  have hl := T.len
  obtain ⟨j, rfl⟩ : ∃ j, k = h.length + (j + 1) := ⟨k - h.length - 1, by omega⟩
  have hj : j < ts.length := by omega
  have hbn : (UInt8.ofNat b).toNat = b := by rw [UInt8.toNat_ofNat']; omega
  have hset : l.set (h.length + (j + 1)) (letter b) = h ++ 49 :: wordsText (ts.set j (UInt8.ofNat b)) := by
    rw [T.eq, List.set_append_right _ _ (by omega), show h.length + (j + 1) - h.length = j + 1 by omega, List.set_cons_succ]
    unfold wordsText
    rw [List.map_set, hbn]
  have hw : ∀ z ∈ ts.set j (UInt8.ofNat b), z.toNat < 32 := by
    intro z hz
    rcases List.mem_or_eq_of_mem_set hz with h1 | rfl
    · exact T.words z h1
    · rw [hbn]; exact hb
  have T' : IsText h (ts.set j (UInt8.ofNat b)) (l.set (h.length + (j + 1)) (letter b)) := ⟨hset, T.head, hw, by rw [List.length_set]; exact T.six, by rw [List.length_set]; exact T.fit⟩
  rw [T'.err, if_pos]
  intro h1
  have e1 : ts.set j (UInt8.ofNat b) = ts.take j ++ UInt8.ofNat b :: ts.drop (j + 1) := List.set_eq_take_append_cons_drop.trans (if_pos hj)
  have e2 : ts = ts.take j ++ ts[j] :: ts.drop (j + 1) := by rw [← List.drop_eq_getElem_cons hj, List.take_append_drop]
  have h2 : chk ((heads h ++ ts.take j) ++ ts[j] :: ts.drop (j + 1)) = chk ((heads h ++ ts.take j) ++ UInt8.ofNat b :: ts.drop (j + 1)) := by
    rw [List.append_assoc, List.append_assoc, ← e1, ← e2, hc, h1]
  have h3 := chk_turned (fun z hz => T.words z (List.mem_of_mem_drop hz)) (T.words _ (List.getElem_mem hj)) (by rw [hbn]; exact hb) h2
  apply hne
  have h4 : l[h.length + (j + 1)]? = some (letter b) := by
    rw [T.eq, List.getElem?_append_right (by omega), show h.length + (j + 1) - h.length = j + 1 by omega, List.getElem?_cons_succ]
    unfold wordsText
    rw [List.getElem?_map, List.getElem?_eq_getElem hj, h3]
    simp only [Option.map_some, hbn]
  rw [List.getElem?_eq_getElem hk2] at h4
  exact Option.some.inj h4
end Bech
