/- Decode at every text: DecPost. -/
import Derived.Test.YtnkhbhkmllnniaaDoorT18
import Derived.Test.YtnkhbhkmllnniaaDoorDecM
import Derived.Test.YtnkhbhkmllnniaaDoorT15
import Derived.Test.YtnkhbhkmllnniaaDoorRow
import Derived.Test.YtnkhbhkmllnniaaDoorT5
import Derived.Laws.EntriesVeiled
import Derived.Deep.QuietTactic
import Derived.BigQuiet
namespace Go.Proofs.YtnkhbhkmllnniaaDoor
open Go.RowKit Bech

def DecPost (l : List UInt8) (w : World) (e : Ending) (w' : World) : Prop :=
  ∃ A c, e = .returned (.tuple #[.string ⟨(decHead l).toArray⟩, .slice A (decWords l).length c, .int .i64 (decErr l)]) ∧ (decWords l).length ≤ c ∧ Cells w' A (bv (decWords l)) ∧ Below w.heap.size w w'
theorem decPost_err {l : List UInt8} {w w' : World} {n : Int} (he : decErr l = n) (hn : n ≠ 0) (hb : Below w.heap.size w w') :
    DecPost l w (.returned (.tuple #[.string ⟨#[]⟩, .slice none 0 0, .int .i64 n])) w' := by
  have h1 : decHead l = [] := by unfold decHead; rw [he, if_neg hn]
  have h2 : decWords l = [] := by unfold decWords; rw [he, if_neg hn]
  refine ⟨none, 0, ?_, by rw [h2]; simp, by rw [h2]; exact Cells.nil _ _, hb⟩
  rw [h1, h2, he]
  rfl
theorem decPost_ok {l : List UInt8} {w w' : World} {h : ByteArray} {A : Option Addr} {q c : Nat} (he : decErr l = 0) (hh : h.data.toList = decHead l) (hw : (decWords l).length = q) (hc : q ≤ c) (hcell : Cells w' A (bv (decWords l))) (hb : Below w.heap.size w w') :
    DecPost l w (.returned (.tuple #[.string h, .slice A q c, .int .i64 0])) w' := by
  refine ⟨A, c, ?_, by rw [hw]; exact hc, hcell, hb⟩
  rw [hw, he, ← hh]
theorem ix60_0 (x y z : Value) (w : World) : (Instr.index 60 (.agg #[x, y, z]) (.int .i64 0)).run Tryd.prog w = .ok x w := by kernel_rfl
theorem ix60_1 (x y z : Value) (w : World) : (Instr.index 60 (.agg #[x, y, z]) (.int .i64 1)).run Tryd.prog w = .ok y w := by kernel_rfl
theorem ix60_2 (x y z : Value) (w : World) : (Instr.index 60 (.agg #[x, y, z]) (.int .i64 2)).run Tryd.prog w = .ok z w := by kernel_rfl

theorem all_of_some (l : List UInt8) : (someIn l 0 32 || someIn l 127 255) = !(l.all okByte) := by
  unfold someIn
  induction l with
  | nil => rfl
  | cons c l ih =>
    have hc := c.toNat_lt
    simp only [List.any_cons, List.all_cons, Bool.not_and, ← ih]
    have e : (decide (0 ≤ c.toNat) && decide (c.toNat ≤ 32) || decide (127 ≤ c.toNat) && decide (c.toNat ≤ 255)) = !okByte c := by
      unfold okByte
      by_cases h1 : 33 ≤ c.toNat <;> by_cases h2 : c.toNat ≤ 126 <;> simp [h1, h2] <;> omega
    rw [← e]
    cases (decide (0 ≤ c.toNat) && decide (c.toNat ≤ 32)) <;> cases (decide (127 ≤ c.toNat) && decide (c.toNat ≤ 255)) <;> simp

theorem add_n (B : Nat) (l : List UInt8) (N : Nat) (hN : l.length = N) (A : Option Addr) (c : Nat) (c0 : Nat) (w : World) (hl : N ≤ 1000000) (hc0 : c0 < 4294967296) (hA : Cells w A (bv l))
    (hB : w.heap[B]? = some (.cells #[.int .u32 (c0 : Nat)] 54 (0, 0))) :
    Calls Tryd.prog 21 #[.pointer (some ⟨B, 0, none⟩), .slice A N c] w fun e w' => e = .returned (.tuple #[]) ∧ w'.heap[B]? = some (.cells #[.int .u32 (chkFrom c0 l : Nat)] 54 (0, 0)) ∧ w.grownBy w' (some B) := by
  subst hN; exact add_any B l A c c0 w hl hc0 hA hB
theorem someIn_low (l : List UInt8) : someIn l 97 122 = l.any isLow := rfl
theorem someIn_up (l : List UInt8) : someIn l 65 90 = l.any isUp := rfl
def bad1 (l : List UInt8) : Bool := someIn l 0 32 || someIn l 127 255
def bad2 (l : List UInt8) : Bool := someIn l 97 122 && someIn l 65 90
theorem badShape_eq (s : ByteArray) : badShape s.data.toList (lastAt s.data.toList) = (bad1 s.data.toList || bad2 s.data.toList || bad3 (lastAt s.data.toList) s.size) := by
  unfold badShape bad1 bad2 bad3
  rw [all_of_some, someIn_low, someIn_up]
  simp
theorem decErr_word (s : ByteArray) (n : Nat) (h : ¬ 32768 < s.size) (h1 : bad1 s.data.toList = false) (h2 : bad2 s.data.toList = false) (ha : lastAt s.data.toList = n) (h3 : bad3 (n : Int) s.size = false)
    (c : UInt8) (hc : c ∈ (s.data.toList.map lower).drop (n + 1)) (hw : wordOf c = 32) : decErr s.data.toList = 60 := by
  unfold decErr
  rw [if_neg (by simpa using h), if_neg (by rw [badShape_eq, h1, h2, ha, h3]; simp), if_pos]
  rw [List.any_eq_true]
  refine ⟨c, ?_, by simpa using hw⟩
  unfold tailOf
  rw [ha]
  exact hc
theorem decErr_sum (s : ByteArray) (n : Nat) (h : ¬ 32768 < s.size) (h1 : bad1 s.data.toList = false) (h2 : bad2 s.data.toList = false) (ha : lastAt s.data.toList = n) (h3 : bad3 (n : Int) s.size = false)
    (hw : ∀ c ∈ (s.data.toList.map lower).drop (n + 1), wordOf c ≠ 32) : decErr s.data.toList = if chk (heads ((s.data.toList.map lower).take n) ++ wordsOf ((s.data.toList.map lower).drop (n + 1))) ≠ 1 then 61 else 0 := by
  unfold decErr
  rw [if_neg (by simpa using h), if_neg (by rw [badShape_eq, h1, h2, ha, h3]; simp), if_neg]
  · unfold headOf tailOf
    rw [ha]
    rfl
  · rw [List.any_eq_true]
    rintro ⟨c, hc, hw2⟩
    unfold tailOf at hc
    rw [ha] at hc
    exact hw c hc (by simpa using hw2)
theorem decErr_bad (s : ByteArray) (h : ¬ 32768 < s.size) (hb : (bad1 s.data.toList || bad2 s.data.toList || bad3 (lastAt s.data.toList) s.size) = true) : decErr s.data.toList = 60 := by
  unfold decErr
  rw [if_neg (by simpa using h), if_pos (by rw [badShape_eq]; exact hb)]

set_option maxRecDepth 100000 in
set_option maxHeartbeats 2000000 in
theorem decode_any (s : ByteArray) (w : World) (hs : s.size ≤ 1000000) : Calls Tryd.prog 12 #[.string s] w (DecPost s.data.toList w) := by
  have hls : s.data.toList.length = s.size := by simp
  by_cases hlim : 32768 < s.size
  · have he : decErr s.data.toList = 3 := by unfold decErr; rw [if_pos (by rw [hls]; exact hlim)]
    have HE := Lib.hid he; clear he hls
    have hlimI : (32768 : Int) < (s.size : Int) := by omega
    clear hlim
    go_enter Tryd.func12, Tryd.ntmps12
    go_wp2_with fail
    go_ret3
    exact decPost_err HE.out (by decide) ((Below.refl _ _).alloc (Nat.le_refl _) _)
  · have hlimI : ¬ (32768 : Int) < (s.size : Int) := by omega
    have hlast := lib_isLast s
    have hat : Lib.lastIndexByte s 49 = lastAt s.data.toList := hlast.unique (lastAt_isLast _)
    have ha1 := (lastAt_isLast s.data.toList).lo
    have ha2 := (lastAt_isLast s.data.toList).hi
    rw [hls] at ha2
    generalize haa : lastAt s.data.toList = a at ha1 ha2 hat
    have HAA := Lib.hid haa; clear haa
    have HAT := Lib.hid hat; clear hat hlast
    have HLIM := Lib.hid hlim; clear hlim
    have HLS := Lib.hid hls; clear hls
    go_enter Tryd.func12, Tryd.ntmps12
    go_wp2_with fail
    refine (Tryd.strings_LastIndexByte s 49 (by omega) _).mono ?_
    rintro e w1 ⟨rfl, rfl⟩
    rw [HAT.out]
    go_wp2_with fail
    go_loopw [25] (fun i wr => ∃ q : Int, 0 ≤ q ∧ q ≤ 3 ∧ i = .int .i64 q ∧ wr.heap[w.heap.size]? = some (.cells #[.string s] 9 (0, 0)) ∧ wr.heap[w.heap.size + 1]? = some (.cells #[.int .i64 a] 3 (0, 0)) ∧
      wr.heap[w.heap.size + 1 + 1]? = some (.cells #[someFn w.heap.size] 59 (0, 0)) ∧ Below w.heap.size w wr ∧ (1 ≤ q → bad1 s.data.toList = false) ∧ (2 ≤ q → bad2 s.data.toList = false) ∧ (3 ≤ q → bad3 a s.size = false)) (fun i _ => 3 - (intOf i).toNat)
    case atStart =>
      refine ⟨0, by omega, by omega, rfl, ?_, ?_, ?_, ?_, by omega, by omega, by omega⟩
      · exact (Below.heap_alloc _ _ _ (by simp; omega)).trans ((Below.heap_alloc _ _ _ (by simp)).trans (heap_alloc_new w _))
      · have h := heap_alloc_new (w.alloc (.cells #[.string s] 9)) (.cells #[.int .i64 a] 3)
        simp only [World.size_alloc] at h
        exact (Below.heap_alloc _ _ _ (by simp)).trans h
      · have h := heap_alloc_new ((w.alloc (.cells #[.string s] 9)).alloc (.cells #[.int .i64 a] 3)) (.cells #[someFn w.heap.size] 59)
        simp only [World.size_alloc] at h
        exact h
      · exact (((Below.refl _ _).alloc (Nat.le_refl _) _).alloc (by simp) _).alloc (by simp; omega) _
    case round =>
      obtain ⟨q, hq0, hq3, rfl, hB1, hB2, hB3, hb, h1, h2, h3⟩ := hrel
      have hc1 := cell_of_one hB1
      have hc2 := cell_of_one hB2
      have hc3 := cell_of_one hB3
      have HB1 := Lib.hid hB1; clear hB1
      have HB2 := Lib.hid hB2; clear hB2
      have HB3 := Lib.hid hB3; clear hB3
      rcases (by omega : q = 0 ∨ q = 1 ∨ q = 2 ∨ q = 3) with rfl | rfl | rfl | rfl
      · clear h1 h2 h3 hq0 hq3
        have hix := ix60_0
        cases hbb : bad1 s.data.toList with
        | true =>
          have he := decErr_bad s HLIM.out (by rw [hbb]; rfl)
          have HE := Lib.hid he; clear he
          have HBB := Lib.hid hbb; clear hbb
          go_wp2_with fail
          refine (bad1_any s _ _ _ hs hc1 hc3).mono ?_
          rintro e w1 ⟨rfl, rfl⟩
          rw [show (someIn s.data.toList 0 32 || someIn s.data.toList 127 255) = true from HBB.out]
          go_wp2_with fail
          go_ret3
          exact decPost_err HE.out (by decide) hb
        | false =>
          have HBB := Lib.hid hbb; clear hbb
          go_wp2_with fail
          refine (bad1_any s _ _ _ hs hc1 hc3).mono ?_
          rintro e w1 ⟨rfl, rfl⟩
          rw [show (someIn s.data.toList 0 32 || someIn s.data.toList 127 255) = false from HBB.out]
          go_wp2_with fail
          go_roundw
          case rel => exact ⟨1, by omega, by omega, rfl, HB1.out, HB2.out, HB3.out, hb, fun _ => by first | trivial | exact HBB.out, by omega, by omega⟩
          case measure => simp [intOf]
      · have h1' := h1 (by omega)
        have H1 := Lib.hid h1'; clear h1 h2 h3 hq0 hq3 h1'
        have hix := ix60_1
        cases hbb : bad2 s.data.toList with
        | true =>
          have he := decErr_bad s HLIM.out (by rw [hbb]; simp)
          have HE := Lib.hid he; clear he
          have HBB := Lib.hid hbb; clear hbb
          go_wp2_with fail
          refine (bad2_any s _ _ _ hs hc1 hc3).mono ?_
          rintro e w1 ⟨rfl, rfl⟩
          rw [show (someIn s.data.toList 97 122 && someIn s.data.toList 65 90) = true from HBB.out]
          go_wp2_with fail
          go_ret3
          exact decPost_err HE.out (by decide) hb
        | false =>
          have HBB := Lib.hid hbb; clear hbb
          go_wp2_with fail
          refine (bad2_any s _ _ _ hs hc1 hc3).mono ?_
          rintro e w1 ⟨rfl, rfl⟩
          rw [show (someIn s.data.toList 97 122 && someIn s.data.toList 65 90) = false from HBB.out]
          go_wp2_with fail
          go_roundw
          case rel => exact ⟨2, by omega, by omega, rfl, HB1.out, HB2.out, HB3.out, hb, fun _ => H1.out, fun _ => by first | trivial | exact HBB.out, by omega⟩
          case measure => simp [intOf]
      · have h1' := h1 (by omega)
        have h2' := h2 (by omega)
        have H1 := Lib.hid h1'
        have H2 := Lib.hid h2'
        clear h1 h2 h3 hq0 hq3 h1' h2'
        have hix := ix60_2
        cases hbb : bad3 a s.size with
        | true =>
          have he := decErr_bad s HLIM.out (by rw [HAA.out, hbb]; simp)
          have HE := Lib.hid he; clear he
          have HBB := Lib.hid hbb; clear hbb
          go_wp2_with fail
          refine (bad3_any s a _ _ _ hs ha1 (by omega) hc1 hc2).mono ?_
          rintro e w1 ⟨rfl, rfl⟩
          rw [HBB.out]
          go_wp2_with fail
          go_ret3
          exact decPost_err HE.out (by decide) hb
        | false =>
          have HBB := Lib.hid hbb; clear hbb
          go_wp2_with fail
          refine (bad3_any s a _ _ _ hs ha1 (by omega) hc1 hc2).mono ?_
          rintro e w1 ⟨rfl, rfl⟩
          rw [HBB.out]
          go_wp2_with fail
          go_roundw
          case rel => exact ⟨3, by omega, by omega, rfl, HB1.out, HB2.out, HB3.out, hb, fun _ => H1.out, fun _ => H2.out, fun _ => by first | trivial | exact HBB.out⟩
          case measure => simp [intOf]
      · have h1' := h1 (by omega)
        have h2' := h2 (by omega)
        have h3' := h3 (by omega)
        have H1 := Lib.hid h1'
        have H2 := Lib.hid h2'
        have H3 := Lib.hid h3'
        clear h1 h2 h3 hq0 hq3 h1' h2' h3'
        have hall : s.data.toList.all okByte = true := by
          have := H1.out
          unfold bad1 at this
          rw [all_of_some] at this
          simpa using this
        have hascii : ∀ (j : Nat) (b : UInt8), s.data.toList[j]? = some b → b.toNat < 128 := by
          intro j b hj
          rw [List.all_eq_true] at hall
          have := hall b (List.mem_of_getElem? hj)
          unfold okByte at this
          simp only [Bool.and_eq_true, decide_eq_true_eq] at this
          omega
        have ha1' : 1 ≤ a ∧ a ≤ 83 ∧ a + 6 < s.size := by
          have := H3.out
          unfold bad3 at this
          simp only [Bool.or_eq_false_iff, decide_eq_false_iff_not] at this
          omega
        obtain ⟨n, hn⟩ : ∃ n : Nat, a = n := ⟨a.toNat, by omega⟩
        obtain ⟨ha3, ha4, ha5⟩ := ha1'
        subst hn
        go_wp2_with fail
        refine (Tryd.strings_ToLower_ascii s _ (by omega) hascii).mono ?_
        rintro e w1 ⟨rfl, hb1⟩
        rw [toLowerA_eq]
        have hBl1 := lt_of_block HB1.out
        have hBl2 := lt_of_block HB2.out
        have hb01 : Below w.heap.size w w1 := hb.trans (hb1.mono hb.size)
        have hC1 := cell_of_one ((hb1.block _ hBl1).trans HB1.out)
        have hF1 := free_of_one ((hb1.block _ hBl1).trans HB1.out)
        have HC1 := Lib.hid ((hb1.block _ hBl1).trans HB1.out)
        have HC2 := Lib.hid ((hb1.block _ hBl2).trans HB2.out)
        clear hc1 hc2 hc3 HB3 hascii
        go_wp2_with fail
        refine (found_any _).mono ?_
        rintro e w2 ⟨rfl, hb2⟩
        obtain ⟨tb, htb⟩ : ∃ tb : ByteArray, tb = ⟨(List.map lower s.data.toList).toArray⟩ := ⟨_, rfl⟩
        rw [← htb] at hb2 ⊢
        have htl : tb.data.toList = s.data.toList.map lower := by rw [htb]
        have hts : tb.size = s.size := by rw [htb]; show (List.map lower s.data.toList).toArray.size = s.size; rw [List.size_toArray, List.length_map]; exact HLS.out
        have hlt1 : w.heap.size < w1.heap.size := lt_of_block HC1.out
        have hS2 : w2.heap[w.heap.size]? = some (.cells #[.string tb] 9 (0, 0)) := (hb2.block _ (by simpa [World.setCell] using hlt1)).trans (one_setCell HC1.out)
        have hA2 : w2.heap[w.heap.size + 1]? = some (.cells #[.int .i64 (n : Int)] 3 (0, 0)) := (hb2.block _ (by simpa [World.setCell] using lt_of_block HC2.out)).trans ((Below.heap_setCell _ _ _ _ (by show w.heap.size + 1 ≠ w.heap.size; omega)).trans HC2.out)
        have hb02 : Below w.heap.size w w2 := (hb01.setCell (p := ⟨w.heap.size, 0, none⟩) (Nat.le_refl _) _).trans (hb2.mono (by simpa [World.setCell] using hb01.size))
        clear hb1 hb2 hC1 hF1 HC1 HC2 HB1 HB2 hBl1 hBl2 hb01 hb hlt1
        have HS2 := Lib.hid hS2
        have HA2 := Lib.hid hA2
        have hascii2 : ∀ (m : Nat) (h : m < tb.size), (tb[m]).toNat < 128 := by
          intro m hm
          have hmem : tb[m] ∈ tb.data.toList := List.getElem_mem (l := tb.data.toList) (n := m) (by simpa using hm)
          rw [htl] at hmem
          obtain ⟨c, hc, he⟩ := List.mem_map.1 hmem
          rw [List.all_eq_true] at hall
          have hk := hall c hc
          unfold okByte at hk
          simp only [Bool.and_eq_true, decide_eq_true_eq] at hk
          rw [← he]
          cases hu : isUp c with
          | true => rw [lower_up hu]; unfold isUp at hu; simp only [Bool.and_eq_true, decide_eq_true_eq] at hu; omega
          | false => rw [lower_not hu]; omega
        have HASC := Lib.hid hascii2
        have HALL := Lib.hid hall
        clear hascii2 hall
        have HTB := Lib.hid htb
        have HTL := Lib.hid htl
        clear htb htl
        clear hS2 hA2
        obtain ⟨i0, hi0, hz0, hz1, hz2⟩ := info_parts infoByte
        have HI0 := Lib.hid hi0
        clear hi0
        have hb02s := hb02.size
        go_wp2_with (first
          | (refine wpList_store_new rfl 61 (.tmp 9) (.tmp 33) rfl (st 32) (by rfl) (by rfl) 61 _ (by rw [st_size]; kernel_rfl) (by rw [st_size]; rfl) st_all ?_; intro w3 hT3 hb23 hlt3; have hT3' := Lib.hid hT3; clear hT3; have hS3 := cell_of_one ((hb23.block _ (lt_of_block HS2.out)).trans HS2.out); have hA3 := cell_of_one ((hb23.block _ (lt_of_block HA2.out)).trans HA2.out))
          | (at_make; refine wpList_make_own _ rfl (.const (.int .i64 0)) (.tmp 37) 22 rfl (w2.heap.size + 1) 5 i0 (.int .u8 0) 1 Tryd.underlying22 HI0.out hz0 hz1 .i64 .i64 _ (tb.size - n) (by rfl) (by rfl) (by omega) (by rw [hz2]; omega) (by unfold maxLen; omega) (by omega) ?_; intro w4 hown4 hg4; have HO4 := Lib.hid hown4; clear hown4; have hS4 := (hg4.cell_far ⟨w.heap.size, 0, none⟩ (by have := lt_of_block HS2.out; simp; omega) (by simp)).trans hS3; have hA4 := (hg4.cell_far ⟨w.heap.size + 1, 0, none⟩ (by have := lt_of_block HA2.out; simp; omega) (by simp)).trans hA3; clear hS3 hA3))
        have hT4 : w4.heap[w2.heap.size]? = some (.cells (st 32) 61 (0, 0)) := (hg4.block _ hlt3 (by simp)).trans hT3'.out
        have hb04 : Below w.heap.size w w4 := hb02.trans ((hb23.mono hb02s).grown hg4 (by have := hb23.size; omega) (by simp))
        have HT4 := Lib.hid hT4
        have hts4 := lt_of_block hT4
        clear hT4 hT3' hg4 hb23 hlt3
        have HO4' : Hid (Own1 w4 (w2.heap.size + 1) 5 (.slice (some ⟨w3.heap.size, 0, none⟩) 0 (tb.size - n)) (bv [])) := HO4.out
        clear HO4
        go_loopw [10, 11] (fun v i wr => ∃ m : Nat, n + 1 ≤ m ∧ m ≤ tb.size ∧ i = .int .i64 m ∧ Row wr (w2.heap.size + 1) 5 v (bv (wordsOf ((tb.data.toList.take m).drop (n + 1)))) ∧ (∀ c ∈ (tb.data.toList.take m).drop (n + 1), wordOf c ≠ 32) ∧ Below (w2.heap.size + 1) w4 wr) (fun _ i _ => tb.size - (intOf i).toNat)
        case atStart =>
          have e : (tb.data.toList.take (n + 1)).drop (n + 1) = [] := List.drop_of_length_le (by rw [List.length_take]; omega)
          refine ⟨n + 1, Nat.le_refl _, by omega, by go_num, ?_, ?_, Below.refl _ _⟩
          · have h := HO4'.out
            rw [hts] at h
            rw [e]; exact Row.of_own h
          · rw [e]; intro c hc; cases hc
        case round =>
          obtain ⟨m, hm1, hm2, rfl, hrow, hne, hbr⟩ := hrel
          have HNE := Lib.hid hne; clear hne
          have hS5 := (hbr.cell (p := ⟨w.heap.size, 0, none⟩) (by have := lt_of_block HS2.out; simp; omega)).trans hS4
          have hA5 := (hbr.cell (p := ⟨w.heap.size + 1, 0, none⟩) (by have := lt_of_block HA2.out; simp; omega)).trans hA4
          have HT5 := Lib.hid ((hbr.block w2.heap.size (by omega)).trans HT4.out)
          have hlen6 : (bv (wordsOf ((tb.data.toList.take m).drop (n + 1)))).length ≤ 40000 := by
            rw [bv_length]; unfold wordsOf; rw [List.length_map, List.length_drop, List.length_take]
            have : tb.data.toList.length = tb.size := by simp
            omega
          by_cases hlt : m < tb.size
          · have h128 := HASC.out m hlt
            have hcell := cell_of_block HT5.out tb[m].toNat (by rw [st_size]; exact h128)
            rw [st_get _ h128] at hcell
            have hsn : (tb.data.toList.take (m + 1)).drop (n + 1) = (tb.data.toList.take m).drop (n + 1) ++ [tb[m]] := by
              rw [List.take_succ_eq_append_getElem (by simpa using hlt), List.drop_append_of_le_length (by rw [List.length_take]; simp; omega)]
              rfl
            have HSN := Lib.hid hsn; clear hsn
            have hwl := wordOf_le tb[m]
            have htm : tb[m] ∈ (s.data.toList.map lower).drop (n + 1) := by
              rw [← HTL.out]
              have e : (tb.data.toList.drop (n + 1))[m - (n + 1)]? = some tb[m] := by
                rw [List.getElem?_drop, show n + 1 + (m - (n + 1)) = m by omega, List.getElem?_eq_getElem (by simpa using hlt)]
                rfl
              exact List.mem_of_getElem? e
            have HTM := Lib.hid htm; clear htm
            by_cases hw : wordOf tb[m] = 32
            · have he := decErr_word s n HLIM.out H1.out H2.out HAA.out H3.out _ HTM.out hw
              have HE := Lib.hid he; clear he
              have HW := Lib.hid hw; clear hw
              rw [HW.out] at hcell
              clear hwl
              go_wp2_with fail
              go_ret3
              exact decPost_err HE.out (by decide) (hb04.trans (hbr.mono (by omega)))
            · have hw31 : wordOf tb[m] ≤ 31 := by omega
              have hwb : ((UInt8.ofNat (wordOf tb[m])).toNat : Int) = (wordOf tb[m] : Nat) := by rw [UInt8.toNat_ofNat']; omega
              have HWB := Lib.hid hwb; clear hwb
              have hsn3 : bv (wordsOf ((tb.data.toList.take (m + 1)).drop (n + 1))) = bv (wordsOf ((tb.data.toList.take m).drop (n + 1))) ++ [.int .u8 ((wordOf tb[m] : Nat) : Int)] := by
                rw [HSN.out]
                unfold wordsOf
                rw [List.map_append]
                show bv (_ ++ [UInt8.ofNat (wordOf tb[m])]) = _
                rw [bv_snoc, HWB.out]
              have hne1 : ∀ c ∈ (tb.data.toList.take (m + 1)).drop (n + 1), wordOf c ≠ 32 := by
                rw [HSN.out]
                intro c hc
                rcases List.mem_append.1 hc with h | h
                · exact HNE.out c h
                · rw [List.mem_singleton.1 h]; exact hw
              have HSN3 := Lib.hid hsn3; clear hsn3
              have HNE1 := Lib.hid hne1; clear hne1
              clear hw hwl
              generalize wordOf tb[m] = x at hcell hw31 HSN3
              generalize bv (wordsOf ((tb.data.toList.take m).drop (n + 1))) = xs at hrow hlen6 HSN3
              have hbs : w2.heap.size + 1 ≤ wr.heap.size := by have := hbr.size; omega
              go_wp2_with (at_builtin; refine wpList_row1 sl22 rfl _ _ rfl (w2.heap.size + 1) _ xs (by rfl) hrow _ (by rfl) (by rfl) (by omega) (by omega) hbs ?_; intro v' wn hrow1 hg1 hb1 hat)
              go_roundw
              case rel => exact ⟨m + 1, by omega, by omega, by go_num, by rw [HSN3.out]; exact hrow1, HNE1.out, hbr.trans hb1⟩
              case measure => simp [intOf]; omega
          · have htk : tb.data.toList.take m = tb.data.toList := List.take_of_length_le (by simp; omega)
            have hne2 := HNE.out
            rw [htk] at hne2 hrow
            rw [htk] at hlen6
            have he := decErr_sum s n HLIM.out H1.out H2.out HAA.out H3.out (by rw [← HTL.out]; exact hne2)
            rw [← HTL.out] at he
            have hhd : (tb.extract 0 n).data.toList = tb.data.toList.take n := by
              rw [Lib.extract_data]; simp
            have hhs : (tb.extract 0 n).size ≤ 1000000 := by
              have : (tb.extract 0 n).data.toList.length = (tb.extract 0 n).size := by simp
              rw [hhd, List.length_take] at this; omega
            have HE := Lib.hid he; clear he hne2 HNE htk
            have HHD := Lib.hid hhd; clear hhd
            obtain ⟨A6, c6, hv6, hcap6, hcells6⟩ := hrow.shape
            rw [bv_length] at hv6 hcap6
            subst hv6
            rw [bv_length] at hlen6
            have hwlen : (wordsOf (tb.data.toList.drop (n + 1))).length = tb.size - (n + 1) := by unfold wordsOf; simp
            have HWL := Lib.hid hwlen
            generalize hwsg : wordsOf (tb.data.toList.drop (n + 1)) = ws at hrow hcap6 hcells6 hlen6 hwlen
            have HWS := Lib.hid hwsg; clear hwsg
            have HROW := Lib.hid hrow; clear hrow
            have HCE := Lib.hid hcells6; clear hcells6
            go_wp2_with fail
            refine (head_any (tb.extract 0 n) _ hhs).mono ?_
            rintro e w5 ⟨rfl, hB5, hb5⟩
            rw [HHD.out] at hB5
            have hB5lt := lt_of_block hB5
            have HB5 := Lib.hid hB5; clear hB5
            go_wp2_with fail
            refine (add_n wr.heap.size ws _ (by omega) _ _ _ _ (by omega) (chk_lt _) (HCE.out.below hb5) HB5.out).mono ?_
            rintro e w6 ⟨rfl, hB6, hg6⟩
            have hsum : chkFrom (chk (heads (tb.data.toList.take n))) ws = chk (heads (tb.data.toList.take n) ++ ws) := by unfold chk; rw [chkFrom_append]
            rw [hsum] at hB6
            have hb6 : Below wr.heap.size wr w6 := hb5.grown hg6 hb5.size (by intro k hk; injection hk with hk; omega)
            have hc6 := cell_of_one hB6
            have hS6 := (hb6.cell (p := ⟨w.heap.size, 0, none⟩) (cell_lt hS5)).trans hS5
            have hA6 := (hb6.cell (p := ⟨w.heap.size + 1, 0, none⟩) (cell_lt hA5)).trans hA5
            have hb06 : Below w.heap.size w w6 := (hb04.trans (hbr.mono (by omega))).trans (hb6.mono (by have := hb04.size; have := hbr.size; omega))
            have HC6 := Lib.hid (HCE.out.below hb6)
            clear hsum hg6 hB6 hS5 hA5 hS4 hA4 HB5
            have HE2 : Hid (decErr s.data.toList = if chk (heads (tb.data.toList.take n) ++ ws) ≠ 1 then 61 else 0) := by
              have h := HE.out
              rw [HWS.out] at h
              exact h
            by_cases h1 : chk (heads (tb.data.toList.take n) ++ ws) = 1
            · have he : decErr s.data.toList = 0 := by rw [HE2.out, if_neg (by rw [h1]; simp)]
              have HE3 := Lib.hid he; clear he
              have hne3 : (((chk (heads (tb.data.toList.take n) ++ ws) : Nat) : Int) != 1) = false := by rw [h1]; rfl
              obtain ⟨q, hq⟩ : ∃ q, s.size - (n + 1) = q + 6 := ⟨s.size - (n + 1) - 6, by omega⟩
              have hqc : q + 6 ≤ c6 := by omega
              have hqi : (q : Int) ≤ (c6 : Int) := by omega
              have hq0 : (0 : Int) ≤ (q : Int) := by omega
              have hni : (n : Int) ≤ (tb.size : Int) := by omega
              have hn0 : (0 : Int) ≤ (n : Int) := by omega
              have HH1 := Lib.hid h1
              clear h1
              go_wp2_with fail
              go_quiet (fail)
              go_wp2_with fail
              go_ret3
              have hwords : decWords s.data.toList = ws.take q := by
                unfold decWords
                rw [if_pos HE3.out]
                unfold tailOf
                rw [HAA.out, ← HTL.out, show ((n : Int) + 1).toNat = n + 1 by omega, HWS.out]
                congr 1
                rw [List.length_drop]
                have : tb.data.toList.length = tb.size := by simp
                omega
              have hheadw : decHead s.data.toList = tb.data.toList.take n := by
                unfold decHead
                rw [if_pos HE3.out]
                unfold headOf
                rw [HAA.out, ← HTL.out, show (n : Int).toNat = n by omega]
              refine decPost_ok HE3.out (by rw [HHD.out, hheadw]) (by rw [hwords, List.length_take]; omega) (Nat.le_refl _) ?_ (below_drewN hb06 _)
              rw [hwords]
              have h := HC6.out.take q
              have e : (bv ws).take q = bv (ws.take q) := by simp [bv, List.map_take]
              rw [e] at h
              exact h.drewN _
            · have he : decErr s.data.toList = 61 := by rw [HE2.out, if_pos h1]
              have HE3 := Lib.hid he; clear he
              have hne3 : (((chk (heads (tb.data.toList.take n) ++ ws) : Nat) : Int) != 1) = true := by rw [bne_iff_ne]; omega
              clear h1
              go_wp2_with fail
              go_ret3
              exact decPost_err HE3.out (by decide) hb06
end Go.Proofs.YtnkhbhkmllnniaaDoor
