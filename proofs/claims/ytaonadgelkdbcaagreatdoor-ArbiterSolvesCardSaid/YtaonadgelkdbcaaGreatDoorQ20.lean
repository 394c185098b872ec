/- Two terms under an op: the program's and the document's. · Texts: a number's digits; the label of a bit. · A seed's secrets: the program's. -/
import Derived.Test.YtaonadgelkdbcaaGreatDoorQ11
import Derived.Test.YtaonadgelkdbcaaGreatDoorQ1
import Derived.Test.YtaonadgelkdbcaaGreatDoorShelf
import Derived.Test.YtaonadgelkdbcaaGreatDoorQ13
import Derived.Lib.RabinKarpLaws
namespace Go.Proofs.YtaonadgelkdbcaaGreatDoor
open Go.RowKit

theorem build_two (op : UInt8) (x y : ByteArray) : buildE ⟨#[op]⟩ [x, y] = twoE op x.data.toList y.data.toList := by
  unfold buildE twoE flat
  simp
/-- A slice that lies in a new block. -/
theorem cells_new (w : World) (xs : List Value) (T : TypeId) : Cells (w.alloc (.cells xs.toArray T)) (some ⟨w.heap.size, 0, none⟩) xs := fun _ => by
  refine ⟨_, rfl, fun j u hj => ?_⟩
  have h : (w.alloc (.cells xs.toArray T)).cell? ⟨w.heap.size, j, none⟩ = some u := by
    have := Go.heap_alloc_new w (.cells xs.toArray T)
    unfold World.cell?
    rw [this]
    simp [hj]
  unfold Addr.add
  split
  · rename_i hz; subst hz; exact h
  · simpa using h
theorem two_calls (op : UInt8) (x y : ByteArray) (w : World) (hs : x.size ≤ 400000) (hs2 : y.size ≤ 400000) (hv : VarsOk w) :
    Calls Tryz.prog 45 #[.string ⟨#[op]⟩, .slice (some ⟨w.heap.size, 0, none⟩) 2 2] (w.alloc (.cells #[.string x, .string y] 29)) fun e w' => e = .returned (tupE (twoE op x.data.toList y.data.toList)) ∧ Below w.heap.size w w' := by
  have hbA : Below w.heap.size w (w.alloc (.cells #[.string x, .string y] 29)) := (Below.refl _ _).alloc (Nat.le_refl _) _
  have h1 : (⟨#[op]⟩ : ByteArray).size = 1 := rfl
  have hfl : (flat [x, y]).length = x.size + y.size := by simp [flat]
  have hB := build_any ⟨#[op]⟩ [x, y] (some ⟨w.heap.size, 0, none⟩) 2 (w.alloc (.cells #[.string x, .string y] 29)) (by rw [h1, hfl]; omega) (by simp) (cells_new w [.string x, .string y] _) (hv.below hbA)
  rw [build_two] at hB
  exact hB.mono fun e w' h => ⟨h.1, hbA.trans (h.2.mono hbA.size)⟩
set_option maxRecDepth 100000 in
set_option maxHeartbeats 8000000 in
theorem tchild_any (x y : ByteArray) (w : World) (hs : x.size ≤ 400000) (hs2 : y.size ≤ 400000) (hv : VarsOk w) : Calls Tryz.prog 100 #[.string x, .string y] w fun e w' => e = .returned (tupE (twoE 68 x.data.toList y.data.toList)) ∧ Below w.heap.size w w' := by
  have hB := two_calls 68 x y w hs hs2 hv
  obtain ⟨R, hR⟩ : ∃ R, twoE 68 x.data.toList y.data.toList = R := ⟨_, rfl⟩
  rw [hR] at hB ⊢
  unfold tupE at hB ⊢
  have HB := Lib.hid hB
  clear hB hv hR
  go_enter Tryz.func100, Tryz.ntmps100
  go_wp2_with fail
  refine HB.out.mono ?_
  rintro e w1 ⟨rfl, hb1⟩
  have HB1 := Lib.hid hb1
  clear hb1
  go_wp2_with fail
  go_ret2
  exact ⟨rfl, HB1.out⟩
set_option maxRecDepth 100000 in
set_option maxHeartbeats 8000000 in
theorem tjoin_any (x y : ByteArray) (w : World) (hs : x.size ≤ 400000) (hs2 : y.size ≤ 400000) (hv : VarsOk w) : Calls Tryz.prog 58 #[.string x, .string y] w fun e w' => e = .returned (tupE (twoE 86 x.data.toList y.data.toList)) ∧ Below w.heap.size w w' := by
  have hB := two_calls 86 x y w hs hs2 hv
  obtain ⟨R, hR⟩ : ∃ R, twoE 86 x.data.toList y.data.toList = R := ⟨_, rfl⟩
  rw [hR] at hB ⊢
  unfold tupE at hB ⊢
  have HB := Lib.hid hB
  clear hB hv hR
  go_enter Tryz.func58, Tryz.ntmps58
  go_wp2_with fail
  refine HB.out.mono ?_
  rintro e w1 ⟨rfl, hb1⟩
  have HB1 := Lib.hid hb1
  clear hb1
  go_wp2_with fail
  go_ret2
  exact ⟨rfl, HB1.out⟩
set_option maxRecDepth 100000 in
set_option maxHeartbeats 8000000 in
theorem tbind_any (x y : ByteArray) (w : World) (hs : x.size ≤ 400000) (hs2 : y.size ≤ 400000) (hv : VarsOk w) : Calls Tryz.prog 57 #[.string x, .string y] w fun e w' => e = .returned (tupE (twoE 75 x.data.toList y.data.toList)) ∧ Below w.heap.size w w' := by
  have hB := two_calls 75 x y w hs hs2 hv
  obtain ⟨R, hR⟩ : ∃ R, twoE 75 x.data.toList y.data.toList = R := ⟨_, rfl⟩
  rw [hR] at hB ⊢
  unfold tupE at hB ⊢
  have HB := Lib.hid hB
  clear hB hv hR
  go_enter Tryz.func57, Tryz.ntmps57
  go_wp2_with fail
  refine HB.out.mono ?_
  rintro e w1 ⟨rfl, hb1⟩
  have HB1 := Lib.hid hb1
  clear hb1
  go_wp2_with fail
  go_ret2
  exact ⟨rfl, HB1.out⟩
theorem cons_list2 (op : UInt8) (x y : ByteArray) : ((⟨#[op]⟩ : ByteArray) ++ x ++ y).data.toList = op :: (x.data.toList ++ y.data.toList) := by simp [ByteArray.data_append]
theorem cons_size2 (op : UInt8) (x y : ByteArray) : ((⟨#[op]⟩ : ByteArray) ++ x ++ y).size = x.size + y.size + 1 := by
  have h := congrArg List.length (cons_list2 op x y)
  rw [List.length_cons, List.length_append] at h
  exact h
set_option maxRecDepth 100000 in
set_option maxHeartbeats 8000000 in
theorem rtwo_any (op : UInt8) (opi : Int) (hop : (op.toNat : Int) = opi) (x y : ByteArray) (w : World) (hs : x.size ≤ 400000) (hs2 : y.size ≤ 400000) : Calls Tryz.prog 61 #[.int .u8 opi, .string x, .string y] w fun e w' => e = .returned (tupE (twoE op x.data.toList y.data.toList)) ∧ Below w.heap.size w w' := by
  have HR := Lib.hid (rright_any x w (by omega))
  have HY := fun W => Lib.hid (rright_any y W (by omega))
  unfold twoE
  cases hq : rightB x.data.toList with
  | true =>
    cases hq2 : rightB y.data.toList with
    | true =>
      rw [hq] at HR
      simp only [hq2] at HY
      clear hq hq2
      rw [Bool.and_self, if_pos rfl]
      have HC := Lib.hid (conv_one op)
      rw [hop] at HC
      have HM := fun W => Lib.hid (rmade_any ((⟨#[op]⟩ : ByteArray) ++ x ++ y) W (by rw [cons_size2]; omega))
      simp only [cons_list2] at HM
      obtain ⟨R, hR⟩ : ∃ R, madeE (op :: (x.data.toList ++ y.data.toList)) = R := ⟨_, rfl⟩
      simp only [hR] at HM
      rw [hR]
      unfold tupE at HM ⊢
      clear hop hR
      go_enter Tryz.func61, Tryz.ntmps61
      go_wp2_with fail
      refine HR.out.mono ?_
      rintro e w1 ⟨rfl, hb1⟩
      have HB := Lib.hid hb1
      clear hb1
      go_wp2_with fail
      refine (HY _).out.mono ?_
      rintro e w1b ⟨rfl, hb1⟩
      have HBB := Lib.hid (HB.out.trans (hb1.mono HB.out.size))
      have hcv := HC.out w1b
      clear hb1
      go_wp2_with fail
      refine (HM _).out.mono ?_
      rintro e w2 ⟨rfl, hb2⟩
      have HB2 := Lib.hid hb2
      clear hb2 hcv
      go_wp2_with fail
      go_ret2
      exact ⟨rfl, (HBB.out.alloc HBB.out.size _).trans (HB2.out.mono (by simp; have := HBB.out.size; omega))⟩
    | false =>
      rw [hq] at HR
      simp only [hq2] at HY
      clear hq hq2
      go_enter Tryz.func61, Tryz.ntmps61
      go_wp2_with fail
      refine HR.out.mono ?_
      rintro e w1 ⟨rfl, hb1⟩
      have HB := Lib.hid hb1
      clear hb1
      go_wp2_with fail
      refine (HY _).out.mono ?_
      rintro e w1b ⟨rfl, hb1⟩
      have HBB := Lib.hid (HB.out.trans (hb1.mono HB.out.size))
      clear hb1
      go_wp2_with fail
      go_ret2
      exact ⟨rfl, HBB.out⟩
  | false =>
    rw [hq] at HR
    clear hq
    go_enter Tryz.func61, Tryz.ntmps61
    go_wp2_with fail
    refine HR.out.mono ?_
    rintro e w1 ⟨rfl, hb1⟩
    have HB := Lib.hid hb1
    clear hb1
    go_wp2_with fail
    go_ret2
    exact ⟨rfl, HB.out⟩
end Go.Proofs.YtaonadgelkdbcaaGreatDoor

namespace Go.Proofs.YtaonadgelkdbcaaGreatDoor
open Go.RowKit

def decB (n : Nat) : ByteArray := ⟨(Lib.decDigits n).toArray⟩
theorem decB_size (n : Nat) : (decB n).size = (Lib.decDigits n).length := by
  show (Lib.decDigits n).toArray.size = _
  simp
theorem dec_small {n : Nat} (h : n < 10) : Lib.decDigits n = [UInt8.ofNat (48 + n)] := by unfold Lib.decDigits; rw [dif_pos h]
theorem dec_more {n : Nat} (h : ¬ n < 10) : Lib.decDigits n = Lib.decDigits (n / 10) ++ [UInt8.ofNat (48 + n % 10)] := by
  conv => lhs; unfold Lib.decDigits
  rw [dif_neg h]
theorem decB_more {n : Nat} (h : ¬ n < 10) : decB n = decB (n / 10) ++ ⟨#[UInt8.ofNat (48 + n % 10)]⟩ := by
  have e := dec_more h
  have h1 : (decB n).data.toList = (decB (n / 10) ++ (⟨#[UInt8.ofNat (48 + n % 10)]⟩ : ByteArray)).data.toList := by
    rw [ByteArray.data_append, Array.toList_append]
    simpa [decB] using e
  rw [str_eq (decB n), h1, ← str_eq]
theorem decB_small {n : Nat} (h : n < 10) : decB n = ⟨#[UInt8.ofNat (48 + n % 10)]⟩ := by
  unfold decB
  rw [dec_small h, Nat.mod_eq_of_lt h]
theorem dig_nat (n : Nat) : ((UInt8.ofNat (48 + n % 10)).toNat : Int) = 48 + (n : Int) % 10 := by
  have h : (UInt8.ofNat (48 + n % 10)).toNat = 48 + n % 10 := by
    rw [UInt8.toNat_ofNat']
    have := Nat.mod_lt n (show 0 < 10 by decide)
    omega
  rw [h]; omega
theorem dec_len_le (n : Nat) : (Lib.decDigits n).length ≤ n + 1 := by
  induction n using Nat.strongRecOn with
  | _ n ih =>
    by_cases h : n < 10
    · rw [dec_small h]; simp
    · rw [dec_more h, List.length_append]
      have := ih (n / 10) (by omega)
      simp only [List.length_cons, List.length_nil]
      omega
theorem dec_len (k : Nat) : ∀ (n : Nat), n < 10 ^ k → (Lib.decDigits n).length ≤ k + 1 := by
  induction k with
  | zero => intro n h; obtain rfl : n = 0 := by simpa using h
            rw [dec_small (by decide)]; simp
  | succ k ih =>
    intro n h
    by_cases h1 : n < 10
    · rw [dec_small h1]; simp
    · rw [dec_more h1, List.length_append]
      have := ih (n / 10) (by rw [Nat.pow_succ] at h; omega)
      simp only [List.length_cons, List.length_nil]
      omega
set_option maxRecDepth 100000 in
set_option maxHeartbeats 8000000 in
theorem rdigits_any (n : Nat) (hn : n < 9223372036854775808) : ∀ (w : World), Calls Tryz.prog 105 #[.int .u64 n] w fun e w' => e = .returned (.string (decB n)) ∧ Below w.heap.size w w' := by
  induction n using Nat.strongRecOn with
  | _ n ih =>
    intro w
    have hcv := conv_one (UInt8.ofNat (48 + n % 10)) w
    rw [dig_nat] at hcv
    have HCV := Lib.hid hcv
    have hlen : (decB (n / 10)).size ≤ 100 := by
      have h1 := decB_size (n / 10)
      rw [h1]
      exact Nat.le_trans (dec_len 19 (n / 10) (by omega)) (by decide)
    have hsm := @decB_small n
    have hmo := @decB_more n
    obtain ⟨d, hd⟩ : ∃ d, UInt8.ofNat (48 + n % 10) = d := ⟨_, rfl⟩
    rw [hd] at hsm hmo HCV
    by_cases h : n < 10
    · have HD := Lib.hid (hsm h)
      clear ih hcv hsm hmo hd
      have g9 : decide ((9 : Int) < (n : Int)) = false := decide_eq_false (by omega)
      have hcv := HCV.out
      go_enter Tryz.func105, Tryz.ntmps105
      go_wp2_with fail
      go_ret
      rw [HD.out]
      exact ⟨rfl, (Below.refl _ _).alloc (Nat.le_refl _) _⟩
    · have HD := Lib.hid (hmo h)
      have hI := fun W => ih (n / 10) (by omega) (by omega) W
      have e10 : ((n / 10 : Nat) : Int) = (n : Int) / 10 := by omega
      simp only [e10] at hI
      have HI := Lib.hid hI
      clear ih hcv hI e10 hsm hmo hd
      have g9 : decide ((9 : Int) < (n : Int)) = true := decide_eq_true (by omega)
      have hcv := HCV.out
      have zc : ¬ (9223372036854775807 < (decB (n / 10)).size + 1) := by omega
      go_enter Tryz.func105, Tryz.ntmps105
      go_wp2_with fail
      refine (HI.out _).mono ?_
      rintro e w1 ⟨rfl, hb1⟩
      have HB1 := Lib.hid hb1
      clear hb1
      go_wp2_with fail
      go_ret
      rw [HD.out]
      exact ⟨rfl, ((Below.refl _ _).alloc (Nat.le_refl _) _).trans (HB1.out.mono (by simp))⟩
theorem itoa_any (n : Nat) (h : n < 100) (W : World) : Calls Tryz.prog 99 #[.int .i64 n] W fun e w' => e = .returned (.string (decB n)) ∧ w' = W := Tryz.strconv_Itoa_small n h W
/-- A text's term. -/
def textT (s : ByteArray) : List UInt8 := 116 :: (Lib.decDigits s.size ++ 58 :: s.data.toList)
theorem text_cat (s : ByteArray) : (⟨#[116]⟩ : ByteArray) ++ decB s.size ++ ⟨#[58]⟩ ++ s = ⟨(textT s).toArray⟩ := by
  have h1 : ((⟨#[116]⟩ : ByteArray) ++ decB s.size ++ ⟨#[58]⟩ ++ s).data.toList = textT s := by
    simp [ByteArray.data_append, decB, textT]
  rw [str_eq ((⟨#[116]⟩ : ByteArray) ++ decB s.size ++ ⟨#[58]⟩ ++ s), h1]
set_option maxRecDepth 100000 in
set_option maxHeartbeats 8000000 in
theorem ttext_any (s : ByteArray) (w : World) (hs : s.size < 100) : Calls Tryz.prog 98 #[.string s] w fun e w' => e = .returned (tupE (0, textT s)) ∧ w' = w := by
  have hI := fun W => itoa_any s.size hs W
  have HI := Lib.hid hI
  have HC := Lib.hid (text_cat s)
  unfold tupE
  have g : decide ((4096 : Int) < (s.size : Int)) = false := decide_eq_false (by omega)
  have hd : (decB s.size).size ≤ 100 := by
    have h1 := decB_size s.size
    rw [h1]
    exact Nat.le_trans (dec_len 2 _ (by omega)) (by decide)
  clear hI
  go_enter Tryz.func98, Tryz.ntmps98
  go_wp2_with fail
  refine (HI.out _).mono ?_
  rintro e w1 ⟨rfl, rfl⟩
  go_wp2_with fail
  go_ret2
  rw [← HC.out]
  exact ⟨rfl, rfl⟩
set_option maxRecDepth 100000 in
set_option maxHeartbeats 8000000 in
theorem rtext_any (s : ByteArray) (w : World) (hs : s.size < 100) : Calls Tryz.prog 101 #[.string s] w fun e w' => e = .returned (tupE (0, textT s)) ∧ Below w.heap.size w w' := by
  have hI := fun W => rdigits_any s.size (by omega) W
  have HI := Lib.hid hI
  have HC := Lib.hid (text_cat s)
  unfold tupE
  have g : decide ((4096 : Int) < (s.size : Int)) = false := decide_eq_false (by omega)
  have hd : (decB s.size).size ≤ 100 := by
    have h1 := decB_size s.size
    rw [h1]
    exact Nat.le_trans (dec_len 4 _ (by omega)) (by decide)
  clear hI
  go_enter Tryz.func101, Tryz.ntmps101
  go_wp2_with fail
  refine (HI.out _).mono ?_
  rintro e w1 ⟨rfl, hb1⟩
  have HB1 := Lib.hid hb1
  clear hb1
  go_wp2_with fail
  go_ret2
  rw [← HC.out]
  exact ⟨rfl, HB1.out⟩
theorem label_text : ∀ b, b < 20 → textT (decB b) = labelT b := by
  intro b hb
  rcases (show b < 10 ∨ ¬ b < 10 by omega) with h | h
  · have h1 := dec_small h
    have h2 : (decB b).size = 1 := by unfold decB; rw [h1]; rfl
    unfold textT labelT
    rw [h2, if_pos h]
    have h3 : Lib.decDigits 1 = [49] := by rw [dec_small (by decide)]; rfl
    rw [h3]
    unfold decB
    rw [h1]
    rfl
  · have h1 := dec_more h
    have h10 : b / 10 = 1 := by omega
    rw [h10, dec_small (show 1 < 10 by decide)] at h1
    have h2 : (decB b).size = 2 := by unfold decB; rw [h1]; rfl
    unfold textT labelT
    rw [h2, if_neg h]
    have h3 : Lib.decDigits 2 = [50] := by rw [dec_small (by decide)]; rfl
    rw [h3]
    unfold decB
    rw [h1]
    rfl
end Go.Proofs.YtaonadgelkdbcaaGreatDoor

namespace Go.Proofs.YtaonadgelkdbcaaGreatDoor
open Go.RowKit

theorem onE_zero {i b : Nat} {t : List UInt8} (h : i / 2 ^ b % 2 = 0) : onE i (b + 1) t = onE i b t := by
  conv => lhs; unfold onE
  rw [if_pos h]
theorem onE_one {i b : Nat} {t : List UInt8} (h : ¬ i / 2 ^ b % 2 = 0) (h2 : (twoE 68 t (labelT b)).1 = 0) : onE i (b + 1) t = onE i b (twoE 68 t (labelT b)).2 := by
  conv => lhs; unfold onE
  rw [if_neg h, if_pos h2]
theorem onE_err {i b : Nat} {t : List UInt8} (h : ¬ i / 2 ^ b % 2 = 0) (h2 : ¬ (twoE 68 t (labelT b)).1 = 0) : onE i (b + 1) t = ((twoE 68 t (labelT b)).1, []) := by
  conv => lhs; unfold onE
  rw [if_neg h, if_neg h2]
theorem label_len (b : Nat) : (labelT b).length ≤ 5 := by unfold labelT; split <;> simp
theorem bit_cast (i b : Nat) (hi : i < 1048576) : bits BinOp.and IntKind.i64 ((i : Int) / 2 ^ b) 1 = ((i / 2 ^ b % 2 : Nat) : Int) := by
  have h : ((i : Int) / 2 ^ b) = ((i / 2 ^ b : Nat) : Int) := by simp
  rw [h]
  exact Go.Proofs.and_one _ (Nat.lt_of_le_of_lt (Nat.div_le_self _ _) (by omega))
theorem size_bs (l : List UInt8) : (bs l).size = l.length := by simp [bs, ByteArray.size]
theorem tupE_err {x : Int × List UInt8} (hx : x.2 = []) : tupE x = .tuple #[.string ⟨#[]⟩, .int .i64 x.1] := by unfold tupE; rw [hx]
theorem madeE_err {s : List UInt8} (h : (madeE s).1 ≠ 0) : (madeE s).2 = [] := by
  unfold madeE at h ⊢
  split
  · rename_i hr; rw [if_pos hr] at h; exact absurd rfl h
  · rfl
theorem twoE_err {op : UInt8} {x y : List UInt8} (h : (twoE op x y).1 ≠ 0) : (twoE op x y).2 = [] := by
  unfold twoE at h ⊢
  split
  · rename_i hr; rw [if_pos hr] at h; exact madeE_err h
  · rfl
theorem pubE_err {x : List UInt8} (h : (pubE x).1 ≠ 0) : (pubE x).2 = [] := by
  unfold pubE at h ⊢
  split
  · rename_i hr; rw [if_pos hr] at h; exact madeE_err h
  · rfl
set_option maxRecDepth 100000 in
set_option maxHeartbeats 8000000 in
theorem on_any (t : ByteArray) (i : Nat) (hi : i < 1048576) (ht : t.size ≤ 16384) (w : World) (hv : VarsOk w) : Calls Tryz.prog 87 #[.string t, .int .i64 i, .int .i64 20] w fun e w' => e = .returned (tupE (onE i 20 t.data.toList)) ∧ Below w.heap.size w w' := by
  obtain ⟨R, hR⟩ : ∃ R, onE i 20 t.data.toList = R := ⟨_, rfl⟩
  rw [hR]
  have HR := Lib.hid hR
  have HV := Lib.hid hv
  unfold tupE
  clear hR hv
  go_enter Tryz.func87, Tryz.ntmps87
  go_wp2_with fail
  go_loopw [8, 0] (fun b t' wr => ∃ s : ByteArray, t' = .string s ∧ s.size ≤ 16384 ∧ Below w.heap.size w wr ∧ ((b = .int .i64 (-1) ∧ R = (0, s.data.toList)) ∨ ∃ m : Nat, m < 20 ∧ b = .int .i64 (m : Int) ∧ onE i (m + 1) s.data.toList = R)) (fun b _ _ => (intOf b + 1).toNat)
  case atStart => exact ⟨t, rfl, ht, Below.refl _ _, .inr ⟨19, by decide, rfl, HR.out⟩⟩
  case round =>
    obtain ⟨s, rfl, hs, hb, h⟩ := hrel
    have HB := Lib.hid hb
    rcases h with ⟨rfl, hr⟩ | ⟨m, hm, rfl, hr⟩
    · have HR2 := Lib.hid hr
      clear hb hr
      go_wp2_with fail
      go_ret2
      rw [HR2.out]
      refine ⟨?_, HB.out⟩
      show Ending.returned (.tuple #[.string s, .int .i64 0]) = Ending.returned (.tuple #[.string ⟨s.data.toList.toArray⟩, .int .i64 0])
      rw [← str_eq s]
    · have hbit := bit_cast i m hi
      have HM := Lib.hid hr
      have hlab := label_text m hm
      by_cases h0 : i / 2 ^ m % 2 = 0
      · rw [h0] at hbit
        have HE := Lib.hid (onE_zero (t := s.data.toList) h0)
        clear hb hr hlab
        go_wp2_with fail
        go_roundw
        case rel =>
          refine ⟨s, rfl, hs, HB.out, ?_⟩
          rcases Nat.eq_zero_or_pos m with rfl | hp
          · exact .inl ⟨by go_num, by rw [← HM.out, HE.out]; rfl⟩
          · obtain ⟨m, rfl⟩ : ∃ m', m = m' + 1 := ⟨m - 1, by omega⟩
            exact .inr ⟨m, by omega, by go_num, by rw [← HM.out, HE.out]⟩
        case measure => (simp [intOf] <;> omega)
      · have h1 : i / 2 ^ m % 2 = 1 := by omega
        rw [h1] at hbit
        have HI := Lib.hid (fun W => itoa_any m (by omega) W)
        have HT := Lib.hid (fun W => ttext_any (decB m) W (by
          have h1 := decB_size m
          rw [h1]
          exact Nat.lt_of_le_of_lt (dec_len 2 m (by omega)) (by decide)))
        simp only [hlab] at HT
        have HC := Lib.hid (fun W (hv : VarsOk W) => tchild_any s (bs (labelT m)) W (by omega) (by rw [size_bs]; have := label_len m; omega) hv)
        simp only [bs_list] at HC
        have HE1 := Lib.hid (onE_one (t := s.data.toList) h0)
        have HE2 := Lib.hid (onE_err (t := s.data.toList) h0)
        have hl2 := twoE_len 68 s.data.toList (labelT m)
        have he2 := @twoE_err 68 s.data.toList (labelT m)
        obtain ⟨x, hx⟩ : ∃ x, twoE 68 s.data.toList (labelT m) = x := ⟨_, rfl⟩
        rw [hx] at HE1 HE2 hl2 he2
        simp only [hx] at HC
        unfold tupE at HT HC
        unfold bs at HC
        obtain ⟨xe, xs⟩ := x
        have HV2 := Lib.hid (HV.out.below HB.out)
        clear hb hr hlab hx h0
        go_wp2_with fail
        refine (HI.out _).mono ?_
        rintro e w1 ⟨rfl, rfl⟩
        go_wp2_with fail
        refine (HT.out _).mono ?_
        rintro e w1 ⟨rfl, rfl⟩
        go_wp2_with fail
        refine (HC.out _ HV2.out).mono ?_
        rintro e w2 ⟨rfl, hb2⟩
        have HB2 := Lib.hid (HB.out.trans (hb2.mono HB.out.size))
        clear hb2
        by_cases hxe : xe = 0
        · subst hxe
          go_wp2_with fail
          go_roundw
          case rel =>
            refine ⟨bs xs, rfl, by rw [size_bs]; exact hl2, HB2.out, ?_⟩
            rcases Nat.eq_zero_or_pos m with rfl | hp
            · exact .inl ⟨by go_num, by rw [← HM.out, HE1.out (by first | trivial | rfl), bs_list]; rfl⟩
            · obtain ⟨m, rfl⟩ : ∃ m', m = m' + 1 := ⟨m - 1, by omega⟩
              exact .inr ⟨m, by omega, by go_num, by rw [← HM.out, HE1.out (by first | trivial | rfl), bs_list]⟩
          case measure => (simp [intOf] <;> omega)
        · have g : (xe == 0) = false := beq_false_of_ne hxe
          have HXE := Lib.hid hxe
          clear hxe
          go_wp2_with fail
          go_ret2
          rw [← HM.out, HE2.out HXE.out]
          exact ⟨rfl, HB2.out⟩
end Go.Proofs.YtaonadgelkdbcaaGreatDoor
