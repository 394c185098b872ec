/- The numbers of a log: read from bytes, written to bytes. · Looks through bytes and through entries; copies of bytes. · A log in plain Lean: rows of entries, heads, what is read. · A log in plain Lean: it is opened, it is appended to. · A log in memory; what is read. · A log under which the power fails: plain. · Opening, turns: plain. · A turn; a log that is created: plain. -/
import Derived.Test.YtladknjmoahdoaaQ1
import Derived.Laws.Bits64b
import Derived.Lib.LazyBuf
import Derived.Test.YtladknjmoahdoaaAnyG
set_option linter.all false
namespace Go.Proofs.Ytladknjmoahdoaa
open Go.RowKit

theorem slU8 : SlTyK Try.prog 30 5 (.int .u8 0) 1 1 := ⟨Try.underlying30, by kernel_rfl, rfl, by decide⟩
theorem or256 {x y : Nat} (hx : x < 72057594037927936) (hy : y < 256) : bits .or .u64 ((x : Int) * 256) (y : Int) = ((x * 256 + y : Nat) : Int) := by
  rw [show ((x : Int) * 256) = ((x * 256 : Nat) : Int) by omega, Go.bits_or_u64_nat _ _ (by omega) (by omega)]
  have h := Nat.two_pow_add_eq_or_of_lt (i := 8) (b := y) (by omega) x
  rw [show x * 256 = 2 ^ 8 * x by omega, ← h]
/-- The number of bytes. -/
def valL (bs : List UInt8) : Nat := bs.foldl (fun n c => n * 256 + c.toNat) 0
theorem valL_snoc (bs : List UInt8) (c : UInt8) : valL (bs ++ [c]) = valL bs * 256 + c.toNat := by
  unfold valL
  rw [List.foldl_append]; rfl
theorem valL_take (bs : List UInt8) {k : Nat} (hk : k < bs.length) : valL (bs.take (k + 1)) = valL (bs.take k) * 256 + bs[k].toNat := by
  rw [← List.take_append_getElem hk, valL_snoc]
theorem valL_lt (bs : List UInt8) : ∀ k, k ≤ bs.length → valL (bs.take k) < 256 ^ k
  | 0, _ => by simp [valL]
  | k + 1, hk => by
    have ih := valL_lt bs k (by omega)
    rw [valL_take bs (by omega), Nat.pow_succ]
    have := UInt8.toNat_lt bs[k]
    have h2 : (valL (bs.take k) + 1) * 256 ≤ 256 ^ k * 256 := Nat.mul_le_mul_right _ ih
    omega
theorem byte_at {w : World} {A : Option Addr} {bs : List UInt8} (h : Cells w A (bv bs)) {k : Nat} (hk : k < bs.length) : ∃ ad, A = some ad ∧ w.cell? (ad.add k) = some (.int .u8 (bs[k].toNat : Int)) := by
  obtain ⟨ad, he, hc⟩ := h (by unfold bv; rw [List.length_map]; omega)
  exact ⟨ad, he, by rw [hc k (.int .u8 (bs[k].toNat : Int)) (by unfold bv; rw [List.getElem?_map, List.getElem?_eq_getElem hk]; rfl)]⟩
set_option maxRecDepth 100000 in
set_option maxHeartbeats 2000000 in
theorem value_any (A : Option Addr) (n c : Nat) (bs : List UInt8) (w : World) (hA : Cells w A (bv bs)) (hn : bs.length = n) (hn8 : n ≤ 8) :
    Calls Try.prog 44 #[.slice A n c] w fun e w' => e = .returned (.int .u64 (valL bs : Int)) ∧ w = w' := by
  have HA := Lib.hid hA
  have HN := Lib.hid hn
  clear hA hn
  go_enter Try.func44, Try.ntmps44
  go_wp2_with fail
  go_loop [2, 7] (fun u i => ∃ k : Nat, k ≤ n ∧ i = .int .i64 k ∧ u = .int .u64 (valL (bs.take k) : Int)) (fun _ i => n - (intOf i).toNat)
  case atStart => exact ⟨0, Nat.zero_le _, rfl, rfl⟩
  case round =>
    obtain ⟨k, hk, rfl, rfl⟩ := hrel
    by_cases hlt : k < n
    · have hkb : k < bs.length := by rw [HN.out]; exact hlt
      obtain ⟨ad, had, hc0⟩ := byte_at HA.out hkb
      subst had
      have hlt2 := valL_lt bs k (by omega)
      have hst := valL_take bs hkb
      obtain ⟨x, hx⟩ : ∃ x, valL (bs.take k) = x := ⟨_, rfl⟩
      obtain ⟨y, hy⟩ : ∃ y, bs[k].toNat = y := ⟨_, rfl⟩
      have hy8 := UInt8.toNat_lt bs[k]
      rw [hx] at hst hlt2 ⊢
      rw [hy] at hst hc0 hy8
      have hx56 : x < 72057594037927936 := Nat.lt_of_lt_of_le hlt2 (Nat.le_trans (Nat.pow_le_pow_right (by decide) (show k ≤ 7 by omega)) (by decide))
      have HST := Lib.hid hst
      clear hst hx hy hlt2
      go_wp2_with fail
      have hor : bits .or .u64 ((x : Int) * 256) (y : Int) = ((x * 256 + y : Nat) : Int) := or256 (by omega) (by omega)
      go_round
      case rel => exact ⟨k + 1, hlt, by go_num, by rw [HST.out, hor]⟩
      case measure => simp [intOf]; omega
    · obtain rfl : k = n := by omega
      have he : bs.take k = bs := List.take_of_length_le (by rw [HN.out]; exact Nat.le_refl _)
      rw [he]
      clear he
      go_wp2_with fail
      go_ret
      exact ⟨rfl, rfl⟩
/-- So many bytes of a number, the highest first. -/
def numL (n many : Nat) : List UInt8 := (List.range many).map fun j => UInt8.ofNat (n / 256 ^ (many - 1 - j))
theorem numL_len (n many : Nat) : (numL n many).length = many := by unfold numL; rw [List.length_map, List.length_range]
/-- A row of bytes that grew. -/
structure Grew (w : World) (v : Value) (base n : Nat) (xs : List Value) (v' : Value) (w' : World) : Prop where
  own : w'.ownsRow base 5 1 v' n xs
  fr : Fr v.ownBlock.toList w w'
  at_ : v'.ownBlock = v.ownBlock ∨ ∃ k, v'.ownBlock = some k ∧ w.heap.size ≤ k
theorem Grew.trans {w w1 w2 : World} {v v1 v2 : Value} {base n n2 : Nat} {xs xs2 : List Value} (h : Grew w v base n xs v1 w1) (h2 : Grew w1 v1 base n2 xs2 v2 w2) : Grew w v base n2 xs2 v2 w2 :=
  ⟨h2.own, h.fr.trans h2.fr fun i hi hl => by
    rcases h.at_ with e | ⟨k, e, hk⟩
    · rw [← e]; exact hi
    · rw [e] at hi
      simp at hi
      omega, by
    rcases h2.at_ with e | ⟨k, e, hk⟩
    · rcases h.at_ with e1 | ⟨k, e1, hk⟩
      · exact .inl (e.trans e1)
      · exact .inr ⟨k, e.trans e1, hk⟩
    · exact .inr ⟨k, e, Nat.le_trans h.fr.size hk⟩⟩
theorem Grew.refl {w : World} {v : Value} {base n : Nat} {xs : List Value} (h : w.ownsRow base 5 1 v n xs) : Grew w v base n xs v w := ⟨h, Fr.refl _ _, .inl rfl⟩
theorem grew_one {w w1 w3 : World} {v v3 : Value} {base n : Nat} {xs : List Value} (hb : Below w.heap.size w w1) (ho : w3.ownsRow base 5 1 v3 n xs) (hg : w1.grownBy w3 v.ownBlock) (hat : v3.ownBlock = v.ownBlock ∨ v3.ownBlock = some w1.heap.size) : Grew w v base n xs v3 w3 :=
  ⟨ho, (Fr.below hb).and (Fr.grown hg fun k hk _ => by rw [hk]; simp), hat.imp id fun e => ⟨_, e, hb.size⟩⟩
set_option maxRecDepth 100000 in
set_option maxHeartbeats 2000000 in
theorem number_any {base k : Nat} {v : Value} {xs : List Value} {w : World} (hv : w.ownsRow base 5 1 v k xs) (hk : k ≤ 1000000000) (hbase : base ≤ w.heap.size) (n many : Nat) (hn : n < 9223372036854775808) (hm : many ≤ 8) :
    Calls Try.prog 27 #[v, .int .i64 (n : Int), .int .i64 (many : Int)] w fun e w' => ∃ v', e = .returned v' ∧ Grew w v base (k + many) (xs ++ bv (numL n many)) v' w' := by
  obtain ⟨A0, c0, hv0, -, -⟩ := own_shape hv
  subst hv0
  have HV := Lib.hid hv
  have HBS := Lib.hid hbase
  clear hv hbase
  go_enter Try.func27, Try.ntmps27
  go_wp2_with fail
  go_loopw [0, 7] (fun u i wr => ∃ j : Nat, j ≤ many ∧ i = .int .i64 ((many : Int) - 1 - j) ∧ Grew w (.slice A0 k c0) base (k + j) (xs ++ bv ((numL n many).take j)) u wr) (fun _ i _ => (intOf i + 1).toNat)
  case atStart => exact ⟨0, Nat.zero_le _, by simp, by simpa [bv] using Grew.refl HV.out⟩
  case round =>
    obtain ⟨j, hj, rfl, hg⟩ := hrel
    obtain ⟨Au, cu, hu, -, -⟩ := own_shape hg.own
    subst hu
    have HG := Lib.hid hg
    clear hg
    by_cases hlt : j < many
    · have hge : ((many : Int) - 1 - j) ≥ 0 := by omega
      obtain ⟨t, ht⟩ : ∃ t : Nat, many - 1 - j = t := ⟨_, rfl⟩
      have hti : ((many : Int) - 1 - j) = (t : Int) := by omega
      have ht7 : t ≤ 7 := by omega
      rw [hti]
      have hst : (numL n many).take (j + 1) = (numL n many).take j ++ [UInt8.ofNat (n / 256 ^ t)] := by
        rw [← List.take_append_getElem (by rw [numL_len]; exact hlt)]
        unfold numL
        rw [List.getElem_map, List.getElem_range, ht]
      obtain ⟨z, hz⟩ : ∃ z : Int, (n : Int) / 2 ^ (8 * t) % 256 = z := ⟨_, rfl⟩
      have hbz : Value.int .u8 ((UInt8.ofNat (n / 256 ^ t)).toNat : Int) = .int .u8 z := by
        rw [← hz, UInt8.toNat_ofNat', show (256 : Nat) ^ t = 2 ^ (8 * t) by rw [Nat.pow_mul]]
        congr 1
      have hcn := fresh_cells wr #[.int .u8 z] 5
      have HCN := Lib.hid hcn
      have hb1 : Below wr.heap.size wr (wr.alloc (.cells #[.int .u8 z] 5)) := (Below.refl _ _).alloc (Nat.le_refl _) _
      have HB1 := Lib.hid hb1
      have HO1 := Lib.hid (own_below HG.out.own hb1)
      have HS1 := Lib.hid (Nat.le_trans HBS.out (Nat.le_trans HG.out.fr.size hb1.size))
      have H1 : ∀ u ∈ [Value.int .u8 z], u.oneCell' = true := by
        intro u hu
        simp only [List.mem_cons, List.not_mem_nil, or_false] at hu
        subst hu; rfl
      have H1 := Lib.hid H1
      have HST := Lib.hid hst
      have HBZ := Lib.hid hbz
      have HT := Lib.hid ht
      clear hti hge hst hcn hb1 hbz ht
      obtain ⟨kj, hkj⟩ : ∃ kj, k + j = kj := ⟨_, rfl⟩
      have hkl : kj ≤ 1000000008 := by omega
      rw [hkj] at HO1 HG ⊢
      have HKJ := Lib.hid hkj
      clear hkj
      go_wp2_with (at_builtin; go_must (refine wpList_appk slU8 rfl _ _ rfl base (.slice Au kj cu) kj _ rfl HO1.out (some ⟨wr.heap.size, 0, none⟩) 1 1 [Value.int .u8 z] rfl rfl HCN.out H1.out (by omega) (by omega) HS1.out ?_); intro v3 w3 hown3 hg3 hb3 hat3)
      have hgr := HG.out.trans (grew_one HB1.out hown3 hg3 hat3)
      have HGR := Lib.hid hgr
      clear hown3 hg3 hb3 hat3 hgr
      go_roundw
      case rel =>
        refine ⟨j + 1, hlt, by rw [show ((t : Int) - 1) = (many : Int) - 1 - ((j + 1 : Nat) : Int) from by have := HT.out; omega], ?_⟩
        have h1 := HGR.out
        rw [← HKJ.out, ← HBZ.out] at h1
        rw [HST.out]
        unfold bv at h1 ⊢
        rw [List.map_append, ← List.append_assoc]
        exact h1
      case measure => simp [intOf] <;> omega
    · obtain rfl : j = many := by omega
      have hge : ¬ ((j : Int) - 1 - j) ≥ 0 := by omega
      go_wp2_with fail
      go_ret
      refine ⟨_, rfl, ?_⟩
      have h1 := HG.out
      rw [List.take_of_length_le (by rw [numL_len]; exact Nat.le_refl _)] at h1
      exact h1
end Go.Proofs.Ytladknjmoahdoaa

set_option linter.all false
namespace Go.Proofs.Ytladknjmoahdoaa
open Go.RowKit

def idx {α : Type} (p : α → Bool) (l : List α) : Int := match l.findIdx? p with | some i => i | none => -1
theorem idx_hit {α : Type} {p : α → Bool} {l : List α} {k : Nat} (hk : k < l.length) (hp : p l[k] = true) (h : ∀ j (hj : j < l.length), j < k → p l[j] = false) : idx p l = k := by
  have : l.findIdx? p = some k := by
    rw [List.findIdx?_eq_some_iff_getElem]
    exact ⟨hk, hp, fun j hj => by rw [h j (by omega) hj]; simp⟩
  unfold idx
  rw [this]
theorem idx_miss {α : Type} {p : α → Bool} {l : List α} (h : ∀ j (hj : j < l.length), p l[j] = false) : idx p l = -1 := by
  have : l.findIdx? p = none := by
    rw [List.findIdx?_eq_none_iff]
    intro x hx
    obtain ⟨j, hj, rfl⟩ := List.getElem_of_mem hx
    exact h j hj
  unfold idx
  rw [this]
theorem idx_any {α : Type} (p : α → Bool) (l : List α) : (decide (idx p l ≥ 0)) = l.any p := by
  unfold idx
  cases h : l.findIdx? p with
  | none =>
    rw [List.findIdx?_eq_none_iff] at h
    have : l.any p = false := by rw [List.any_eq_false]; intro x hx; rw [h x hx]; simp
    rw [this]; rfl
  | some i =>
    rw [List.findIdx?_eq_some_iff_getElem] at h
    obtain ⟨hi, hb, -⟩ := h
    have : l.any p = true := List.any_eq_true.2 ⟨l[i], List.getElem_mem _, hb⟩
    rw [this]; simp
/-- Is a byte not nought? -/
def oddB (b : UInt8) : Bool := decide (b ≠ 0)
theorem oddB_int (b : UInt8) : oddB b = decide (¬ (b.toNat : Int) = 0) := by
  unfold oddB
  rw [decide_eq_decide]
  constructor
  · intro h e
    exact h (UInt8.toNat_inj.1 (by simpa using e))
  · rintro h rfl
    exact h rfl
theorem read1_any (b : UInt8) (w : World) : Calls Try.prog 46 #[.int .u8 (b.toNat : Int)] w fun e w' => e = .returned (.bool (oddB b)) ∧ w = w' := by
  have HB := Lib.hid (oddB_int b)
  obtain ⟨y, hy⟩ : ∃ y, b.toNat = y := ⟨_, rfl⟩
  rw [hy] at HB ⊢
  clear hy
  go_enter Try.func46, Try.ntmps46
  go_wp2_with fail
  go_ret
  refine ⟨ret_bool ?_, rfl⟩
  rw [HB.out]
  by_cases h : y = 0
  · subst h; rfl
  · have h2 : ¬ (y : Int) = 0 := by omega
    simp [h, bne]
set_option maxRecDepth 100000 in
set_option maxHeartbeats 4000000 in
theorem idxB_any (bs : List UInt8) (A : Option Addr) (n c : Nat) (w : World) (hl : bs.length = n) (hn : n ≤ 1000000000) (hA : Cells w A (bv bs)) :
    Calls Try.prog 52 #[.slice A n c, .func (.func 46) #[] #[]] w fun e w' => e = .returned (.int .i64 (idx oddB bs)) ∧ w = w' := by
  have HA := Lib.hid hA
  have HL := Lib.hid hl
  clear hA hl
  go_enter Try.func52, Try.ntmps52
  go_wp2_with fail
  go_loop [8] (fun i => ∃ k : Nat, k ≤ n ∧ i = .int .i64 k ∧ ∀ j (hj : j < bs.length), j < k → oddB bs[j] = false) (fun i => n - (intOf i).toNat)
  case atStart => exact ⟨0, Nat.zero_le _, rfl, fun j _ h => by omega⟩
  case round =>
    obtain ⟨k, hk, rfl, hall⟩ := hrel
    have HALL := Lib.hid hall; clear hall
    by_cases hlt : k < n
    · have hkb : k < bs.length := by rw [HL.out]; exact hlt
      obtain ⟨ad, rfl, hc0⟩ := byte_at HA.out hkb
      have hcall := read1_any bs[k] w
      obtain ⟨b, hb⟩ : ∃ b, oddB bs[k] = b := ⟨_, rfl⟩
      rw [hb] at hcall
      have HB := Lib.hid hb
      obtain ⟨y, hy⟩ : ∃ y, bs[k].toNat = y := ⟨_, rfl⟩
      rw [hy] at hcall hc0
      have HC := Lib.hid hcall
      clear hb hy hcall
      go_wp2_with fail
      refine HC.out.mono ?_
      rintro e w' ⟨rfl, rfl⟩
      cases b with
      | true =>
        have HI := Lib.hid (idx_hit hkb HB.out HALL.out)
        go_wp2_with fail
        go_ret
        rw [HI.out]
        exact ⟨rfl, rfl⟩
      | false =>
        go_wp2_with fail
        go_round
        case rel =>
          refine ⟨k + 1, hlt, by go_num, fun j hj hjk => ?_⟩
          rcases Nat.lt_or_ge j k with h | h
          · exact HALL.out j hj h
          · obtain rfl : j = k := by omega
            exact HB.out
        case measure => simp [intOf]; omega
    · have HI := Lib.hid (idx_miss fun j hj => HALL.out j hj (by have := HL.out; omega))
      go_wp2_with fail
      go_ret
      rw [HI.out]
      exact ⟨rfl, rfl⟩
theorem containsB_any (bs : List UInt8) (A : Option Addr) (n c : Nat) (w : World) (hl : bs.length = n) (hn : n ≤ 1000000000) (hA : Cells w A (bv bs)) :
    Calls Try.prog 45 #[.slice A n c, .func (.func 46) #[] #[]] w fun e w' => e = .returned (.bool (bs.any oddB)) ∧ w = w' := by
  have HC := Lib.hid (idxB_any bs A n c w hl hn hA)
  have HI := Lib.hid (idx_any oddB bs)
  obtain ⟨x, hx⟩ : ∃ x, idx oddB bs = x := ⟨_, rfl⟩
  rw [hx] at HC HI
  clear hx hA hl
  go_enter Try.func45, Try.ntmps45
  go_wp2_with fail
  refine HC.out.mono ?_
  rintro e w' ⟨rfl, rfl⟩
  go_wp2_with fail
  go_ret
  exact ⟨ret_bool HI.out, rfl⟩
/-- A copy of bytes. -/
structure CopyB (w : World) (bs : List UInt8) (v : Value) (w' : World) : Prop where
  own : w'.ownsRow w.heap.size 5 1 v bs.length (bv bs)
  below : Below w.heap.size w w'
theorem own_emptyB (w : World) (E : TypeId) (k : Nat) : (w.alloc (.cells #[] E)).ownsRow w.heap.size E k (.slice (some ⟨w.heap.size, 0, none⟩) 0 0) 0 [] :=
  ⟨by simp, .inr ⟨w.heap.size, 0, #[], rfl, Nat.le_refl _, Go.heap_alloc_new w _, Nat.le_refl _, by decide, by simp, by simp⟩⟩
set_option maxRecDepth 100000 in
set_option maxHeartbeats 1000000 in
theorem cloneB_any (bs : List UInt8) (A : Option Addr) (n c : Nat) (w : World) (hl : bs.length = n) (hn : n ≤ 1000000000) (hA : Cells w A (bv bs)) :
    Calls Try.prog 26 #[.slice A n c] w fun e w' => ∃ v', e = .returned v' ∧ CopyB w bs v' w' := by
  have hq := fun (w : World) (a : Option Addr) (l c : Nat) => Go.run_eql_slice_nil (P := Try.prog) w 30 5 a l c Try.underlying30
  cases A with
  | none =>
    have hn0 : n = 0 := by
      rcases Nat.eq_zero_or_pos n with h | h
      · exact h
      · obtain ⟨ad, h2, -⟩ := hA (by rw [bv_length]; omega)
        cases h2
    subst hn0
    have hb : bs = [] := List.eq_nil_of_length_eq_zero hl
    subst hb
    have hfin : CopyB w [] (.slice none 0 0) w := ⟨World.ownsRow_nil _ _ _ _, Below.refl _ _⟩
    have HF := Lib.hid hfin
    clear hfin hl hA
    go_enter Try.func26, Try.ntmps26
    go_wp2
    go_ret
    exact ⟨_, rfl, HF.out⟩
  | some ad =>
    have h1 := own_emptyB w 5 1
    have HL := Lib.hid (show (bv bs).length = n * 1 by rw [bv_length, hl, Nat.mul_one])
    have HLB := Lib.hid hl
    have H1 := Lib.hid (bv_one bs)
    have HA := Lib.hid (Cells.alloc hA (.cells #[] 5))
    clear hA hl
    have hsz : w.heap.size ≤ (w.alloc (.cells #[] 5)).heap.size := by simp
    have HSZ := Lib.hid hsz; clear hsz
    go_enter Try.func26, Try.ntmps26
    go_wp2_with (at_builtin; refine wpList_appk slU8 rfl _ _ rfl w.heap.size _ 0 [] rfl h1 (some ad) n c (bv bs) rfl HL.out HA.out H1.out (by omega) (by omega) HSZ.out ?_; intro v' w1 hown hg hb hat)
    go_ret
    rw [Nat.zero_add, List.nil_append, ← HLB.out] at hown
    exact ⟨v', rfl, hown, ((Below.refl _ _).alloc (Nat.le_refl _) _).trans hb⟩
end Go.Proofs.Ytladknjmoahdoaa

set_option linter.all false
namespace Go.Proofs.Ytladknjmoahdoaa
open Go.RowKit

/-- A row of entries, as bytes. -/
def rowL (es : List (List UInt8)) : List UInt8 := es.flatMap fun e => numL e.length 4 ++ e
/-- The entries of a row; none: it is no row. -/
def parseF : Nat → List UInt8 → Option (List (List UInt8))
  | 0, row => if row = [] then some [] else none
  | f + 1, row => if row.length < 4 then (if row = [] then some [] else none) else if row.length - 4 < valL (row.take 4) then none else (parseF f (row.drop (4 + valL (row.take 4)))).map fun es => (row.drop 4).take (valL (row.take 4)) :: es
def parseL (row : List UInt8) : Option (List (List UInt8)) := parseF row.length row
theorem parseF_fuel : ∀ (f g : Nat) (row : List UInt8), row.length ≤ f → row.length ≤ g → parseF f row = parseF g row
  | 0, 0, _, _, _ => rfl
  | 0, g + 1, row, h, _ => by
    have h0 : row = [] := List.eq_nil_of_length_eq_zero (by omega)
    subst h0; rfl
  | f + 1, 0, row, _, h => by
    have h0 : row = [] := List.eq_nil_of_length_eq_zero (by omega)
    subst h0; rfl
  | f + 1, g + 1, row, h1, h2 => by
    unfold parseF
    split
    · rfl
    · split
      · rfl
      · rw [parseF_fuel f g _ (by rw [List.length_drop]; omega) (by rw [List.length_drop]; omega)]
theorem parseL_short {row : List UInt8} (h : row.length < 4) : parseL row = if row = [] then some [] else none := by
  unfold parseL
  cases hl : row.length with
  | zero => rfl
  | succ n =>
    unfold parseF
    rw [if_pos h]
theorem parseL_long {row : List UInt8} (h : 4 ≤ row.length) : parseL row = if row.length - 4 < valL (row.take 4) then none else (parseL (row.drop (4 + valL (row.take 4)))).map fun es => (row.drop 4).take (valL (row.take 4)) :: es := by
  conv => lhs; unfold parseL
  obtain ⟨n, hn⟩ : ∃ n, row.length = n + 1 := ⟨row.length - 1, by omega⟩
  conv => lhs; rw [hn]
  unfold parseF
  rw [if_neg (by omega)]
  split
  · rfl
  · unfold parseL
    rw [parseF_fuel n (row.drop (4 + valL (row.take 4))).length _ (by rw [List.length_drop]; omega) (Nat.le_refl _)]
/-- Pages in a row, as bytes. -/
def flatB (ps : List PageT) : List UInt8 := ps.flatMap PageT.b
theorem flatB_len (ps : List PageT) : (flatB ps).length = ps.length * 256 := by
  induction ps with
  | nil => rfl
  | cons p ps ih =>
    show (p.b ++ flatB ps).length = _
    rw [List.length_append, p.len, ih, List.length_cons]
    omega
theorem flatB_take (ps : List PageT) {k : Nat} (hk : k < ps.length) : flatB (ps.take (k + 1)) = flatB (ps.take k) ++ ps[k].b := by
  rw [← List.take_append_getElem hk]
  unfold flatB
  rw [List.flatMap_append]
  simp
/-- What a head's page says. -/
structure HeadT where
  long : Nat
  count : Nat
  odd : Bool
def headP (p : PageT) : HeadT := ⟨valL (p.b.take 8), valL ((p.b.drop 8).take 8), (p.b.drop 16).any oddB⟩
/-- A log as it was read: its row, its entries. -/
structure ReadT where
  long : Nat
  row : List UInt8
  es : List (List UInt8)
def bodyL (long : Nat) (rest : List PageT) : List UInt8 := (flatB (rest.take ((long + 255) / 256))).take long
def badH (h : HeadT) (pages : Nat) : Bool := h.odd || decide (65536 < h.count) || decide (pages * 256 < h.long)
def readL : List PageT → Option ReadT
  | [] => none
  | p :: rest =>
    if badH (headP p) rest.length = true then none
    else match parseL (bodyL (headP p).long rest) with
      | none => none
      | some es => if es.length = (headP p).count then some ⟨(headP p).long, bodyL (headP p).long rest, es⟩ else none
theorem bodyL_len {long : Nat} {rest : List PageT} (h : long ≤ rest.length * 256) : (bodyL long rest).length = long := by
  unfold bodyL
  rw [List.length_take, flatB_len, List.length_take]
  omega
/-- The bytes behind the last whole page. -/
def tailL (row : List UInt8) : List UInt8 := row.drop (row.length / 256 * 256)
theorem tailL_len (row : List UInt8) : (tailL row).length = row.length % 256 := by
  unfold tailL
  rw [List.length_drop]
  omega
/-! Numbers there and back -/
theorem valL_num (n many : Nat) (h : n < 256 ^ many) : valL (numL n many) = n := by
  have key : ∀ k, k ≤ many → valL ((numL n many).take k) = n / 256 ^ (many - k) := by
    intro k
    induction k with
    | zero => intro _; rw [Nat.sub_zero, Nat.div_eq_of_lt h]; rfl
    | succ k ih =>
      intro hk
      have hkl : k < (numL n many).length := by rw [numL_len]; omega
      rw [valL_take _ hkl, ih (by omega)]
      have hg : (numL n many)[k].toNat = n / 256 ^ (many - 1 - k) % 256 := by
        have h8 : (numL n many)[k]? = some (UInt8.ofNat (n / 256 ^ (many - 1 - k))) := by
          unfold numL
          rw [List.getElem?_map, List.getElem?_range (by omega)]
          rfl
        rw [List.getElem?_eq_getElem hkl] at h8
        injection h8 with h8
        rw [h8, UInt8.toNat_ofNat']
      rw [hg, show many - (k + 1) = many - 1 - k by omega, show many - k = (many - 1 - k) + 1 by omega, Nat.pow_succ, ← Nat.div_div_eq_div_mul]
      exact Nat.div_add_mod' _ _
  have h1 := key many (Nat.le_refl _)
  rw [List.take_of_length_le (by rw [numL_len]; exact Nat.le_refl _), Nat.sub_self, Nat.pow_zero, Nat.div_one] at h1
  exact h1
/-- A row that was written is read again. -/
theorem parse_row : ∀ es : List (List UInt8), (∀ e ∈ es, e.length < 4294967296) → parseL (rowL es) = some es
  | [], _ => rfl
  | e :: es, h => by
    have ih := parse_row es fun x hx => h x (List.mem_cons_of_mem _ hx)
    have he := h e (List.mem_cons_self ..)
    have hr : rowL (e :: es) = numL e.length 4 ++ (e ++ rowL es) := by
      show (numL e.length 4 ++ e) ++ rowL es = _
      rw [List.append_assoc]
    have hl4 : (numL e.length 4).length = 4 := numL_len _ _
    have hv : valL (numL e.length 4) = e.length := valL_num _ _ (by omega)
    rw [hr, parseL_long (by rw [List.length_append, hl4]; omega), List.take_left' hl4, hv, if_neg (by rw [List.length_append, List.length_append, hl4]; omega)]
    have h1 : (numL e.length 4 ++ (e ++ rowL es)).drop (4 + e.length) = rowL es := by
      rw [← List.append_assoc, List.drop_left' (by rw [List.length_append, hl4])]
    have h2 : ((numL e.length 4 ++ (e ++ rowL es)).drop 4).take e.length = e := by
      rw [List.drop_left' hl4, List.take_left' rfl]
    rw [h1, h2, ih]
    rfl
theorem rowL_append (a b : List (List UInt8)) : rowL (a ++ b) = rowL a ++ rowL b := by unfold rowL; rw [List.flatMap_append]
end Go.Proofs.Ytladknjmoahdoaa

set_option linter.all false
namespace Go.Proofs.Ytladknjmoahdoaa
open Go.RowKit

/-- What a log in memory holds. -/
structure LogT where
  long : Nat
  count : Nat
  tail : List UInt8
  broken : Int
def ofRead (r : ReadT) : LogT := ⟨r.long, r.es.length, tailL r.row, 0⟩
def readLog (d : DiskT) (name : ByteArray) : Option ReadT := (mget d.files name).bind fun f => readL f.now
def startL (d : DiskT) (name : ByteArray) : Int × DiskT := if (lenD d name).1 = 91 then createD d name else ((lenD d name).1, d)
def firstL (d : DiskT) (name : ByteArray) : Int × DiskT := if (writeD d name 0 []).1 = 0 then syncD (writeD d name 0 []).2 name else writeD d name 0 []
def beginL (d : DiskT) (name : ByteArray) : Int × DiskT := if (startL d name).1 = 0 ∧ (lenD d name).2 = 0 then firstL (startL d name).2 name else startL d name
/-- What Open tells: the error, the disk, what was read. -/
def openL (d : DiskT) (name : ByteArray) : Int × DiskT × Option ReadT :=
  if (beginL d name).1 = 0 then
    match readLog (beginL d name).2 name with
    | none => (100, (beginL d name).2, none)
    | some r => (0, (beginL d name).2, some r)
  else ((beginL d name).1, (beginL d name).2, none)
/-- A head, as bytes. -/
def headB (long count : Nat) : List UInt8 := numL long 8 ++ numL count 8
theorem headB_len (long count : Nat) : (headB long count).length = 16 := by unfold headB; rw [List.length_append, numL_len, numL_len]
/-- What Append writes, as far as the first error. -/
def pagesL (d : DiskT) (name : ByteArray) (long : Nat) (b : List UInt8) : Int × DiskT := writesD d name (long / 256 + 1) b ((b.length + 255) / 256)
def sync1L (d : DiskT) (name : ByteArray) (long : Nat) (b : List UInt8) : Int × DiskT := if (pagesL d name long b).1 = 0 then syncD (pagesL d name long b).2 name else pagesL d name long b
def headL (d : DiskT) (name : ByteArray) (long : Nat) (b : List UInt8) (long' count' : Nat) : Int × DiskT := if (sync1L d name long b).1 = 0 then writeD (sync1L d name long b).2 name 0 (headB long' count') else sync1L d name long b
def allL (d : DiskT) (name : ByteArray) (long : Nat) (b : List UInt8) (long' count' : Nat) : Int × DiskT := if (headL d name long b long' count').1 = 0 then syncD (headL d name long b long' count').2 name else headL d name long b long' count'
def tooBig (es : List (List UInt8)) : Bool := es.any fun e => decide (32768 < e.length)
/-- What Append tells: the error, the disk, the log. -/
def appendL (d : DiskT) (name : ByteArray) (l : LogT) (es : List (List UInt8)) : Int × DiskT × LogT :=
  if l.broken ≠ 0 ∨ es = [] then (l.broken, d, l)
  else if tooBig es = true ∨ 65536 < l.count + es.length then (3, d, l)
  else
    let b := l.tail ++ rowL es
    let r := allL d name l.long b (l.long - l.tail.length + b.length) (l.count + es.length)
    if r.1 = 0 then (0, r.2, ⟨l.long - l.tail.length + b.length, l.count + es.length, b.drop (b.length - (l.long - l.tail.length + b.length) % 256), 0⟩)
    else (r.1, r.2, { l with broken := r.1 })
/-! What a call that went well leaves -/
theorem stepsD_ok {d : DiskT} {f : DiskT → DiskT} (h : (stepsD d f).1 = 0) : (stepsD d f).2 = f (stepD d).2 ∧ (stepD d).1 = true := by
  unfold stepsD at h ⊢
  split at h
  · rename_i hs
    rw [if_pos hs]; exact ⟨rfl, hs⟩
  · cases h
theorem find_off {d : DiskT} {name : ByteArray} {f : FileT} (h : findD d name = .inr f) : d.off = false := by
  unfold findD at h
  split at h
  · cases h
  · rename_i hn
    simpa using hn
theorem lay_cons (l : List PageT) (k : Nat) (p : PageT) : layP l k p ≠ [] := fun h => by
  have := layP_len l k p
  rw [h] at this
  simp at this
  omega
theorem create_ok {d : DiskT} {name : ByteArray} (h : (createD d name).1 = 0) : (createD d name).2.off = false ∧ mget (createD d name).2.files name = some file0 := by
  unfold createD at h ⊢
  split at h
  · cases h
  split at h
  · cases h
  split at h
  · cases h
  split at h
  · cases h
  rename_i h1 h2 h3 h4
  rw [if_neg h1, if_neg h2, if_neg h3, if_neg h4]
  obtain ⟨e, hs⟩ := stepsD_ok h
  rw [e]
  exact ⟨(stepD_off hs).trans (by simpa using h1), mget_mset_same _ _ _⟩
theorem write_ok {d : DiskT} {name : ByteArray} {at_ : Int} {b : List UInt8} (h : (writeD d name at_ b).1 = 0) : (writeD d name at_ b).2.off = false ∧ ∃ f g, findD d name = .inr f ∧ mget (writeD d name at_ b).2.files name = some g ∧ g.now = layP f.now at_.toNat (padP b) := by
  unfold writeD at h ⊢
  cases hf : findD d name with
  | inl e =>
    rw [hf] at h
    exfalso
    unfold findD at hf
    split at hf
    · injection hf with hf; subst hf; cases h
    · split at hf
      · injection hf with hf; subst hf; cases h
      · cases hf
  | inr f =>
    rw [hf] at h
    dsimp only at h ⊢
    split at h
    · cases h
    split at h
    · cases h
    split at h
    · cases h
    rename_i h1 h2 h3
    rw [if_neg h1, if_neg h2, if_neg h3]
    obtain ⟨e, hs⟩ := stepsD_ok h
    rw [e]
    exact ⟨(stepD_off hs).trans (find_off hf), f, _, rfl, mget_mset_same _ _ _, rfl⟩
theorem sync_ok {d : DiskT} {name : ByteArray} (h : (syncD d name).1 = 0) : (syncD d name).2.off = false ∧ ∃ f, findD d name = .inr f ∧ mget (syncD d name).2.files name = some ⟨f.now, f.now, []⟩ := by
  unfold syncD at h ⊢
  cases hf : findD d name with
  | inl e =>
    rw [hf] at h
    exfalso
    unfold findD at hf
    split at hf
    · injection hf with hf; subst hf; cases h
    · split at hf
      · injection hf with hf; subst hf; cases h
      · cases hf
  | inr f =>
    rw [hf] at h
    dsimp only at h ⊢
    obtain ⟨e, hs⟩ := stepsD_ok h
    rw [e]
    exact ⟨(stepD_off hs).trans (find_off hf), f, rfl, mget_mset_same _ _ _⟩
theorem find_of {d : DiskT} {name : ByteArray} {f : FileT} (h1 : d.off = false) (h2 : mget d.files name = some f) : findD d name = .inr f := by
  unfold findD
  rw [if_neg (by rw [h1]; simp), h2]
/-- A file that Open may read. -/
structure Ready (d : DiskT) (name : ByteArray) (n : Nat) : Prop where
  off : d.off = false
  file : ∃ f p0 rest, mget d.files name = some f ∧ f.now = p0 :: rest ∧ rest.length + 1 = n
theorem first_ok {d : DiskT} {name : ByteArray} {f : FileT} (hf : findD d name = .inr f) (h0 : f.now = []) (h : (firstL d name).1 = 0) : Ready (firstL d name).2 name 1 := by
  unfold firstL at h ⊢
  split at h
  · rename_i hw
    rw [if_pos hw]
    obtain ⟨hoff, f1, g, hf1, hg, hgn⟩ := write_ok hw
    rw [hf] at hf1
    injection hf1 with hf1
    subst hf1
    obtain ⟨hoff2, f2, hf2, hg2⟩ := sync_ok h
    have h3 := findD_get hf2
    rw [hg] at h3
    injection h3 with h3
    subst h3
    refine ⟨hoff2, _, padP [], [], hg2, ?_, rfl⟩
    show g.now = _
    rw [hgn, h0]; rfl
  · contradiction
theorem begin_ok {d : DiskT} {name : ByteArray} (h : (beginL d name).1 = 0) : Ready (beginL d name).2 name (if (lenD d name).2 = 0 then 1 else (lenD d name).2) := by
  have hlen : ∀ f, findD d name = .inr f → lenD d name = (0, f.now.length) := fun f hf => by unfold lenD; rw [hf]
  unfold beginL at h ⊢
  cases hf : findD d name with
  | inr f =>
    have hl := hlen f hf
    have hst : startL d name = (0, d) := by
      unfold startL
      rw [hl]; rfl
    rw [hst, hl] at h ⊢
    dsimp only at h ⊢
    by_cases h0 : f.now.length = 0
    · rw [if_pos ⟨rfl, h0⟩] at h ⊢
      rw [if_pos h0]
      exact first_ok hf (List.eq_nil_of_length_eq_zero h0) h
    · rw [if_neg (fun hh => h0 hh.2)] at h ⊢
      rw [if_neg h0]
      obtain ⟨p0, rest, hp⟩ : ∃ p0 rest, f.now = p0 :: rest := by
        cases hn : f.now with
        | nil => rw [hn] at h0; exact absurd rfl h0
        | cons p r => exact ⟨p, r, rfl⟩
      exact ⟨find_off hf, f, p0, rest, findD_get hf, hp, by rw [hp]; rfl⟩
  | inl e =>
    have hl : lenD d name = (e, 0) := by unfold lenD; rw [hf]
    rw [hl] at h ⊢
    dsimp only at h ⊢
    rw [if_pos rfl]
    have he : e = 7 ∨ e = 91 := by
      unfold findD at hf
      split at hf
      · injection hf with hf; exact .inl hf.symm
      · split at hf
        · injection hf with hf; exact .inr hf.symm
        · cases hf
    rcases he with rfl | rfl
    · have hst : startL d name = (7, d) := by
        unfold startL
        rw [hl]; rfl
      rw [hst] at h
      simp at h
    · have hst : startL d name = createD d name := by
        unfold startL
        rw [hl]; rfl
      rw [hst] at h ⊢
      by_cases hc : (createD d name).1 = 0
      · rw [if_pos ⟨hc, rfl⟩] at h ⊢
        obtain ⟨h1, h2⟩ := create_ok hc
        exact first_ok (find_of h1 h2) rfl h
      · rw [if_neg (fun hh => hc hh.1)] at h
        exact absurd h hc
/-! How many steps; what holds of the disk -/
theorem start_inv {d : DiskT} (h : Inv d) (name : ByteArray) : Inv (startL d name).2 := by
  unfold startL
  split
  · exact h.createD' name
  · exact h
theorem start_steps (d : DiskT) (name : ByteArray) : (startL d name).2.steps ≤ d.steps + 1 := by
  unfold startL
  split
  · exact create_steps d name
  · exact Nat.le_succ _
theorem first_inv {d : DiskT} (h : Inv d) (name : ByteArray) : Inv (firstL d name).2 := by
  unfold firstL
  split
  · exact (h.writeD' name 0 []).syncD' name
  · exact h.writeD' name 0 []
theorem first_steps (d : DiskT) (name : ByteArray) : (firstL d name).2.steps ≤ d.steps + 2 := by
  unfold firstL
  have h1 := write_steps d name 0 []
  split
  · have h2 := sync_steps (writeD d name 0 []).2 name
    omega
  · omega
theorem begin_inv {d : DiskT} (h : Inv d) (name : ByteArray) : Inv (beginL d name).2 := by
  unfold beginL
  split
  · exact first_inv (start_inv h name) name
  · exact start_inv h name
theorem begin_steps (d : DiskT) (name : ByteArray) : (beginL d name).2.steps ≤ d.steps + 3 := by
  unfold beginL
  have h1 := start_steps d name
  split
  · have h2 := first_steps (startL d name).2 name
    omega
  · omega
theorem open_disk (d : DiskT) (name : ByteArray) : (openL d name).2.1 = (beginL d name).2 := by
  unfold openL
  split
  · split <;> rfl
  · rfl
theorem pages_inv {d : DiskT} (h : Inv d) (name : ByteArray) (long : Nat) (b : List UInt8) : Inv (pagesL d name long b).2 := writesD_inv h _ _ _ _
theorem pages_steps (d : DiskT) (name : ByteArray) (long : Nat) (b : List UInt8) : (pagesL d name long b).2.steps ≤ d.steps + (b.length + 255) / 256 := writesD_steps _ _ _ _ _
theorem sync1_inv {d : DiskT} (h : Inv d) (name : ByteArray) (long : Nat) (b : List UInt8) : Inv (sync1L d name long b).2 := by
  unfold sync1L
  split
  · exact (pages_inv h name long b).syncD' name
  · exact pages_inv h name long b
theorem sync1_steps (d : DiskT) (name : ByteArray) (long : Nat) (b : List UInt8) : (sync1L d name long b).2.steps ≤ d.steps + (b.length + 255) / 256 + 1 := by
  have h1 := pages_steps d name long b
  unfold sync1L
  split
  · have h2 := sync_steps (pagesL d name long b).2 name
    omega
  · omega
theorem head_inv {d : DiskT} (h : Inv d) (name : ByteArray) (long : Nat) (b : List UInt8) (l c : Nat) : Inv (headL d name long b l c).2 := by
  unfold headL
  split
  · exact (sync1_inv h name long b).writeD' name 0 _
  · exact sync1_inv h name long b
theorem head_steps (d : DiskT) (name : ByteArray) (long : Nat) (b : List UInt8) (l c : Nat) : (headL d name long b l c).2.steps ≤ d.steps + (b.length + 255) / 256 + 2 := by
  have h1 := sync1_steps d name long b
  unfold headL
  split
  · have h2 := write_steps (sync1L d name long b).2 name 0 (headB l c)
    omega
  · omega
theorem all_inv {d : DiskT} (h : Inv d) (name : ByteArray) (long : Nat) (b : List UInt8) (l c : Nat) : Inv (allL d name long b l c).2 := by
  unfold allL
  split
  · exact (head_inv h name long b l c).syncD' name
  · exact head_inv h name long b l c
theorem all_steps (d : DiskT) (name : ByteArray) (long : Nat) (b : List UInt8) (l c : Nat) : (allL d name long b l c).2.steps ≤ d.steps + (b.length + 255) / 256 + 3 := by
  have h1 := head_steps d name long b l c
  unfold allL
  split
  · have h2 := sync_steps (headL d name long b l c).2 name
    omega
  · omega
end Go.Proofs.Ytladknjmoahdoaa

set_option linter.all false
namespace Go.Proofs.Ytladknjmoahdoaa
open Go.RowKit Go

section
variable {P : Program} {md : Region.Mode} {ops : Array Oper} {Q : Exit → Act → World → Prop} {S : World → Prop} {n : Nat}
theorem wait_out (hn : ops.size ≤ n) (l : Array Bool) : n ∉ Region.ready md ops l := fun h => by
  obtain ⟨-, o, ho, -⟩ := mem_ready.1 h
  rw [Array.getElem?_eq_none hn] at ho
  cases ho
/-- Take number i first, where no operation spoils what the others rely on. -/
theorem anyG_take0 {i : Nat} {oi : Oper} {v : Value} {f : Nat} {l : Array Bool} {a : Act} {w : World} (hi : ops[i]? = some oi) (hn : decide (ops.size ≤ n) = true)
    (hs : Region.noSelect ops = true) (hf : Region.free md ops l i = true) (hr : (Region.ready md ops l).contains i = true)
    (hQ : ∀ c a w, Q (.panic c) (a.put oi.dst v) w → Q (.panic c) a w) (hy : YieldsIf P ops S oi v a) (hS : S w)
    (h : AnyG P md ops Q S n f (l.setIfInBounds i true) (a.put oi.dst v) w) : AnyG P md ops Q S n (f + 1) l a w := by
  have hn' := of_decide_eq_true hn
  have hil := (Array.getElem?_eq_some_iff.1 hi).1
  exact anyG_put hi (by omega) (Region.noSelect_spec hs) hQ (fun l _ => wait_out hn' l) f l a w (Region.free_spec hi hf) (by simpa using hr) hy hS h
end
theorem row_kind {w : World} {base : Nat} {E : TypeId} {k : Nat} {v : Value} {n : Nat} {xs : List Value} (h : w.ownsRow base E k v n xs) {g : Nat} (hg : v.ownBlock = some g) : ∃ cur, w.heap[g]? = some (.cells cur E) := by
  rcases h.2 with ⟨hv, -⟩ | ⟨g', cap, cur, hv, -, hh, -⟩
  · rw [hv] at hg; cases hg
  · rw [hv] at hg
    simp only [Value.ownBlock] at hg
    injection hg with hg
    subst hg
    exact ⟨cur, hh⟩
/-- Rows of bytes lie as they lay. -/
def U8Kept (w w' : World) : Prop := ∀ (g : Nat) (cur : Array Value) (fr : Nat × Nat), w.heap[g]? = some (Obj.cells cur 5 fr) → w'.heap[g]? = w.heap[g]?
theorem U8Kept.below {w w' : World} (h : Below w.heap.size w w') : U8Kept w w' := fun g cur fr hg => h.block g (lt_of_block hg)
theorem U8Kept.trans {w w1 w2 : World} (h : U8Kept w w1) (k : U8Kept w1 w2) : U8Kept w w2 := fun g cur fr hg => by
  have h1 := h g cur fr hg
  exact (k g cur fr (h1.trans hg)).trans h1
theorem U8Kept.fr {F : List Nat} {w w' : World} (h : Fr F w w') (hF : ∀ i ∈ F, ∀ (cur : Array Value) (fr : Nat × Nat), w.heap[i]? ≠ some (Obj.cells cur 5 fr)) : U8Kept w w' := fun g cur fr hg => h.block g (lt_of_block hg) fun hi => hF g hi cur fr hg
/-- Bytes in a row of bytes. -/
structure BytesAt (w : World) (A : Option Addr) (bs : List UInt8) : Prop where
  cells : Cells w A (bv bs)
  kind : ∀ ad, A = some ad → ∃ cur fr, w.heap[ad.block]? = some (.cells cur 5 fr)
theorem BytesAt.kept {w w' : World} {A : Option Addr} {bs : List UInt8} (h : BytesAt w A bs) (hk : U8Kept w w') : BytesAt w' A bs := by
  refine ⟨fun hn => ?_, fun ad e => ?_⟩
  · obtain ⟨ad, e, hc⟩ := h.cells hn
    obtain ⟨cur, fr, hb⟩ := h.kind ad e
    refine ⟨ad, e, fun j u hj => ?_⟩
    rw [cell_same (p := ad.add j) (V := w) (by rw [add_block]; exact hk _ _ _ hb)]
    exact hc j u hj
  · obtain ⟨cur, fr, hb⟩ := h.kind ad e
    exact ⟨cur, fr, (hk _ _ _ hb).trans hb⟩
theorem BytesAt.own {w : World} {base n c : Nat} {A : Option Addr} {bs : List UInt8} (h : w.ownsRow base 5 1 (.slice A n c) n (bv bs)) : BytesAt w A bs := by
  obtain ⟨A', c', e, -, hc⟩ := own_shape h
  injection e with e _ _
  subst e
  refine ⟨hc, fun ad e => ?_⟩
  subst e
  rcases h.2 with ⟨hv, -⟩ | ⟨g, cap, cur, hv, -, hh, -⟩
  · cases hv
  · injection hv with hv _ _
    injection hv with hv
    subst hv
    exact ⟨cur, _, hh⟩
theorem BytesAt.drop {w : World} {ad : Addr} {bs : List UInt8} (h : BytesAt w (some ad) bs) (k : Nat) : BytesAt w (some (ad.add k)) (bs.drop k) := by
  refine ⟨?_, fun ad2 e => ?_⟩
  · unfold bv
    rw [List.map_drop]
    exact cells_drop h.cells k
  · injection e with e
    subst e
    rw [add_block]
    exact h.kind ad rfl
theorem add_off (a : Addr) {k : Nat} (h : k ≠ 0) : a.add k = ⟨a.block, a.off + k, none⟩ := by unfold Addr.add; rw [if_neg h]
theorem BytesAt.off {w : World} {ad : Addr} {bs : List UInt8} (h : BytesAt w (some ad) bs) {k : Nat} (hk : k ≠ 0) : BytesAt w (some ⟨ad.block, ad.off + k, none⟩) (bs.drop k) := by
  have h1 := h.drop k
  rw [add_off ad hk] at h1
  exact h1
theorem BytesAt.take {w : World} {A : Option Addr} {bs : List UInt8} (h : BytesAt w A bs) (k : Nat) : BytesAt w A (bs.take k) := by
  refine ⟨?_, h.kind⟩
  unfold bv
  rw [List.map_take]
  exact h.cells.take k
theorem BytesAt.nil (w : World) : BytesAt w none [] := ⟨Cells.nil _ _, fun _ h => by cases h⟩
/-- Entries: a slice each. -/
structure EntVs (w : World) (vs : List Value) (es : List (List UInt8)) : Prop where
  len : vs.length = es.length
  at_ : ∀ k (hk : k < es.length), ∃ A c, vs[k]? = some (.slice A es[k].length c) ∧ es[k].length ≤ c ∧ BytesAt w A es[k]
theorem EntVs.kept {w w' : World} {vs : List Value} {es : List (List UInt8)} (h : EntVs w vs es) (hk : U8Kept w w') : EntVs w' vs es :=
  ⟨h.len, fun k hl => by obtain ⟨A, c, h1, h2, h3⟩ := h.at_ k hl; exact ⟨A, c, h1, h2, h3.kept hk⟩⟩
theorem EntVs.nil (w : World) : EntVs w [] [] := ⟨rfl, fun k hk => by simp at hk⟩
theorem EntVs.snoc {w : World} {vs : List Value} {es : List (List UInt8)} {e : List UInt8} {A : Option Addr} {c : Nat} (h : EntVs w vs es) (hc : e.length ≤ c) (hb : BytesAt w A e) : EntVs w (vs ++ [.slice A e.length c]) (es ++ [e]) := by
  refine ⟨by rw [List.length_append, List.length_append, h.len]; rfl, fun k hk => ?_⟩
  rw [List.length_append, List.length_singleton] at hk
  by_cases hl : k < es.length
  · obtain ⟨A', c', h1, h2, h3⟩ := h.at_ k hl
    refine ⟨A', c', ?_, ?_, ?_⟩
    · rw [List.getElem?_append_left (by rw [h.len]; exact hl), List.getElem_append_left hl]; exact h1
    · rw [List.getElem_append_left hl]; exact h2
    · rw [List.getElem_append_left hl]; exact h3
  · obtain rfl : k = es.length := by omega
    refine ⟨A, c, ?_, ?_, ?_⟩
    · rw [List.getElem?_append_right (by rw [h.len]; exact Nat.le_refl _), h.len, Nat.sub_self]
      simp
    · simpa using hc
    · simpa using hb
theorem EntVs.one {w : World} {vs : List Value} {es : List (List UInt8)} (h : EntVs w vs es) : ∀ u ∈ vs, u.oneCell' = true := fun u hu => by
  obtain ⟨k, hk, rfl⟩ := List.getElem_of_mem hu
  obtain ⟨A, c, h1, -, -⟩ := h.at_ k (by rw [← h.len]; exact hk)
  rw [List.getElem?_eq_getElem hk] at h1
  injection h1 with h1
  rw [h1]; rfl
def logC (dp : Nat) (name : ByteArray) (long count : Nat) (vt : Value) (broken : Int) : Array Value := #[.pointer (some ⟨dp, 0, none⟩), .string name, .int .i64 (long : Int), .int .i64 (count : Int), vt, .int .i64 broken]
/-- A log in memory. -/
structure LogAt (w : World) (lp dp : Nat) (name : ByteArray) (long count : Nat) (tail : List UInt8) (broken : Int) : Prop where
  at_ : ∃ A c, w.heap[lp]? = some (.cells (logC dp name long count (.slice A tail.length c) broken) 54) ∧ tail.length ≤ c ∧ BytesAt w A tail
theorem slB : SlTyK Try.prog 25 30 (.slice none 0 0) 1 24 := ⟨Try.underlying25, by kernel_rfl, rfl, by decide⟩
/-- A page that was read, as bytes. -/
theorem read_bytes {w w' : World} {q : PageT} {v : Value} (h : ReadV w (some q) v w') : ∃ g, v = .slice (some ⟨g, 0, none⟩) 256 256 ∧ Cells w' (some ⟨g, 0, none⟩) (bv q.b) ∧ Below w.heap.size w w' := by
  obtain ⟨g, rfl, h1, -, h2⟩ := h
  refine ⟨g, rfl, fun _ => ⟨_, rfl, fun j u hj => ?_⟩, h2⟩
  rw [Go.WideShapes.add_plain, Nat.zero_add]
  exact cell_of h1 (by show (pgC q)[j]? = some u; unfold pgC; simpa [bv] using hj)
theorem readL_torn {p0 : PageT} {rest : List PageT} (h : badH (headP p0) rest.length = false) (hp : parseL (bodyL (headP p0).long rest) = none) : readL (p0 :: rest) = none := by
  show (if _ then _ else _) = _
  rw [if_neg (by rw [h]; simp), hp]
theorem readL_ok {p0 : PageT} {rest : List PageT} {es : List (List UInt8)} (h : badH (headP p0) rest.length = false) (hp : parseL (bodyL (headP p0).long rest) = some es) (hc : es.length = (headP p0).count) : readL (p0 :: rest) = some ⟨(headP p0).long, bodyL (headP p0).long rest, es⟩ := by
  show (if _ then _ else _) = _
  rw [if_neg (by rw [h]; simp), hp]
  exact if_pos hc
theorem readL_count {p0 : PageT} {rest : List PageT} {es : List (List UInt8)} (h : badH (headP p0) rest.length = false) (hp : parseL (bodyL (headP p0).long rest) = some es) (hc : ¬ es.length = (headP p0).count) : readL (p0 :: rest) = none := by
  show (if _ then _ else _) = _
  rw [if_neg (by rw [h]; simp), hp]
  exact if_neg hc
theorem LogAt.below {w w' : World} {lp dp : Nat} {name : ByteArray} {long count : Nat} {tail : List UInt8} {broken : Int} (h : LogAt w lp dp name long count tail broken) (hb : Below w.heap.size w w') : LogAt w' lp dp name long count tail broken := by
  obtain ⟨A, c, h1, h2, h3⟩ := h.at_
  exact ⟨A, c, (hb.block lp (lt_of_block h1)).trans h1, h2, h3.kept (U8Kept.below hb)⟩
theorem u8_grown {w w' : World} {v : Value} {base n : Nat} {xs : List Value} (hg : w.grownBy w' v.ownBlock) (ho : w.ownsRow base 30 1 v n xs) : U8Kept w w' := U8Kept.fr (F := v.ownBlock.toList) (Fr.grown hg fun k hk _ => by rw [hk]; simp) fun i hi cur fr he => by
  obtain ⟨c, hc⟩ := row_kind ho (g := i) (by simpa using hi)
  rw [hc] at he
  cases he
theorem nil_at {w w' : World} {ar : Addr} {r s : List UInt8} (h : BytesAt w (some ar) r) (hb : U8Kept w w') (hs : s.length = 0) : BytesAt w' (some ar) s := by
  obtain rfl : s = [] := List.eq_nil_of_length_eq_zero hs
  exact ⟨fun h => absurd h (by simp [bv]), (h.kept hb).kind⟩
def sliceLen : Value → Nat | .slice _ n _ => n | _ => 0
theorem readL_bad {p0 : PageT} {rest : List PageT} (h : badH (headP p0) rest.length = true) : readL (p0 :: rest) = none := by
  show (if _ then _ else _) = _
  rw [if_pos h]
/-- What read tells. -/
def ReadP (w : World) (lp dp : Nat) (name : ByteArray) (o : Option ReadT) (e : Ending) (w' : World) : Prop :=
  Fr [lp] w w' ∧ match o with
  | none => e = .returned (.tuple #[.slice none 0 0, .int .i64 100])
  | some r => ∃ v vs, e = .returned (.tuple #[v, .int .i64 0]) ∧ w'.ownsRow w.heap.size 30 1 v r.es.length vs ∧ EntVs w' vs r.es ∧ LogAt w' lp dp name r.long r.es.length (tailL r.row) 0
end Go.Proofs.Ytladknjmoahdoaa

set_option linter.all false
namespace Go.Proofs.Ytladknjmoahdoaa
open Go.RowKit

theorem flat_get : ∀ (l : List PageT) (i : Nat), (flatB l)[i]? = (l[i / 256]?).bind fun p => p.b[i % 256]?
  | [], i => by simp [flatB]
  | p :: ps, i => by
    show (p.b ++ flatB ps)[i]? = _
    by_cases h : i < 256
    · rw [List.getElem?_append_left (by rw [p.len]; exact h), Nat.div_eq_of_lt h, Nat.mod_eq_of_lt h]; rfl
    · rw [List.getElem?_append_right (by rw [p.len]; omega), p.len, flat_get ps (i - 256)]
      obtain ⟨j, rfl⟩ : ∃ j, i = j + 256 := ⟨i - 256, by omega⟩
      rw [Nat.add_sub_cancel, show (j + 256) / 256 = j / 256 + 1 by omega, show (j + 256) % 256 = j % 256 by omega, List.getElem?_cons_succ]
/-- Pages that begin with these bytes. -/
def Pre (l : List PageT) (row : List UInt8) : Prop := ∀ i, i < row.length → (flatB l)[i]? = row[i]?
theorem Pre.take {l : List PageT} {row : List UInt8} (h : Pre l row) : (flatB l).take row.length = row := by
  apply List.ext_getElem?
  intro i
  rw [List.getElem?_take]
  split
  · exact h i (by assumption)
  · rw [List.getElem?_eq_none (by omega)]
theorem Pre.len {l : List PageT} {row : List UInt8} (h : Pre l row) : row.length ≤ l.length * 256 := by
  rw [← flatB_len]
  by_cases h0 : row.length = 0
  · omega
  · have h1 := h (row.length - 1) (by omega)
    rw [List.getElem?_eq_getElem (l := row) (by omega)] at h1
    have h2 := (List.getElem?_eq_some_iff.1 h1).1
    omega
def headPg (long count : Nat) : PageT := padP (headB long count)
theorem headPg_b (long count : Nat) : (headPg long count).b = numL long 8 ++ (numL count 8 ++ List.replicate 240 0) := by
  unfold headPg
  rw [padP_b (by rw [headB_len]; decide), headB_len]
  unfold headB
  rw [List.append_assoc]
theorem headP_pg {long count : Nat} (h1 : long < 18446744073709551616) (h2 : count < 18446744073709551616) : headP (headPg long count) = ⟨long, count, false⟩ := by
  have l1 : (numL long 8).length = 8 := numL_len _ _
  have l2 : (numL count 8).length = 8 := numL_len _ _
  unfold headP
  rw [headPg_b]
  have e1 : (numL long 8 ++ (numL count 8 ++ List.replicate 240 (0 : UInt8))).take 8 = numL long 8 := List.take_left' l1
  have e2 : ((numL long 8 ++ (numL count 8 ++ List.replicate 240 (0 : UInt8))).drop 8).take 8 = numL count 8 := by
    rw [List.drop_left' l1, List.take_left' l2]
  have e3 : (numL long 8 ++ (numL count 8 ++ List.replicate 240 (0 : UInt8))).drop 16 = List.replicate 240 0 := by
    rw [← List.append_assoc, List.drop_left' (by rw [List.length_append, l1, l2])]
  have e4 : (List.replicate 240 (0 : UInt8)).any oddB = false := by
    rw [List.any_eq_false]
    intro x hx
    rw [(List.mem_replicate.1 hx).2]
    simp [oddB]
  rw [e1, e2, e3, e4, valL_num _ _ (by simpa using h1), valL_num _ _ (by simpa using h2)]
theorem headPg_zero : headPg 0 0 = padP [] := by
  apply PageT.ext'
  rw [headPg_b, padP_b (by simp), show numL 0 8 = List.replicate 8 0 from by decide, List.replicate_append_replicate, List.replicate_append_replicate]
  rfl
/-- Pages that are a log of these entries. -/
structure IsLog (Q : List PageT) (es : List (List UInt8)) : Prop where
  at_ : ∃ rest, Q = headPg (rowL es).length es.length :: rest ∧ Pre rest (rowL es)
  small : ∀ e ∈ es, e.length ≤ 32768
  count : es.length ≤ 65536
  long : (rowL es).length < 18446744073709551616
theorem bodyL_eq (long : Nat) (rest : List PageT) : bodyL long rest = (flatB rest).take long := by
  have key : ∀ k, flatB (rest.take k) = (flatB rest).take (k * 256) := by
    intro k
    apply List.ext_getElem?
    intro i
    rw [flat_get, List.getElem?_take, List.getElem?_take, flat_get]
    by_cases h : i < k * 256
    · rw [if_pos h, if_pos (by omega)]
    · rw [if_neg h, if_neg (by omega)]; rfl
  unfold bodyL
  rw [key, List.take_take, Nat.min_eq_left (by omega)]
theorem IsLog.read {Q : List PageT} {es : List (List UInt8)} (h : IsLog Q es) : readL Q = some ⟨(rowL es).length, rowL es, es⟩ := by
  obtain ⟨rest, rfl, hp⟩ := h.at_
  have hh := headP_pg (long := (rowL es).length) (count := es.length) h.long (by have := h.count; omega)
  have hb : bodyL (rowL es).length rest = rowL es := by rw [bodyL_eq, hp.take]
  have hl := hp.len
  have hc := h.count
  show (if badH (headP (headPg (rowL es).length es.length)) rest.length = true then none else _) = _
  rw [hh]
  dsimp only
  rw [if_neg (by unfold badH; dsimp only; rw [decide_eq_false (by omega), decide_eq_false (by omega)]; simp), hb, parse_row es fun e he => by have := h.small e he; omega]
  exact if_pos rfl
theorem lay_head (p : PageT) (rest : List PageT) (k : Nat) (x : PageT) : layP (p :: rest) (k + 1) x = p :: layP rest k x := by
  unfold layP
  rw [List.length_cons, show k + 1 + 1 - (rest.length + 1) = k + 1 - rest.length by omega]
  rfl
theorem lay_at (l : List PageT) (k : Nat) (p : PageT) : (layP l k p)[k]? = some p := by
  have h := layP_len l k p
  unfold layP at h ⊢
  rw [List.getElem?_set_self]
  rw [List.length_set] at h
  omega
theorem lay_get (l : List PageT) (k : Nat) (p : PageT) {j : Nat} (h : j < l.length) (hj : j ≠ k) : (layP l k p)[j]? = l[j]? := by
  unfold layP
  rw [List.getElem?_set_ne (Ne.symm hj), List.getElem?_append_left h]
/-- A write that leaves the row as it is. -/
def SafeW (row : List UInt8) (w : WrT) : Prop := 1 ≤ w.place ∧ ∀ i, i < row.length → i / 256 + 1 = w.place → w.page.b[i % 256]? = row[i]?
theorem Pre.lay {l : List PageT} {row : List UInt8} (h : Pre l row) {k : Nat} {p : PageT} (hs : ∀ i, i < row.length → i / 256 = k → p.b[i % 256]? = row[i]?) : Pre (layP l k p) row := fun i hi => by
  have h1 := h i hi
  rw [flat_get] at h1 ⊢
  by_cases hk : i / 256 = k
  · rw [hk, lay_at]
    exact hs i hi hk
  · have hl := h.len
    rw [lay_get _ _ _ (by omega) hk]
    exact h1
theorem IsLog.lay {Q : List PageT} {es : List (List UInt8)} (h : IsLog Q es) {w : WrT} (hs : SafeW (rowL es) w) : IsLog (layP Q w.place w.page) es := by
  obtain ⟨rest, rfl, hp⟩ := h.at_
  obtain ⟨k, hk⟩ : ∃ k, w.place = k + 1 := ⟨w.place - 1, by have := hs.1; omega⟩
  rw [hk, lay_head]
  exact ⟨⟨_, rfl, hp.lay fun i hi e => hs.2 i hi (by omega)⟩, h.small, h.count, h.long⟩
theorem IsLog.laid {es : List (List UInt8)} : ∀ (ws : List WrT) {Q : List PageT}, IsLog Q es → (∀ w ∈ ws, SafeW (rowL es) w) → IsLog (laidP Q ws) es
  | [], _, h, _ => h
  | w :: ws, _, h, hs => IsLog.laid ws (h.lay (hs w (List.mem_cons_self ..))) fun x hx => hs x (List.mem_cons_of_mem _ hx)
theorem piece_get {b : List UInt8} {j t : Nat} (ht : t < 256) (h : j * 256 + t < b.length) : (padP (pieceL b j)).b[t]? = b[j * 256 + t]? := by
  have hl := pieceL_len (bs := b) rfl j
  rw [padP_b (by rw [hl]; omega), List.getElem?_append_left (by rw [hl]; omega)]
  unfold pieceL
  rw [List.getElem?_take, if_pos ht, List.getElem?_drop]
/-- The writes of the pieces. -/
def wsOf (no q : Nat) (b : List UInt8) (k : Nat) : List WrT := (List.range k).map fun j => ⟨no + j, q + 1 + j, padP (pieceL b j)⟩
theorem wsOf_succ (no q : Nat) (b : List UInt8) (k : Nat) : wsOf no q b (k + 1) = wsOf no q b k ++ [⟨no + k, q + 1 + k, padP (pieceL b k)⟩] := by
  unfold wsOf
  rw [List.range_succ, List.map_append]
  rfl
theorem ws_safe {row more : List UInt8} {no k : Nat} : ∀ w ∈ wsOf no (row.length / 256) (tailL row ++ more) k, SafeW row w := fun w hw => by
  obtain ⟨j, -, rfl⟩ := List.mem_map.1 hw
  refine ⟨by dsimp only; omega, fun i hi e => ?_⟩
  dsimp only at e ⊢
  have hj : j = 0 := by omega
  subst hj
  have htl := tailL_len row
  rw [piece_get (Nat.mod_lt _ (by decide)) (by rw [List.length_append, htl]; omega), List.getElem?_append_left (by rw [htl]; omega)]
  unfold tailL
  rw [List.getElem?_drop]
  congr 1
  omega
theorem ws_len {no q : Nat} {b : List UInt8} {P : List PageT} (h : q + 1 ≤ P.length) : ∀ k, (laidP P (wsOf no q b k)).length = max P.length (q + 1 + k)
  | 0 => by
    show P.length = _
    omega
  | k + 1 => by
    rw [wsOf_succ, laidP_snoc, layP_len, ws_len h k]
    dsimp only
    omega
set_option maxRecDepth 10000 in
/-- All pieces laid: the longer row. -/
theorem ws_pre {row more : List UInt8} {no : Nat} {p0 : PageT} {rest : List PageT} (h : Pre rest row) : ∀ k, ∃ rest', laidP (p0 :: rest) (wsOf no (row.length / 256) (tailL row ++ more) k) = p0 :: rest' ∧ ∀ i, i < row.length + more.length → i < (row.length / 256 + k) * 256 → (flatB rest')[i]? = (row ++ more)[i]?
  | 0 => by
    refine ⟨rest, rfl, fun i hi hl => ?_⟩
    rw [h i (by omega), List.getElem?_append_left (by omega)]
  | k + 1 => by
    obtain ⟨r', e, hr⟩ := ws_pre (no := no) (p0 := p0) (more := more) h k
    rw [wsOf_succ, laidP_snoc, e]
    dsimp only
    rw [show row.length / 256 + 1 + k = (row.length / 256 + k) + 1 by omega, lay_head]
    refine ⟨_, rfl, fun i hi hl => ?_⟩
    rw [flat_get]
    have htl := tailL_len row
    by_cases hk : i / 256 = row.length / 256 + k
    · rw [hk, lay_at]
      show (padP (pieceL (tailL row ++ more) k)).b[i % 256]? = _
      rw [piece_get (Nat.mod_lt _ (by decide)) (by rw [List.length_append, htl]; omega)]
      by_cases hir : i < row.length
      · have hk0 : k = 0 := by omega
        subst hk0
        rw [List.getElem?_append_left (by rw [htl]; omega), List.getElem?_append_left hir]
        unfold tailL
        rw [List.getElem?_drop]
        congr 1
        omega
      · rw [List.getElem?_append_right (by rw [htl]; omega), List.getElem?_append_right (by omega), htl]
        congr 1
        omega
    · have h1 := hr i hi (by omega)
      rw [flat_get] at h1
      have hlt : i / 256 < r'.length := by
        rw [List.getElem?_eq_getElem (l := row ++ more) (by rw [List.length_append]; exact hi)] at h1
        cases hx : r'[i / 256]? with
        | none => rw [hx] at h1; cases h1
        | some x => exact (List.getElem?_eq_some_iff.1 hx).1
      rw [lay_get _ _ _ hlt hk]
      exact h1
/-! One file: what the calls leave -/
theorem one_get {d : DiskT} {name : ByteArray} {f : FileT} (h : d.files = [(name, f)]) : mget d.files name = some f := by
  rw [h]; unfold mget; rw [if_pos rfl]
theorem one_set {d : DiskT} {name : ByteArray} {f : FileT} (h : d.files = [(name, f)]) (g : FileT) : mset d.files name g = [(name, g)] := by
  rw [h]; unfold mset; rw [if_pos rfl]
theorem one_used {d : DiskT} {name : ByteArray} {f : FileT} (hi : Inv d) (h : d.files = [(name, f)]) : d.used = f.now.length := by
  rw [hi.sum, h]; simp [sumN]
theorem step_cases (d : DiskT) : (stepD d).1 = true ∧ (stepD d).2.off = d.off ∨ (stepD d).1 = false ∧ (stepD d).2.off = true := by
  unfold stepD
  split
  · exact .inl ⟨rfl, rfl⟩
  · exact .inr ⟨rfl, rfl⟩
  · exact .inl ⟨rfl, rfl⟩
theorem write_state {d : DiskT} {name : ByteArray} {F : FileT} {k : Nat} {b : List UInt8} (hi : Inv d) (hf : d.files = [(name, F)]) (hoff : d.off = false) (hb : b.length ≤ 256) (hk : k ≤ F.now.length) (hq : k < d.quota) :
    ((writeD d name (k : Int) b).1 = 0 ∧ (writeD d name (k : Int) b).2.off = false ∧ (writeD d name (k : Int) b).2.files = [(name, ⟨layP F.now k (padP b), F.settled, F.opens ++ [⟨d.no, k, padP b⟩]⟩)] ∧ (writeD d name (k : Int) b).2.no = d.no + 1 ∧ (writeD d name (k : Int) b).2.quota = d.quota) ∨
    ((writeD d name (k : Int) b).1 = 7 ∧ (writeD d name (k : Int) b).2.off = true ∧ (writeD d name (k : Int) b).2.files = [(name, F)] ∧ (writeD d name (k : Int) b).2.no = d.no ∧ (writeD d name (k : Int) b).2.quota = d.quota) := by
  have hu := one_used hi hf
  have e : writeD d name (k : Int) b = stepsD d fun d => { d with used := if (k : Int) = F.now.length then d.used + 1 else d.used, no := d.no + 1, files := mset d.files name ⟨layP F.now k (padP b), F.settled, F.opens ++ [⟨d.no, k, padP b⟩]⟩ } := by
    unfold writeD
    rw [find_of hoff (one_get hf)]
    dsimp only
    rw [if_neg (by omega), if_neg (by omega), if_neg (by omega), Int.toNat_natCast]
  obtain ⟨e1, e2, e3, e4⟩ := stepD_files d
  rw [e]
  rcases step_cases d with ⟨h1, h2⟩ | ⟨h1, h2⟩
  · left
    unfold stepsD
    rw [if_pos h1]
    refine ⟨rfl, h2.trans hoff, ?_, ?_, e2⟩
    · show mset (stepD d).2.files name _ = _
      rw [e4]
      exact one_set (e1.trans hf) _
    · show (stepD d).2.no + 1 = _
      rw [e4]
  · right
    unfold stepsD
    rw [if_neg (by rw [h1]; simp)]
    exact ⟨rfl, h2, e1.trans hf, e4, e2⟩
theorem sync_state {d : DiskT} {name : ByteArray} {F : FileT} (hf : d.files = [(name, F)]) (hoff : d.off = false) :
    ((syncD d name).1 = 0 ∧ (syncD d name).2.off = false ∧ (syncD d name).2.files = [(name, ⟨F.now, F.now, []⟩)] ∧ (syncD d name).2.quota = d.quota) ∨
    ((syncD d name).1 = 7 ∧ (syncD d name).2.off = true ∧ (syncD d name).2.files = [(name, F)] ∧ (syncD d name).2.quota = d.quota) := by
  have e : syncD d name = stepsD d fun d => { d with files := mset d.files name ⟨F.now, F.now, []⟩ } := by
    unfold syncD
    rw [find_of hoff (one_get hf)]
  obtain ⟨e1, e2, e3, e4⟩ := stepD_files d
  rw [e]
  rcases step_cases d with ⟨h1, h2⟩ | ⟨h1, h2⟩
  · left
    unfold stepsD
    rw [if_pos h1]
    exact ⟨rfl, h2.trans hoff, one_set (e1.trans hf) _, e2⟩
  · right
    unfold stepsD
    rw [if_neg (by rw [h1]; simp)]
    exact ⟨rfl, h2, e1.trans hf, e2⟩
/-- What pieces that are written one behind the other leave. -/
theorem writes_state {d : DiskT} {name : ByteArray} {P : List PageT} {q m : Nat} {b : List UInt8} (hi : Inv d) (hf : d.files = [(name, ⟨P, P, []⟩)]) (hoff : d.off = false) (hP : q + 1 ≤ P.length) (hq : q + 1 + m ≤ d.quota) : ∀ k, k ≤ m →
    ((writesD d name (q + 1) b k).1 = 0 ∧ (writesD d name (q + 1) b k).2.off = false ∨ (writesD d name (q + 1) b k).1 = 7 ∧ (writesD d name (q + 1) b k).2.off = true) ∧ (writesD d name (q + 1) b k).2.quota = d.quota ∧
    ∃ j, j ≤ k ∧ ((writesD d name (q + 1) b k).1 = 0 → j = k) ∧ (writesD d name (q + 1) b k).2.files = [(name, ⟨laidP P (wsOf d.no q b j), P, wsOf d.no q b j⟩)] ∧ (writesD d name (q + 1) b k).2.no = d.no + j
  | 0, _ => ⟨.inl ⟨rfl, hoff⟩, rfl, 0, Nat.le_refl _, fun _ => rfl, hf, rfl⟩
  | k + 1, hk => by
    obtain ⟨h1, h2, j, hj, hjk, h3, h4⟩ := writes_state (b := b) hi hf hoff hP hq k (by omega)
    have hiw := writesD_inv hi name (q + 1) b k
    obtain ⟨r, hr⟩ : ∃ r, writesD d name (q + 1) b k = r := ⟨_, rfl⟩
    have hs : writesD d name (q + 1) b (k + 1) = if r.1 = 0 then writeD r.2 name ((q + 1 + k : Nat) : Int) (pieceL b k) else r := by rw [← hr]; rfl
    rw [hr] at h1 h2 hjk h3 h4 hiw
    rw [hs]
    clear hs hr
    rcases h1 with ⟨h1, ho⟩ | ⟨h1, ho⟩
    · obtain rfl := hjk h1
      rw [if_pos h1]
      rcases write_state (k := q + 1 + j) (b := pieceL b j) hiw h3 ho (by rw [pieceL_len rfl]; omega) (by rw [ws_len hP]; omega) (by rw [h2]; omega) with ⟨a1, a2, a3, a4, a5⟩ | ⟨a1, a2, a3, a4, a5⟩
      · refine ⟨.inl ⟨a1, a2⟩, a5.trans h2, j + 1, Nat.le_refl _, fun _ => rfl, ?_, by rw [a4, h4]; rfl⟩
        rw [a3, wsOf_succ, laidP_snoc, h4]
      · exact ⟨.inr ⟨a1, a2⟩, a5.trans h2, j, by omega, fun h => absurd (a1.symm.trans h) (by decide), a3, a4.trans h4⟩
    · rw [if_neg (by rw [h1]; decide)]
      exact ⟨.inr ⟨h1, ho⟩, h2, j, by omega, fun h => absurd (h1.symm.trans h) (by decide), h3, h4⟩
theorem sub_one {α : Type} {l : List α} {x : α} (h : l.Sublist [x]) : l = [] ∨ l = [x] := by
  cases l with
  | nil => exact .inl rfl
  | cons y r =>
    right
    have h1 := h.length_le
    simp at h1
    subst h1
    have h2 := h.subset (List.mem_cons_self ..)
    simp at h2
    rw [h2]
/-- THE LAW of a batch: it is there, or the power failed; then what stays is one of the two. -/
theorem all_state {d : DiskT} {name : ByteArray} {P : List PageT} {es more : List (List UInt8)} (hi : Inv d) (hf : d.files = [(name, ⟨P, P, []⟩)]) (hoff : d.off = false) (hP : IsLog P es) (hs : ∀ e ∈ more, e.length ≤ 32768) (hc : es.length + more.length ≤ 65536)
    (hq : 1 + ((rowL es).length + (rowL more).length + 255) / 256 ≤ d.quota) (hl : (rowL es).length + (rowL more).length < 18446744073709551616) :
    ∃ r, allL d name (rowL es).length (tailL (rowL es) ++ rowL more) ((rowL es).length + (rowL more).length) (es.length + more.length) = r ∧ r.2.quota = d.quota ∧
    ((r.1 = 0 ∧ r.2.off = false ∧ ∃ P', r.2.files = [(name, ⟨P', P', []⟩)] ∧ IsLog P' (es ++ more) ∧ P'.length ≤ max P.length (1 + ((rowL es).length + (rowL more).length + 255) / 256)) ∨
     (r.1 = 7 ∧ r.2.off = true ∧ ∃ F, r.2.files = [(name, F)] ∧ ∀ vs : List WrT, vs.Sublist F.opens → (IsLog (laidP F.settled vs) es ∨ IsLog (laidP F.settled vs) (es ++ more)) ∧ (laidP F.settled vs).length ≤ max P.length (1 + ((rowL es).length + (rowL more).length + 255) / 256))) := by
  refine ⟨_, rfl, ?_⟩
  obtain ⟨rest, hrest, hpre⟩ := hP.at_
  obtain ⟨row, hrow⟩ : ∃ row, rowL es = row := ⟨_, rfl⟩
  obtain ⟨mr, hmr⟩ : ∃ mr, rowL more = mr := ⟨_, rfl⟩
  have happ : rowL (es ++ more) = row ++ mr := by rw [rowL_append, hrow, hmr]
  have hsafe := fun no k => ws_safe (row := row) (more := mr) (no := no) (k := k)
  have hpl := hpre.len
  rw [hrow] at hq hl hrest hpre hpl ⊢
  rw [hmr] at hq hl ⊢
  have htl := tailL_len row
  obtain ⟨b, hb⟩ : ∃ b, tailL row ++ mr = b := ⟨_, rfl⟩
  have hbl : b.length = row.length % 256 + mr.length := by rw [← hb, List.length_append, htl]
  have hPl : row.length / 256 + 1 ≤ P.length := by rw [hrest, List.length_cons]; omega
  have hm : row.length / 256 + 1 + (b.length + 255) / 256 = 1 + (row.length + mr.length + 255) / 256 := by omega
  rw [hb] at hsafe ⊢
  obtain ⟨w1, w2, j, hj, hjk, w3, w4⟩ := writes_state (b := b) (m := (b.length + 255) / 256) hi hf hoff hPl (by rw [hm]; exact hq) _ (Nat.le_refl _)
  have hpi := pages_inv hi name row.length b
  obtain ⟨r1, hr1⟩ : ∃ r1, pagesL d name row.length b = r1 := ⟨_, rfl⟩
  rw [show writesD d name (row.length / 256 + 1) b ((b.length + 255) / 256) = r1 from hr1] at w1 w2 hjk w3 w4
  rw [hr1] at hpi
  have hold : ∀ vs : List WrT, vs.Sublist (wsOf d.no (row.length / 256) b j) → IsLog (laidP P vs) es ∧ (laidP P vs).length ≤ max P.length (1 + (row.length + mr.length + 255) / 256) := fun vs hv => by
    refine ⟨hP.laid vs fun w hw => by rw [hrow]; exact hsafe _ _ w (hv.subset hw), ?_⟩
    have h1 := laidP_sub (l := P) (m := P) hv (Nat.le_refl _)
    rw [ws_len hPl] at h1
    omega
  have s1 : sync1L d name row.length b = if r1.1 = 0 then syncD r1.2 name else r1 := by unfold sync1L; rw [hr1]
  have hsi := sync1_inv hi name row.length b
  unfold allL headL
  rcases w1 with ⟨w1, wo⟩ | ⟨w1, wo⟩
  · obtain rfl := hjk w1
    rw [if_pos w1] at s1
    have hlog1 := (hold _ (List.Sublist.refl _)).1
    have hlen1 := (hold _ (List.Sublist.refl _)).2
    rw [s1]
    rw [s1] at hsi
    rcases sync_state w3 wo with ⟨a1, a2, a3, a4⟩ | ⟨a1, a2, a3, a4⟩
    · -- the pages are settled
      obtain ⟨r2, hr2⟩ : ∃ r2, syncD r1.2 name = r2 := ⟨_, rfl⟩
      rw [hr2] at a1 a2 a3 a4 hsi ⊢
      rw [if_pos a1]
      have hw := ws_pre (no := d.no) (more := mr) (p0 := headPg row.length es.length) hpre ((b.length + 255) / 256)
      rw [hb, ← hrest] at hw
      obtain ⟨rest', hr', hpr'⟩ := hw
      obtain ⟨Q1, hQ1⟩ : ∃ Q1, laidP P (wsOf d.no (row.length / 256) b ((b.length + 255) / 256)) = Q1 := ⟨_, rfl⟩
      rw [hQ1] at hr' hlog1 hlen1 a3
      dsimp only at a3
      have hnew : IsLog (layP Q1 0 (headPg (row.length + mr.length) (es.length + more.length))) (es ++ more) := by
        have e0 : layP Q1 0 (headPg (row.length + mr.length) (es.length + more.length)) = headPg (row.length + mr.length) (es.length + more.length) :: rest' := by
          rw [hr', layP_in (by simp)]; rfl
        refine ⟨⟨rest', ?_, ?_⟩, ?_, ?_, ?_⟩
        · rw [e0, happ, List.length_append, List.length_append]
        · rw [happ]
          intro i hi2
          rw [List.length_append] at hi2
          exact hpr' i hi2 (by omega)
        · intro e he
          rcases List.mem_append.1 he with h | h
          · exact hP.small e h
          · exact hs e h
        · rw [List.length_append]; exact hc
        · rw [happ, List.length_append]; exact hl
      have hnl : (layP Q1 0 (headPg (row.length + mr.length) (es.length + more.length))).length = Q1.length := by
        rw [layP_len, hr', List.length_cons]; omega
      have hq2 : r2.2.quota = d.quota := a4.trans w2
      rcases write_state (k := 0) (b := headB (row.length + mr.length) (es.length + more.length)) hsi a3 a2 (by rw [headB_len]; decide) (Nat.zero_le _) (by rw [hq2]; omega) with ⟨c1, c2, c3, c4, c5⟩ | ⟨c1, c2, c3, c4, c5⟩
      · rw [show ((0 : Nat) : Int) = 0 from rfl] at c1 c2 c3 c4 c5
        obtain ⟨r3, hr3⟩ : ∃ r3, writeD r2.2 name 0 (headB (row.length + mr.length) (es.length + more.length)) = r3 := ⟨_, rfl⟩
        rw [hr3] at c1 c2 c3 c4 c5 ⊢
        rw [if_pos c1]
        dsimp only at c3
        rcases sync_state c3 c2 with ⟨g1, g2, g3, g4⟩ | ⟨g1, g2, g3, g4⟩
        · refine ⟨g4.trans (c5.trans hq2), .inl ⟨g1, g2, _, g3, hnew, ?_⟩⟩
          show (layP Q1 0 (headPg (row.length + mr.length) (es.length + more.length))).length ≤ _
          rw [hnl]; exact hlen1
        · refine ⟨g4.trans (c5.trans hq2), .inr ⟨g1, g2, _, g3, fun vs hv => ?_⟩⟩
          rcases sub_one hv with rfl | rfl
          · exact ⟨.inl hlog1, hlen1⟩
          · refine ⟨.inr hnew, ?_⟩
            show (layP Q1 0 (headPg (row.length + mr.length) (es.length + more.length))).length ≤ _
            rw [hnl]; exact hlen1
      · rw [show ((0 : Nat) : Int) = 0 from rfl] at c1 c2 c3 c4 c5
        rw [if_neg (by rw [c1]; decide)]
        refine ⟨c5.trans hq2, .inr ⟨c1, c2, _, c3, fun vs hv => ?_⟩⟩
        obtain rfl : vs = [] := List.eq_nil_of_sublist_nil hv
        exact ⟨.inl hlog1, hlen1⟩
    · rw [if_neg (show ¬ (syncD r1.2 name).1 = 0 by rw [a1]; decide), if_neg (show ¬ (syncD r1.2 name).1 = 0 by rw [a1]; decide)]
      exact ⟨a4.trans w2, .inr ⟨a1, a2, _, a3, fun vs hv => ⟨.inl (hold vs hv).1, (hold vs hv).2⟩⟩⟩
  · rw [if_neg (by rw [w1]; decide)] at s1
    rw [s1, if_neg (show ¬ r1.1 = 0 by rw [w1]; decide), if_neg (show ¬ r1.1 = 0 by rw [w1]; decide)]
    exact ⟨w2, .inr ⟨w1, wo, _, w3, fun vs hv => ⟨.inl (hold vs hv).1, (hold vs hv).2⟩⟩⟩
/-- What stays of one file, when the power is back. -/
theorem on_one {d : DiskT} {name : ByteArray} {F : FileT} (hf : d.files = [(name, F)]) (hoff : d.off = true) : ∃ vs, vs.Sublist F.opens ∧ (onD d).files = [(name, ⟨laidP F.settled vs, laidP F.settled vs, []⟩)] ∧ (onD d).off = false ∧ (onD d).quota = d.quota := by
  refine ⟨F.opens.filter fun w => bitB ((d.set.map Prod.snd).getD 0) (rankW (opensD d) w.no), List.filter_sublist, ?_⟩
  unfold onD
  rw [if_neg (by rw [hoff]; simp)]
  refine ⟨?_, rfl, rfl⟩
  show d.files.map _ = _
  rw [hf]
  rfl
end Go.Proofs.Ytladknjmoahdoaa

set_option linter.all false
namespace Go.Proofs.Ytladknjmoahdoaa
open Go.RowKit

/-- So many steps can be done. -/
def Live (n : Nat) (d : DiskT) : Prop := d.set = none ∨ ∃ i k, d.set = some (i + n, k)
theorem Live.step {n : Nat} {d : DiskT} (h : Live (n + 1) d) : (stepD d).1 = true ∧ Live n (stepD d).2 := by
  rcases h with h | ⟨i, k, h⟩
  · unfold stepD
    rw [h]
    exact ⟨rfl, .inl rfl⟩
  · unfold stepD
    rw [h, show i + (n + 1) = (i + n) + 1 by omega]
    exact ⟨rfl, .inr ⟨i, k, rfl⟩⟩
theorem steps_live {n : Nat} {d : DiskT} {f : DiskT → DiskT} (h : Live (n + 1) d) (hf : ∀ d, (f d).set = d.set) : (stepsD d f).1 = 0 ∧ Live n (stepsD d f).2 := by
  obtain ⟨h1, h2⟩ := h.step
  unfold stepsD
  rw [if_pos h1]
  refine ⟨rfl, ?_⟩
  unfold Live at h2 ⊢
  rw [hf]
  exact h2
theorem create_state {d : DiskT} {name : ByteArray} (hf : d.files = []) (hoff : d.off = false) (hn : namedB name = true) :
    (((createD d name).1 = 0 ∧ (createD d name).2.off = false ∧ (createD d name).2.files = [(name, file0)]) ∨ ((createD d name).1 = 7 ∧ (createD d name).2.off = true ∧ (createD d name).2.files = [])) ∧ (createD d name).2.quota = d.quota ∧ ∀ n, Live (n + 1) d → (createD d name).1 = 0 ∧ Live n (createD d name).2 := by
  have e : createD d name = stepsD d fun d => { d with files := mset d.files name file0 } := by
    unfold createD
    rw [if_neg (by rw [hoff]; simp), if_neg (by rw [hn]; simp), if_neg (by rw [hf]; simp [mget]), if_neg (by rw [hf]; simp)]
  obtain ⟨e1, e2, e3, e4⟩ := stepD_files d
  rw [e]
  refine ⟨?_, ?_, fun n h => steps_live h fun _ => rfl⟩
  · rcases step_cases d with ⟨h1, h2⟩ | ⟨h1, h2⟩
    · left
      unfold stepsD
      rw [if_pos h1]
      refine ⟨rfl, h2.trans hoff, ?_⟩
      show mset (stepD d).2.files name file0 = _
      rw [e1, hf]; rfl
    · right
      unfold stepsD
      rw [if_neg (by rw [h1]; simp)]
      exact ⟨rfl, h2, e1.trans hf⟩
  · unfold stepsD
    split <;> exact e2
theorem write_live {d : DiskT} {name : ByteArray} {F : FileT} {n : Nat} (hi : Inv d) (hf : d.files = [(name, F)]) (hoff : d.off = false) (hq : 0 < d.quota) (h : Live (n + 1) d) : (writeD d name 0 []).1 = 0 ∧ Live n (writeD d name 0 []).2 := by
  have hu := one_used hi hf
  have e : writeD d name 0 [] = stepsD d fun d => { d with used := if (0 : Int) = F.now.length then d.used + 1 else d.used, no := d.no + 1, files := mset d.files name ⟨layP F.now 0 (padP []), F.settled, F.opens ++ [⟨d.no, 0, padP []⟩]⟩ } := by
    unfold writeD
    rw [find_of hoff (one_get hf)]
    dsimp only
    rw [if_neg (by simp), if_neg (by omega), if_neg (by omega)]
    rfl
  rw [e]
  exact steps_live h fun _ => rfl
theorem sync_live {d : DiskT} {name : ByteArray} {F : FileT} {n : Nat} (hf : d.files = [(name, F)]) (hoff : d.off = false) (h : Live (n + 1) d) : (syncD d name).1 = 0 ∧ Live n (syncD d name).2 := by
  have e : syncD d name = stepsD d fun d => { d with files := mset d.files name ⟨F.now, F.now, []⟩ } := by
    unfold syncD
    rw [find_of hoff (one_get hf)]
  rw [e]
  exact steps_live h fun _ => rfl
theorem first_state {d : DiskT} {name : ByteArray} (hi : Inv d) (hf : d.files = [(name, file0)]) (hoff : d.off = false) (hq : 0 < d.quota) :
    (((firstL d name).1 = 0 ∧ (firstL d name).2.off = false ∧ (firstL d name).2.files = [(name, ⟨[padP []], [padP []], []⟩)]) ∨ ((firstL d name).1 = 7 ∧ (firstL d name).2.off = true ∧ ((firstL d name).2.files = [(name, file0)] ∨ ∃ n, (firstL d name).2.files = [(name, ⟨[padP []], [], [⟨n, 0, padP []⟩]⟩)]))) ∧ (firstL d name).2.quota = d.quota ∧ (Live 2 d → (firstL d name).1 = 0) := by
  have hw := write_state (k := 0) (b := []) hi hf hoff (by simp) (Nat.zero_le _) hq
  rw [show ((0 : Nat) : Int) = 0 from rfl] at hw
  have hlive : Live 2 d → (firstL d name).1 = 0 := fun hl => by
    obtain ⟨h1, h2⟩ := write_live hi hf hoff hq hl
    rcases hw with ⟨a1, a2, a3, -, -⟩ | ⟨a1, -⟩
    · unfold firstL
      rw [if_pos h1]
      exact (sync_live a3 a2 h2).1
    · rw [a1] at h1; cases h1
  refine ⟨?_, ?_, hlive⟩
  · unfold firstL
    rcases hw with ⟨a1, a2, a3, a4, a5⟩ | ⟨a1, a2, a3, a4, a5⟩
    · rw [if_pos a1]
      rcases sync_state a3 a2 with ⟨c1, c2, c3, -⟩ | ⟨c1, c2, c3, -⟩
      · exact .inl ⟨c1, c2, c3⟩
      · exact .inr ⟨c1, c2, .inr ⟨_, c3⟩⟩
    · rw [if_neg (by rw [a1]; decide)]
      exact .inr ⟨a1, a2, .inl a3⟩
  · unfold firstL
    rcases hw with ⟨a1, a2, a3, a4, a5⟩ | ⟨a1, a2, a3, a4, a5⟩
    · rw [if_pos a1]
      rcases sync_state a3 a2 with ⟨-, -, -, c4⟩ | ⟨-, -, -, c4⟩ <;> exact c4.trans a5
    · rw [if_neg (by rw [a1]; decide)]
      exact a5
theorem isLog_zero : IsLog [padP []] [] := ⟨⟨[], by rw [← headPg_zero]; rfl, fun i hi => by simp [rowL] at hi⟩, fun _ h => by simp at h, by simp, by simp [rowL]⟩
theorem zero_read : readL [padP []] = some ⟨0, [], []⟩ := by
  have h := isLog_zero.read
  rw [show rowL [] = [] from rfl] at h
  exact h
/-- A disk with one file, which is settled, a log of these entries; off is it not. -/
structure OneLog (d : DiskT) (name : ByteArray) (P : List PageT) (es : List (List UInt8)) : Prop where
  inv : Inv d
  off : d.off = false
  files : d.files = [(name, ⟨P, P, []⟩)]
  log : IsLog P es
theorem OneLog.len {d : DiskT} {name : ByteArray} {P : List PageT} {es : List (List UInt8)} (h : OneLog d name P es) : ∃ p r, P = p :: r := by
  obtain ⟨rest, hr, -⟩ := h.log.at_
  exact ⟨_, rest, hr⟩
theorem OneLog.open_ {d : DiskT} {name : ByteArray} {P : List PageT} {es : List (List UInt8)} (h : OneLog d name P es) : openL d name = (0, d, some ⟨(rowL es).length, rowL es, es⟩) := by
  obtain ⟨p, r, hp⟩ := h.len
  have hl : lenD d name = (0, P.length) := by
    unfold lenD
    rw [find_of h.off (one_get h.files)]
  have hb : beginL d name = (0, d) := by
    have hs : startL d name = (0, d) := by unfold startL; rw [hl]; rfl
    unfold beginL
    rw [hs, hl, if_neg (by rw [hp]; simp)]
  unfold openL
  rw [hb, if_pos rfl]
  dsimp only
  rw [show readLog d name = some ⟨(rowL es).length, rowL es, es⟩ from by
    unfold readLog
    rw [one_get h.files]
    exact h.log.read]
theorem OneLog.fail {d : DiskT} {name : ByteArray} {P : List PageT} {es : List (List UInt8)} (h : OneLog d name P es) {n : Int} {k : Nat} (hn : n < 9223372036854775808) (hk : k < 18446744073709551616) : OneLog (failD d n k) name P es := by
  have e : failD d n k = { d with set := some ((max n 0).toNat, k) } := by unfold failD; rw [if_neg (by rw [h.off]; simp)]
  exact ⟨h.inv.failD' hn hk, by rw [e]; exact h.off, by rw [e]; exact h.files, h.log⟩
/-- A disk on which a log is to be: nothing, or an empty file, or an empty log. -/
def Fresh (d : DiskT) (name : ByteArray) : Prop := Inv d ∧ d.off = false ∧ 0 < d.quota ∧ (d.files = [] ∨ d.files = [(name, file0)] ∨ d.files = [(name, ⟨[padP []], [padP []], []⟩)])
/-- What Open makes of it. -/
theorem Fresh.open_ {d : DiskT} {name : ByteArray} (h : Fresh d name) (hn : namedB name = true) :
    (((openL d name).1 = 0 ∧ (openL d name).2.2 = some ⟨0, [], []⟩ ∧ OneLog (openL d name).2.1 name [padP []] []) ∨ ((openL d name).1 = 7 ∧ (openL d name).2.2 = none ∧ (openL d name).2.1.off = true ∧ Fresh (onD (openL d name).2.1) name)) ∧ (openL d name).2.1.quota = d.quota ∧ (Live 3 d → (openL d name).1 = 0) := by
  obtain ⟨hi, hoff, hq, hf⟩ := h
  have hbi := begin_inv hi name
  have hoi : Inv (onD (beginL d name).2) := hbi.onD'.1
  -- what follows when the begin went well
  have good : (beginL d name).1 = 0 → (beginL d name).2.off = false → (beginL d name).2.files = [(name, ⟨[padP []], [padP []], []⟩)] → (openL d name).1 = 0 ∧ (openL d name).2.2 = some ⟨0, [], []⟩ ∧ OneLog (openL d name).2.1 name [padP []] [] := fun h1 h2 h3 => by
    have e : openL d name = (0, (beginL d name).2, some ⟨0, [], []⟩) := by
      unfold openL
      rw [if_pos h1, show readLog (beginL d name).2 name = some ⟨0, [], []⟩ from by
        unfold readLog
        rw [one_get h3, Option.bind_some]
        exact zero_read]
    rw [e]
    exact ⟨rfl, rfl, hbi, h2, h3, isLog_zero⟩
  have bad : (beginL d name).1 = 7 → (beginL d name).2.off = true → (beginL d name).2.quota = d.quota → ((beginL d name).2.files = [] ∨ (beginL d name).2.files = [(name, file0)] ∨ ∃ n, (beginL d name).2.files = [(name, ⟨[padP []], [], [⟨n, 0, padP []⟩]⟩)]) → (openL d name).1 = 7 ∧ (openL d name).2.2 = none ∧ (openL d name).2.1.off = true ∧ Fresh (onD (openL d name).2.1) name := fun h1 h2 hqq h3 => by
    have e : openL d name = (7, (beginL d name).2, none) := by
      unfold openL
      rw [if_neg (by rw [h1]; decide), h1]
    rw [e]
    refine ⟨rfl, rfl, h2, hoi, ?_⟩
    rcases h3 with h3 | h3 | ⟨n, h3⟩
    · have e2 : (onD (beginL d name).2).files = [] ∧ (onD (beginL d name).2).off = false ∧ (onD (beginL d name).2).quota = (beginL d name).2.quota := by
        unfold onD
        rw [if_neg (by rw [h2]; simp)]
        refine ⟨?_, rfl, rfl⟩
        show (beginL d name).2.files.map _ = _
        rw [h3]; rfl
      exact ⟨e2.2.1, by rw [e2.2.2, hqq]; exact hq, .inl e2.1⟩
    · obtain ⟨vs, hv, e1, e2, e3⟩ := on_one h3 h2
      obtain rfl : vs = [] := List.eq_nil_of_sublist_nil hv
      exact ⟨e2, by rw [e3, hqq]; exact hq, .inr (.inl e1)⟩
    · obtain ⟨vs, hv, e1, e2, e3⟩ := on_one h3 h2
      refine ⟨e2, by rw [e3, hqq]; exact hq, .inr ?_⟩
      rcases sub_one hv with rfl | rfl
      · exact .inl e1
      · exact .inr e1
  have hqo : (openL d name).2.1.quota = (beginL d name).2.quota := by rw [open_disk]
  rw [hqo]
  have hlen : ∀ f, mget d.files name = some f → lenD d name = (0, f.now.length) := fun f hg => by
    unfold lenD
    rw [find_of hoff hg]
  rcases hf with hf | hf | hf
  · have hl : lenD d name = (91, 0) := by
      unfold lenD findD
      rw [if_neg (by rw [hoff]; simp), hf]
      rfl
    have hs : startL d name = createD d name := by unfold startL; rw [hl]; rfl
    obtain ⟨hc, hcq, hcl⟩ := create_state hf hoff hn
    have hci := hi.createD' name
    rcases hc with ⟨c1, c2, c3⟩ | ⟨c1, c2, c3⟩
    · have hb : beginL d name = firstL (createD d name).2 name := by
        unfold beginL
        rw [hs, hl, if_pos ⟨c1, rfl⟩]
      obtain ⟨hfs, hfq, hfl⟩ := first_state hci c3 c2 (by rw [hcq]; exact hq)
      rw [← hb] at hfs hfq hfl
      refine ⟨?_, hfq.trans hcq, fun hl3 => ?_⟩
      · rcases hfs with ⟨g1, g2, g3⟩ | ⟨g1, g2, g3⟩
        · exact .inl (good g1 g2 g3)
        · exact .inr (bad g1 g2 (hfq.trans hcq) (.inr g3))
      · have h0 := hfl (hcl 2 hl3).2
        rcases hfs with ⟨g1, g2, g3⟩ | ⟨g1, -⟩
        · exact (good g1 g2 g3).1
        · rw [g1] at h0; cases h0
    · have hb : beginL d name = createD d name := by
        unfold beginL
        rw [hs, if_neg (by rw [c1]; exact fun h => absurd h.1 (by decide))]
      rw [← hb] at c1 c2 c3 hcq
      refine ⟨.inr (bad c1 c2 hcq (.inl c3)), hcq, fun hl3 => ?_⟩
      have h0 := (hcl 2 hl3).1
      rw [← hb, c1] at h0
      cases h0
  · have hl := hlen _ (one_get hf)
    have hs : startL d name = (0, d) := by unfold startL; rw [hl]; rfl
    have hb : beginL d name = firstL d name := by
      unfold beginL
      rw [hs, hl, if_pos ⟨rfl, rfl⟩]
    obtain ⟨hfs, hfq, hfl⟩ := first_state hi hf hoff hq
    rw [← hb] at hfs hfq hfl
    refine ⟨?_, hfq, fun hl3 => ?_⟩
    · rcases hfs with ⟨g1, g2, g3⟩ | ⟨g1, g2, g3⟩
      · exact .inl (good g1 g2 g3)
      · exact .inr (bad g1 g2 hfq (.inr g3))
    · have h2 : Live 2 d := by
        rcases hl3 with h | ⟨i, k, h⟩
        · exact .inl h
        · exact .inr ⟨i + 1, k, by rw [h]⟩
      have h0 := hfl h2
      rcases hfs with ⟨g1, g2, g3⟩ | ⟨g1, -⟩
      · exact (good g1 g2 g3).1
      · rw [g1] at h0; cases h0
  · have ho : OneLog d name [padP []] [] := ⟨hi, hoff, hf, isLog_zero⟩
    have e := ho.open_
    have hb : beginL d name = (0, d) := by
      have hl := hlen _ (one_get hf)
      have hs : startL d name = (0, d) := by unfold startL; rw [hl]; rfl
      unfold beginL
      rw [hs, hl, if_neg (by simp)]
    rw [hb, e]
    exact ⟨.inl ⟨rfl, rfl, ho⟩, rfl, fun _ => rfl⟩
end Go.Proofs.Ytladknjmoahdoaa

set_option linter.all false
namespace Go.Proofs.Ytladknjmoahdoaa
open Go.RowKit

theorem new_fresh {q : Int} (hq : 0 < q) (name : ByteArray) : Fresh (newD q) name := by
  refine ⟨newD_inv q, rfl, ?_, .inl rfl⟩
  show 0 < min (max q 0).toNat 65536
  omega
theorem Fresh.fail {d : DiskT} {name : ByteArray} (h : Fresh d name) {n : Int} {k : Nat} (hn : n < 9223372036854775808) (hk : k < 18446744073709551616) : Fresh (failD d n k) name := by
  have e : failD d n k = { d with set := some ((max n 0).toNat, k) } := by unfold failD; rw [if_neg (by rw [h.2.1]; simp)]
  exact ⟨h.1.failD' hn hk, by rw [e]; exact h.2.1, by rw [e]; exact h.2.2.1, by rw [e]; exact h.2.2.2⟩
theorem far_live {d : DiskT} (hoff : d.off = false) : Live 3 (failD d 1073741824 0) := by
  unfold failD
  rw [if_neg (by rw [hoff]; simp)]
  exact .inr ⟨1073741821, 0, rfl⟩
theorem open_bad {d : DiskT} {name : ByteArray} (hoff : d.off = false) (hf : d.files = []) (hn : namedB name = false) : openL d name = (2, d, none) := by
  have hl : lenD d name = (91, 0) := by
    unfold lenD findD
    rw [if_neg (by rw [hoff]; simp), hf]
    rfl
  have hs : startL d name = (2, d) := by
    unfold startL
    rw [hl]
    show createD d name = _
    unfold createD
    rw [if_neg (by rw [hoff]; simp), if_pos hn]
  have hb : beginL d name = (2, d) := by
    unfold beginL
    rw [hs, if_neg (by simp)]
  unfold openL
  rw [hb]
  rfl
theorem open_steps (d : DiskT) (name : ByteArray) : (openL d name).2.1.steps ≤ d.steps + 3 := by
  rw [open_disk]
  exact begin_steps d name
/-- Whatever failed while a log was created, it is one without entries behind it. -/
theorem created_law {d1 : DiskT} {name : ByteArray} (h : Fresh d1 name) (hn : namedB name = true) :
    ((openL d1 name).1 = 0 ∧ (openL d1 name).2.2 = some ⟨0, [], []⟩ ∨ (openL d1 name).1 = 7 ∧ (openL d1 name).2.2 = none ∧ (openL d1 name).2.1.off = true) ∧
    (openL (failD (onD (openL d1 name).2.1) 1073741824 0) name).1 = 0 ∧ (openL (failD (onD (openL d1 name).2.1) 1073741824 0) name).2.2 = some ⟨0, [], []⟩ := by
  have key : ∀ d2, Fresh d2 name → (openL (failD d2 1073741824 0) name).1 = 0 ∧ (openL (failD d2 1073741824 0) name).2.2 = some ⟨0, [], []⟩ := fun d2 h2 => by
    have h3 := h2.fail (n := 1073741824) (k := 0) (by decide) (by decide)
    obtain ⟨ho, -, hl⟩ := h3.open_ hn
    have h0 := hl (far_live h2.2.1)
    rcases ho with ⟨a1, a2, -⟩ | ⟨a1, -⟩
    · exact ⟨a1, a2⟩
    · rw [a1] at h0; cases h0
  obtain ⟨ho, hq, -⟩ := h.open_ hn
  rcases ho with ⟨a1, a2, a3⟩ | ⟨a1, a2, a3, a4⟩
  · refine ⟨.inl ⟨a1, a2⟩, ?_⟩
    have e : onD (openL d1 name).2.1 = (openL d1 name).2.1 := by unfold onD; rw [if_pos a3.off]
    rw [e]
    exact key _ ⟨a3.inv, a3.off, by rw [hq]; exact h.2.2.1, .inr (.inr a3.files)⟩
  · exact ⟨.inr ⟨a1, a2, a3⟩, key _ a4⟩
/-- Where a log stands in a row of turns. -/
structure Turned (d : DiskT) (name : ByteArray) (es : List (List UInt8)) (T : Nat) : Prop where
  quota : d.quota = 500
  at_ : ∃ P, OneLog d name P es ∧ P.length ≤ 1 + (T + 255) / 256
  row : (rowL es).length ≤ T
def logOf (es : List (List UInt8)) : LogT := ⟨(rowL es).length, es.length, tailL (rowL es), 0⟩
theorem Turned.fail {d : DiskT} {name : ByteArray} {es : List (List UInt8)} {T : Nat} (h : Turned d name es T) {n : Int} {k : Nat} (hn : n < 9223372036854775808) (hk : k < 18446744073709551616) : Turned (failD d n k) name es T := by
  obtain ⟨P, h1, h2⟩ := h.at_
  refine ⟨?_, ⟨P, h1.fail hn hk, h2⟩, h.row⟩
  unfold failD
  split <;> exact h.quota
theorem Turned.off {d : DiskT} {name : ByteArray} {es : List (List UInt8)} {T : Nat} (h : Turned d name es T) : d.off = false := by
  obtain ⟨P, h1, -⟩ := h.at_
  exact h1.off
theorem Turned.open_ {d : DiskT} {name : ByteArray} {es : List (List UInt8)} {T : Nat} (h : Turned d name es T) : openL d name = (0, d, some ⟨(rowL es).length, rowL es, es⟩) := by
  obtain ⟨P, h1, -⟩ := h.at_
  exact h1.open_
theorem append_steps (d : DiskT) (name : ByteArray) (l : LogT) (es : List (List UInt8)) : (appendL d name l es).2.1.steps ≤ d.steps + ((l.tail ++ rowL es).length + 255) / 256 + 3 := by
  unfold appendL
  split
  · show d.steps ≤ _
    omega
  · split
    · show d.steps ≤ _
      omega
    · dsimp only
      have h := all_steps d name l.long (l.tail ++ rowL es) (l.long - l.tail.length + (l.tail ++ rowL es).length) (l.count + es.length)
      split <;> exact h
/-- THE LAW of a turn. -/
theorem turn_law {d : DiskT} {name : ByteArray} {es more : List (List UInt8)} {T : Nat} (h : Turned d name es T) (hT : T + (rowL more).length ≤ 20000) :
    ∃ a, appendL d name (logOf es) more = a ∧ (a.1 = 3 ∨ (a.1 = 0 ∧ a.2.1.off = false ∧ Turned a.2.1 name (es ++ more) (T + (rowL more).length)) ∨
      (a.1 = 7 ∧ a.2.1.off = true ∧ ∃ es', (es' = es ∨ es' = es ++ more) ∧ Turned (onD a.2.1) name es' (T + (rowL more).length))) := by
  refine ⟨_, rfl, ?_⟩
  obtain ⟨P, h1, h2⟩ := h.at_
  have hr := h.row
  have hq := h.quota
  have happ : (rowL (es ++ more)).length = (rowL es).length + (rowL more).length := by rw [rowL_append, List.length_append]
  by_cases h0 : more = []
  · subst h0
    right; left
    have e : appendL d name (logOf es) [] = (0, d, logOf es) := by unfold appendL; rw [if_pos (.inr rfl)]; rfl
    rw [e, List.append_nil]
    exact ⟨rfl, h1.off, hq, ⟨P, h1, by show P.length ≤ 1 + (T + 0 + 255) / 256; omega⟩, by show _ ≤ T + 0; omega⟩
  · by_cases hb : tooBig more = true ∨ 65536 < es.length + more.length
    · left
      unfold appendL
      rw [if_neg (by rintro (h | h); exact h rfl; exact h0 h), if_pos (show tooBig more = true ∨ 65536 < (logOf es).count + more.length from hb)]
    · right
      have hsm : ∀ e ∈ more, e.length ≤ 32768 := fun e he => by
        have h3 : ¬ tooBig more = true := fun h => hb (.inl h)
        unfold tooBig at h3
        rw [List.any_eq_true] at h3
        exact Nat.le_of_not_lt fun hl => h3 ⟨e, he, decide_eq_true hl⟩
      have hbl : (tailL (rowL es) ++ rowL more).length = (rowL es).length % 256 + (rowL more).length := by rw [List.length_append, tailL_len]
      obtain ⟨r, hr1, hrq, hr2⟩ := all_state (more := more) h1.inv h1.files h1.off h1.log hsm (by omega) (by rw [hq]; omega) (by omega)
      have hri := all_inv h1.inv name (rowL es).length (tailL (rowL es) ++ rowL more) ((rowL es).length + (rowL more).length) (es.length + more.length)
      rw [hr1] at hri
      have hlong : (rowL es).length - (tailL (rowL es)).length + (tailL (rowL es) ++ rowL more).length = (rowL es).length + (rowL more).length := by
        rw [hbl, tailL_len]; omega
      have e : appendL d name (logOf es) more = if r.1 = 0 then (0, r.2, ⟨(rowL es).length + (rowL more).length, es.length + more.length, (tailL (rowL es) ++ rowL more).drop ((tailL (rowL es) ++ rowL more).length - ((rowL es).length + (rowL more).length) % 256), 0⟩) else (r.1, r.2, { logOf es with broken := r.1 }) := by
        unfold appendL
        rw [if_neg (by rintro (h | h); exact h rfl; exact h0 h), if_neg (show ¬ (tooBig more = true ∨ 65536 < (logOf es).count + more.length) from hb)]
        dsimp only [logOf]
        rw [hlong, hr1]
      rw [e]
      rcases hr2 with ⟨a1, a2, P', a3, a4, a5⟩ | ⟨a1, a2, F, a3, a4⟩
      · left
        rw [if_pos a1]
        exact ⟨rfl, a2, hrq.trans hq, ⟨P', ⟨hri, a2, a3, a4⟩, by omega⟩, by rw [happ]; omega⟩
      · right
        rw [if_neg (by rw [a1]; decide)]
        refine ⟨a1, a2, ?_⟩
        dsimp only
        obtain ⟨vs, hv, e1, e2, e3⟩ := on_one a3 a2
        obtain ⟨hx, hy⟩ := a4 vs hv
        rcases hx with hx | hx
        · exact ⟨es, .inl rfl, e3.trans (hrq.trans hq), ⟨_, ⟨hri.onD'.1, e2, e1, hx⟩, by omega⟩, by omega⟩
        · exact ⟨es ++ more, .inr rfl, e3.trans (hrq.trans hq), ⟨_, ⟨hri.onD'.1, e2, e1, hx⟩, by omega⟩, by rw [happ]; omega⟩
end Go.Proofs.Ytladknjmoahdoaa
