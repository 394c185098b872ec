/- What Solve calls: the looks through secrets and preimages, join, most, Ready. · join: terms behind others, each once; Ready. · Solve's ways: one signature, one preimage, times. -/
import Derived.Test.YtaonadgelkdbcaaGreatDoorQ14
import Derived.Test.YtaonadgelkdbcaaGreatDoorQ12
import Derived.Test.YtaonadgelkdbcaaGreatDoorQ1
namespace Go.Proofs.YtaonadgelkdbcaaGreatDoor
open Go.RowKit

theorem sigB_pub (x t : ByteArray) {r1 : Int} {d : ByteArray} (h : pubE x.data.toList = (r1, d.data.toList)) : sigB t x = (decide (r1 = 0) && (d.toList == t.toList)) := by
  unfold sigB
  rw [pubOf_pub, h, str_test]
  simp only
  by_cases h0 : r1 = 0
  · rw [if_pos h0, decide_eq_true h0, Bool.true_and]; rfl
  · rw [if_neg h0, decide_eq_false h0]; rfl
set_option maxRecDepth 100000 in
set_option maxHeartbeats 4000000 in
theorem ssig_any (x t : ByteArray) (lb : Nat) (w : World) (hx : x.size ≤ 900000) (hc : w.cell? ⟨lb, 1, none⟩ = some (.string t)) (hv : VarsOk w) :
    Calls Tryz.prog 20 #[.string x, .pointer (some ⟨lb, 0, none⟩)] w fun e w' => e = .returned (.bool (sigB t x)) ∧ Below w.heap.size w w' := by
  have hh := pub_any x w (by omega) hv
  obtain ⟨r1, d, hR⟩ : ∃ (r1 : Int) (d : ByteArray), pubE x.data.toList = (r1, d.data.toList) := ⟨(pubE x.data.toList).1, ⟨(pubE x.data.toList).2.toArray⟩, by simp⟩
  have HP := Lib.hid (sigB_pub x t hR)
  rw [hR] at hh
  unfold tupE at hh
  simp only at hh
  rw [show (⟨d.data.toList.toArray⟩ : ByteArray) = d from (str_eq d).symm] at hh
  have HH := Lib.hid hh
  have HC := Lib.hid hc
  clear hh hR hc hv
  by_cases h0 : r1 = 0
  · subst h0
    cases hq : (d.toList == t.toList) with
    | true =>
      have HQ := Lib.hid (show sigB t x = true by rw [HP.out, hq]; rfl)
      go_enter Tryz.func20, Tryz.ntmps20
      go_wp2_with fail
      refine HH.out.mono ?_
      rintro e w1 ⟨rfl, hb1⟩
      have hc1 := cell_below hb1 HC.out
      have HB1 := Lib.hid hb1; clear hb1
      go_wp2_with fail
      go_ret
      rw [HQ.out]
      exact ⟨rfl, HB1.out⟩
    | false =>
      have HQ := Lib.hid (show sigB t x = false by rw [HP.out, hq]; rfl)
      go_enter Tryz.func20, Tryz.ntmps20
      go_wp2_with fail
      refine HH.out.mono ?_
      rintro e w1 ⟨rfl, hb1⟩
      have hc1 := cell_below hb1 HC.out
      have HB1 := Lib.hid hb1; clear hb1
      go_wp2_with fail
      go_ret
      rw [HQ.out]
      exact ⟨rfl, HB1.out⟩
  · have HQ := Lib.hid (show sigB t x = false by rw [HP.out, decide_eq_false h0]; rfl)
    have g0 : (r1 == 0) = false := beq_false_of_ne h0
    clear h0
    go_enter Tryz.func20, Tryz.ntmps20
    go_wp2_with fail
    refine HH.out.mono ?_
    rintro e w1 ⟨rfl, hb1⟩
    have hc1 := cell_below hb1 HC.out
    have HB1 := Lib.hid hb1; clear hb1
    go_wp2_with fail
    go_ret
    rw [HQ.out]
    exact ⟨rfl, HB1.out⟩
set_option maxRecDepth 100000 in
set_option maxHeartbeats 4000000 in
theorem spre_any (x t : ByteArray) (lb : Nat) (w : World) (hx : x.size ≤ 900000) (hc : w.cell? ⟨lb, 1, none⟩ = some (.string t)) (hv : VarsOk w) :
    Calls Tryz.prog 22 #[.string x, .pointer (some ⟨lb, 0, none⟩)] w fun e w' => e = .returned (.bool (preB t x)) ∧ Below w.heap.size w w' := by
  have hh := hash_any x w hx hv
  obtain ⟨r1, d, hR⟩ : ∃ (r1 : Int) (d : ByteArray), oneE 72 x.data.toList = (r1, d.data.toList) := ⟨(oneE 72 x.data.toList).1, ⟨(oneE 72 x.data.toList).2.toArray⟩, by simp⟩
  have HP := Lib.hid (preB_one x t hR)
  rw [hR] at hh
  unfold tupE at hh
  simp only at hh
  rw [show (⟨d.data.toList.toArray⟩ : ByteArray) = d from (str_eq d).symm] at hh
  have HH := Lib.hid hh
  have HC := Lib.hid hc
  clear hh hR hc hv
  by_cases h0 : r1 = 0
  · subst h0
    cases hq : (d.toList == t.toList) with
    | true =>
      have HQ := Lib.hid (show preB t x = true by rw [HP.out, hq]; rfl)
      go_enter Tryz.func22, Tryz.ntmps22
      go_wp2_with fail
      refine HH.out.mono ?_
      rintro e w1 ⟨rfl, hb1⟩
      have hc1 := cell_below hb1 HC.out
      have HB1 := Lib.hid hb1; clear hb1
      go_wp2_with fail
      go_ret
      rw [HQ.out]
      exact ⟨rfl, HB1.out⟩
    | false =>
      have HQ := Lib.hid (show preB t x = false by rw [HP.out, hq]; rfl)
      go_enter Tryz.func22, Tryz.ntmps22
      go_wp2_with fail
      refine HH.out.mono ?_
      rintro e w1 ⟨rfl, hb1⟩
      have hc1 := cell_below hb1 HC.out
      have HB1 := Lib.hid hb1; clear hb1
      go_wp2_with fail
      go_ret
      rw [HQ.out]
      exact ⟨rfl, HB1.out⟩
  · have HQ := Lib.hid (show preB t x = false by rw [HP.out, decide_eq_false h0]; rfl)
    have g0 : (r1 == 0) = false := beq_false_of_ne h0
    clear h0
    go_enter Tryz.func22, Tryz.ntmps22
    go_wp2_with fail
    refine HH.out.mono ?_
    rintro e w1 ⟨rfl, hb1⟩
    have hc1 := cell_below hb1 HC.out
    have HB1 := Lib.hid hb1; clear hb1
    go_wp2_with fail
    go_ret
    rw [HQ.out]
    exact ⟨rfl, HB1.out⟩
set_option maxRecDepth 100000 in
set_option maxHeartbeats 4000000 in
theorem idx_sig (p : ByteArray → Bool) (l : List ByteArray) (A : Option Addr) (c : Nat) (lb : Nat) (w : World) (hl : l.length ≤ 1000) (hA : Cells w A (strs l))
    (hc : ∀ (k : Nat) (hk : k < l.length) (W : World), Below w.heap.size w W → Calls Tryz.prog 20 (#[.string l[k]] ++ #[.pointer (some ⟨lb, 0, none⟩)]) W fun e w' => e = .returned (.bool (p l[k])) ∧ Below W.heap.size W w') :
    Calls Tryz.prog 19 #[.slice A l.length c, .func (.func 20) #[] #[.pointer (some ⟨lb, 0, none⟩)]] w fun e w' => e = .returned (.int .i64 (idx p l)) ∧ Below w.heap.size w w' := by
  have HA := Lib.hid hA
  have HC := Lib.hid hc
  clear hA hc
  go_enter Tryz.func19, Tryz.ntmps19
  go_wp2_with fail
  go_loopw [8] (fun i wr => ∃ k : Nat, k ≤ l.length ∧ i = .int .i64 k ∧ (∀ j (hj : j < l.length), j < k → p l[j] = false) ∧ Below w.heap.size w wr) (fun i _ => l.length - (intOf i).toNat)
  case atStart => exact ⟨0, Nat.zero_le _, rfl, fun j _ h => by omega, Below.refl _ _⟩
  case round =>
    obtain ⟨k, hk, rfl, hall, hbr⟩ := hrel
    have HALL := Lib.hid hall; clear hall
    have HBR := Lib.hid hbr; clear hbr
    by_cases hlt : k < l.length
    · obtain ⟨ad, rfl, hc0⟩ := strs_at (Cells.below HA.out HBR.out) hlt
      have hcall := HC.out k hlt wr HBR.out
      obtain ⟨b, hb⟩ : ∃ b, p l[k] = b := ⟨_, rfl⟩
      rw [hb] at hcall
      have HBV := Lib.hid hb
      have HCALL := Lib.hid hcall
      clear hcall hb
      go_wp2_with fail
      refine HCALL.out.mono ?_
      rintro e w1 ⟨rfl, hb1⟩
      have HB1 := Lib.hid (HBR.out.trans (hb1.mono HBR.out.size))
      clear hb1 hc0
      cases b with
      | false =>
        go_wp2_with fail
        go_roundw
        case rel =>
          refine ⟨k + 1, by omega, by go_num, fun j hj hjk => ?_, HB1.out⟩
          rcases Nat.lt_or_ge j k with h | h
          · exact HALL.out j hj h
          · obtain rfl : j = k := by omega
            exact HBV.out
        case measure => simp [intOf]; omega
      | true =>
        have hf := idx_hit hlt HBV.out HALL.out
        have HF := Lib.hid hf; clear hf
        go_wp2_with fail
        go_ret
        exact ⟨ret_int HF.out.symm, HB1.out⟩
    · have hf := idx_miss (p := p) (l := l) fun j hj => HALL.out j hj (by omega)
      have HF := Lib.hid hf; clear hf
      go_wp2_with fail
      go_ret
      exact ⟨ret_int HF.out.symm, HBR.out⟩
set_option maxRecDepth 100000 in
set_option maxHeartbeats 4000000 in
theorem idx_pre (p : ByteArray → Bool) (l : List ByteArray) (A : Option Addr) (c : Nat) (lb : Nat) (w : World) (hl : l.length ≤ 1000) (hA : Cells w A (strs l))
    (hc : ∀ (k : Nat) (hk : k < l.length) (W : World), Below w.heap.size w W → Calls Tryz.prog 22 (#[.string l[k]] ++ #[.pointer (some ⟨lb, 0, none⟩)]) W fun e w' => e = .returned (.bool (p l[k])) ∧ Below W.heap.size W w') :
    Calls Tryz.prog 19 #[.slice A l.length c, .func (.func 22) #[] #[.pointer (some ⟨lb, 0, none⟩)]] w fun e w' => e = .returned (.int .i64 (idx p l)) ∧ Below w.heap.size w w' := by
  have HA := Lib.hid hA
  have HC := Lib.hid hc
  clear hA hc
  go_enter Tryz.func19, Tryz.ntmps19
  go_wp2_with fail
  go_loopw [8] (fun i wr => ∃ k : Nat, k ≤ l.length ∧ i = .int .i64 k ∧ (∀ j (hj : j < l.length), j < k → p l[j] = false) ∧ Below w.heap.size w wr) (fun i _ => l.length - (intOf i).toNat)
  case atStart => exact ⟨0, Nat.zero_le _, rfl, fun j _ h => by omega, Below.refl _ _⟩
  case round =>
    obtain ⟨k, hk, rfl, hall, hbr⟩ := hrel
    have HALL := Lib.hid hall; clear hall
    have HBR := Lib.hid hbr; clear hbr
    by_cases hlt : k < l.length
    · obtain ⟨ad, rfl, hc0⟩ := strs_at (Cells.below HA.out HBR.out) hlt
      have hcall := HC.out k hlt wr HBR.out
      obtain ⟨b, hb⟩ : ∃ b, p l[k] = b := ⟨_, rfl⟩
      rw [hb] at hcall
      have HBV := Lib.hid hb
      have HCALL := Lib.hid hcall
      clear hcall hb
      go_wp2_with fail
      refine HCALL.out.mono ?_
      rintro e w1 ⟨rfl, hb1⟩
      have HB1 := Lib.hid (HBR.out.trans (hb1.mono HBR.out.size))
      clear hb1 hc0
      cases b with
      | false =>
        go_wp2_with fail
        go_roundw
        case rel =>
          refine ⟨k + 1, by omega, by go_num, fun j hj hjk => ?_, HB1.out⟩
          rcases Nat.lt_or_ge j k with h | h
          · exact HALL.out j hj h
          · obtain rfl : j = k := by omega
            exact HBV.out
        case measure => simp [intOf]; omega
      | true =>
        have hf := idx_hit hlt HBV.out HALL.out
        have HF := Lib.hid hf; clear hf
        go_wp2_with fail
        go_ret
        exact ⟨ret_int HF.out.symm, HB1.out⟩
    · have hf := idx_miss (p := p) (l := l) fun j hj => HALL.out j hj (by omega)
      have HF := Lib.hid hf; clear hf
      go_wp2_with fail
      go_ret
      exact ⟨ret_int HF.out.symm, HBR.out⟩
set_option maxRecDepth 100000 in
set_option maxHeartbeats 4000000 in
theorem index_any (l : List ByteArray) (t : ByteArray) (A : Option Addr) (c : Nat) (w : World) (hl : l.length ≤ 1000000) (hA : Cells w A (strs l)) :
    Calls Tryz.prog 69 #[.slice A l.length c, .string t] w fun e w' => e = .returned (.int .i64 (idx (fun x => t.toList == x.toList) l)) ∧ w' = w := by
  have HA := Lib.hid hA
  clear hA
  go_enter Tryz.func69, Tryz.ntmps69
  go_wp2_with fail
  go_loop [8] (fun i => ∃ k : Nat, k ≤ l.length ∧ i = .int .i64 k ∧ (∀ j (hj : j < l.length), j < k → (t.toList == l[j].toList) = false)) (fun i => l.length - (intOf i).toNat)
  case atStart => exact ⟨0, Nat.zero_le _, rfl, fun j _ h => by omega⟩
  case round =>
    obtain ⟨k, hk, rfl, hall⟩ := hrel
    have HALL := Lib.hid hall; clear hall
    by_cases hlt : k < l.length
    · obtain ⟨ad, rfl, hc0⟩ := strs_at HA.out hlt
      obtain ⟨b, hb⟩ : ∃ b, (t.toList == l[k].toList) = b := ⟨_, rfl⟩
      have HBV := Lib.hid hb
      cases b with
      | false =>
        go_wp2_with fail
        go_round
        case rel =>
          refine ⟨k + 1, by omega, by go_num, fun j hj hjk => ?_⟩
          rcases Nat.lt_or_ge j k with h | h
          · exact HALL.out j hj h
          · obtain rfl : j = k := by omega
            exact HBV.out
        case measure => simp [intOf]; omega
      | true =>
        have hf := idx_hit (p := fun x : ByteArray => t.toList == x.toList) hlt HBV.out HALL.out
        have HF := Lib.hid hf; clear hf
        go_wp2_with fail
        go_ret
        exact ⟨ret_int HF.out.symm, rfl⟩
    · have hf := idx_miss (p := fun x : ByteArray => t.toList == x.toList) (l := l) fun j hj => HALL.out j hj (by omega)
      have HF := Lib.hid hf; clear hf
      go_wp2_with fail
      go_ret
      exact ⟨ret_int HF.out.symm, rfl⟩
set_option maxRecDepth 100000 in
theorem contains_any (l : List ByteArray) (t : ByteArray) (A : Option Addr) (c : Nat) (w : World) (hl : l.length ≤ 1000000) (hA : Cells w A (strs l)) :
    Calls Tryz.prog 46 #[.slice A l.length c, .string t] w fun e w' => e = .returned (.bool (l.any fun x => x.data.toList == t.data.toList)) ∧ w' = w := by
  have hf := idx_any (fun x : ByteArray => t.toList == x.toList) l
  have he : (fun x : ByteArray => t.toList == x.toList) = fun x => x.data.toList == t.data.toList := by
    funext x
    rw [Go.ByteArray.toList_eq, Go.ByteArray.toList_eq]
    exact Bool.eq_iff_iff.2 ⟨fun h => by rw [beq_iff_eq] at h ⊢; exact h.symm, fun h => by rw [beq_iff_eq] at h ⊢; exact h.symm⟩
  have HI := Lib.hid (index_any l t A c w hl hA)
  rw [he] at hf HI
  obtain ⟨i, hi⟩ : ∃ i, idx (fun x : ByteArray => x.data.toList == t.data.toList) l = i := ⟨_, rfl⟩
  rw [hi] at hf HI
  have HF := Lib.hid hf
  clear hA hf he hi
  go_enter Tryz.func46, Tryz.ntmps46
  go_wp2_with fail
  refine HI.out.mono ?_
  rintro e w1 ⟨rfl, rfl⟩
  go_wp2_with fail
  go_ret
  exact ⟨ret_bool HF.out, rfl⟩
/-- The greatest of two numbers, at least 0. -/
theorem most_any (a b : Int) (A : Option Addr) (c : Nat) (w : World) (hA : Cells w A (ivs [a, b])) : Calls Tryz.prog 24 #[.slice A 2 c] w fun e w' => e = .returned (.int .i64 (max (max 0 a) b)) ∧ w' = w := by
  obtain ⟨ad, rfl, c0⟩ := ivs_at hA (show 0 < [a, b].length by simp)
  obtain ⟨ad', he, c1⟩ := ivs_at hA (show 1 < [a, b].length by simp)
  obtain rfl := Option.some.inj he
  have HA := Lib.hid hA
  clear hA
  go_enter Tryz.func24, Tryz.ntmps24
  go_wp2_with fail
  go_loop [8, 3] (fun i n => ∃ k : Nat, k ≤ 2 ∧ i = .int .i64 k ∧ n = .int .i64 (([a, b].take k).foldl max 0)) (fun i _ => 2 - (intOf i).toNat)
  case atStart => exact ⟨0, Nat.zero_le _, rfl, rfl⟩
  case round =>
    obtain ⟨k, hk, rfl, rfl⟩ := hrel
    by_cases hlt : k < 2
    · obtain ⟨ad', he, ck⟩ := ivs_at HA.out (show k < [a, b].length from hlt)
      obtain rfl := Option.some.inj he
      have hs : ([a, b].take (k + 1)).foldl max 0 = max (([a, b].take k).foldl max 0) [a, b][k] := by
        rw [List.take_succ_eq_append_getElem (show k < [a, b].length from hlt), List.foldl_append]; rfl
      have HS := Lib.hid hs
      generalize [a, b][k] = x at ck HS
      generalize ([a, b].take k).foldl max 0 = n at HS
      clear hs c0 c1
      go_wp2_with fail
      go_round
      case rel => exact ⟨k + 1, by omega, by go_num, by rw [HS.out]⟩
      case measure => simp [intOf]; omega
    · obtain rfl : k = 2 := by omega
      clear c0 c1
      go_wp2_with fail
      go_ret
      exact ⟨rfl, rfl⟩
end Go.Proofs.YtaonadgelkdbcaaGreatDoor

namespace Go.Proofs.YtaonadgelkdbcaaGreatDoor
open Go.RowKit

theorem slTerm1 : SlTy Tryz.prog 26 29 (.string ⟨#[]⟩) 16 := ⟨Tryz.underlying26, by kernel_rfl, rfl⟩
theorem joinL_snoc : ∀ (l a : List ByteArray) (t : ByteArray), joinL a (l ++ [t]) = if (joinL a l).any (fun x => x.data.toList == t.data.toList) then joinL a l else joinL a l ++ [t]
  | [], a, t => by
    show joinL a [t] = _
    unfold joinL
    show joinL _ [] = _
    unfold joinL
    rfl
  | x :: r, a, t => by
    rw [List.cons_append]
    conv => lhs; unfold joinL
    rw [joinL_snoc r _ t]
    conv => rhs; unfold joinL
theorem joinL_len : ∀ (l a : List ByteArray), (joinL a l).length ≤ a.length + l.length
  | [], a => by unfold joinL; simp
  | x :: r, a => by
    unfold joinL
    have := joinL_len r (if a.any (fun y => y.data.toList == x.data.toList) then a else a ++ [x])
    have hb : (if a.any (fun y => y.data.toList == x.data.toList) then a else a ++ [x]).length ≤ a.length + 1 := by split <;> simp
    rw [List.length_cons]
    omega
theorem joinL_take {l a : List ByteArray} {k : Nat} (hk : k < l.length) : joinL a (l.take (k + 1)) = if (joinL a (l.take k)).any (fun x => x.data.toList == l[k].data.toList) then joinL a (l.take k) else joinL a (l.take k) ++ [l[k]] := by
  rw [List.take_succ_eq_append_getElem hk, joinL_snoc]
/-- Two blocks are apart. -/
def Apart (B : Option Addr) (row : Option Nat) : Prop := ∀ ad, B = some ad → row ≠ some ad.block
theorem cells_grown {w w' : World} {row : Option Nat} {B : Option Addr} {xs : List Value} (h : Cells w B xs) (hg : w.grownBy w' row) (ha : Apart B row) : Cells w' B xs := by
  intro hn
  obtain ⟨ad, rfl, hc⟩ := h hn
  refine ⟨ad, rfl, fun j u hj => ?_⟩
  have hcj := hc j u hj
  have hl := World.block_lt_of_cell? w _ hcj
  have hblk : (ad.add j).block = ad.block := by unfold Addr.add; split <;> rfl
  have hb := hg.block (ad.add j).block hl (by rw [hblk]; exact fun e => ha ad rfl e.symm)
  unfold World.cell? at hcj ⊢
  rw [hb]; exact hcj
/-- What grew stays grown where a row of the call's own, or a new one, grows on. -/
theorem grown_next {w w' w'' : World} {r r' : Option Nat} (h : w.grownBy w' r) (h' : w'.grownBy w'' r') (ho : r' = r ∨ ∃ g, r' = some g ∧ w.heap.size ≤ g) : w.grownBy w'' r := by
  rcases ho with rfl | ⟨g, rfl, hg⟩
  · exact h.trans h'
  · exact ⟨h'.os.trans h.os, h'.tape.trans h.tape, h'.output.trans h.output, Nat.le_trans h.size h'.size, fun i hi hn => (h'.block i (Nat.lt_of_lt_of_le hi h.size) (fun e => by injection e with e; omega)).trans (h.block i hi hn)⟩
theorem own_next {w w' : World} {r r0 r' r'' : Option Nat} (h : w.grownBy w' r0) (ho : r' = r ∨ ∃ g, r' = some g ∧ w.heap.size ≤ g) (hat : r'' = r' ∨ r'' = some (w'.heap.size + 1)) : r'' = r ∨ ∃ g, r'' = some g ∧ w.heap.size ≤ g := by
  rcases hat with rfl | rfl
  · exact ho
  · exact .inr ⟨_, rfl, by have := h.size; omega⟩
set_option maxRecDepth 100000 in
set_option maxHeartbeats 8000000 in
theorem join_any (la lb : List ByteArray) (v : Value) (B : Option Addr) (cb base : Nat) (w : World) (h1 : la.length ≤ 100000) (h2 : lb.length ≤ 100000) (hbase : base ≤ w.heap.size) (hv : Row w base 29 v (strs la)) (hB : Cells w B (strs lb)) (hap : Apart B v.ownBlock) :
    Calls Tryz.prog 25 #[v, .slice B lb.length cb] w fun e w' => ∃ v', e = .returned v' ∧ Row w' base 29 v' (strs (joinL la lb)) ∧ w.grownBy w' v.ownBlock ∧ Below base w w' ∧ (v'.ownBlock = v.ownBlock ∨ ∃ g, v'.ownBlock = some g ∧ w.heap.size ≤ g) := by
  have hsl : ∀ l : List ByteArray, (strs l).length = l.length := fun l => by simp [strs]
  obtain ⟨A0, c0, hv0, -, -⟩ := Row.shape hv
  rw [hsl] at hv0
  have HVR := Lib.hid hv
  have HBC := Lib.hid hB
  have HAP := Lib.hid hap
  have HV0 := Lib.hid hv0
  clear hv hB hap
  subst hv0
  go_enter Tryz.func25, Tryz.ntmps25
  go_wp2_with fail
  go_loopw [9, 0] (fun i a wr => ∃ (k : Nat), k ≤ lb.length ∧ i = .int .i64 (k : Int) ∧ Row wr base 29 a (strs (joinL la (lb.take k))) ∧ w.grownBy wr (Value.slice A0 la.length c0).ownBlock ∧ Below base w wr ∧ (a.ownBlock = (Value.slice A0 la.length c0).ownBlock ∨ ∃ g, a.ownBlock = some g ∧ w.heap.size ≤ g)) (fun i _ _ => lb.length - (intOf i).toNat)
  case atStart => exact ⟨0, Nat.zero_le _, rfl, by rw [List.take_zero]; unfold joinL; exact HVR.out, World.grownBy.refl _ _, Below.refl _ _, .inl rfl⟩
  case round =>
    obtain ⟨k, hk, rfl, hrow, hgr, hbl, hown⟩ := hrel
    obtain ⟨Av, cv, rfl, -, -⟩ := Row.shape hrow
    have HGR := Lib.hid hgr
    have HBL := Lib.hid hbl
    have hjl : (joinL la (lb.take k)).length ≤ 200000 := by have := joinL_len (lb.take k) la; rw [List.length_take] at this; omega
    by_cases hlt : k < lb.length
    · obtain ⟨ad, rfl, hc0⟩ := strs_at (cells_grown HBC.out hgr HAP.out) hlt
      have HT := Lib.hid (joinL_take (a := la) hlt)
      obtain ⟨t, ht⟩ : ∃ t, lb[k] = t := ⟨_, rfl⟩
      rw [ht] at hc0 HT
      obtain ⟨J, hJ⟩ : ∃ J, joinL la (lb.take k) = J := ⟨_, rfl⟩
      rw [hJ] at HT hjl
      have hJlen : (strs (joinL la (lb.take k))).length = J.length := by rw [hsl, hJ]
      rw [hJlen] at hrow hown ⊢
      rw [hJ] at hrow
      have HROW := Lib.hid hrow
      have HOWN := Lib.hid hown
      have HCON := Lib.hid (contains_any J t Av cv wr (by omega) (row_cells hrow))
      clear hrow hgr hbl hown ht hJ hJlen
      cases hq : J.any (fun x => x.data.toList == t.data.toList) with
      | true =>
        rw [hq] at HCON HT
        clear hq
        go_wp2_with fail
        refine HCON.out.mono ?_
        rintro e w1 ⟨rfl, rfl⟩
        go_wp2_with fail
        go_roundw
        case rel => exact ⟨k + 1, by omega, by go_num, by rw [HT.out]; exact HROW.out, HGR.out, HBL.out, HOWN.out⟩
        case measure => simp [intOf]; omega
      | false =>
        rw [hq] at HCON HT
        clear hq
        have hJs := hsl J
        have HSZ := Lib.hid (show base ≤ wr.heap.size from Nat.le_trans hbase HBL.out.size)
        go_wp2_with fail
        refine HCON.out.mono ?_
        rintro e w1 ⟨rfl, rfl⟩
        go_wp2_with (at_builtin
                     refine wpList_row1 slTerm1 rfl (.tmp 17) (.tmp 19) rfl base (.slice Av J.length cv) (strs J) (by rfl) HROW.out (.string t) (by rfl) (by rfl) (by rw [hJs]; omega) (by rw [hJs]; omega) HSZ.out ?_
                     intro v6 w6 hr6 hg6 hb6 hat6
                     have HR6 := Lib.hid hr6
                     have HB6 := Lib.hid (HBL.out.trans hb6)
                     have HG6 := Lib.hid (grown_next HGR.out hg6 HOWN.out)
                     have HO6 := Lib.hid (own_next HGR.out HOWN.out hat6)
                     clear hr6 hg6 hb6 hat6)
        go_roundw
        case rel =>
          refine ⟨k + 1, by omega, by go_num, ?_, HG6.out, HB6.out, HO6.out⟩
          rw [HT.out]
          have e : strs (J ++ [t]) = strs J ++ [Value.string t] := by simp [strs]
          show Row _ _ _ _ (strs (if false = true then J else J ++ [t]))
          rw [if_neg (by simp), e]
          exact HR6.out
        case measure => simp [intOf]; omega
    · have htk : lb.take k = lb := List.take_of_length_le (by omega)
      rw [htk] at hrow hown ⊢
      have HROW := Lib.hid hrow
      have HOWN := Lib.hid hown
      clear hrow hgr hbl hown hjl htk
      go_wp2_with fail
      go_ret
      exact ⟨_, rfl, HROW.out, HGR.out, HBL.out, HOWN.out⟩
end Go.Proofs.YtaonadgelkdbcaaGreatDoor

namespace Go.Proofs.YtaonadgelkdbcaaGreatDoor
open Go.RowKit

def claimV (a g : Int) (K P : Value) : Value := .agg #[.int .i64 0, .int .i64 0, .int .u8 0, .string ⟨#[]⟩, .int .i64 0, .slice none 0 0, .int .i64 a, .int .i64 g, K, P]
def ClaimAt (w : World) (b : Nat) (a g : Int) (K P : Value) : Prop := w.heap[b]? = some (.cells #[.int .i64 0, .int .i64 0, .int .u8 0, .string ⟨#[]⟩, .int .i64 0, .slice none 0 0, .int .i64 a, .int .i64 g, K, P] 36 (0, 0))
theorem ClaimAt.cells {w : World} {b : Nat} {a g : Int} {K P : Value} (h : ClaimAt w b a g K P) : w.cell? ⟨b, 0, none⟩ = some (.int .i64 0) ∧ w.cell? ⟨b, 1, none⟩ = some (.int .i64 0) ∧ w.cell? ⟨b, 2, none⟩ = some (.int .u8 0) ∧ w.cell? ⟨b, 3, none⟩ = some (.string ⟨#[]⟩) ∧ w.cell? ⟨b, 4, none⟩ = some (.int .i64 0) ∧ w.cell? ⟨b, 5, none⟩ = some (.slice none 0 0) ∧ w.cell? ⟨b, 6, none⟩ = some (.int .i64 a) ∧ w.cell? ⟨b, 7, none⟩ = some (.int .i64 g) ∧ w.cell? ⟨b, 8, none⟩ = some K ∧ w.cell? ⟨b, 9, none⟩ = some P ∧ ∀ j, w.frozen? ⟨b, j, none⟩ = false := by
  unfold ClaimAt at h
  refine ⟨by simp [World.cell?, h], by simp [World.cell?, h], by simp [World.cell?, h], by simp [World.cell?, h], by simp [World.cell?, h], by simp [World.cell?, h], by simp [World.cell?, h], by simp [World.cell?, h], by simp [World.cell?, h], by simp [World.cell?, h], fun j => by simp [World.frozen?, h]⟩
theorem ClaimAt.fr {F : List Nat} {w w' : World} {b : Nat} {a g : Int} {K P : Value} (h : ClaimAt w b a g K P) (hf : Fr F w w') (hb : b ∉ F) : ClaimAt w' b a g K P := (hf.block b (lt_of_block h) hb).trans h
theorem ClaimAt.below {w w' : World} {b : Nat} {a g : Int} {K P : Value} (h : ClaimAt w b a g K P) (hb : Below w.heap.size w w') : ClaimAt w' b a g K P := h.fr (Fr.below (F := []) hb) (by simp)
/-- A whole claim stored. -/
def put10 (w : World) (g : Nat) (x0 x1 x2 x3 x4 x5 x6 x7 x8 x9 : Value) : World := (put5 w g x0 x1 x2 x3 x4 |>.setCell ⟨g, 5, none⟩ x5 |>.setCell ⟨g, 6, none⟩ x6 |>.setCell ⟨g, 7, none⟩ x7 |>.setCell ⟨g, 8, none⟩ x8 |>.setCell ⟨g, 9, none⟩ x9)
theorem put10_gen {w : World} {g : Nat} {x0 x1 x2 x3 x4 x5 x6 x7 x8 x9 : Value} {T : TypeId} {z : Nat × Nat} (h : w.heap[g]? = some (.cells #[x0, x1, x2, x3, x4, x5, x6, x7, x8, x9] T z)) (y0 y1 y2 y3 y4 y5 y6 y7 y8 y9 : Value) : (put10 w g y0 y1 y2 y3 y4 y5 y6 y7 y8 y9).heap[g]? = some (.cells #[y0, y1, y2, y3, y4, y5, y6, y7, y8, y9] T z) := by
  unfold put10 put5
  have h0 := setCell_cells h 0 y0
  have h1 := setCell_cells h0 1 y1
  have h2 := setCell_cells h1 2 y2
  have h3 := setCell_cells h2 3 y3
  have h4 := setCell_cells h3 4 y4
  have h5 := setCell_cells h4 5 y5
  have h6 := setCell_cells h5 6 y6
  have h7 := setCell_cells h6 7 y7
  have h8 := setCell_cells h7 8 y8
  have h9 := setCell_cells h8 9 y9
  rw [h9]
  simp
theorem put10_at {w : World} {b : Nat} {a g : Int} {K P : Value} (h : ClaimAt w b a g K P) (a' g' : Int) (K' P' : Value) : ClaimAt (put10 w b (.int .i64 0) (.int .i64 0) (.int .u8 0) (.string ⟨#[]⟩) (.int .i64 0) (.slice none 0 0) (.int .i64 a') (.int .i64 g') K' P') b a' g' K' P' :=
  put10_gen h _ _ _ _ _ _ _ _ _ _
theorem put10_fr (w : World) (g : Nat) (x0 x1 x2 x3 x4 x5 x6 x7 x8 x9 : Value) {F : List Nat} (hg : g ∈ F) : Fr F w (put10 w g x0 x1 x2 x3 x4 x5 x6 x7 x8 x9) := by
  unfold put10
  exact (((((put5_fr w g x0 x1 x2 x3 x4 hg).trans (Fr.put0 _ g 5 x5 hg) (fun _ h _ => h)).trans (Fr.put0 _ g 6 x6 hg) (fun _ h _ => h)).trans (Fr.put0 _ g 7 x7 hg) (fun _ h _ => h)).trans (Fr.put0 _ g 8 x8 hg) (fun _ h _ => h)).trans (Fr.put0 _ g 9 x9 hg) (fun _ h _ => h)
theorem row_ne_claim {w : World} {base b : Nat} {E : TypeId} {v K P : Value} {xs : List Value} {a g : Int} (h : Row w base E v xs) (hE : E ≠ 36) (hc : ClaimAt w b a g K P) : ∀ i, v.ownBlock = some i → i ≠ b := fun i hg eq => by
  rcases h with ⟨rfl, -⟩ | ⟨g', off, cap, cur, fr, rfl, hb, hh, r⟩
  · cases hg
  · injection hg with hg
    have hg' : g' = i := hg
    subst hg'
    subst eq
    unfold ClaimAt at hc
    rw [hc] at hh
    injection hh with hh
    injection hh with h1 h2
    exact hE h2.symm
/-- A lock's copy in a block: its kind. -/
def KindAt (w : World) (b : Nat) (k : Int) : Prop := ∃ (cs : Array Value) (z : Nat × Nat), w.heap[b]? = some (.cells cs 32 z) ∧ cs[0]? = some (.int .u8 k)
theorem KindAt.cell {w : World} {b : Nat} {k : Int} (h : KindAt w b k) : w.cell? ⟨b, 0, none⟩ = some (.int .u8 k) := by
  obtain ⟨cs, z, h1, h2⟩ := h
  unfold World.cell?
  rw [h1]
  simpa using h2
theorem KindAt.fr {F : List Nat} {w w' : World} {b : Nat} {k : Int} (h : KindAt w b k) (hf : Fr F w w') (hb : b ∉ F) : KindAt w' b k := by
  obtain ⟨cs, z, h1, h2⟩ := h
  exact ⟨cs, z, (hf.block b (lt_of_block h1) hb).trans h1, h2⟩
theorem KindAt.below {w w' : World} {b : Nat} {k : Int} (h : KindAt w b k) (hb : Below w.heap.size w w') : KindAt w' b k := h.fr (Fr.below (F := []) hb) (by simp)
theorem row_ne_kind {w : World} {base b : Nat} {E : TypeId} {v : Value} {xs : List Value} {k : Int} (h : Row w base E v xs) (hE : E ≠ 32) (hc : KindAt w b k) : ∀ i, v.ownBlock = some i → i ≠ b := fun i hg eq => by
  obtain ⟨cs, z, hc1, -⟩ := hc
  rcases h with ⟨rfl, -⟩ | ⟨g', off, cap, cur, fr, rfl, hb, hh, r⟩
  · cases hg
  · injection hg with hg
    have hg' : g' = i := hg
    subst hg'
    subst eq
    rw [hc1] at hh
    injection hh with hh
    injection hh with h1 h2
    exact hE h2.symm
/-- What a way tells. -/
def WayP (R : Option ClaimR) (w : World) (e : Ending) (w' : World) : Prop :=
  match R with
  | none => ∃ (K : Option Addr) (kc : Nat) (P : Option Addr) (pc : Nat), e = .returned (.tuple #[claimV 0 0 (.slice K 0 kc) (.slice P 0 pc), .bool false]) ∧ Below w.heap.size w w'
  | some c => ∃ (K : Option Addr) (kc : Nat) (P : Option Addr) (pc : Nat), e = .returned (.tuple #[claimV c.after c.age (.slice K c.keys.length kc) (.slice P c.pres.length pc), .bool true]) ∧ Row w' w.heap.size 29 (.slice K c.keys.length kc) (strs c.keys) ∧ Row w' w.heap.size 29 (.slice P c.pres.length pc) (strs c.pres) ∧ ((Value.slice K c.keys.length kc).ownBlock = none ∨ (Value.slice K c.keys.length kc).ownBlock ≠ (Value.slice P c.pres.length pc).ownBlock) ∧ Below w.heap.size w w'
theorem idx_find {α : Type} (p : α → Bool) (l : List α) : (l.find? p = none ∧ idx p l = -1) ∨ ∃ (k : Nat) (hk : k < l.length), idx p l = (k : Int) ∧ l.find? p = some l[k] := by
  unfold idx
  cases h : l.findIdx? p with
  | none =>
    left
    rw [List.findIdx?_eq_none_iff] at h
    exact ⟨List.find?_eq_none.2 fun x hx => by rw [h x hx]; simp, rfl⟩
  | some k =>
    right
    rw [List.findIdx?_eq_some_iff_getElem] at h
    obtain ⟨hk, h1, h2⟩ := h
    refine ⟨k, hk, rfl, ?_⟩
    rw [List.find?_eq_some_iff_getElem]
    exact ⟨h1, k, hk, rfl, fun j hj => by have := h2 j hj; simpa using this⟩
/-- The secrets and preimages that Solve's ways look through. -/
structure EnvAt (w : World) (sb pb : Nat) (ks ps : List ByteArray) : Prop where
  secrets : ∃ (A : Option Addr) (c : Nat), w.cell? ⟨sb, 0, none⟩ = some (.slice A ks.length c) ∧ Cells w A (strs ks)
  pres : ∃ (A : Option Addr) (c : Nat), w.cell? ⟨pb, 0, none⟩ = some (.slice A ps.length c) ∧ Cells w A (strs ps)
theorem EnvAt.below {w w' : World} {sb pb : Nat} {ks ps : List ByteArray} (h : EnvAt w sb pb ks ps) (hb : Below w.heap.size w w') : EnvAt w' sb pb ks ps := by
  obtain ⟨⟨A, c, h1, h2⟩, B, d, h3, h4⟩ := h
  exact ⟨⟨A, c, cell_below hb h1, Cells.below h2 hb⟩, B, d, cell_below hb h3, Cells.below h4 hb⟩
structure EnvOk (ks ps : List ByteArray) : Prop where
  k1 : ks.length ≤ 1000
  p1 : ps.length ≤ 1000
  k2 : ∀ x ∈ ks, x.size ≤ 900000
  p2 : ∀ x ∈ ps, x.size ≤ 900000
set_option maxRecDepth 100000 in
set_option maxHeartbeats 8000000 in
theorem way_after (t : ByteArray) (n : Int) (m : Nat) (A : Option Addr) (cap : Nat) (sb pb wb : Nat) (w : World) :
    Calls Tryz.prog 18 #[.agg #[.int .u8 3, .string t, .int .i64 n, .slice A m cap], .pointer (some ⟨sb, 0, none⟩), .pointer (some ⟨pb, 0, none⟩), .pointer (some ⟨wb, 0, none⟩)] w (WayP (some ⟨n, 0, [], []⟩) w) := by
  have hA : ClaimAt ((w.alloc (.cells #[.int .u8 3, .string t, .int .i64 n, .slice A m cap] 32)).alloc (.cells #[.int .i64 0, .int .i64 0, .int .u8 0, .string ⟨#[]⟩, .int .i64 0, .slice none 0 0, .int .i64 n, .int .i64 0, (.slice none 0 0), (.slice none 0 0)] 36)) (w.heap.size + 1) n 0 (.slice none 0 0) (.slice none 0 0) := by
    have h := Go.heap_alloc_new (w.alloc (.cells #[.int .u8 3, .string t, .int .i64 n, .slice A m cap] 32)) (.cells #[.int .i64 0, .int .i64 0, .int .u8 0, .string ⟨#[]⟩, .int .i64 0, .slice none 0 0, .int .i64 n, .int .i64 0, (.slice none 0 0), (.slice none 0 0)] 36)
    rw [show (w.alloc (.cells #[.int .u8 3, .string t, .int .i64 n, .slice A m cap] 32)).heap.size = w.heap.size + 1 by simp] at h
    exact h
  have hF : Below w.heap.size w ((w.alloc (.cells #[.int .u8 3, .string t, .int .i64 n, .slice A m cap] 32)).alloc (.cells #[.int .i64 0, .int .i64 0, .int .u8 0, .string ⟨#[]⟩, .int .i64 0, .slice none 0 0, .int .i64 n, .int .i64 0, (.slice none 0 0), (.slice none 0 0)] 36)) := ((Below.refl _ _).alloc (Nat.le_refl _) _).alloc (by simp) _
  go_enter Tryz.func18, Tryz.ntmps18
  go_wp2_with fail
  obtain ⟨r0, r1, r2, r3, r4, r5, r6, r7, r8, r9, -⟩ := hA.cells
  exact bodyPost_ret (v := .tuple #[claimV n 0 (.slice none 0 0) (.slice none 0 0), .bool true]) (by simp [results, Tryz.results18, go_sem, r0, r1, r2, r3, r4, r5, r6, r7, r8, r9, claimV]) rfl ⟨none, 0, none, 0, rfl, Row.nil _ _ _, Row.nil _ _ _, .inl rfl, hF⟩
set_option maxRecDepth 100000 in
set_option maxHeartbeats 8000000 in
theorem way_older (t : ByteArray) (n : Int) (m : Nat) (A : Option Addr) (cap : Nat) (sb pb wb : Nat) (w : World) :
    Calls Tryz.prog 18 #[.agg #[.int .u8 4, .string t, .int .i64 n, .slice A m cap], .pointer (some ⟨sb, 0, none⟩), .pointer (some ⟨pb, 0, none⟩), .pointer (some ⟨wb, 0, none⟩)] w (WayP (some ⟨0, n, [], []⟩) w) := by
  have hA : ClaimAt ((w.alloc (.cells #[.int .u8 4, .string t, .int .i64 n, .slice A m cap] 32)).alloc (.cells #[.int .i64 0, .int .i64 0, .int .u8 0, .string ⟨#[]⟩, .int .i64 0, .slice none 0 0, .int .i64 0, .int .i64 n, (.slice none 0 0), (.slice none 0 0)] 36)) (w.heap.size + 1) 0 n (.slice none 0 0) (.slice none 0 0) := by
    have h := Go.heap_alloc_new (w.alloc (.cells #[.int .u8 4, .string t, .int .i64 n, .slice A m cap] 32)) (.cells #[.int .i64 0, .int .i64 0, .int .u8 0, .string ⟨#[]⟩, .int .i64 0, .slice none 0 0, .int .i64 0, .int .i64 n, (.slice none 0 0), (.slice none 0 0)] 36)
    rw [show (w.alloc (.cells #[.int .u8 4, .string t, .int .i64 n, .slice A m cap] 32)).heap.size = w.heap.size + 1 by simp] at h
    exact h
  have hF : Below w.heap.size w ((w.alloc (.cells #[.int .u8 4, .string t, .int .i64 n, .slice A m cap] 32)).alloc (.cells #[.int .i64 0, .int .i64 0, .int .u8 0, .string ⟨#[]⟩, .int .i64 0, .slice none 0 0, .int .i64 0, .int .i64 n, (.slice none 0 0), (.slice none 0 0)] 36)) := ((Below.refl _ _).alloc (Nat.le_refl _) _).alloc (by simp) _
  go_enter Tryz.func18, Tryz.ntmps18
  go_wp2_with fail
  obtain ⟨r0, r1, r2, r3, r4, r5, r6, r7, r8, r9, -⟩ := hA.cells
  exact bodyPost_ret (v := .tuple #[claimV 0 n (.slice none 0 0) (.slice none 0 0), .bool true]) (by simp [results, Tryz.results18, go_sem, r0, r1, r2, r3, r4, r5, r6, r7, r8, r9, claimV]) rfl ⟨none, 0, none, 0, rfl, Row.nil _ _ _, Row.nil _ _ _, .inl rfl, hF⟩
set_option maxRecDepth 100000 in
set_option maxHeartbeats 8000000 in
theorem way_sig (t : ByteArray) (n : Int) (m : Nat) (A : Option Addr) (cap : Nat) (sb pb wb : Nat) (ks ps : List ByteArray) (w : World) (ho : EnvOk ks ps) (he : EnvAt w sb pb ks ps) (hv : VarsOk w) :
    Calls Tryz.prog 18 #[.agg #[.int .u8 1, .string t, .int .i64 n, .slice A m cap], .pointer (some ⟨sb, 0, none⟩), .pointer (some ⟨pb, 0, none⟩), .pointer (some ⟨wb, 0, none⟩)] w (WayP ((ks.find? (sigB t)).map fun x => ⟨0, 0, [x], []⟩) w) := by
  have hb : Below w.heap.size w ((w.alloc (.cells #[.int .u8 1, .string t, .int .i64 n, .slice A m cap] 32)).alloc (.cells #[.int .i64 0, .int .i64 0, .int .u8 0, .string ⟨#[]⟩, .int .i64 0, .slice none 0 0, .int .i64 0, .int .i64 0, (.slice none 0 0), (.slice none 0 0)] 36)) := ((Below.refl _ _).alloc (Nat.le_refl _) _).alloc (by simp) _
  have hz : ClaimAt ((w.alloc (.cells #[.int .u8 1, .string t, .int .i64 n, .slice A m cap] 32)).alloc (.cells #[.int .i64 0, .int .i64 0, .int .u8 0, .string ⟨#[]⟩, .int .i64 0, .slice none 0 0, .int .i64 0, .int .i64 0, (.slice none 0 0), (.slice none 0 0)] 36)) (w.heap.size + 1) 0 0 (.slice none 0 0) (.slice none 0 0) := by
    have h := Go.heap_alloc_new (w.alloc (.cells #[.int .u8 1, .string t, .int .i64 n, .slice A m cap] 32)) (.cells #[.int .i64 0, .int .i64 0, .int .u8 0, .string ⟨#[]⟩, .int .i64 0, .slice none 0 0, .int .i64 0, .int .i64 0, (.slice none 0 0), (.slice none 0 0)] 36)
    rw [show (w.alloc (.cells #[.int .u8 1, .string t, .int .i64 n, .slice A m cap] 32)).heap.size = w.heap.size + 1 by simp] at h
    exact h
  have q1 : ((w.alloc (.cells #[.int .u8 1, .string t, .int .i64 n, .slice A m cap] 32)).alloc (.cells #[.int .i64 0, .int .i64 0, .int .u8 0, .string ⟨#[]⟩, .int .i64 0, .slice none 0 0, .int .i64 0, .int .i64 0, (.slice none 0 0), (.slice none 0 0)] 36)).cell? ⟨w.heap.size, 1, none⟩ = some (.string t) := cell_below ((Below.refl _ _).alloc (Nat.le_refl _) _) (alloc_cells 1 _ rfl : (w.alloc (.cells #[.int .u8 1, .string t, .int .i64 n, .slice A m cap] 32)).cell? ⟨w.heap.size, 1, none⟩ = some (.string t))
  obtain ⟨SA, sc, e1, e2⟩ := (he.below hb).secrets
  have HI := Lib.hid (idx_sig (sigB t) ks SA sc w.heap.size ((w.alloc (.cells #[.int .u8 1, .string t, .int .i64 n, .slice A m cap] 32)).alloc (.cells #[.int .i64 0, .int .i64 0, .int .u8 0, .string ⟨#[]⟩, .int .i64 0, .slice none 0 0, .int .i64 0, .int .i64 0, (.slice none 0 0), (.slice none 0 0)] 36)) ho.k1 e2 (fun k hk W hW => ssig_any ks[k] t w.heap.size W (ho.k2 _ (List.getElem_mem _)) (cell_below hW q1) ((hv.below hb).below hW)))
  have HB := Lib.hid hb
  have HZ := Lib.hid hz
  have HE := Lib.hid (he.below hb)
  have HE2 := Lib.hid e2
  rcases idx_find (sigB t) ks with ⟨hf, hi⟩ | ⟨j, hj, hi, hf⟩
  · rw [hf]
    rw [hi] at HI
    clear hb hz he e2 hf hi hv ho q1
    go_enter Tryz.func18, Tryz.ntmps18
    go_wp2_with fail
    refine HI.out.mono ?_
    rintro e w1 ⟨rfl, hb1⟩
    obtain ⟨z0, z1, z2, z3, z4, z5, z6, z7, z8, z9, zf⟩ := (HZ.out.below hb1).cells
    have HZ1 := Lib.hid (HZ.out.below hb1)
    have HB1 := Lib.hid (HB.out.trans (hb1.mono HB.out.size))
    clear hb1
    go_wp2_with fail
    change bodyPost _ _ _ _ _ (put10 w1 (w.heap.size + 1) (.int .i64 0) (.int .i64 0) (.int .u8 0) (.string ⟨#[]⟩) (.int .i64 0) (.slice none 0 0) (.int .i64 0) (.int .i64 0) (.slice none 0 0) (.slice none 0 0))
    have hA := put10_at HZ1.out 0 0 (.slice none 0 0) (.slice none 0 0)
    have hF := HB1.out.trans ((put10_fr w1 (w.heap.size + 1) (.int .i64 0) (.int .i64 0) (.int .u8 0) (.string ⟨#[]⟩) (.int .i64 0) (.slice none 0 0) (.int .i64 0) (.int .i64 0) (.slice none 0 0) (.slice none 0 0) (F := [w.heap.size + 1]) (List.mem_singleton.2 rfl)).toBelowOf (B := w.heap.size) HB1.out.size (fun i hi => by simp at hi; omega))
    generalize put10 w1 (w.heap.size + 1) (.int .i64 0) (.int .i64 0) (.int .u8 0) (.string ⟨#[]⟩) (.int .i64 0) (.slice none 0 0) (.int .i64 0) (.int .i64 0) (.slice none 0 0) (.slice none 0 0) = Wf at hA hF ⊢
    clear z0 z1 z2 z3 z4 z5 z6 z7 z8 z9 zf
    obtain ⟨r0, r1, r2, r3, r4, r5, r6, r7, r8, r9, -⟩ := hA.cells
    exact bodyPost_ret (v := .tuple #[claimV 0 0 (.slice none 0 0) (.slice none 0 0), .bool false]) (by simp [results, Tryz.results18, go_sem, r0, r1, r2, r3, r4, r5, r6, r7, r8, r9, claimV]) rfl ⟨none, 0, none, 0, rfl, hF⟩
  · rw [hf]
    rw [hi] at HI
    obtain ⟨x, hx⟩ : ∃ x, ks[j] = x := ⟨_, rfl⟩
    have HX := Lib.hid hx
    rw [hx]
    have hjl : (j : Int) < (ks.length : Int) := by omega
    have hlen := Lib.hid ho.k1
    have hpos : decide ((j : Int) < 0) = false := decide_eq_false (by omega)
    clear hb hz he hf hi hv q1 hx
    go_enter Tryz.func18, Tryz.ntmps18
    go_wp2_with fail
    refine HI.out.mono ?_
    rintro e w1 ⟨rfl, hb1⟩
    have hz1 := HZ.out.below hb1
    have e3 := cell_below hb1 e1
    obtain ⟨ad, rfl, hc⟩ := strs_at (Cells.below HE2.out hb1) hj
    rw [HX.out] at hc
    have hb2 : Below w1.heap.size w1 (w1.alloc (.cells #[.string x] 29)) := (Below.refl _ _).alloc (Nat.le_refl _) _
    have hz2 := hz1.below hb2
    have hB2 := (HB.out.trans (hb1.mono HB.out.size)).trans (hb2.mono (Nat.le_trans HB.out.size hb1.size))
    have hrow : Row (w1.alloc (.cells #[.string x] 29)) w.heap.size 29 (.slice (some ⟨w1.heap.size, 0, none⟩) 1 1) (strs [x]) := Or.inr ⟨w1.heap.size, 0, 1, #[.string x], (0, 0), rfl, Nat.le_trans HB.out.size hb1.size, Go.heap_alloc_new w1 _, Free.none _, Nat.le_refl _, by decide, by simp, rfl⟩
    obtain ⟨z0, z1, z2, z3, z4, z5, z6, z7, z8, z9, zf⟩ := hz2.cells
    have HZ2 := Lib.hid hz2
    have HB2 := Lib.hid hB2
    have HROW0 := Lib.hid hrow
    clear hb1 hz1 hz2 hB2 hrow hb2 e1
    go_wp2_with fail
    change bodyPost _ _ _ _ _ (put10 (w1.alloc (.cells #[.string x] 29)) (w.heap.size + 1) (.int .i64 0) (.int .i64 0) (.int .u8 0) (.string ⟨#[]⟩) (.int .i64 0) (.slice none 0 0) (.int .i64 0) (.int .i64 0) (.slice (some ⟨w1.heap.size, 0, none⟩) 1 1) (.slice none 0 0))
    have hA := put10_at HZ2.out 0 0 (.slice (some ⟨w1.heap.size, 0, none⟩) 1 1) (.slice none 0 0)
    have hFF := put10_fr (w1.alloc (.cells #[.string x] 29)) (w.heap.size + 1) (.int .i64 0) (.int .i64 0) (.int .u8 0) (.string ⟨#[]⟩) (.int .i64 0) (.slice none 0 0) (.int .i64 0) (.int .i64 0) (.slice (some ⟨w1.heap.size, 0, none⟩) 1 1) (.slice none 0 0) (F := [w.heap.size + 1]) (List.mem_singleton.2 rfl)
    have hF := HB2.out.trans (hFF.toBelowOf (B := w.heap.size) HB2.out.size (fun i hi => by simp at hi; omega))
    have HROW := Lib.hid (row_fr HROW0.out hFF (fun g hg => by simpa using row_ne_claim HROW0.out (by decide) HZ2.out g hg))
    generalize put10 (w1.alloc (.cells #[.string x] 29)) (w.heap.size + 1) (.int .i64 0) (.int .i64 0) (.int .u8 0) (.string ⟨#[]⟩) (.int .i64 0) (.slice none 0 0) (.int .i64 0) (.int .i64 0) (.slice (some ⟨w1.heap.size, 0, none⟩) 1 1) (.slice none 0 0) = Wf at hA hF HROW ⊢
    clear z0 z1 z2 z3 z4 z5 z6 z7 z8 z9 zf hFF
    obtain ⟨r0, r1, r2, r3, r4, r5, r6, r7, r8, r9, -⟩ := hA.cells
    exact bodyPost_ret (v := .tuple #[claimV 0 0 (.slice (some ⟨w1.heap.size, 0, none⟩) 1 1) (.slice none 0 0), .bool true]) (by simp [results, Tryz.results18, go_sem, r0, r1, r2, r3, r4, r5, r6, r7, r8, r9, claimV]) rfl ⟨some ⟨w1.heap.size, 0, none⟩, 1, none, 0, rfl, HROW.out, Row.nil _ _ _, .inr (by simp [Value.ownBlock]), hF⟩
set_option maxRecDepth 100000 in
set_option maxHeartbeats 8000000 in
theorem way_pre (t : ByteArray) (n : Int) (m : Nat) (A : Option Addr) (cap : Nat) (sb pb wb : Nat) (ks ps : List ByteArray) (w : World) (ho : EnvOk ks ps) (he : EnvAt w sb pb ks ps) (hv : VarsOk w) :
    Calls Tryz.prog 18 #[.agg #[.int .u8 2, .string t, .int .i64 n, .slice A m cap], .pointer (some ⟨sb, 0, none⟩), .pointer (some ⟨pb, 0, none⟩), .pointer (some ⟨wb, 0, none⟩)] w (WayP ((ps.find? (preB t)).map fun x => ⟨0, 0, [], [x]⟩) w) := by
  have hb : Below w.heap.size w ((w.alloc (.cells #[.int .u8 2, .string t, .int .i64 n, .slice A m cap] 32)).alloc (.cells #[.int .i64 0, .int .i64 0, .int .u8 0, .string ⟨#[]⟩, .int .i64 0, .slice none 0 0, .int .i64 0, .int .i64 0, (.slice none 0 0), (.slice none 0 0)] 36)) := ((Below.refl _ _).alloc (Nat.le_refl _) _).alloc (by simp) _
  have hz : ClaimAt ((w.alloc (.cells #[.int .u8 2, .string t, .int .i64 n, .slice A m cap] 32)).alloc (.cells #[.int .i64 0, .int .i64 0, .int .u8 0, .string ⟨#[]⟩, .int .i64 0, .slice none 0 0, .int .i64 0, .int .i64 0, (.slice none 0 0), (.slice none 0 0)] 36)) (w.heap.size + 1) 0 0 (.slice none 0 0) (.slice none 0 0) := by
    have h := Go.heap_alloc_new (w.alloc (.cells #[.int .u8 2, .string t, .int .i64 n, .slice A m cap] 32)) (.cells #[.int .i64 0, .int .i64 0, .int .u8 0, .string ⟨#[]⟩, .int .i64 0, .slice none 0 0, .int .i64 0, .int .i64 0, (.slice none 0 0), (.slice none 0 0)] 36)
    rw [show (w.alloc (.cells #[.int .u8 2, .string t, .int .i64 n, .slice A m cap] 32)).heap.size = w.heap.size + 1 by simp] at h
    exact h
  have q1 : ((w.alloc (.cells #[.int .u8 2, .string t, .int .i64 n, .slice A m cap] 32)).alloc (.cells #[.int .i64 0, .int .i64 0, .int .u8 0, .string ⟨#[]⟩, .int .i64 0, .slice none 0 0, .int .i64 0, .int .i64 0, (.slice none 0 0), (.slice none 0 0)] 36)).cell? ⟨w.heap.size, 1, none⟩ = some (.string t) := cell_below ((Below.refl _ _).alloc (Nat.le_refl _) _) (alloc_cells 1 _ rfl : (w.alloc (.cells #[.int .u8 2, .string t, .int .i64 n, .slice A m cap] 32)).cell? ⟨w.heap.size, 1, none⟩ = some (.string t))
  obtain ⟨SA, sc, e1, e2⟩ := (he.below hb).pres
  have HI := Lib.hid (idx_pre (preB t) ps SA sc w.heap.size ((w.alloc (.cells #[.int .u8 2, .string t, .int .i64 n, .slice A m cap] 32)).alloc (.cells #[.int .i64 0, .int .i64 0, .int .u8 0, .string ⟨#[]⟩, .int .i64 0, .slice none 0 0, .int .i64 0, .int .i64 0, (.slice none 0 0), (.slice none 0 0)] 36)) ho.p1 e2 (fun k hk W hW => spre_any ps[k] t w.heap.size W (ho.p2 _ (List.getElem_mem _)) (cell_below hW q1) ((hv.below hb).below hW)))
  have HB := Lib.hid hb
  have HZ := Lib.hid hz
  have HE := Lib.hid (he.below hb)
  have HE2 := Lib.hid e2
  rcases idx_find (preB t) ps with ⟨hf, hi⟩ | ⟨j, hj, hi, hf⟩
  · rw [hf]
    rw [hi] at HI
    clear hb hz he e2 hf hi hv ho q1
    go_enter Tryz.func18, Tryz.ntmps18
    go_wp2_with fail
    refine HI.out.mono ?_
    rintro e w1 ⟨rfl, hb1⟩
    obtain ⟨z0, z1, z2, z3, z4, z5, z6, z7, z8, z9, zf⟩ := (HZ.out.below hb1).cells
    have HZ1 := Lib.hid (HZ.out.below hb1)
    have HB1 := Lib.hid (HB.out.trans (hb1.mono HB.out.size))
    clear hb1
    go_wp2_with fail
    change bodyPost _ _ _ _ _ (put10 w1 (w.heap.size + 1) (.int .i64 0) (.int .i64 0) (.int .u8 0) (.string ⟨#[]⟩) (.int .i64 0) (.slice none 0 0) (.int .i64 0) (.int .i64 0) (.slice none 0 0) (.slice none 0 0))
    have hA := put10_at HZ1.out 0 0 (.slice none 0 0) (.slice none 0 0)
    have hF := HB1.out.trans ((put10_fr w1 (w.heap.size + 1) (.int .i64 0) (.int .i64 0) (.int .u8 0) (.string ⟨#[]⟩) (.int .i64 0) (.slice none 0 0) (.int .i64 0) (.int .i64 0) (.slice none 0 0) (.slice none 0 0) (F := [w.heap.size + 1]) (List.mem_singleton.2 rfl)).toBelowOf (B := w.heap.size) HB1.out.size (fun i hi => by simp at hi; omega))
    generalize put10 w1 (w.heap.size + 1) (.int .i64 0) (.int .i64 0) (.int .u8 0) (.string ⟨#[]⟩) (.int .i64 0) (.slice none 0 0) (.int .i64 0) (.int .i64 0) (.slice none 0 0) (.slice none 0 0) = Wf at hA hF ⊢
    clear z0 z1 z2 z3 z4 z5 z6 z7 z8 z9 zf
    obtain ⟨r0, r1, r2, r3, r4, r5, r6, r7, r8, r9, -⟩ := hA.cells
    exact bodyPost_ret (v := .tuple #[claimV 0 0 (.slice none 0 0) (.slice none 0 0), .bool false]) (by simp [results, Tryz.results18, go_sem, r0, r1, r2, r3, r4, r5, r6, r7, r8, r9, claimV]) rfl ⟨none, 0, none, 0, rfl, hF⟩
  · rw [hf]
    rw [hi] at HI
    obtain ⟨x, hx⟩ : ∃ x, ps[j] = x := ⟨_, rfl⟩
    have HX := Lib.hid hx
    rw [hx]
    have hjl : (j : Int) < (ps.length : Int) := by omega
    have hlen := Lib.hid ho.p1
    have hpos : decide ((j : Int) < 0) = false := decide_eq_false (by omega)
    clear hb hz he hf hi hv q1 hx
    go_enter Tryz.func18, Tryz.ntmps18
    go_wp2_with fail
    refine HI.out.mono ?_
    rintro e w1 ⟨rfl, hb1⟩
    have hz1 := HZ.out.below hb1
    have e3 := cell_below hb1 e1
    obtain ⟨ad, rfl, hc⟩ := strs_at (Cells.below HE2.out hb1) hj
    rw [HX.out] at hc
    have hb2 : Below w1.heap.size w1 (w1.alloc (.cells #[.string x] 29)) := (Below.refl _ _).alloc (Nat.le_refl _) _
    have hz2 := hz1.below hb2
    have hB2 := (HB.out.trans (hb1.mono HB.out.size)).trans (hb2.mono (Nat.le_trans HB.out.size hb1.size))
    have hrow : Row (w1.alloc (.cells #[.string x] 29)) w.heap.size 29 (.slice (some ⟨w1.heap.size, 0, none⟩) 1 1) (strs [x]) := Or.inr ⟨w1.heap.size, 0, 1, #[.string x], (0, 0), rfl, Nat.le_trans HB.out.size hb1.size, Go.heap_alloc_new w1 _, Free.none _, Nat.le_refl _, by decide, by simp, rfl⟩
    obtain ⟨z0, z1, z2, z3, z4, z5, z6, z7, z8, z9, zf⟩ := hz2.cells
    have HZ2 := Lib.hid hz2
    have HB2 := Lib.hid hB2
    have HROW0 := Lib.hid hrow
    clear hb1 hz1 hz2 hB2 hrow hb2 e1
    go_wp2_with fail
    change bodyPost _ _ _ _ _ (put10 (w1.alloc (.cells #[.string x] 29)) (w.heap.size + 1) (.int .i64 0) (.int .i64 0) (.int .u8 0) (.string ⟨#[]⟩) (.int .i64 0) (.slice none 0 0) (.int .i64 0) (.int .i64 0) (.slice none 0 0) (.slice (some ⟨w1.heap.size, 0, none⟩) 1 1))
    have hA := put10_at HZ2.out 0 0 (.slice none 0 0) (.slice (some ⟨w1.heap.size, 0, none⟩) 1 1)
    have hFF := put10_fr (w1.alloc (.cells #[.string x] 29)) (w.heap.size + 1) (.int .i64 0) (.int .i64 0) (.int .u8 0) (.string ⟨#[]⟩) (.int .i64 0) (.slice none 0 0) (.int .i64 0) (.int .i64 0) (.slice none 0 0) (.slice (some ⟨w1.heap.size, 0, none⟩) 1 1) (F := [w.heap.size + 1]) (List.mem_singleton.2 rfl)
    have hF := HB2.out.trans (hFF.toBelowOf (B := w.heap.size) HB2.out.size (fun i hi => by simp at hi; omega))
    have HROW := Lib.hid (row_fr HROW0.out hFF (fun g hg => by simpa using row_ne_claim HROW0.out (by decide) HZ2.out g hg))
    generalize put10 (w1.alloc (.cells #[.string x] 29)) (w.heap.size + 1) (.int .i64 0) (.int .i64 0) (.int .u8 0) (.string ⟨#[]⟩) (.int .i64 0) (.slice none 0 0) (.int .i64 0) (.int .i64 0) (.slice none 0 0) (.slice (some ⟨w1.heap.size, 0, none⟩) 1 1) = Wf at hA hF HROW ⊢
    clear z0 z1 z2 z3 z4 z5 z6 z7 z8 z9 zf hFF
    obtain ⟨r0, r1, r2, r3, r4, r5, r6, r7, r8, r9, -⟩ := hA.cells
    exact bodyPost_ret (v := .tuple #[claimV 0 0 (.slice none 0 0) (.slice (some ⟨w1.heap.size, 0, none⟩) 1 1), .bool true]) (by simp [results, Tryz.results18, go_sem, r0, r1, r2, r3, r4, r5, r6, r7, r8, r9, claimV]) rfl ⟨none, 0, some ⟨w1.heap.size, 0, none⟩, 1, rfl, Row.nil _ _ _, HROW.out, .inl rfl, hF⟩
end Go.Proofs.YtaonadgelkdbcaaGreatDoor
