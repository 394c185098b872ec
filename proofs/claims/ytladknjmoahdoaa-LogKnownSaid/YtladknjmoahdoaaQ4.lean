/- Is an entry too long? · The closures of Open and of Append; what is done one behind the other. · What a disk's blocks hold; all that Open and Append do, one behind the other. · Open: what it tells, and what it leaves. -/
import Derived.Test.YtladknjmoahdoaaQ2
import Derived.Test.YtladknjmoahdoaaQ3
set_option linter.all false
namespace Go.Proofs.Ytladknjmoahdoaa
open Go.RowKit

def bigE (e : List UInt8) : Bool := decide (32768 < e.length)
theorem tooBig_any (es : List (List UInt8)) : es.any bigE = tooBig es := rfl
theorem append1_any (A : Option Addr) (n c : Nat) (w : World) (hn : n ≤ 1000000000) : Calls Try.prog 25 #[.slice A n c] w fun e w' => e = .returned (.bool (decide (32768 < n))) ∧ w = w' := by
  have hd : decide ((n : Int) > 32768) = decide (32768 < n) := by
    rw [decide_eq_decide]; omega
  have HD := Lib.hid hd
  clear hd
  go_enter Try.func25, Try.ntmps25
  go_wp2_with fail
  go_ret
  refine ⟨ret_bool ?_, rfl⟩
  first | exact HD.out | (simp; done) | (rw [decide_eq_decide]; omega)
/-- Slices of these lengths. -/
def LenVs (vs : List Value) (es : List (List UInt8)) : Prop := vs.length = es.length ∧ ∀ k (hk : k < es.length), ∃ A c, vs[k]? = some (.slice A es[k].length c)
theorem LenVs.cell {w : World} {A : Option Addr} {vs : List Value} {es : List (List UInt8)} (h : LenVs vs es) (hA : Cells w A vs) {k : Nat} (hk : k < es.length) : ∃ ad B c, A = some ad ∧ w.cell? (ad.add k) = some (.slice B es[k].length c) := by
  obtain ⟨ad, e, hc⟩ := hA (by rw [h.1]; omega)
  obtain ⟨B, c, hv⟩ := h.2 k hk
  exact ⟨ad, B, c, e, hc k _ hv⟩
set_option maxRecDepth 100000 in
set_option maxHeartbeats 4000000 in
theorem idxE_any (es : List (List UInt8)) (vs : List Value) (A : Option Addr) (n c : Nat) (w : World) (hl : es.length = n) (hn : n ≤ 1000000000) (hv : LenVs vs es) (hA : Cells w A vs) (hs : ∀ e ∈ es, e.length ≤ 1000000000) :
    Calls Try.prog 47 #[.slice A n c, .func (.func 25) #[] #[]] w fun e w' => e = .returned (.int .i64 (idx bigE es)) ∧ w = w' := by
  have HA := Lib.hid hA
  have HV := Lib.hid hv
  have HL := Lib.hid hl
  have HS := Lib.hid hs
  clear hA hl hv hs
  go_enter Try.func47, Try.ntmps47
  go_wp2_with fail
  go_loop [8] (fun i => ∃ k : Nat, k ≤ n ∧ i = .int .i64 k ∧ ∀ j (hj : j < es.length), j < k → bigE es[j] = false) (fun i => n - (intOf i).toNat)
  case atStart => exact ⟨0, Nat.zero_le _, rfl, fun j _ h => by omega⟩
  case round =>
    obtain ⟨k, hk, rfl, hall⟩ := hrel
    have HALL := Lib.hid hall; clear hall
    by_cases hlt : k < n
    · have hkb : k < es.length := by rw [HL.out]; exact hlt
      obtain ⟨ad, B, cb, rfl, hc0⟩ := HV.out.cell HA.out hkb
      have hsz := HS.out _ (List.getElem_mem hkb)
      obtain ⟨y, hy⟩ : ∃ y, es[k].length = y := ⟨_, rfl⟩
      rw [hy] at hc0 hsz
      have hcall := append1_any B y cb w hsz
      obtain ⟨b, hb⟩ : ∃ b, decide (32768 < y) = b := ⟨_, rfl⟩
      rw [hb] at hcall
      have HB := Lib.hid (show bigE es[k] = b from by unfold bigE; rw [hy]; exact hb)
      have HC := Lib.hid hcall
      clear hb hy hcall
      go_wp2_with fail
      refine HC.out.mono ?_
      rintro e w' ⟨rfl, rfl⟩
      cases b with
      | true =>
        have HI := Lib.hid (idx_hit hkb HB.out HALL.out)
        go_wp2_with fail
        go_ret
        rw [HI.out]
        exact ⟨rfl, rfl⟩
      | false =>
        go_wp2_with fail
        go_round
        case rel =>
          refine ⟨k + 1, hlt, by go_num, fun j hj hjk => ?_⟩
          rcases Nat.lt_or_ge j k with h | h
          · exact HALL.out j hj h
          · obtain rfl : j = k := by omega
            exact HB.out
        case measure => simp [intOf]; omega
    · have HI := Lib.hid (idx_miss fun j hj => HALL.out j hj (by have := HL.out; omega))
      go_wp2_with fail
      go_ret
      rw [HI.out]
      exact ⟨rfl, rfl⟩
theorem containsE_any (es : List (List UInt8)) (vs : List Value) (A : Option Addr) (n c : Nat) (w : World) (hl : es.length = n) (hn : n ≤ 1000000000) (hv : LenVs vs es) (hA : Cells w A vs) (hs : ∀ e ∈ es, e.length ≤ 1000000000) :
    Calls Try.prog 24 #[.slice A n c, .func (.func 25) #[] #[]] w fun e w' => e = .returned (.bool (tooBig es)) ∧ w = w' := by
  have HC := Lib.hid (idxE_any es vs A n c w hl hn hv hA hs)
  have HI := Lib.hid ((idx_any bigE es).trans (tooBig_any es))
  obtain ⟨x, hx⟩ : ∃ x, idx bigE es = x := ⟨_, rfl⟩
  rw [hx] at HC HI
  clear hx hA hl hv hs
  go_enter Try.func24, Try.ntmps24
  go_wp2_with fail
  refine HC.out.mono ?_
  rintro e w' ⟨rfl, rfl⟩
  go_wp2_with fail
  go_ret
  exact ⟨ret_bool HI.out, rfl⟩
end Go.Proofs.Ytladknjmoahdoaa

set_option linter.all false
namespace Go.Proofs.Ytladknjmoahdoaa
open Go.RowKit Go

theorem OpO.start {w w1 : World} {p : Nat} {F : List Nat} {r : Int × DiskT} {e : Ending} {w2 : World} (hb : Fr F w w1) (hF : ∀ i ∈ F, i < w.heap.size) (h : OpO w1 p F r e w2) : OpO w p F r e w2 := by
  obtain ⟨rfl, F', hL⟩ := h
  refine ⟨rfl, F', hL.at_, hb.and hL.fr, fun i hi => ?_⟩
  rcases hL.new i hi with h1 | h1
  · exact .inl h1
  · exact .inr (Nat.le_trans hb.size h1)
section
variable {dp : Nat} {F : List Nat} {d : DiskT} {name : ByteArray} {w : World}
set_option maxHeartbeats 1000000 in
theorem open1_any {b1 b2 : Nat} (h : DkO w dp F d) (hst : d.steps ≤ 3999999999) (c1 : w.cell? ⟨b1, 0, none⟩ = some (.pointer (some ⟨dp, 0, none⟩))) (c2 : w.cell? ⟨b2, 0, none⟩ = some (.string name)) :
    Calls Try.prog 20 #[.pointer (some ⟨b1, 0, none⟩), .pointer (some ⟨b2, 0, none⟩)] w (OpO w dp F (writeD d name 0 [])) := by
  have HC := Lib.hid (h.write hst name 0 [] none 0 0 (Cells.nil _ _) rfl)
  clear h
  go_enter Try.func20, Try.ntmps20
  go_wp2_with fail
  refine HC.out.mono ?_
  rintro e w1 ⟨rfl, F', hL⟩
  go_wp2_with fail
  go_ret
  exact ⟨rfl, F', hL⟩
set_option maxHeartbeats 1000000 in
theorem open2_any {b1 b2 : Nat} (h : DkO w dp F d) (hst : d.steps ≤ 3999999999) (c1 : w.cell? ⟨b1, 0, none⟩ = some (.pointer (some ⟨dp, 0, none⟩))) (c2 : w.cell? ⟨b2, 0, none⟩ = some (.string name)) :
    Calls Try.prog 21 #[.pointer (some ⟨b1, 0, none⟩), .pointer (some ⟨b2, 0, none⟩)] w (OpO w dp F (syncD d name)) := by
  have HC := Lib.hid (h.sync hst name)
  clear h
  go_enter Try.func21, Try.ntmps21
  go_wp2_with fail
  refine HC.out.mono ?_
  rintro e w1 ⟨rfl, F', hL⟩
  go_wp2_with fail
  go_ret
  exact ⟨rfl, F', hL⟩
set_option maxRecDepth 100000 in
set_option maxHeartbeats 4000000 in
theorem append2_any {bl lp : Nat} (h : DkO w dp F d) (hst : d.steps ≤ 3999999999) (q0 : w.cell? ⟨bl, 0, none⟩ = some (.pointer (some ⟨lp, 0, none⟩))) (q1 : w.cell? ⟨lp, 0, none⟩ = some (.pointer (some ⟨dp, 0, none⟩))) (q2 : w.cell? ⟨lp, 1, none⟩ = some (.string name)) (hbl : bl ∉ F) (hlp : lp ∉ F) :
    Calls Try.prog 28 #[.pointer (some ⟨bl, 0, none⟩)] w (OpO w dp F (syncD d name)) := by
  have HC := Lib.hid (fun V (hV : DkO V dp F d) => hV.sync hst name)
  have HD := Lib.hid h
  clear h
  go_enter Try.func28, Try.ntmps28
  go_wp2_with fail
  refine wp_region_noPanic ?_
  refine wp_region_any (by kernel_rfl) (anyG_any (S := fun V : World => Fr F w V) (n := 10) _ _ _ _ ?_)
  have hS : Fr F w w.drew := (Fr.refl _ _).drew
  change AnyG _ _ _ _ _ _ 10 (Array.replicate 10 false) _ w.drew
  refine anyG_take0 (i := 0) (oi := ⟨_, _, _, _, _, _⟩) (v := ?_) rfl (by kernel_rfl) (by kernel_rfl) (by kernel_rfl) (by kernel_rfl) (fun _ _ _ h => h) (Or.inl ⟨by rfl, ?_⟩) hS ?_
  rotate_left
  · (intro w' hSw; have s1 := hSw.cellKept hbl q0; have s2 := hSw.cellKept hlp q1; have s3 := hSw.cellKept hlp q2; go_simp; (try with_reducible rfl))
  try simp only [Act.put, List.setIfInBounds_toArray, List.set_cons_zero, List.set_cons_succ]
  refine anyG_take0 (i := 1) (oi := ⟨_, _, _, _, _, _⟩) (v := ?_) rfl (by kernel_rfl) (by kernel_rfl) (by kernel_rfl) (by kernel_rfl) (fun _ _ _ h => h) (Or.inl ⟨by rfl, ?_⟩) hS ?_
  rotate_left
  · (intro w' hSw; skip; go_simp; (try with_reducible rfl))
  try simp only [Act.put, List.setIfInBounds_toArray, List.set_cons_zero, List.set_cons_succ]
  refine anyG_take0 (i := 2) (oi := ⟨_, _, _, _, _, _⟩) (v := ?_) rfl (by kernel_rfl) (by kernel_rfl) (by kernel_rfl) (by kernel_rfl) (fun _ _ _ h => h) (Or.inl ⟨by rfl, ?_⟩) hS ?_
  rotate_left
  · (intro w' hSw; skip; go_simp; (try with_reducible rfl))
  try simp only [Act.put, List.setIfInBounds_toArray, List.set_cons_zero, List.set_cons_succ]
  refine anyG_take0 (i := 3) (oi := ⟨_, _, _, _, _, _⟩) (v := ?_) rfl (by kernel_rfl) (by kernel_rfl) (by kernel_rfl) (by kernel_rfl) (fun _ _ _ h => h) (Or.inl ⟨by rfl, ?_⟩) hS ?_
  rotate_left
  · (intro w' hSw; have s1 := hSw.cellKept hbl q0; have s2 := hSw.cellKept hlp q1; have s3 := hSw.cellKept hlp q2; go_simp; (try with_reducible rfl))
  try simp only [Act.put, List.setIfInBounds_toArray, List.set_cons_zero, List.set_cons_succ]
  refine anyG_take0 (i := 4) (oi := ⟨_, _, _, _, _, _⟩) (v := ?_) rfl (by kernel_rfl) (by kernel_rfl) (by kernel_rfl) (by kernel_rfl) (fun _ _ _ h => h) (Or.inl ⟨by rfl, ?_⟩) hS ?_
  rotate_left
  · (intro w' hSw; have s1 := hSw.cellKept hbl q0; have s2 := hSw.cellKept hlp q1; have s3 := hSw.cellKept hlp q2; go_simp; (try with_reducible rfl))
  try simp only [Act.put, List.setIfInBounds_toArray, List.set_cons_zero, List.set_cons_succ]
  refine anyG_take0 (i := 5) (oi := ⟨_, _, _, _, _, _⟩) (v := ?_) rfl (by kernel_rfl) (by kernel_rfl) (by kernel_rfl) (by kernel_rfl) (fun _ _ _ h => h) (Or.inl ⟨by rfl, ?_⟩) hS ?_
  rotate_left
  · (intro w' hSw; skip; go_simp; (try with_reducible rfl))
  try simp only [Act.put, List.setIfInBounds_toArray, List.set_cons_zero, List.set_cons_succ]
  refine anyG_take0 (i := 6) (oi := ⟨_, _, _, _, _, _⟩) (v := ?_) rfl (by kernel_rfl) (by kernel_rfl) (by kernel_rfl) (by kernel_rfl) (fun _ _ _ h => h) (Or.inl ⟨by rfl, ?_⟩) hS ?_
  rotate_left
  · (intro w' hSw; skip; go_simp; (try with_reducible rfl))
  try simp only [Act.put, List.setIfInBounds_toArray, List.set_cons_zero, List.set_cons_succ]
  refine anyG_take0 (i := 7) (oi := ⟨_, _, _, _, _, _⟩) (v := ?_) rfl (by kernel_rfl) (by kernel_rfl) (by kernel_rfl) (by kernel_rfl) (fun _ _ _ h => h) (Or.inl ⟨by rfl, ?_⟩) hS ?_
  rotate_left
  · (intro w' hSw; have s1 := hSw.cellKept hbl q0; have s2 := hSw.cellKept hlp q1; have s3 := hSw.cellKept hlp q2; go_simp; (try with_reducible rfl))
  try simp only [Act.put, List.setIfInBounds_toArray, List.set_cons_zero, List.set_cons_succ]
  refine anyG_all (rs := [8]) (by kernel_rfl) (by simp) (List.forall_mem_singleton.2 ?_)
  refine wpOp_step (o := ⟨_, _, _, _, _, _⟩) rfl (fun K' hK => ?_)
  have HK := Lib.hid hK
  clear hK
  rw [if_pos (by rfl)]
  go_simp
  refine (HC.out w.drew (HD.out.below ((Below.refl _ _).drew))).mono ?_
  rintro e w1 ⟨rfl, F', hL⟩
  have HL := Lib.hid hL
  have hS : Fr F w w1 := (Fr.refl F w).drew.trans hL.fr fun _ hi _ => hi
  clear hL HC
  go_wp2_with fail
  refine HK.out _ _ ⟨fun _ => hS, ?_⟩
  clear HK
  try simp only [Act.put, List.setIfInBounds_toArray, List.set_cons_zero, List.set_cons_succ]
  refine anyG_take0 (i := 9) (oi := ⟨_, _, _, _, _, _⟩) (v := ?_) rfl (by kernel_rfl) (by kernel_rfl) (by kernel_rfl) (by kernel_rfl) (fun _ _ _ h => h) (Or.inl ⟨by rfl, ?_⟩) hS ?_
  rotate_left
  · (intro w' hSw; skip; go_simp; (try with_reducible rfl))
  try simp only [Act.put, List.setIfInBounds_toArray, List.set_cons_zero, List.set_cons_succ]
  refine anyG_done (by kernel_rfl) ?_
  refine NoPanic.normal ?_
  go_wp2_with fail
  go_ret
  exact OpO.start (Fr.refl F w).drew (fun i hi => HD.out.lt i hi) ⟨rfl, F', HL.out⟩
set_option maxRecDepth 100000 in
set_option maxHeartbeats 4000000 in
theorem append4_any {bl lp b1 b2 long count : Nat} (h : DkO w dp F d) (hst : d.steps ≤ 3999999999) (q0 : w.cell? ⟨bl, 0, none⟩ = some (.pointer (some ⟨lp, 0, none⟩))) (q1 : w.cell? ⟨lp, 0, none⟩ = some (.pointer (some ⟨dp, 0, none⟩))) (q2 : w.cell? ⟨lp, 1, none⟩ = some (.string name))
    (p1 : w.cell? ⟨b1, 0, none⟩ = some (.int .i64 (long : Int))) (p2 : w.cell? ⟨b2, 0, none⟩ = some (.int .i64 (count : Int))) (hbl : bl ∉ F) (hlp : lp ∉ F) (hb1 : b1 ∉ F) (hb2 : b2 ∉ F) (hl : long < 9223372036854775808) (hc : count < 9223372036854775808) :
    Calls Try.prog 31 #[.pointer (some ⟨bl, 0, none⟩), .pointer (some ⟨b1, 0, none⟩), .pointer (some ⟨b2, 0, none⟩)] w (OpO w dp F (writeD d name 0 (headB long count))) := by
  have HW := Lib.hid (fun V (hV : DkO V dp F d) A c (hA : Cells V A (bv (headB long count))) => hV.write hst name 0 (headB long count) A 16 c hA (headB_len _ _))
  have HD := Lib.hid h
  have hlt := fun i hi => h.lt i hi
  have HLT := Lib.hid hlt
  have hn1 := fun V : World => number_any (World.ownsRow_nil V V.heap.size 5 1) (by decide) (Nat.le_refl V.heap.size) long 8 hl (by decide)
  have HN1 := Lib.hid hn1
  have HN2 := Lib.hid hc
  clear h hn1 hlt
  go_enter Try.func31, Try.ntmps31
  go_wp2_with fail
  refine wp_region_noPanic ?_
  refine wp_region_any (by kernel_rfl) (anyG_any (S := fun V : World => Fr F w V) (n := 14) _ _ _ _ ?_)
  have hS : Fr F w w.drew := (Fr.refl _ _).drew
  change AnyG _ _ _ _ _ _ 14 (Array.replicate 14 false) _ w.drew
  refine anyG_take0 (i := 0) (oi := ⟨_, _, _, _, _, _⟩) (v := ?_) rfl (by kernel_rfl) (by kernel_rfl) (by kernel_rfl) (by kernel_rfl) (fun _ _ _ h => h) (Or.inl ⟨by rfl, ?_⟩) hS ?_
  rotate_left
  · (intro w' hSw; have s1 := hSw.cellKept hbl q0; have s2 := hSw.cellKept hlp q1; have s3 := hSw.cellKept hlp q2; have s4 := hSw.cellKept hb1 p1; have s5 := hSw.cellKept hb2 p2; go_simp; (try with_reducible rfl))
  try simp only [Act.put, List.setIfInBounds_toArray, List.set_cons_zero, List.set_cons_succ]
  refine anyG_take0 (i := 1) (oi := ⟨_, _, _, _, _, _⟩) (v := ?_) rfl (by kernel_rfl) (by kernel_rfl) (by kernel_rfl) (by kernel_rfl) (fun _ _ _ h => h) (Or.inl ⟨by rfl, ?_⟩) hS ?_
  rotate_left
  · (intro w' hSw; skip; go_simp; (try with_reducible rfl))
  try simp only [Act.put, List.setIfInBounds_toArray, List.set_cons_zero, List.set_cons_succ]
  refine anyG_take0 (i := 2) (oi := ⟨_, _, _, _, _, _⟩) (v := ?_) rfl (by kernel_rfl) (by kernel_rfl) (by kernel_rfl) (by kernel_rfl) (fun _ _ _ h => h) (Or.inl ⟨by rfl, ?_⟩) hS ?_
  rotate_left
  · (intro w' hSw; skip; go_simp; (try with_reducible rfl))
  try simp only [Act.put, List.setIfInBounds_toArray, List.set_cons_zero, List.set_cons_succ]
  refine anyG_take0 (i := 3) (oi := ⟨_, _, _, _, _, _⟩) (v := ?_) rfl (by kernel_rfl) (by kernel_rfl) (by kernel_rfl) (by kernel_rfl) (fun _ _ _ h => h) (Or.inl ⟨by rfl, ?_⟩) hS ?_
  rotate_left
  · (intro w' hSw; have s1 := hSw.cellKept hbl q0; have s2 := hSw.cellKept hlp q1; have s3 := hSw.cellKept hlp q2; have s4 := hSw.cellKept hb1 p1; have s5 := hSw.cellKept hb2 p2; go_simp; (try with_reducible rfl))
  try simp only [Act.put, List.setIfInBounds_toArray, List.set_cons_zero, List.set_cons_succ]
  refine anyG_take0 (i := 4) (oi := ⟨_, _, _, _, _, _⟩) (v := ?_) rfl (by kernel_rfl) (by kernel_rfl) (by kernel_rfl) (by kernel_rfl) (fun _ _ _ h => h) (Or.inl ⟨by rfl, ?_⟩) hS ?_
  rotate_left
  · (intro w' hSw; have s1 := hSw.cellKept hbl q0; have s2 := hSw.cellKept hlp q1; have s3 := hSw.cellKept hlp q2; have s4 := hSw.cellKept hb1 p1; have s5 := hSw.cellKept hb2 p2; go_simp; (try with_reducible rfl))
  try simp only [Act.put, List.setIfInBounds_toArray, List.set_cons_zero, List.set_cons_succ]
  refine anyG_take0 (i := 5) (oi := ⟨_, _, _, _, _, _⟩) (v := ?_) rfl (by kernel_rfl) (by kernel_rfl) (by kernel_rfl) (by kernel_rfl) (fun _ _ _ h => h) (Or.inl ⟨by rfl, ?_⟩) hS ?_
  rotate_left
  · (intro w' hSw; skip; go_simp; (try with_reducible rfl))
  try simp only [Act.put, List.setIfInBounds_toArray, List.set_cons_zero, List.set_cons_succ]
  refine anyG_take0 (i := 6) (oi := ⟨_, _, _, _, _, _⟩) (v := ?_) rfl (by kernel_rfl) (by kernel_rfl) (by kernel_rfl) (by kernel_rfl) (fun _ _ _ h => h) (Or.inl ⟨by rfl, ?_⟩) hS ?_
  rotate_left
  · (intro w' hSw; skip; go_simp; (try with_reducible rfl))
  try simp only [Act.put, List.setIfInBounds_toArray, List.set_cons_zero, List.set_cons_succ]
  refine anyG_take0 (i := 7) (oi := ⟨_, _, _, _, _, _⟩) (v := ?_) rfl (by kernel_rfl) (by kernel_rfl) (by kernel_rfl) (by kernel_rfl) (fun _ _ _ h => h) (Or.inl ⟨by rfl, ?_⟩) hS ?_
  rotate_left
  · (intro w' hSw; have s1 := hSw.cellKept hbl q0; have s2 := hSw.cellKept hlp q1; have s3 := hSw.cellKept hlp q2; have s4 := hSw.cellKept hb1 p1; have s5 := hSw.cellKept hb2 p2; go_simp; (try with_reducible rfl))
  try simp only [Act.put, List.setIfInBounds_toArray, List.set_cons_zero, List.set_cons_succ]
  refine anyG_take0 (i := 8) (oi := ⟨_, _, _, _, _, _⟩) (v := ?_) rfl (by kernel_rfl) (by kernel_rfl) (by kernel_rfl) (by kernel_rfl) (fun _ _ _ h => h) (Or.inl ⟨by rfl, ?_⟩) hS ?_
  rotate_left
  · (intro w' hSw; have s1 := hSw.cellKept hbl q0; have s2 := hSw.cellKept hlp q1; have s3 := hSw.cellKept hlp q2; have s4 := hSw.cellKept hb1 p1; have s5 := hSw.cellKept hb2 p2; go_simp; (try with_reducible rfl))
  try simp only [Act.put, List.setIfInBounds_toArray, List.set_cons_zero, List.set_cons_succ]
  refine anyG_take0 (i := 10) (oi := ⟨_, _, _, _, _, _⟩) (v := ?_) rfl (by kernel_rfl) (by kernel_rfl) (by kernel_rfl) (by kernel_rfl) (fun _ _ _ h => h) (Or.inl ⟨by rfl, ?_⟩) hS ?_
  rotate_left
  · (intro w' hSw; have s1 := hSw.cellKept hbl q0; have s2 := hSw.cellKept hlp q1; have s3 := hSw.cellKept hlp q2; have s4 := hSw.cellKept hb1 p1; have s5 := hSw.cellKept hb2 p2; go_simp; (try with_reducible rfl))
  try simp only [Act.put, List.setIfInBounds_toArray, List.set_cons_zero, List.set_cons_succ]
  refine anyG_all (rs := [9]) (by kernel_rfl) (by simp) (List.forall_mem_singleton.2 ?_)
  refine wpOp_step (o := ⟨_, _, _, _, _, _⟩) rfl (fun K' hK => ?_)
  have HK := Lib.hid hK
  clear hK
  rw [if_pos (by rfl)]
  go_simp
  refine (HN1.out w.drew).mono ?_
  rintro e V1 ⟨v1, rfl, hg⟩
  obtain ⟨A1, c1, hv1, -, -⟩ := own_shape hg.own
  subst hv1
  have hg1 : Fr [] w V1 := (Fr.refl [] w).drew.and hg.fr
  have HO1 := Lib.hid hg.own
  have HB1 := Lib.hid hg1
  have hS : Fr F w V1 := hg1.mono (fun i hi => by simp at hi)
  clear hg hg1 HN1
  go_wp2_with fail
  refine HK.out _ _ ⟨fun _ => hS, ?_⟩
  clear HK
  try simp only [Act.put, List.setIfInBounds_toArray, List.set_cons_zero, List.set_cons_succ]
  refine anyG_all (rs := [11]) (by kernel_rfl) (by simp) (List.forall_mem_singleton.2 ?_)
  refine wpOp_step (o := ⟨_, _, _, _, _, _⟩) rfl (fun K' hK => ?_)
  have HK := Lib.hid hK
  clear hK
  rw [if_pos (by rfl)]
  go_simp
  refine (number_any HO1.out (by decide) (by have := HB1.out.size; exact this) count 8 HN2.out (by decide)).mono ?_
  rintro e V2 ⟨v2, rfl, hg⟩
  obtain ⟨A2, c2, hv2, -, hc2⟩ := own_shape hg.own
  subst hv2
  have hg2 : Fr [] w V2 := HB1.out.trans hg.fr fun i hi hl => by
    have h1 := (World.ownsRow.lt HO1.out i (by simpa using hi)).1
    have h2 : w.heap.size ≤ i := h1
    omega
  have HC2 := Lib.hid (show Cells V2 A2 (bv (headB long count)) from by
    unfold headB
    rw [bv_append]
    simpa [bv] using hc2)
  have HB2 := Lib.hid hg2
  have hS : Fr F w V2 := hg2.mono (fun i hi => by simp at hi)
  clear hg hg2 hc2 HB1 HO1
  go_wp2_with fail
  refine HK.out _ _ ⟨fun _ => hS, ?_⟩
  clear HK
  try simp only [Act.put, List.setIfInBounds_toArray, List.set_cons_zero, List.set_cons_succ]
  refine anyG_all (rs := [12]) (by kernel_rfl) (by simp) (List.forall_mem_singleton.2 ?_)
  refine wpOp_step (o := ⟨_, _, _, _, _, _⟩) rfl (fun K' hK => ?_)
  have HK := Lib.hid hK
  clear hK
  rw [if_pos (by rfl)]
  go_simp
  refine (HW.out V2 (HD.out.below HB2.out.toBelow) A2 c2 HC2.out).mono ?_
  rintro e V3 ⟨rfl, F', hL⟩
  have HL := Lib.hid hL
  have hS : Fr F w V3 := hS.and hL.fr
  clear hL HW
  go_wp2_with fail
  refine HK.out _ _ ⟨fun _ => hS, ?_⟩
  clear HK
  try simp only [Act.put, List.setIfInBounds_toArray, List.set_cons_zero, List.set_cons_succ]
  refine anyG_take0 (i := 13) (oi := ⟨_, _, _, _, _, _⟩) (v := ?_) rfl (by kernel_rfl) (by kernel_rfl) (by kernel_rfl) (by kernel_rfl) (fun _ _ _ h => h) (Or.inl ⟨by rfl, ?_⟩) hS ?_
  rotate_left
  · (intro w' hSw; skip; go_simp; (try with_reducible rfl))
  try simp only [Act.put, List.setIfInBounds_toArray, List.set_cons_zero, List.set_cons_succ]
  refine anyG_done (by kernel_rfl) ?_
  refine NoPanic.normal ?_
  go_wp2_with fail
  go_ret
  exact OpO.start (Fr.below HB2.out.toBelow) HLT.out ⟨rfl, F', HL.out⟩
end
set_option maxRecDepth 100000 in
set_option maxHeartbeats 4000000 in
theorem first2_any {g c b1 b2 : Nat} {w : World} {R0 R1 : Int → World → Prop}
    (h0 : ∀ V : World, (∀ k, k < 2 → V.cell? ⟨g, k, none⟩ = w.cell? ⟨g, k, none⟩) → V.cell? ⟨g, 0, none⟩ = some (.func (.func 20) #[] #[.pointer (some ⟨b1, 0, none⟩), .pointer (some ⟨b2, 0, none⟩)]))
    (h1 : ∀ V : World, (∀ k, k < 2 → V.cell? ⟨g, k, none⟩ = w.cell? ⟨g, k, none⟩) → V.cell? ⟨g, 1, none⟩ = some (.func (.func 21) #[] #[.pointer (some ⟨b1, 0, none⟩), .pointer (some ⟨b2, 0, none⟩)]))
    (H0 : Calls Try.prog 20 #[.pointer (some ⟨b1, 0, none⟩), .pointer (some ⟨b2, 0, none⟩)] w fun e w' => ∃ x, e = .returned (.int .i64 x) ∧ R0 x w' ∧ ∀ k, k < 2 → w'.cell? ⟨g, k, none⟩ = w.cell? ⟨g, k, none⟩)
    (H1 : ∀ V, R0 0 V → Calls Try.prog 21 #[.pointer (some ⟨b1, 0, none⟩), .pointer (some ⟨b2, 0, none⟩)] V fun e w' => ∃ x, e = .returned (.int .i64 x) ∧ R1 x w' ∧ ∀ k, k < 2 → w'.cell? ⟨g, k, none⟩ = V.cell? ⟨g, k, none⟩)
    : Calls Try.prog 19 #[.slice (some ⟨g, 0, none⟩) 2 c] w fun e w' => ∃ x, e = .returned (.int .i64 x) ∧ (x ≠ 0 ∧ R0 x w' ∨ R1 x w') := by
  have K0 := Lib.hid h0
  have C0 := Lib.hid H0
  have K1 := Lib.hid h1
  have C1 := Lib.hid H1
  clear h0 H0 h1 H1
  go_enter Try.func19, Try.ntmps19
  go_wp2_with fail
  go_loopw [8] (fun i wr => ∃ k : Nat, k ≤ 2 ∧ i = .int .i64 k ∧ (∀ j, j < 2 → wr.cell? ⟨g, j, none⟩ = w.cell? ⟨g, j, none⟩) ∧ (k = 0 ∧ wr = w ∨ k = 1 ∧ R0 0 wr ∨ k = 2 ∧ R1 0 wr)) (fun i _ => 2 - (intOf i).toNat)
  case atStart => exact ⟨0, by omega, rfl, fun _ _ => rfl, .inl ⟨rfl, rfl⟩⟩
  case round =>
    obtain ⟨k, hk, rfl, hcs, hrel⟩ := hrel
    rcases hrel with ⟨rfl, rfl⟩ | ⟨rfl, hr⟩ | ⟨rfl, hr⟩
    · have e1 := K0.out wr hcs
      have HCS := Lib.hid hcs
      have HX := Lib.hid (C0.out)
      clear hcs
      go_wp2_with fail
      refine HX.out.mono ?_
      rintro e w1 ⟨x, rfl, hx, hk2⟩
      have HR := Lib.hid hx
      have HK2 := Lib.hid hk2
      clear hx hk2 HX e1
      by_cases hz : x = 0
      · subst hz
        go_wp2_with fail
        go_roundw
        case rel => exact ⟨1, by omega, rfl, fun j hj => HK2.out j hj, .inr (.inl ⟨rfl, HR.out⟩)⟩
        case measure => simp [intOf]
      · go_wp2_with fail
        go_ret
        exact ⟨x, rfl, .inl ⟨hz, HR.out⟩⟩
    · have e1 := K1.out wr hcs
      have HCS := Lib.hid hcs
      have HX := Lib.hid (C1.out wr hr)
      clear hcs
      go_wp2_with fail
      refine HX.out.mono ?_
      rintro e w1 ⟨x, rfl, hx, hk2⟩
      have HR := Lib.hid hx
      have HK2 := Lib.hid hk2
      clear hx hk2 HX e1
      by_cases hz : x = 0
      · subst hz
        go_wp2_with fail
        go_roundw
        case rel => exact ⟨2, by omega, rfl, fun j hj => (HK2.out j hj).trans (HCS.out j hj), .inr (.inr (⟨rfl, HR.out⟩))⟩
        case measure => simp [intOf]
      · go_wp2_with fail
        go_ret
        exact ⟨x, rfl, .inr (HR.out)⟩
    · go_wp2_with fail
      go_ret
      exact ⟨0, rfl, .inr (hr)⟩
set_option maxRecDepth 100000 in
set_option maxHeartbeats 4000000 in
theorem first4_any {g c bl bb b1 b2 : Nat} {w : World} {R0 R1 R2 R3 : Int → World → Prop}
    (h0 : ∀ V : World, (∀ k, k < 4 → V.cell? ⟨g, k, none⟩ = w.cell? ⟨g, k, none⟩) → V.cell? ⟨g, 0, none⟩ = some (.func (.func 29) #[] #[.pointer (some ⟨bl, 0, none⟩), .pointer (some ⟨bb, 0, none⟩)]))
    (h1 : ∀ V : World, (∀ k, k < 4 → V.cell? ⟨g, k, none⟩ = w.cell? ⟨g, k, none⟩) → V.cell? ⟨g, 1, none⟩ = some (.func (.func 28) #[] #[.pointer (some ⟨bl, 0, none⟩)]))
    (h2 : ∀ V : World, (∀ k, k < 4 → V.cell? ⟨g, k, none⟩ = w.cell? ⟨g, k, none⟩) → V.cell? ⟨g, 2, none⟩ = some (.func (.func 31) #[] #[.pointer (some ⟨bl, 0, none⟩), .pointer (some ⟨b1, 0, none⟩), .pointer (some ⟨b2, 0, none⟩)]))
    (h3 : ∀ V : World, (∀ k, k < 4 → V.cell? ⟨g, k, none⟩ = w.cell? ⟨g, k, none⟩) → V.cell? ⟨g, 3, none⟩ = some (.func (.func 28) #[] #[.pointer (some ⟨bl, 0, none⟩)]))
    (H0 : Calls Try.prog 29 #[.pointer (some ⟨bl, 0, none⟩), .pointer (some ⟨bb, 0, none⟩)] w fun e w' => ∃ x, e = .returned (.int .i64 x) ∧ R0 x w' ∧ ∀ k, k < 4 → w'.cell? ⟨g, k, none⟩ = w.cell? ⟨g, k, none⟩)
    (H1 : ∀ V, R0 0 V → Calls Try.prog 28 #[.pointer (some ⟨bl, 0, none⟩)] V fun e w' => ∃ x, e = .returned (.int .i64 x) ∧ R1 x w' ∧ ∀ k, k < 4 → w'.cell? ⟨g, k, none⟩ = V.cell? ⟨g, k, none⟩)
    (H2 : ∀ V, R1 0 V → Calls Try.prog 31 #[.pointer (some ⟨bl, 0, none⟩), .pointer (some ⟨b1, 0, none⟩), .pointer (some ⟨b2, 0, none⟩)] V fun e w' => ∃ x, e = .returned (.int .i64 x) ∧ R2 x w' ∧ ∀ k, k < 4 → w'.cell? ⟨g, k, none⟩ = V.cell? ⟨g, k, none⟩)
    (H3 : ∀ V, R2 0 V → Calls Try.prog 28 #[.pointer (some ⟨bl, 0, none⟩)] V fun e w' => ∃ x, e = .returned (.int .i64 x) ∧ R3 x w' ∧ ∀ k, k < 4 → w'.cell? ⟨g, k, none⟩ = V.cell? ⟨g, k, none⟩)
    : Calls Try.prog 19 #[.slice (some ⟨g, 0, none⟩) 4 c] w fun e w' => ∃ x, e = .returned (.int .i64 x) ∧ (x ≠ 0 ∧ R0 x w' ∨ x ≠ 0 ∧ R1 x w' ∨ x ≠ 0 ∧ R2 x w' ∨ R3 x w') := by
  have K0 := Lib.hid h0
  have C0 := Lib.hid H0
  have K1 := Lib.hid h1
  have C1 := Lib.hid H1
  have K2 := Lib.hid h2
  have C2 := Lib.hid H2
  have K3 := Lib.hid h3
  have C3 := Lib.hid H3
  clear h0 H0 h1 H1 h2 H2 h3 H3
  go_enter Try.func19, Try.ntmps19
  go_wp2_with fail
  go_loopw [8] (fun i wr => ∃ k : Nat, k ≤ 4 ∧ i = .int .i64 k ∧ (∀ j, j < 4 → wr.cell? ⟨g, j, none⟩ = w.cell? ⟨g, j, none⟩) ∧ (k = 0 ∧ wr = w ∨ k = 1 ∧ R0 0 wr ∨ k = 2 ∧ R1 0 wr ∨ k = 3 ∧ R2 0 wr ∨ k = 4 ∧ R3 0 wr)) (fun i _ => 4 - (intOf i).toNat)
  case atStart => exact ⟨0, by omega, rfl, fun _ _ => rfl, .inl ⟨rfl, rfl⟩⟩
  case round =>
    obtain ⟨k, hk, rfl, hcs, hrel⟩ := hrel
    rcases hrel with ⟨rfl, rfl⟩ | ⟨rfl, hr⟩ | ⟨rfl, hr⟩ | ⟨rfl, hr⟩ | ⟨rfl, hr⟩
    · have e1 := K0.out wr hcs
      have HCS := Lib.hid hcs
      have HX := Lib.hid (C0.out)
      clear hcs
      go_wp2_with fail
      refine HX.out.mono ?_
      rintro e w1 ⟨x, rfl, hx, hk2⟩
      have HR := Lib.hid hx
      have HK2 := Lib.hid hk2
      clear hx hk2 HX e1
      by_cases hz : x = 0
      · subst hz
        go_wp2_with fail
        go_roundw
        case rel => exact ⟨1, by omega, rfl, fun j hj => HK2.out j hj, .inr (.inl ⟨rfl, HR.out⟩)⟩
        case measure => simp [intOf]
      · go_wp2_with fail
        go_ret
        exact ⟨x, rfl, .inl ⟨hz, HR.out⟩⟩
    · have e1 := K1.out wr hcs
      have HCS := Lib.hid hcs
      have HX := Lib.hid (C1.out wr hr)
      clear hcs
      go_wp2_with fail
      refine HX.out.mono ?_
      rintro e w1 ⟨x, rfl, hx, hk2⟩
      have HR := Lib.hid hx
      have HK2 := Lib.hid hk2
      clear hx hk2 HX e1
      by_cases hz : x = 0
      · subst hz
        go_wp2_with fail
        go_roundw
        case rel => exact ⟨2, by omega, rfl, fun j hj => (HK2.out j hj).trans (HCS.out j hj), .inr (.inr (.inl ⟨rfl, HR.out⟩))⟩
        case measure => simp [intOf]
      · go_wp2_with fail
        go_ret
        exact ⟨x, rfl, .inr (.inl ⟨hz, HR.out⟩)⟩
    · have e1 := K2.out wr hcs
      have HCS := Lib.hid hcs
      have HX := Lib.hid (C2.out wr hr)
      clear hcs
      go_wp2_with fail
      refine HX.out.mono ?_
      rintro e w1 ⟨x, rfl, hx, hk2⟩
      have HR := Lib.hid hx
      have HK2 := Lib.hid hk2
      clear hx hk2 HX e1
      by_cases hz : x = 0
      · subst hz
        go_wp2_with fail
        go_roundw
        case rel => exact ⟨3, by omega, rfl, fun j hj => (HK2.out j hj).trans (HCS.out j hj), .inr (.inr (.inr (.inl ⟨rfl, HR.out⟩)))⟩
        case measure => simp [intOf]
      · go_wp2_with fail
        go_ret
        exact ⟨x, rfl, .inr (.inr (.inl ⟨hz, HR.out⟩))⟩
    · have e1 := K3.out wr hcs
      have HCS := Lib.hid hcs
      have HX := Lib.hid (C3.out wr hr)
      clear hcs
      go_wp2_with fail
      refine HX.out.mono ?_
      rintro e w1 ⟨x, rfl, hx, hk2⟩
      have HR := Lib.hid hx
      have HK2 := Lib.hid hk2
      clear hx hk2 HX e1
      by_cases hz : x = 0
      · subst hz
        go_wp2_with fail
        go_roundw
        case rel => exact ⟨4, by omega, rfl, fun j hj => (HK2.out j hj).trans (HCS.out j hj), .inr (.inr (.inr (.inr (⟨rfl, HR.out⟩))))⟩
        case measure => simp [intOf]
      · go_wp2_with fail
        go_ret
        exact ⟨x, rfl, .inr (.inr (.inr (HR.out)))⟩
    · go_wp2_with fail
      go_ret
      exact ⟨0, rfl, .inr (.inr (.inr (hr)))⟩
end Go.Proofs.Ytladknjmoahdoaa

set_option linter.all false
namespace Go.Proofs.Ytladknjmoahdoaa
open Go.RowKit Go

/-- Blocks of no slices of bytes, nor of bytes. -/
def Plain (t : TypeId) : Prop := t ≠ 73 ∧ t ≠ 75 ∧ t ≠ 77 ∧ t ≠ 48 ∧ t ≠ 65
theorem FileAt.kinds {w : World} {x : FileM} (h : FileAt w x) {t : TypeId} (ht : Plain t) : ∀ i ∈ x.fp, ∀ cur fr, w.heap[i]? ≠ some (.cells cur t fr) := by
  intro i hi cur fr he
  rcases FileM.mem_fp.1 hi with rfl | hi | hi | hi
  · rw [h.blk] at he; injection he with he; injection he with _ he _; exact ht.1 he.symm
  · obtain ⟨c, hc⟩ := row_kind h.now hi; rw [hc] at he; injection he with he; injection he with _ he _; exact ht.2.1 he.symm
  · obtain ⟨c, hc⟩ := row_kind h.settled hi; rw [hc] at he; injection he with he; injection he with _ he _; exact ht.2.1 he.symm
  · obtain ⟨c, hc⟩ := row_kind h.opens hi; rw [hc] at he; injection he with he; injection he with _ he _; exact ht.2.2.1 he.symm
theorem DkO.kinds {w : World} {p : Nat} {F : List Nat} {d : DiskT} (h : DkO w p F d) {t : TypeId} (ht : Plain t) : ∀ i ∈ F, ∀ cur fr, w.heap[i]? ≠ some (.cells cur t fr) := by
  obtain ⟨⟨m, sb, es, rfl, h1⟩, -⟩ := h
  intro i hi cur fr he
  simp only [fpD, List.cons_append, List.mem_cons, List.mem_append, Option.mem_toList] at hi
  rcases hi with rfl | rfl | hi | hi
  · rw [h1.blk] at he; injection he with he; injection he with _ he _; exact ht.2.2.2.1 he.symm
  · obtain ⟨a, b, h2, -⟩ := h1.map
    rw [h2] at he; injection he with he; cases he
  · have h2 := h1.set
    rw [hi] at h2
    cases hs : d.set with
    | none => rw [hs] at h2; exact h2
    | some ik =>
      obtain ⟨a, b⟩ := ik
      rw [hs] at h2
      have h3 : w.heap[i]? = some (.cells #[.int .i64 a, .int .u64 b] 65) := h2
      rw [h3] at he; injection he with he; injection he with _ he _; exact ht.2.2.2.2 he.symm
  · obtain ⟨e, hem, hx⟩ := List.mem_flatMap.1 hi
    exact (h1.files e hem).kinds ht i hx cur fr he
theorem plain_u8 : Plain 5 := by unfold Plain; decide
theorem plain_b : Plain 30 := by unfold Plain; decide
theorem DkO.u8 {w : World} {p : Nat} {F : List Nat} {d : DiskT} (h : DkO w p F d) {w' : World} (hf : Fr F w w') : U8Kept w w' := U8Kept.fr hf fun i hi cur fr => h.kinds plain_u8 i hi cur fr
/-- A row of slices of bytes. -/
theorem DkO.rowB {w w' : World} {p base n : Nat} {F : List Nat} {d : DiskT} {v : Value} {xs : List Value} (h : DkO w p F d) (hf : Fr F w w') (hr : w.ownsRow base 30 1 v n xs) : w'.ownsRow base 30 1 v n xs := own_fr hr hf fun g hg hi => by
  obtain ⟨c, hc⟩ := row_kind hr hg
  exact h.kinds plain_b g hi _ _ hc
theorem cells_fr2 {F : List Nat} {w w' : World} (hf : Fr F w w') {g : Nat} (hg : g ∉ F) (hl : g < w.heap.size) (j : Nat) : w'.cell? ⟨g, j, none⟩ = w.cell? ⟨g, j, none⟩ := cell_same (p := ⟨g, j, none⟩) (hf.block g hl hg)
theorem NewFp.out {B : Nat} {F F' : List Nat} (h : NewFp B F F') {i : Nat} (hi : i ∉ F) (hl : i < B) : i ∉ F' := fun hm => (h i hm).elim hi fun h2 => absurd h2 (by omega)
section
variable {dp : Nat} {F : List Nat} {d : DiskT} {name : ByteArray} {w : World}
theorem firstOpen_any {g c b1 b2 : Nat} (h : DkO w dp F d) (hst : d.steps ≤ 3000000000) (c1 : w.cell? ⟨b1, 0, none⟩ = some (.pointer (some ⟨dp, 0, none⟩))) (c2 : w.cell? ⟨b2, 0, none⟩ = some (.string name))
    (k0 : w.cell? ⟨g, 0, none⟩ = some (.func (.func 20) #[] #[.pointer (some ⟨b1, 0, none⟩), .pointer (some ⟨b2, 0, none⟩)])) (k1 : w.cell? ⟨g, 1, none⟩ = some (.func (.func 21) #[] #[.pointer (some ⟨b1, 0, none⟩), .pointer (some ⟨b2, 0, none⟩)]))
    (hb1 : b1 ∉ F) (hb2 : b2 ∉ F) (hg : g ∉ F) : Calls Try.prog 19 #[.slice (some ⟨g, 0, none⟩) 2 c] w (OpO w dp F (firstL d name)) := by
  have hgl : g < w.heap.size := World.block_lt_of_cell? w _ k0
  have hb1l : b1 < w.heap.size := World.block_lt_of_cell? w _ c1
  have hb2l : b2 < w.heap.size := World.block_lt_of_cell? w _ c2
  refine (first2_any (R0 := fun x V => x = (writeD d name 0 []).1 ∧ ∃ F', LeftO w dp F (writeD d name 0 []).2 F' V) (R1 := fun x V => (writeD d name 0 []).1 = 0 ∧ x = (syncD (writeD d name 0 []).2 name).1 ∧ ∃ F', LeftO w dp F (syncD (writeD d name 0 []).2 name).2 F' V)
    (fun V hV => (hV 0 (by decide)).trans k0) (fun V hV => (hV 1 (by decide)).trans k1) ?_ ?_).mono ?_
  · refine (open1_any h (Nat.le_trans hst (by decide)) c1 c2).mono ?_
    rintro e w' ⟨rfl, F', hL⟩
    exact ⟨_, rfl, ⟨rfl, F', hL⟩, fun k _ => cells_fr2 hL.fr hg hgl k⟩
  · rintro V ⟨hx, F', hL⟩
    have hs := write_steps d name 0 []
    refine (open2_any hL.at_ (by omega) (hL.fr.cellKept hb1 c1) (hL.fr.cellKept hb2 c2)).mono ?_
    rintro e w' ⟨rfl, F2, hL2⟩
    exact ⟨_, rfl, ⟨hx.symm, rfl, F2, hL.trans hL2⟩, fun k _ => cells_fr2 hL2.fr (hL.new.out hg hgl) (Nat.lt_of_lt_of_le hgl hL.fr.size) k⟩
  · rintro e w' ⟨x, rfl, (⟨hx, rfl, hL⟩ | ⟨h0, rfl, hL⟩)⟩
    · unfold OpO firstL
      rw [if_neg hx]
      exact ⟨rfl, hL⟩
    · unfold OpO firstL
      rw [if_pos h0]
      exact ⟨rfl, hL⟩
theorem firstAppend_any {g c bl bb b1 b2 lp n cb long long' count' : Nat} {ad : Addr} {b : List UInt8} (h : DkO w dp F d) (hst : d.steps ≤ 1000000000) (q0 : w.cell? ⟨bl, 0, none⟩ = some (.pointer (some ⟨lp, 0, none⟩))) (q1 : w.cell? ⟨bb, 0, none⟩ = some (.slice (some ad) n cb))
    (g0 : w.cell? ⟨lp, 0, none⟩ = some (.pointer (some ⟨dp, 0, none⟩))) (g1 : w.cell? ⟨lp, 1, none⟩ = some (.string name)) (g2 : w.cell? ⟨lp, 2, none⟩ = some (.int .i64 (long : Int)))
    (p1 : w.cell? ⟨b1, 0, none⟩ = some (.int .i64 (long' : Int))) (p2 : w.cell? ⟨b2, 0, none⟩ = some (.int .i64 (count' : Int))) (hb : Cells w (some ad) (bv b)) (hn : b.length = n) (hnl : n ≤ 1000000000) (hcb : n ≤ cb) (hlong : long ≤ 1000000000) (hl2 : long' < 9223372036854775808) (hc2 : count' < 9223372036854775808)
    (k0 : w.cell? ⟨g, 0, none⟩ = some (.func (.func 29) #[] #[.pointer (some ⟨bl, 0, none⟩), .pointer (some ⟨bb, 0, none⟩)])) (k1 : w.cell? ⟨g, 1, none⟩ = some (.func (.func 28) #[] #[.pointer (some ⟨bl, 0, none⟩)]))
    (k2 : w.cell? ⟨g, 2, none⟩ = some (.func (.func 31) #[] #[.pointer (some ⟨bl, 0, none⟩), .pointer (some ⟨b1, 0, none⟩), .pointer (some ⟨b2, 0, none⟩)])) (k3 : w.cell? ⟨g, 3, none⟩ = some (.func (.func 28) #[] #[.pointer (some ⟨bl, 0, none⟩)]))
    (hbl : bl ∉ F) (hbb : bb ∉ F) (hlp : lp ∉ F) (hb1 : b1 ∉ F) (hb2 : b2 ∉ F) (hg : g ∉ F) (had : ad.block ∉ F) : Calls Try.prog 19 #[.slice (some ⟨g, 0, none⟩) 4 c] w (OpO w dp F (allL d name long b long' count')) := by
  have hgl : g < w.heap.size := World.block_lt_of_cell? w _ k0
  have hbll : bl < w.heap.size := World.block_lt_of_cell? w _ q0
  have hlpl : lp < w.heap.size := World.block_lt_of_cell? w _ g0
  have hb1l : b1 < w.heap.size := World.block_lt_of_cell? w _ p1
  have hb2l : b2 < w.heap.size := World.block_lt_of_cell? w _ p2
  have hs1 := pages_steps d name long b
  have hs2 := sync1_steps d name long b
  have hs3 := head_steps d name long b long' count'
  have e1 : (pagesL d name long b).1 = 0 → sync1L d name long b = syncD (pagesL d name long b).2 name := fun h => if_pos h
  have e2 : (sync1L d name long b).1 = 0 → headL d name long b long' count' = writeD (sync1L d name long b).2 name 0 (headB long' count') := fun h => if_pos h
  have e3 : (headL d name long b long' count').1 = 0 → allL d name long b long' count' = syncD (headL d name long b long' count').2 name := fun h => if_pos h
  have n1 : (pagesL d name long b).1 ≠ 0 → sync1L d name long b = pagesL d name long b := fun h => if_neg h
  have n2 : (sync1L d name long b).1 ≠ 0 → headL d name long b long' count' = sync1L d name long b := fun h => if_neg h
  have n3 : (headL d name long b long' count').1 ≠ 0 → allL d name long b long' count' = headL d name long b long' count' := fun h => if_neg h
  refine (first4_any (R0 := fun x V => x = (pagesL d name long b).1 ∧ ∃ F', LeftO w dp F (pagesL d name long b).2 F' V)
    (R1 := fun x V => (pagesL d name long b).1 = 0 ∧ x = (sync1L d name long b).1 ∧ ∃ F', LeftO w dp F (sync1L d name long b).2 F' V)
    (R2 := fun x V => (sync1L d name long b).1 = 0 ∧ x = (headL d name long b long' count').1 ∧ ∃ F', LeftO w dp F (headL d name long b long' count').2 F' V)
    (R3 := fun x V => (headL d name long b long' count').1 = 0 ∧ x = (allL d name long b long' count').1 ∧ ∃ F', LeftO w dp F (allL d name long b long' count').2 F' V)
    (fun V hV => (hV 0 (by decide)).trans k0) (fun V hV => (hV 1 (by decide)).trans k1) (fun V hV => (hV 2 (by decide)).trans k2) (fun V hV => (hV 3 (by decide)).trans k3) ?_ ?_ ?_ ?_).mono ?_
  · have hp := append3_any h hst q0 q1 g0 g1 g2 hb hn hnl hcb hlong hbl hlp had
    rw [← hn] at hp
    refine hp.mono ?_
    rintro e w' ⟨rfl, F', hL⟩
    exact ⟨_, rfl, ⟨rfl, F', hL⟩, fun k _ => cells_fr2 hL.fr hg hgl k⟩
  · rintro V ⟨hx, F', hL⟩
    refine (append2_any hL.at_ (by omega) (hL.fr.cellKept hbl q0) (hL.fr.cellKept hlp g0) (hL.fr.cellKept hlp g1) (hL.new.out hbl hbll) (hL.new.out hlp hlpl)).mono ?_
    rintro e w' ⟨rfl, F2, hL2⟩
    rw [← e1 hx.symm] at hL2 ⊢
    exact ⟨_, rfl, ⟨hx.symm, rfl, F2, hL.trans hL2⟩, fun k _ => cells_fr2 hL2.fr (hL.new.out hg hgl) (Nat.lt_of_lt_of_le hgl hL.fr.size) k⟩
  · rintro V ⟨-, hx, F', hL⟩
    refine (append4_any hL.at_ (by omega) (hL.fr.cellKept hbl q0) (hL.fr.cellKept hlp g0) (hL.fr.cellKept hlp g1) (hL.fr.cellKept hb1 p1) (hL.fr.cellKept hb2 p2) (hL.new.out hbl hbll) (hL.new.out hlp hlpl) (hL.new.out hb1 hb1l) (hL.new.out hb2 hb2l) hl2 hc2).mono ?_
    rintro e w' ⟨rfl, F2, hL2⟩
    rw [← e2 hx.symm] at hL2 ⊢
    exact ⟨_, rfl, ⟨hx.symm, rfl, F2, hL.trans hL2⟩, fun k _ => cells_fr2 hL2.fr (hL.new.out hg hgl) (Nat.lt_of_lt_of_le hgl hL.fr.size) k⟩
  · rintro V ⟨-, hx, F', hL⟩
    refine (append2_any hL.at_ (by omega) (hL.fr.cellKept hbl q0) (hL.fr.cellKept hlp g0) (hL.fr.cellKept hlp g1) (hL.new.out hbl hbll) (hL.new.out hlp hlpl)).mono ?_
    rintro e w' ⟨rfl, F2, hL2⟩
    rw [← e3 hx.symm] at hL2 ⊢
    exact ⟨_, rfl, ⟨hx.symm, rfl, F2, hL.trans hL2⟩, fun k _ => cells_fr2 hL2.fr (hL.new.out hg hgl) (Nat.lt_of_lt_of_le hgl hL.fr.size) k⟩
  · rintro e w' ⟨x, rfl, (⟨hx, rfl, hL⟩ | ⟨hx, h0, rfl, hL⟩ | ⟨hx, h0, rfl, hL⟩ | ⟨h0, rfl, hL⟩)⟩
    · have a1 := n1 hx
      have a2 := n2 (by rw [a1]; exact hx)
      have a3 := n3 (by rw [a2, a1]; exact hx)
      rw [a3, a2, a1]
      exact ⟨rfl, hL⟩
    · have a2 := n2 hx
      have a3 := n3 (by rw [a2]; exact hx)
      rw [a3, a2]
      exact ⟨rfl, hL⟩
    · rw [n3 hx]
      exact ⟨rfl, hL⟩
    · exact ⟨rfl, hL⟩
end
end Go.Proofs.Ytladknjmoahdoaa

set_option linter.all false
namespace Go.Proofs.Ytladknjmoahdoaa
open Go.RowKit Go

theorem open_err {d : DiskT} {name : ByteArray} (h : (beginL d name).1 ≠ 0) : openL d name = ((beginL d name).1, (beginL d name).2, none) := by unfold openL; rw [if_neg h]
def errO (o : Option ReadT) : Int := match o with | none => 100 | some _ => 0
theorem open_told {d : DiskT} {name : ByteArray} {f : FileT} {ps : List PageT} {o : Option ReadT} (h : (beginL d name).1 = 0) (hg : mget (beginL d name).2.files name = some f) (hp : f.now = ps) (ho : readL ps = o) :
    openL d name = (errO o, (beginL d name).2, o) := by
  unfold openL
  rw [if_pos h, show readLog (beginL d name).2 name = o from by unfold readLog; rw [hg, ← ho, ← hp]; rfl]
  cases o <;> rfl
/-- What Open tells. -/
def OpenP (w : World) (dp : Nat) (F : List Nat) (name : ByteArray) (r : Int × DiskT × Option ReadT) (e : Ending) (w' : World) : Prop :=
  ∃ F', LeftO w dp F r.2.1 F' w' ∧ match r.2.2 with
  | none => e = .returned (.tuple #[.pointer none, .slice none 0 0, .int .i64 r.1])
  | some q => ∃ lp v vs, e = .returned (.tuple #[.pointer (some ⟨lp, 0, none⟩), v, .int .i64 0]) ∧ w.heap.size ≤ lp ∧ lp ∉ F' ∧ w'.ownsRow w.heap.size 30 1 v q.es.length vs ∧ EntVs w' vs q.es ∧ LogAt w' lp dp name q.long q.es.length (tailL q.row) 0
theorem alloc2 (W : World) (a b : Obj) : ∃ w2, (W.alloc a).alloc b = w2 ∧ w2.heap.size = W.heap.size + 2 ∧ Below W.heap.size W w2 ∧ w2.heap[W.heap.size]? = some a ∧ w2.heap[W.heap.size + 1]? = some b :=
  ⟨_, rfl, by simp, (Below.refl W.heap.size W).alloc (Nat.le_refl _) _ |>.alloc (by simp) _, alloc_old _ (alloc1 W a rfl), alloc1 _ b (by simp)⟩
set_option maxRecDepth 100000 in
set_option maxHeartbeats 16000000 in
theorem open_any {dp : Nat} {F : List Nat} {d : DiskT} {name : ByteArray} {w : World} (hd : DkO w dp F d) (hst : d.steps ≤ 2000000000) :
    Calls Try.prog 7 #[.pointer (some ⟨dp, 0, none⟩), .string name] w (OpenP w dp F name (openL d name)) := by
  have HD := Lib.hid hd
  have HST := Lib.hid hst
  have HLT := Lib.hid (fun i hi => hd.lt i hi)
  clear hd hst
  have HLEN := Lib.hid (fun V (hV : DkO V dp F d) => hV.len name)
  have HCR := Lib.hid (fun V (hV : DkO V dp F d) => hV.create (Nat.le_trans HST.out (by decide)) name)
  have hbg := begin_ok (d := d) (name := name)
  have hst91 : (lenD d name).1 = 91 → startL d name = createD d name ∧ (lenD d name).2 = 0 := fun h => ⟨if_pos h, by
    unfold lenD at h ⊢
    cases hf : findD d name with
    | inl e => rfl
    | inr f => rw [hf] at h; cases h⟩
  have hstno : (lenD d name).1 ≠ 91 → startL d name = ((lenD d name).1, d) := fun h => if_neg h
  have hnb : (lenD d name).2 ≤ 65536 := by
    unfold lenD
    cases hf : findD d name with
    | inl e => exact Nat.zero_le _
    | inr f =>
      have h1 := HD.out.inv.get_le (findD_get hf)
      have h2 := HD.out.inv.within
      have h3 := HD.out.inv.quota
      show f.now.length ≤ 65536
      omega
  have hb1 : (startL d name).1 = 0 → (lenD d name).2 = 0 → beginL d name = firstL (startL d name).2 name := fun h1 h2 => if_pos ⟨h1, h2⟩
  have hb2 : ¬ ((startL d name).1 = 0 ∧ (lenD d name).2 = 0) → beginL d name = startL d name := fun h => if_neg h
  obtain ⟨e0, he0⟩ : ∃ e0, (lenD d name).1 = e0 := ⟨_, rfl⟩
  obtain ⟨n0, hn0⟩ : ∃ n0, (lenD d name).2 = n0 := ⟨_, rfl⟩
  obtain ⟨s, hs⟩ : ∃ s, startL d name = s := ⟨_, rfl⟩
  obtain ⟨bg, hbgv⟩ : ∃ bg, beginL d name = bg := ⟨_, rfl⟩
  rw [he0, hs] at hst91 hstno
  rw [hn0] at hst91 hnb hb1 hb2 hbg
  rw [hs, hbgv] at hb1 hb2
  rw [hbgv] at hbg
  simp only [he0, hn0] at HLEN
  have HBV := Lib.hid hbgv
  have HBG := Lib.hid hbg
  have HS91 := Lib.hid hst91
  have HSNO := Lib.hid hstno
  have HN := Lib.hid hnb
  have HB1 := Lib.hid hb1
  have HB2 := Lib.hid hb2
  have HSS := Lib.hid (show s.2.steps ≤ d.steps + 1 from by rw [← hs]; exact start_steps d name)
  have HBS := Lib.hid (show Inv bg.2 from by rw [← hbgv]; exact begin_inv HD.out.inv name)
  clear hbgv hbg hst91 hstno hnb hb1 hb2 he0 hn0 hs
  go_enter Try.func7, Try.ntmps7
  go_wp2_with fail
  obtain ⟨w2, hw2, hs2, hbl2, o0, o1⟩ := alloc2 w (.cells #[.pointer (some ⟨dp, 0, none⟩)] 22) (.cells #[.string name] 9)
  rw [hw2]
  clear hw2
  obtain ⟨B, hB⟩ : ∃ B, w.heap.size = B := ⟨_, rfl⟩
  simp only [hB] at o0 o1 hs2 ⊢
  have HW2 := Lib.hid hbl2
  have HSZ := Lib.hid hB
  have O0 := Lib.hid o0
  have O1 := Lib.hid o1
  have HS2 := Lib.hid hs2
  have HFB := Lib.hid (show ∀ i ∈ F, i < B from fun i hi => by rw [← hB]; exact HLT.out i hi)
  clear hbl2 o0 o1 hs2 hB
  refine (HLEN.out _ (HD.out.below HW2.out)).mono ?_
  rintro e w3 ⟨rfl, rfl⟩
  have c1 : w2.cell? ⟨B, 0, none⟩ = some (.pointer (some ⟨dp, 0, none⟩)) := cell_of (j := 0) O0.out rfl
  have c2 : w2.cell? ⟨B + 1, 0, none⟩ = some (.string name) := cell_of (j := 0) O1.out rfl
  have HL0 := Lib.hid (LeftO.here (HD.out.below HW2.out))
  have nb0 : B ∉ F := fun hi => by have := HFB.out B hi; omega
  have nb1 : B + 1 ∉ F := fun hi => by have := HFB.out (B + 1) hi; omega
  by_cases h91 : e0 = 91
  · subst h91
    obtain ⟨hcr, hn00⟩ := HS91.out rfl
    subst hn00
    have HCRE := Lib.hid hcr
    clear hcr
    go_wp2_with fail
    refine (HCR.out _ HL0.out.at_).mono ?_
    rintro e w4 ⟨rfl, F2, hL⟩
    rw [← HCRE.out] at hL ⊢
    have HLS := Lib.hid hL
    have s1 : w4.cell? ⟨B, 0, none⟩ = some (.pointer (some ⟨dp, 0, none⟩)) := hL.fr.cellKept nb0 c1
    have s2 : w4.cell? ⟨B + 1, 0, none⟩ = some (.string name) := hL.fr.cellKept nb1 c2
    clear hL c1 c2 HCR
    by_cases hz : s.1 = 0
    · have hbe := HB1.out hz (by first | rfl | trivial)
      have HBE := Lib.hid hbe
      have hgn : w4.heap.size ∉ F2 := fun hi => by have := HLS.out.at_.lt _ hi; omega
      have hz1 : B ∉ F2 := HLS.out.new.out nb0 (by have := HS2.out; omega)
      have hz2 : B + 1 ∉ F2 := HLS.out.new.out nb1 (by have := HS2.out; omega)
      have HGN := Lib.hid (And.intro hgn (And.intro hz1 hz2))
      have HCB := Lib.hid (And.intro s1 s2)
      simp only [hz]
      clear hbe hgn hz1 hz2
      go_wp2_with fail
      refine (firstOpen_any (d := s.2) (HLS.out.at_.below (one_below _ _)) (by have := HSS.out; have := HST.out; omega) (cell_below (one_below _ _) HCB.out.1) (cell_below (one_below _ _) HCB.out.2) (cell_of (j := 0) (Go.heap_alloc_new _ _) rfl) (cell_of (j := 1) (Go.heap_alloc_new _ _) rfl) HGN.out.2.1 HGN.out.2.2 HGN.out.1).mono ?_
      rintro e w5 ⟨rfl, F3, hL3⟩
      rw [← HBE.out] at hL3 ⊢
      have HLX := Lib.hid (HLS.out.trans (LeftO.start (one_below _ _) hL3))
      have t1 : w5.cell? ⟨B, 0, none⟩ = some (.pointer (some ⟨dp, 0, none⟩)) := hL3.fr.cellKept HGN.out.2.1 (cell_below (one_below _ _) HCB.out.1)
      have t2 : w5.cell? ⟨B + 1, 0, none⟩ = some (.string name) := hL3.fr.cellKept HGN.out.2.2 (cell_below (one_below _ _) HCB.out.2)
      clear hL3 s1 s2
      by_cases hzb : bg.1 = 0
      · have HZ := Lib.hid hzb
        simp only [hzb]
        clear hzb
        have hrd := HBG.out HZ.out
        have hoff := hrd.off
        obtain ⟨f, p0, rest, hget, hnow, hlen⟩ := hrd.file
        have hlen : rest.length = 0 := by simpa using hlen
        have HT := Lib.hid (fun o (ho : readL (p0 :: rest) = o) => open_told (d := d) (name := name) (by rw [HBV.out]; exact HZ.out) (by rw [HBV.out]; exact hget) hnow ho)
        have HRD := Lib.hid (And.intro hoff (And.intro hget (And.intro hnow hlen)))
        have hlp : w5.heap.size ∉ F3 := fun hi => by have := HLX.out.at_.lt _ hi; omega
        have hwl : w.heap.size ≤ w5.heap.size := Nat.le_trans HW2.out.size HLX.out.fr.size
        have HLP := Lib.hid (And.intro hlp hwl)
        clear hrd hoff hget hnow hlen hlp hwl
        go_wp2_with fail
        refine (read_log (pages := 0) (HLX.out.at_.below (one_below _ _)) HRD.out.1 HRD.out.2.1 HRD.out.2.2.1 HRD.out.2.2.2 (Go.heap_alloc_new _ _) HLP.out.1 (by omega)).mono ?_
        rintro e w6 ⟨hfr, hm⟩
        have hfr2 : Fr [] w5 w6 := (Fr.below (one_below _ _)).trans hfr fun i hi hl => (by simp at hi; omega)
        have HL6 := Lib.hid (LeftO.start HW2.out (HLX.out.below hfr2.toBelow))
        clear hfr hfr2
        obtain ⟨o, ho⟩ : ∃ o, readL (p0 :: rest) = o := ⟨_, rfl⟩
        have HOT := Lib.hid (show openL d name = (errO o, (beginL d name).2, o) from HT.out o ho)
        rw [ho] at hm
        clear ho
        cases o with
        | none =>
          dsimp only at hm
          subst hm
          go_wp2_with fail
          refine bodyPost_ret (results_tmp3 rfl _ _ _) rfl ?_
          rw [HOT.out, HBV.out]
          exact ⟨_, HL6.out, rfl⟩
        | some r =>
          obtain ⟨v, vs, rfl, hm1, hm2, hm3⟩ := hm
          have HM := Lib.hid (And.intro (own_to hm1 (show w.heap.size ≤ _ from by have := HLP.out.2; rw [World.size_alloc]; omega)) (And.intro hm2 hm3))
          clear hm1 hm2 hm3
          go_wp2_with fail
          refine bodyPost_ret (results_tmp3 rfl _ _ _) rfl ?_
          rw [HOT.out, HBV.out]
          exact ⟨_, HL6.out, _, v, vs, rfl, HLP.out.2, HLP.out.1, HM.out.1, HM.out.2.1, HM.out.2.2⟩
      · have HZ := Lib.hid hzb
        clear hzb
        have HOE := Lib.hid (open_err (d := d) (name := name) (by rw [HBV.out]; exact HZ.out))
        obtain ⟨eb, heb⟩ : ∃ eb, bg.1 = eb := ⟨_, rfl⟩
        have hzz : ¬ eb = 0 := by rw [← heb]; exact HZ.out
        simp only [heb]
        have HEB := Lib.hid heb
        clear heb
        go_wp2_with fail
        refine bodyPost_ret (results_tmp3 rfl _ _ _) rfl ?_
        rw [HOE.out, HBV.out, ← HEB.out]
        exact ⟨_, LeftO.start HW2.out HLX.out, rfl⟩
    · have hbs := HB2.out (fun h => hz h.1)
      rw [← hbs] at hz HLS ⊢
      have HLX := HLS
      have HZ := Lib.hid hz
      clear hz hbs
      have HOE := Lib.hid (open_err (d := d) (name := name) (by rw [HBV.out]; exact HZ.out))
      obtain ⟨eb, heb⟩ : ∃ eb, bg.1 = eb := ⟨_, rfl⟩
      have hzz : ¬ eb = 0 := by rw [← heb]; exact HZ.out
      simp only [heb]
      have HEB := Lib.hid heb
      clear heb
      go_wp2_with fail
      refine bodyPost_ret (results_tmp3 rfl _ _ _) rfl ?_
      rw [HOE.out, HBV.out, ← HEB.out]
      exact ⟨_, LeftO.start HW2.out HLX.out, rfl⟩
  · have hse := HSNO.out h91
    by_cases hz0 : e0 = 0
    · subst hz0
      by_cases hn : n0 = 0
      · subst hn
        have hz : s.1 = 0 := by rw [hse]
        have HLS := Lib.hid (show LeftO w2 dp F s.2 F w2 from by rw [hse]; exact HL0.out)
        have s1 := c1
        have s2 := c2
        clear c1 c2 hse
        have hbe := HB1.out hz (by first | rfl | trivial)
        have HBE := Lib.hid hbe
        have hgn : w2.heap.size ∉ F := fun hi => by have := HLS.out.at_.lt _ hi; omega
        have hz1 : B ∉ F := HLS.out.new.out nb0 (by have := HS2.out; omega)
        have hz2 : B + 1 ∉ F := HLS.out.new.out nb1 (by have := HS2.out; omega)
        have HGN := Lib.hid (And.intro hgn (And.intro hz1 hz2))
        have HCB := Lib.hid (And.intro s1 s2)
        simp only [hz]
        clear hbe hgn hz1 hz2
        go_wp2_with fail
        refine (firstOpen_any (d := s.2) (HLS.out.at_.below (one_below _ _)) (by have := HSS.out; have := HST.out; omega) (cell_below (one_below _ _) HCB.out.1) (cell_below (one_below _ _) HCB.out.2) (cell_of (j := 0) (Go.heap_alloc_new _ _) rfl) (cell_of (j := 1) (Go.heap_alloc_new _ _) rfl) HGN.out.2.1 HGN.out.2.2 HGN.out.1).mono ?_
        rintro e w5 ⟨rfl, F3, hL3⟩
        rw [← HBE.out] at hL3 ⊢
        have HLX := Lib.hid (HLS.out.trans (LeftO.start (one_below _ _) hL3))
        have t1 : w5.cell? ⟨B, 0, none⟩ = some (.pointer (some ⟨dp, 0, none⟩)) := hL3.fr.cellKept HGN.out.2.1 (cell_below (one_below _ _) HCB.out.1)
        have t2 : w5.cell? ⟨B + 1, 0, none⟩ = some (.string name) := hL3.fr.cellKept HGN.out.2.2 (cell_below (one_below _ _) HCB.out.2)
        clear hL3 s1 s2
        by_cases hzb : bg.1 = 0
        · have HZ := Lib.hid hzb
          simp only [hzb]
          clear hzb
          have hrd := HBG.out HZ.out
          have hoff := hrd.off
          obtain ⟨f, p0, rest, hget, hnow, hlen⟩ := hrd.file
          have hlen : rest.length = 0 := by simpa using hlen
          have HT := Lib.hid (fun o (ho : readL (p0 :: rest) = o) => open_told (d := d) (name := name) (by rw [HBV.out]; exact HZ.out) (by rw [HBV.out]; exact hget) hnow ho)
          have HRD := Lib.hid (And.intro hoff (And.intro hget (And.intro hnow hlen)))
          have hlp : w5.heap.size ∉ F3 := fun hi => by have := HLX.out.at_.lt _ hi; omega
          have hwl : w.heap.size ≤ w5.heap.size := Nat.le_trans HW2.out.size HLX.out.fr.size
          have HLP := Lib.hid (And.intro hlp hwl)
          clear hrd hoff hget hnow hlen hlp hwl
          go_wp2_with fail
          refine (read_log (pages := 0) (HLX.out.at_.below (one_below _ _)) HRD.out.1 HRD.out.2.1 HRD.out.2.2.1 HRD.out.2.2.2 (Go.heap_alloc_new _ _) HLP.out.1 (by omega)).mono ?_
          rintro e w6 ⟨hfr, hm⟩
          have hfr2 : Fr [] w5 w6 := (Fr.below (one_below _ _)).trans hfr fun i hi hl => (by simp at hi; omega)
          have HL6 := Lib.hid (LeftO.start HW2.out (HLX.out.below hfr2.toBelow))
          clear hfr hfr2
          obtain ⟨o, ho⟩ : ∃ o, readL (p0 :: rest) = o := ⟨_, rfl⟩
          have HOT := Lib.hid (show openL d name = (errO o, (beginL d name).2, o) from HT.out o ho)
          rw [ho] at hm
          clear ho
          cases o with
          | none =>
            dsimp only at hm
            subst hm
            go_wp2_with fail
            refine bodyPost_ret (results_tmp3 rfl _ _ _) rfl ?_
            rw [HOT.out, HBV.out]
            exact ⟨_, HL6.out, rfl⟩
          | some r =>
            obtain ⟨v, vs, rfl, hm1, hm2, hm3⟩ := hm
            have HM := Lib.hid (And.intro (own_to hm1 (show w.heap.size ≤ _ from by have := HLP.out.2; rw [World.size_alloc]; omega)) (And.intro hm2 hm3))
            clear hm1 hm2 hm3
            go_wp2_with fail
            refine bodyPost_ret (results_tmp3 rfl _ _ _) rfl ?_
            rw [HOT.out, HBV.out]
            exact ⟨_, HL6.out, _, v, vs, rfl, HLP.out.2, HLP.out.1, HM.out.1, HM.out.2.1, HM.out.2.2⟩
        · have HZ := Lib.hid hzb
          clear hzb
          have HOE := Lib.hid (open_err (d := d) (name := name) (by rw [HBV.out]; exact HZ.out))
          obtain ⟨eb, heb⟩ : ∃ eb, bg.1 = eb := ⟨_, rfl⟩
          have hzz : ¬ eb = 0 := by rw [← heb]; exact HZ.out
          simp only [heb]
          have HEB := Lib.hid heb
          clear heb
          go_wp2_with fail
          refine bodyPost_ret (results_tmp3 rfl _ _ _) rfl ?_
          rw [HOE.out, HBV.out, ← HEB.out]
          exact ⟨_, LeftO.start HW2.out HLX.out, rfl⟩
      · have hbs : bg = (0, d) := (HB2.out (fun h => hn h.2)).trans hse
        have HZ := Lib.hid (show bg.1 = 0 from by rw [hbs])
        have HLX := Lib.hid (show LeftO w2 dp F bg.2 F w2 from by rw [hbs]; exact HL0.out)
        have hnb := HN.out
        obtain ⟨m, hm⟩ : ∃ m, n0 = m + 1 := ⟨n0 - 1, by omega⟩
        have hni : ¬ ((n0 : Int) = 0) := by omega
        have hpi : ((n0 : Int) - 1) = (m : Int) := by omega
        clear hbs hse
        have hrd := HBG.out HZ.out
        have hoff := hrd.off
        obtain ⟨f, p0, rest, hget, hnow, hlen⟩ := hrd.file
        have hlen : rest.length = m := by rw [if_neg hn] at hlen; omega
        have HT := Lib.hid (fun o (ho : readL (p0 :: rest) = o) => open_told (d := d) (name := name) (by rw [HBV.out]; exact HZ.out) (by rw [HBV.out]; exact hget) hnow ho)
        have HRD := Lib.hid (And.intro hoff (And.intro hget (And.intro hnow hlen)))
        have hlp : w2.heap.size ∉ F := fun hi => by have := HLX.out.at_.lt _ hi; omega
        have hwl : w.heap.size ≤ w2.heap.size := Nat.le_trans HW2.out.size HLX.out.fr.size
        have HLP := Lib.hid (And.intro hlp hwl)
        clear hrd hoff hget hnow hlen hlp hwl
        have HMM := Lib.hid hm
        clear hm
        go_wp2_with fail
        refine (read_log (pages := m) (HLX.out.at_.below (one_below _ _)) HRD.out.1 HRD.out.2.1 HRD.out.2.2.1 HRD.out.2.2.2 (Go.heap_alloc_new _ _) HLP.out.1 (by have := HMM.out; omega)).mono ?_
        rintro e w6 ⟨hfr, hm⟩
        have hfr2 : Fr [] w2 w6 := (Fr.below (one_below _ _)).trans hfr fun i hi hl => (by simp at hi; omega)
        have HL6 := Lib.hid (LeftO.start HW2.out (HLX.out.below hfr2.toBelow))
        clear hfr hfr2
        obtain ⟨o, ho⟩ : ∃ o, readL (p0 :: rest) = o := ⟨_, rfl⟩
        have HOT := Lib.hid (show openL d name = (errO o, (beginL d name).2, o) from HT.out o ho)
        rw [ho] at hm
        clear ho
        cases o with
        | none =>
          dsimp only at hm
          subst hm
          go_wp2_with fail
          refine bodyPost_ret (results_tmp3 rfl _ _ _) rfl ?_
          rw [HOT.out, HBV.out]
          exact ⟨_, HL6.out, rfl⟩
        | some r =>
          obtain ⟨v, vs, rfl, hm1, hm2, hm3⟩ := hm
          have HM := Lib.hid (And.intro (own_to hm1 (show w.heap.size ≤ _ from by have := HLP.out.2; rw [World.size_alloc]; omega)) (And.intro hm2 hm3))
          clear hm1 hm2 hm3
          go_wp2_with fail
          refine bodyPost_ret (results_tmp3 rfl _ _ _) rfl ?_
          rw [HOT.out, HBV.out]
          exact ⟨_, HL6.out, _, v, vs, rfl, HLP.out.2, HLP.out.1, HM.out.1, HM.out.2.1, HM.out.2.2⟩
    · have hbs : bg = (e0, d) := (HB2.out (fun h => hz0 (by rw [hse] at h; exact h.1))).trans hse
      have HLX := Lib.hid (show LeftO w2 dp F bg.2 F w2 from by rw [hbs]; exact HL0.out)
      have HZ := Lib.hid (show bg.1 ≠ 0 from by rw [hbs]; exact hz0)
      have hbb : e0 = bg.1 := by rw [hbs]
      rw [hbb] at h91 hz0 ⊢
      clear hbs hse hbb
      have HOE := Lib.hid (open_err (d := d) (name := name) (by rw [HBV.out]; exact HZ.out))
      obtain ⟨eb, heb⟩ : ∃ eb, bg.1 = eb := ⟨_, rfl⟩
      rw [heb] at h91 hz0 ⊢
      have HEB := Lib.hid heb
      clear heb
      go_wp2_with fail
      refine bodyPost_ret (results_tmp3 rfl _ _ _) rfl ?_
      rw [HOE.out, HBV.out, ← HEB.out]
      exact ⟨_, LeftO.start HW2.out HLX.out, rfl⟩
end Go.Proofs.Ytladknjmoahdoaa
