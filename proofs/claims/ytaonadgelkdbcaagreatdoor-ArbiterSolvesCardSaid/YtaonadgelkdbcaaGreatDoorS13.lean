/- large at two lists. · The statements' reckoning of sizes: locks. · The statements' reckoning of sizes: transactions. -/
import Derived.Test.YtaonadgelkdbcaaGreatDoorQ18
import Derived.Test.YtaonadgelkdbcaaGreatDoorS5
import Derived.Test.YtaonadgelkdbcaaGreatDoorS2
import Derived.Test.YtaonadgelkdbcaaGreatDoorS4
namespace Go.Proofs.YtaonadgelkdbcaaGreatDoor
open Go.RowKit

def largeB2 (ks ps : List ByteArray) : Bool := decide (20 < ks.length + ps.length) || decide (4000 < tot (ks.take 50) + tot (ps.take 50))
theorem not_large2 {ks ps : List ByteArray} (h : largeB2 ks ps = false) : ks.length ≤ 20 ∧ ps.length ≤ 20 ∧ (∀ x ∈ ks, x.size ≤ 4000) ∧ ∀ x ∈ ps, x.size ≤ 4000 := by
  unfold largeB2 at h
  rw [Bool.or_eq_false_iff, decide_eq_false_iff_not, decide_eq_false_iff_not] at h
  have t1 : ks.take 50 = ks := List.take_of_length_le (by omega)
  have t2 : ps.take 50 = ps := List.take_of_length_le (by omega)
  rw [t1, t2] at h
  refine ⟨by omega, by omega, fun x hx => ?_, fun x hx => ?_⟩
  · have := tot_mem ks x hx
    omega
  · have := tot_mem ps x hx
    omega
theorem tot_small {ps : List ByteArray} (hx : ∀ x ∈ ps, x.size ≤ 140737488355328) : ∀ k, k ≤ 50 → tot (ps.take k) ≤ 7036874417766400 := fun k hk => by
  have h1 := tot_le 140737488355328 (ps.take k) (fun x h => hx x (List.mem_of_mem_take h))
  have h2 : (ps.take k).length ≤ 50 := by rw [List.length_take]; omega
  have := Nat.mul_le_mul_right 140737488355328 h2
  omega
set_option maxRecDepth 100000 in
set_option maxHeartbeats 8000000 in
theorem large2_any (ks ps : List ByteArray) (A B : Option Addr) (ca cb : Nat) (ob oc : Nat) (w : World) (hk : ks.length ≤ 140737488355328) (hl : ps.length ≤ 140737488355328) (hx : ∀ x ∈ ks, x.size ≤ 140737488355328) (hy : ∀ x ∈ ps, x.size ≤ 140737488355328) (hA : Cells w A (strs ks)) (hB : Cells w B (strs ps))
    (ho : w.cell? ⟨ob, 0, none⟩ = some (.slice A ks.length ca)) (ho1 : w.cell? ⟨ob, 1, none⟩ = some (.slice B ps.length cb)) :
    Calls Tryz.prog 6 #[.slice (some ⟨ob, 0, none⟩) 2 oc] w fun e w' => e = .returned (.bool (largeB2 ks ps)) ∧ w' = w := by
  have HA := Lib.hid hA
  have HB := Lib.hid hB
  have HX := Lib.hid hx
  have HY := Lib.hid hy
  have HTK := Lib.hid (tot_small hx)
  have HTP := Lib.hid (tot_small hy)
  obtain ⟨n, hn⟩ : ∃ n, ks.length = n := ⟨_, rfl⟩
  obtain ⟨m, hm⟩ : ∃ m, ps.length = m := ⟨_, rfl⟩
  have HN := Lib.hid hn
  have HM := Lib.hid hm
  rw [hn] at ho hk
  rw [hm] at ho1 hl
  have HLB := Lib.hid (show largeB2 ks ps = (decide (20 < n + m) || decide (4000 < tot (ks.take 50) + tot (ps.take 50))) by unfold largeB2; rw [hn, hm])
  have t50 := HTK.out 50 (by omega)
  have p50 := HTP.out 50 (by omega)
  clear hA hB hx hy hn hm
  obtain ⟨T1, hT1⟩ : ∃ T1, tot (ks.take 50) = T1 := ⟨_, rfl⟩
  obtain ⟨T2, hT2⟩ : ∃ T2, tot (ps.take 50) = T2 := ⟨_, rfl⟩
  rw [hT1] at HLB t50
  rw [hT2] at HLB p50
  have HT1 := Lib.hid hT1
  have HT2 := Lib.hid hT2
  clear hT1 hT2
  go_enter Tryz.func6, Tryz.ntmps6
  go_wp2
  go_loop [5, 3, 4] (fun i q b => (i = .int .i64 0 ∧ q = .int .i64 0 ∧ b = .int .i64 0) ∨ (i = .int .i64 1 ∧ q = .int .i64 (n : Int) ∧ b = .int .i64 (T1 : Int)) ∨ (i = .int .i64 2 ∧ q = .int .i64 ((n : Int) + (m : Int)) ∧ b = .int .i64 ((T1 : Int) + (T2 : Int)))) (fun i _ _ => (2 - intOf i).toNat)
  case atStart => exact .inl ⟨rfl, rfl, rfl⟩
  case round =>
    rcases hrel with ⟨rfl, rfl, rfl⟩ | ⟨rfl, rfl, rfl⟩ | ⟨rfl, rfl, rfl⟩
    · go_wp2
      go_loop [6, 4] (fun k b => ∃ k' : Nat, k' ≤ n ∧ k' ≤ 50 ∧ k = .int .i64 (k' : Int) ∧ b = .int .i64 (((tot (ks.take k') : Nat) : Int))) (fun k _ => 50 - (intOf k).toNat)
      case atStart => exact ⟨0, Nat.zero_le _, by omega, rfl, by rw [List.take_zero]; simp [tot]⟩
      case round =>
        obtain ⟨k, hk, hk5, rfl, rfl⟩ := hrel
        by_cases hlt : k < n
        · by_cases h5 : k < 50
          · have hk2 : k < ks.length := by rw [HN.out]; exact hlt
            obtain ⟨ad, rfl, hc⟩ := strs_at HA.out hk2
            have HS := Lib.hid (tot_snoc ks hk2)
            have hsz := HX.out _ (List.getElem_mem hk2)
            have ht := HTK.out k (by omega)
            generalize ks[k] = x at hc HS hsz
            generalize tot (ks.take k) = tk at HS ht
            go_wp2
            go_round
            case rel => exact ⟨k + 1, by omega, by omega, by go_num, by rw [HS.out]; go_num⟩
            case measure => simp [intOf]; omega
          · obtain rfl : k = 50 := by omega
            rw [HT1.out]
            go_wp2
            go_round
            case rel => exact .inr (.inl ⟨rfl, rfl, rfl⟩)
            case measure => simp [intOf]
        · obtain rfl : k = n := by omega
          have HE := Lib.hid (show ks.take k = ks.take 50 by rw [List.take_of_length_le (by rw [HN.out]; exact Nat.le_refl _), List.take_of_length_le (by rw [HN.out]; omega)])
          rw [HE.out, HT1.out]
          go_wp2
          go_round
          case rel => exact .inr (.inl ⟨rfl, rfl, rfl⟩)
          case measure => simp [intOf]
    · go_wp2
      go_loop [6, 4] (fun k b => ∃ k' : Nat, k' ≤ m ∧ k' ≤ 50 ∧ k = .int .i64 (k' : Int) ∧ b = .int .i64 ((T1 : Int) + ((tot (ps.take k') : Nat) : Int))) (fun k _ => 50 - (intOf k).toNat)
      case atStart => exact ⟨0, Nat.zero_le _, by omega, rfl, by rw [List.take_zero]; simp [tot]⟩
      case round =>
        obtain ⟨k, hk, hk5, rfl, rfl⟩ := hrel
        by_cases hlt : k < m
        · by_cases h5 : k < 50
          · have hk2 : k < ps.length := by rw [HM.out]; exact hlt
            obtain ⟨ad, rfl, hc⟩ := strs_at HB.out hk2
            have HS := Lib.hid (tot_snoc ps hk2)
            have hsz := HY.out _ (List.getElem_mem hk2)
            have ht := HTP.out k (by omega)
            generalize ps[k] = x at hc HS hsz
            generalize tot (ps.take k) = tk at HS ht
            go_wp2
            go_round
            case rel => exact ⟨k + 1, by omega, by omega, by go_num, by rw [HS.out]; go_num⟩
            case measure => simp [intOf]; omega
          · obtain rfl : k = 50 := by omega
            rw [HT2.out]
            go_wp2
            go_round
            case rel => exact .inr (.inr ⟨rfl, rfl, rfl⟩)
            case measure => simp [intOf]
        · obtain rfl : k = m := by omega
          have HE := Lib.hid (show ps.take k = ps.take 50 by rw [List.take_of_length_le (by rw [HM.out]; exact Nat.le_refl _), List.take_of_length_le (by rw [HM.out]; omega)])
          rw [HE.out, HT2.out]
          go_wp2
          go_round
          case rel => exact .inr (.inr ⟨rfl, rfl, rfl⟩)
          case measure => simp [intOf]
    · by_cases h20 : 20 < n + m
      · have g : decide ((20 : Int) < (n : Int) + (m : Int)) = true := decide_eq_true (by omega)
        go_wp2
        go_ret
        rw [HLB.out, decide_eq_true h20]
        exact ⟨rfl, rfl⟩
      · have g : decide ((20 : Int) < (n : Int) + (m : Int)) = false := decide_eq_false (by omega)
        go_wp2
        go_ret
        rw [HLB.out, decide_eq_false h20]
        exact ⟨ret_bool (by simp; omega), rfl⟩
end Go.Proofs.YtaonadgelkdbcaaGreatDoor

namespace Go.Proofs.YtaonadgelkdbcaaGreatDoor
open Go.RowKit

mutual
/-- Nothing is longer than memory bears. -/
def boundT : LockT → Prop
  | .node _ t _ l => t.size ≤ 1125899906842624 ∧ l.length ≤ 1125899906842624 ∧ boundTs l
def boundTs : List LockT → Prop
  | [] => True
  | x :: r => boundT x ∧ boundTs r
end
theorem boundTs_at : ∀ {l : List LockT}, boundTs l → ∀ (k : Nat) (hk : k < l.length), boundT l[k]
  | [], _, k, hk => absurd hk (by simp)
  | x :: r, h, 0, _ => by unfold boundTs at h; exact h.1
  | x :: r, h, k + 1, hk => by unfold boundTs at h; exact boundTs_at h.2 k (by simpa using hk)
theorem boundT_parts {x : LockT} (h : boundT x) : x.term.size ≤ 1125899906842624 ∧ x.kids.length ≤ 1125899906842624 ∧ boundTs x.kids := by
  cases x with
  | node k t n l => unfold boundT at h; exact h
theorem quo64 (m : Nat) : (m : Int).tdiv 64 = (m : Int) / 64 := Int.tdiv_eq_ediv_of_nonneg (by omega)
set_option maxRecDepth 100000 in
set_option maxHeartbeats 8000000 in
theorem lsize_step (k : Int) (t : ByteArray) (n : Int) (l : List LockT) (A : Option Addr) (cap : Nat) (xs : List Value) (top : Int) (w : World) (hr0 : 0 ≤ top) (hr1 : top ≤ 1000) (hsz : t.size ≤ 1125899906842624) (hll : l.length ≤ 1125899906842624) (hc : Cells w A xs) (hl : LocksC w l xs)
    (HK : ∀ (i : Nat) (hi : i < l.length) (W : World) (cs : List Value), LockC W l[i] cs → Calls Tryz.prog 16 #[.agg cs.toArray, .int .i64 top] W fun e w' => e = .returned (.int .i64 (lsizeT l[i] top)) ∧ Below W.heap.size W w') :
    Calls Tryz.prog 16 #[.agg #[.int .u8 k, .string t, .int .i64 n, .slice A l.length cap], .int .i64 top] w fun e w' => e = .returned (.int .i64 (lsizeT (.node k t n l) top)) ∧ Below w.heap.size w w' := by
  have hbA : Below w.heap.size w (w.alloc (.cells #[.int .u8 k, .string t, .int .i64 n, .slice A l.length cap] 32)) := (Below.refl _ _).alloc (Nat.le_refl _) _
  have q1 : (w.alloc (.cells #[.int .u8 k, .string t, .int .i64 n, .slice A l.length cap] 32)).cell? ⟨w.heap.size, 1, none⟩ = some (.string t) := alloc_cells 1 _ rfl
  have q3 : (w.alloc (.cells #[.int .u8 k, .string t, .int .i64 n, .slice A l.length cap] 32)).cell? ⟨w.heap.size, 3, none⟩ = some (.slice A l.length cap) := alloc_cells 3 _ rfl
  have HB := Lib.hid hbA
  have HQ := Lib.hid q3
  obtain ⟨R, hR⟩ : ∃ R, lsizeT (.node k t n l) top = R := ⟨_, rfl⟩
  rw [hR]
  obtain ⟨S, hS⟩ : ∃ S, lsizeTs l top (1 + (t.size : Int) / 64) = S := ⟨_, rfl⟩
  have HR := Lib.hid (show R = min S (top + 1) by rw [← hR, ← hS]; unfold lsizeT; rfl)
  have HS := Lib.hid hS
  have HKK := Lib.hid HK
  have HC := Lib.hid hc
  have HL := Lib.hid hl
  obtain ⟨z, hz⟩ : ∃ z : Int, (t.size : Int).tdiv 64 = z := ⟨_, rfl⟩
  have hz0 : 0 ≤ z ∧ z ≤ 1125899906842624 := by rw [← hz, quo64]; omega
  have HS := Lib.hid (show lsizeTs l top (1 + z) = S by rw [← hz, quo64]; exact HS.out)
  have HZ := Lib.hid hz
  clear hR HK hc hl hbA hS hz
  go_enter Tryz.func16, Tryz.ntmps16
  go_wp2_with fail
  try rw [HZ.out]
  go_loopw [6, 5] (fun i m wr => ∃ (j : Nat) (c : Int), j ≤ l.length ∧ i = .int .i64 (j : Int) ∧ m = .int .i64 c ∧ 1 ≤ c ∧ c ≤ 4503599627370496 ∧ lsizeTs (l.drop j) top c = S ∧ Below (w.alloc (.cells #[.int .u8 k, .string t, .int .i64 n, .slice A l.length cap] 32)).heap.size (w.alloc (.cells #[.int .u8 k, .string t, .int .i64 n, .slice A l.length cap] 32)) wr) (fun i _ _ => l.length - (intOf i).toNat)
  case atStart => exact ⟨0, 1 + z, Nat.zero_le _, rfl, by first | rfl | rw [HZ.out] | (rw [← HZ.out]; go_num), by omega, by omega, by rw [List.drop_zero]; exact HS.out, Below.refl _ _⟩
  case round =>
    obtain ⟨j, c, hj, rfl, rfl, hc1, hc2, hrest, hbr⟩ := hrel
    have c3 := cell_below hbr HQ.out
    have HBR := Lib.hid (HB.out.trans (hbr.mono HB.out.size))
    have HBR2 := Lib.hid hbr
    clear q1
    by_cases hlt : j < l.length
    · by_cases htop : c ≤ top
      · have g1 : decide (c ≤ top) = true := decide_eq_true htop
        have hbr0 := HBR.out
        obtain ⟨ad, B, cp, rfl, d0, d1, d2, d3, hlk⟩ := lock_at (Cells.below HC.out hbr0) (LocksC.below hbr0 l xs HL.out) hlt
        have hcall := HKK.out j hlt wr _ hlk
        have hdrop : l.drop j = l[j] :: l.drop (j + 1) := List.drop_eq_getElem_cons hlt
        rw [hdrop, lsizeTs_next htop] at hrest
        have hcl := lsizeT_ge l[j] top hr0
        obtain ⟨p, hp⟩ : ∃ p, lsizeT l[j] top = p := ⟨_, rfl⟩
        rw [hp] at hcall hrest hcl
        have HREST := Lib.hid hrest
        have HCALL := Lib.hid hcall
        clear hcall hp hrest hdrop hlk hbr hbr0 q3
        go_wp2_with fail
        refine HCALL.out.mono ?_
        rintro e w1 ⟨rfl, hb1⟩
        have HB1 := Lib.hid (HBR2.out.trans (hb1.mono HBR2.out.size))
        clear hb1
        go_wp2_with fail
        go_roundw
        case rel => exact ⟨j + 1, c + p, by omega, by go_num, rfl, by omega, by omega, HREST.out, HB1.out⟩
        case measure => simp [intOf]; omega
      · have g1 : decide (c ≤ top) = false := decide_eq_false htop
        have HN := Lib.hid (show R = min c (top + 1) by rw [HR.out, ← hrest, lsizeTs_stop htop])
        clear hrest hbr q3
        go_wp2_with fail
        go_ret
        rw [HN.out]
        refine ⟨?_, HBR.out⟩
        all_goals first | rfl | (simp; done) | (simp; omega)
    · have HN := Lib.hid (show R = min c (top + 1) by rw [HR.out, ← hrest, List.drop_of_length_le (by omega)]; unfold lsizeTs; rfl)
      have gj : decide ((j : Int) < (l.length : Int)) = false := decide_eq_false (by omega)
      clear hrest hbr q3
      go_wp2_with fail
      go_ret
      rw [HN.out]
      refine ⟨?_, HBR.out⟩
      all_goals first | rfl | (simp; done) | (simp; omega)
theorem lsize_all : ∀ (m : Nat) (x : LockT) (cs : List Value) (top : Int) (w : World), sizeT x ≤ m → boundT x → 0 ≤ top → top ≤ 1000 → LockC w x cs → Calls Tryz.prog 16 #[.agg cs.toArray, .int .i64 top] w fun e w' => e = .returned (.int .i64 (lsizeT x top)) ∧ Below w.heap.size w w'
  | 0, x, _, _, _, hm, _, _, _, _ => absurd (sizeT_pos x) (by omega)
  | m + 1, .node k t n l, cs, top, w, hm, hs, hr0, hr1, hc => by
    unfold LockC at hc
    obtain ⟨A, cap, xs, rfl, h2, h3⟩ := hc
    obtain ⟨s1, s2, s3⟩ := boundT_parts hs
    exact lsize_step k t n l A cap xs top w hr0 hr1 s1 s2 h2 h3 fun i hi W cs g2 =>
      lsize_all m l[i] cs top W (by have := sizeTs_at i hi; have e := sizeT_kids (.node k t n l); simp only [LockT.kids] at e; omega) (boundTs_at s3 i hi) hr0 hr1 g2
end Go.Proofs.YtaonadgelkdbcaaGreatDoor

namespace Go.Proofs.YtaonadgelkdbcaaGreatDoor
open Go.RowKit

/-- Nothing of a transaction is longer than memory bears. -/
def boundTx (t : TxT) : Prop := (∀ x ∈ t.ins, x.tx.size ≤ 1125899906842624) ∧ (∀ o ∈ t.outs, boundT o.lock) ∧ t.ins.length ≤ 1125899906842624 ∧ t.outs.length ≤ 1125899906842624
set_option maxRecDepth 100000 in
set_option maxHeartbeats 8000000 in
theorem txsize_any (ins : List InT) (outs : List OutT) (after tag : Int) (A B : Option Addr) (ca cb : Nat) (top : Int) (w : World) (h0 : 1 ≤ top) (h1 : top ≤ 1000) (hs : boundTx ⟨ins, outs, after, tag⟩) (hc : TxC w ⟨ins, outs, after, tag⟩ A B) :
    Calls Tryz.prog 5 #[.agg #[.slice A ins.length ca, .slice B outs.length cb, .int .i64 after, .int .i64 tag], .int .i64 top] w fun e w' => e = .returned (.int .i64 (txN ⟨ins, outs, after, tag⟩ top)) ∧ Below w.heap.size w w' := by
  have hb0 : Below w.heap.size w (w.alloc (.cells #[.slice A ins.length ca, .slice B outs.length cb, .int .i64 after, .int .i64 tag] 25)) := (Below.refl _ _).alloc (Nat.le_refl _) _
  have hbx : TxBox (w.alloc (.cells #[.slice A ins.length ca, .slice B outs.length cb, .int .i64 after, .int .i64 tag] 25)) w.heap.size A ins.length ca B outs.length cb after tag := Go.heap_alloc_new w _
  obtain ⟨p0, p1, p2, p3⟩ := hbx.cells
  have HB := Lib.hid hb0
  have HX := Lib.hid hbx
  have HC := Lib.hid hc
  obtain ⟨s1, s2, s3, s4⟩ := hs
  simp only at s1 s2 s3 s4
  have S1 := Lib.hid s1
  have S2 := Lib.hid s2
  obtain ⟨R, hR⟩ : ∃ R, txN ⟨ins, outs, after, tag⟩ top = R := ⟨_, rfl⟩
  rw [hR]
  have HR := Lib.hid (show min (outsN outs top (insN ins top 1)) (top + 1) = R from hR)
  clear hR hb0 hbx hc s1 s2
  go_enter Tryz.func5, Tryz.ntmps5
  go_wp2_with fail
  go_loop [6, 5] (fun i m => ∃ (j : Nat) (c : Int), j ≤ ins.length ∧ i = .int .i64 (j : Int) ∧ m = .int .i64 c ∧ 1 ≤ c ∧ c ≤ 4503599627370496 ∧ min (outsN outs top (insN (ins.drop j) top c)) (top + 1) = R) (fun i _ => ins.length - (intOf i).toNat)
  case atStart => exact ⟨0, 1, Nat.zero_le _, rfl, rfl, by omega, by omega, by rw [List.drop_zero]; exact HR.out⟩
  case round =>
    obtain ⟨j, c, hj, rfl, rfl, hc1, hc2, hrest⟩ := hrel
    by_cases hgo : j < ins.length ∧ c ≤ top
    · obtain ⟨hlt, htop⟩ := hgo
      have g1 : decide (c ≤ top) = true := decide_eq_true htop
      obtain ⟨ad, rfl, x0, x1, x2⟩ := in_at (HC.out.below HB.out).1 hlt
      have hdrop : ins.drop j = ins[j] :: ins.drop (j + 1) := List.drop_eq_getElem_cons hlt
      rw [hdrop, insN_next htop] at hrest
      have hsx := S1.out ins[j] (List.getElem_mem hlt)
      obtain ⟨x, hx⟩ : ∃ x, ins[j] = x := ⟨_, rfl⟩
      rw [hx] at x0 x1 x2 hrest hsx
      obtain ⟨z, hz⟩ : ∃ z : Int, (x.tx.size : Int).tdiv 64 = z := ⟨_, rfl⟩
      have hz0 : 0 ≤ z ∧ z ≤ 1125899906842624 := by rw [← hz, quo64]; omega
      rw [show (x.tx.size : Int) / 64 = z by rw [← quo64]; exact hz] at hrest
      have HREST := Lib.hid hrest
      have HZ := Lib.hid hz
      have HZ2 := Lib.hid (show (x.tx.size : Int) / 64 = z by rw [← quo64]; exact hz)
      clear hrest hdrop hx hz
      go_wp2_with fail
      go_roundw
      case rel => exact ⟨j + 1, c + 1 + z, by omega, by go_num, by first | (rw [HZ.out]; go_num) | (rw [HZ2.out]; go_num) | (have := HZ2.out; go_num), by omega, by omega, HREST.out⟩
      case measure => simp [intOf]; omega
    · have HN := Lib.hid (show min (outsN outs top c) (top + 1) = R by
        rw [← hrest]
        by_cases hlt : j < ins.length
        · rw [insN_stop (fun h => hgo ⟨hlt, h⟩)]
        · rw [List.drop_of_length_le (by omega)]; rfl)
      clear hrest
      have hgo2 : (j < ins.length → decide (c ≤ top) = false) := fun h => decide_eq_false (fun h2 => hgo ⟨h, h2⟩)
      clear hgo
      by_cases hlt : j < ins.length
      · have g1 := hgo2 hlt
        clear hgo2
        go_wp2_with fail
        go_loopw [7, 5] (fun i m wr => ∃ (k : Nat) (d : Int), k ≤ outs.length ∧ i = .int .i64 (k : Int) ∧ m = .int .i64 d ∧ 1 ≤ d ∧ d ≤ 4503599627370496 ∧ min (outsN (outs.drop k) top d) (top + 1) = R ∧ TxBox wr w.heap.size A ins.length ca B outs.length cb after tag ∧ Below w.heap.size w wr) (fun i _ _ => outs.length - (intOf i).toNat)
        case atStart => exact ⟨0, c, Nat.zero_le _, rfl, rfl, hc1, hc2, by rw [List.drop_zero]; exact HN.out, HX.out, HB.out⟩
        case round =>
          obtain ⟨k, d, hk, rfl, rfl, hd1, hd2, hrest, hbox, hbr⟩ := hrel
          obtain ⟨q0, q1, q2, q3⟩ := hbox.cells
          clear p0 p1 p2 p3
          have HXR := Lib.hid hbox
          have HBR := Lib.hid hbr
          by_cases hlk : k < outs.length
          · by_cases htop : d ≤ top
            · have g2 : decide (d ≤ top) = true := decide_eq_true htop
              obtain ⟨-, ys, hy1, hy2⟩ := HC.out.below hbr
              obtain ⟨bd, C, cp, rfl, o0, o1, o2, o3, o4, hlk2⟩ := out_at hy1 hy2 hlk
              have hdrop : outs.drop k = outs[k] :: outs.drop (k + 1) := List.drop_eq_getElem_cons hlk
              rw [hdrop, outsN_next htop] at hrest
              have hsm := S2.out outs[k] (List.getElem_mem hlk)
              obtain ⟨x, hx⟩ : ∃ x, outs[k] = x := ⟨_, rfl⟩
              rw [hx] at o0 o1 o2 o3 o4 hlk2 hrest hsm
              have hcall := lsize_all (sizeT x.lock) x.lock _ top wr (Nat.le_refl _) hsm (by omega) h1 hlk2
              have hcl := lsizeT_ge x.lock top (by omega)
              obtain ⟨p, hp⟩ : ∃ p, lsizeT x.lock top = p := ⟨_, rfl⟩
              rw [hp] at hcall hrest hcl
              have HREST := Lib.hid hrest
              have HCALL := Lib.hid hcall
              clear hcall hp hrest hdrop hlk2 hbox hbr hy1 hy2 hsm hx
              go_wp2_with fail
              refine HCALL.out.mono ?_
              rintro e w1 ⟨rfl, hb1⟩
              have HX1 := Lib.hid (HXR.out.below hb1)
              have HB1 := Lib.hid (HBR.out.trans (hb1.mono HBR.out.size))
              clear hb1
              go_wp2_with fail
              go_roundw
              case rel => exact ⟨k + 1, d + p, by omega, by go_num, by go_num, by omega, by omega, HREST.out, HX1.out, HB1.out⟩
              case measure => simp [intOf]; omega
            · have g2 : decide (d ≤ top) = false := decide_eq_false htop
              have HN2 := Lib.hid (show R = min d (top + 1) by rw [← hrest, outsN_stop htop])
              clear hrest hbox hbr
              go_wp2_with fail
              go_ret
              rw [HN2.out]
              refine ⟨?_, HBR.out⟩
              all_goals first | rfl | (simp; done) | (simp; omega)
          · have gk : decide ((k : Int) < (outs.length : Int)) = false := decide_eq_false (by omega)
            have HN2 := Lib.hid (show R = min d (top + 1) by rw [← hrest, List.drop_of_length_le (by omega)]; rfl)
            clear hrest hbox hbr
            go_wp2_with fail
            go_ret
            rw [HN2.out]
            refine ⟨?_, HBR.out⟩
            all_goals first | rfl | (simp; done) | (simp; omega)
      · have gj : decide ((j : Int) < (ins.length : Int)) = false := decide_eq_false (by omega)
        clear hgo2
        go_wp2_with fail
        go_loopw [7, 5] (fun i m wr => ∃ (k : Nat) (d : Int), k ≤ outs.length ∧ i = .int .i64 (k : Int) ∧ m = .int .i64 d ∧ 1 ≤ d ∧ d ≤ 4503599627370496 ∧ min (outsN (outs.drop k) top d) (top + 1) = R ∧ TxBox wr w.heap.size A ins.length ca B outs.length cb after tag ∧ Below w.heap.size w wr) (fun i _ _ => outs.length - (intOf i).toNat)
        case atStart => exact ⟨0, c, Nat.zero_le _, rfl, rfl, hc1, hc2, by rw [List.drop_zero]; exact HN.out, HX.out, HB.out⟩
        case round =>
          obtain ⟨k, d, hk, rfl, rfl, hd1, hd2, hrest, hbox, hbr⟩ := hrel
          obtain ⟨q0, q1, q2, q3⟩ := hbox.cells
          clear p0 p1 p2 p3
          have HXR := Lib.hid hbox
          have HBR := Lib.hid hbr
          by_cases hlk : k < outs.length
          · by_cases htop : d ≤ top
            · have g2 : decide (d ≤ top) = true := decide_eq_true htop
              obtain ⟨-, ys, hy1, hy2⟩ := HC.out.below hbr
              obtain ⟨bd, C, cp, rfl, o0, o1, o2, o3, o4, hlk2⟩ := out_at hy1 hy2 hlk
              have hdrop : outs.drop k = outs[k] :: outs.drop (k + 1) := List.drop_eq_getElem_cons hlk
              rw [hdrop, outsN_next htop] at hrest
              have hsm := S2.out outs[k] (List.getElem_mem hlk)
              obtain ⟨x, hx⟩ : ∃ x, outs[k] = x := ⟨_, rfl⟩
              rw [hx] at o0 o1 o2 o3 o4 hlk2 hrest hsm
              have hcall := lsize_all (sizeT x.lock) x.lock _ top wr (Nat.le_refl _) hsm (by omega) h1 hlk2
              have hcl := lsizeT_ge x.lock top (by omega)
              obtain ⟨p, hp⟩ : ∃ p, lsizeT x.lock top = p := ⟨_, rfl⟩
              rw [hp] at hcall hrest hcl
              have HREST := Lib.hid hrest
              have HCALL := Lib.hid hcall
              clear hcall hp hrest hdrop hlk2 hbox hbr hy1 hy2 hsm hx
              go_wp2_with fail
              refine HCALL.out.mono ?_
              rintro e w1 ⟨rfl, hb1⟩
              have HX1 := Lib.hid (HXR.out.below hb1)
              have HB1 := Lib.hid (HBR.out.trans (hb1.mono HBR.out.size))
              clear hb1
              go_wp2_with fail
              go_roundw
              case rel => exact ⟨k + 1, d + p, by omega, by go_num, by go_num, by omega, by omega, HREST.out, HX1.out, HB1.out⟩
              case measure => simp [intOf]; omega
            · have g2 : decide (d ≤ top) = false := decide_eq_false htop
              have HN2 := Lib.hid (show R = min d (top + 1) by rw [← hrest, outsN_stop htop])
              clear hrest hbox hbr
              go_wp2_with fail
              go_ret
              rw [HN2.out]
              refine ⟨?_, HBR.out⟩
              all_goals first | rfl | (simp; done) | (simp; omega)
          · have gk : decide ((k : Int) < (outs.length : Int)) = false := decide_eq_false (by omega)
            have HN2 := Lib.hid (show R = min d (top + 1) by rw [← hrest, List.drop_of_length_le (by omega)]; rfl)
            clear hrest hbox hbr
            go_wp2_with fail
            go_ret
            rw [HN2.out]
            refine ⟨?_, HBR.out⟩
            all_goals first | rfl | (simp; done) | (simp; omega)
end Go.Proofs.YtaonadgelkdbcaaGreatDoor
