/- Locks in memory; which terms are public keys, digests. · How many parts may be left behind a lock. -/
import Derived.Test.YtaonadgelkdbcaaGreatDoorQ13
import Derived.Test.YtaonadgelkdbcaaGreatDoorQ1
import Derived.Deep.CutBlock
import Derived.Deep.DeepCutAuto
namespace Go.Proofs.YtaonadgelkdbcaaGreatDoor
open Go.RowKit

theorem bne_nat {c : UInt8} {x : Int} (hx : (c.toNat : Int) = x) (d : UInt8) (h : c ≠ d) : (x == (d.toNat : Int)) = false := beq_false_of_ne fun e => h (UInt8.toNat_inj.1 (by omega))
/-- Open's op alone. -/
theorem open_op (s : ByteArray) (w : World) (hs : s.size ≤ 1000000) (hv : VarsOk w) : Calls Tryz.prog 66 #[.string s] w fun e w' => ∃ (n : Int) (text : ByteArray) (A : Option Addr) (m cap : Nat) (ok : Bool), e = .returned (.tuple #[partsV (if rightB s.data.toList then ((byte s.data.toList 0).toNat : Int) else 0) n text (.slice A m cap), .bool ok]) ∧ Below w.heap.size w w' := by
  refine (open_any s w hs hv).mono fun e w' h => ?_
  unfold OpenP at h
  unfold rightB
  cases hq : right s.data.toList with
  | none =>
    rw [hq] at h
    obtain ⟨A, cap, he, hb⟩ := h
    exact ⟨0, ⟨#[]⟩, A, 0, cap, false, he, hb⟩
  | some x =>
    rw [hq] at h
    obtain ⟨A, cap, he, -, hb⟩ := h
    exact ⟨_, _, A, _, cap, true, he, hb⟩
set_option maxRecDepth 100000 in
set_option maxHeartbeats 8000000 in
theorem lhash_any (s : ByteArray) (w : World) (hs : s.size ≤ 1000000) (hv : VarsOk w) : Calls Tryz.prog 65 #[.string s] w fun e w' => e = .returned (.bool (hashB s.data.toList)) ∧ Below w.heap.size w w' := by
  have hO := open_op s w hs hv
  obtain ⟨op, hop⟩ : ∃ op : Int, (if rightB s.data.toList then ((byte s.data.toList 0).toNat : Int) else 0) = op := ⟨_, rfl⟩
  have hh : hashB s.data.toList = (op == 72) := by
    unfold hashB
    rw [← hop]
    cases rightB s.data.toList with
    | false => rfl
    | true =>
      rw [if_pos rfl, Bool.true_and]
      by_cases h : byte s.data.toList 0 = 72
      · rw [h]; rfl
      · rw [beq_false_of_ne h]
        exact (bne_nat rfl 72 h).symm
  rw [hop] at hO
  unfold partsV at hO
  have HO := Lib.hid hO
  have HH := Lib.hid hh
  clear hO hop hh hv
  go_enter Tryz.func65, Tryz.ntmps65
  go_wp2_with fail
  refine HO.out.mono ?_
  rintro e w1 ⟨n, text, A, m, cap, ok, rfl, hb1⟩
  have HB1 := Lib.hid (hb1.alloc hb1.size (.cells #[.int .u8 op, .int .i64 n, .string text, .slice A m cap] 88)); clear hb1
  go_wp2_with fail
  go_ret
  exact ⟨ret_bool HH.out.symm, HB1.out⟩
set_option maxRecDepth 100000 in
set_option maxHeartbeats 8000000 in
theorem lpub_any (s : ByteArray) (w : World) (hs : s.size ≤ 1000000) (hv : VarsOk w) : Calls Tryz.prog 64 #[.string s] w fun e w' => e = .returned (.bool (pubB s.data.toList)) ∧ Below w.heap.size w w' := by
  have hO := open_op s w hs hv
  obtain ⟨op, hop⟩ : ∃ op : Int, (if rightB s.data.toList then ((byte s.data.toList 0).toNat : Int) else 0) = op := ⟨_, rfl⟩
  have hh : pubB s.data.toList = (decide (op = 80) || decide (op = 87) || decide (op = 76)) := by
    unfold pubB
    rw [← hop]
    cases rightB s.data.toList with
    | false => rfl
    | true =>
      rw [if_pos rfl, Bool.true_and]
      exact isPub_iff _
  rw [hop] at hO
  unfold partsV at hO
  have HO := Lib.hid hO
  have HH := Lib.hid hh
  clear hO hop hh hv
  by_cases h1 : op = 80
  · subst h1
    go_enter Tryz.func64, Tryz.ntmps64
    go_wp2_with fail
    refine HO.out.mono ?_
    rintro e w1 ⟨n, text, A, m, cap, ok, rfl, hb1⟩
    have HB1 := Lib.hid (hb1.alloc hb1.size (.cells #[.int .u8 80, .int .i64 n, .string text, .slice A m cap] 88)); clear hb1
    go_wp2_with fail
    go_ret
    rw [HH.out]
    exact ⟨by simp, HB1.out⟩
  have g1 : (op == 80) = false := beq_false_of_ne h1
  by_cases h2 : op = 87
  · subst h2
    clear g1
    go_enter Tryz.func64, Tryz.ntmps64
    go_wp2_with fail
    refine HO.out.mono ?_
    rintro e w1 ⟨n, text, A, m, cap, ok, rfl, hb1⟩
    have HB1 := Lib.hid (hb1.alloc hb1.size (.cells #[.int .u8 87, .int .i64 n, .string text, .slice A m cap] 88)); clear hb1
    go_wp2_with fail
    go_ret
    rw [HH.out]
    exact ⟨by simp, HB1.out⟩
  have g2 : (op == 87) = false := beq_false_of_ne h2
  go_enter Tryz.func64, Tryz.ntmps64
  go_wp2_with fail
  refine HO.out.mono ?_
  rintro e w1 ⟨n, text, A, m, cap, ok, rfl, hb1⟩
  have HB1 := Lib.hid (hb1.alloc hb1.size (.cells #[.int .u8 op, .int .i64 n, .string text, .slice A m cap] 88)); clear hb1
  go_wp2_with fail
  go_ret
  rw [HH.out]
  exact ⟨by by_cases h3 : op = 76 <;> simp [h1, h2, h3], HB1.out⟩
mutual
/-- The four cells of a lock. -/
def LockC (w : World) : LockT → List Value → Prop
  | .node k t n l, cs => ∃ (A : Option Addr) (cap : Nat) (xs : List Value), cs = [.int .u8 k, .string t, .int .i64 n, .slice A l.length cap] ∧ Cells w A xs ∧ LocksC w l xs
def LocksC (w : World) : List LockT → List Value → Prop
  | [], xs => xs = []
  | x :: r, xs => ∃ cs rest, xs = cs ++ rest ∧ LockC w x cs ∧ LocksC w r rest
end
mutual
theorem LockC.below {w w' : World} (hb : Below w.heap.size w w') : ∀ (x : LockT) (cs : List Value), LockC w x cs → LockC w' x cs
  | .node k t n l, cs, h => by
    unfold LockC at h ⊢
    obtain ⟨A, cap, xs, h1, h2, h3⟩ := h
    exact ⟨A, cap, xs, h1, Cells.below h2 hb, LocksC.below hb l xs h3⟩
theorem LocksC.below {w w' : World} (hb : Below w.heap.size w w') : ∀ (l : List LockT) (xs : List Value), LocksC w l xs → LocksC w' l xs
  | [], xs, h => by unfold LocksC at h ⊢; exact h
  | x :: r, xs, h => by
    unfold LocksC at h ⊢
    obtain ⟨cs, rest, h1, h2, h3⟩ := h
    exact ⟨cs, rest, h1, LockC.below hb x cs h2, LocksC.below hb r rest h3⟩
end
theorem LockC.shape {w : World} {x : LockT} {cs : List Value} (h : LockC w x cs) : ∃ (A : Option Addr) (cap : Nat) (xs : List Value), cs = [.int .u8 x.kind, .string x.term, .int .i64 x.n, .slice A x.kids.length cap] ∧ Cells w A xs ∧ LocksC w x.kids xs := by
  cases x with
  | node k t n l =>
    unfold LockC at h
    exact h
theorem LocksC.at_ {w : World} : ∀ {l : List LockT} {xs : List Value}, LocksC w l xs → ∀ (k : Nat) (hk : k < l.length), ∃ cs, LockC w l[k] cs ∧ cs.length = 4 ∧ ∀ j, j < 4 → xs[k * 4 + j]? = cs[j]?
  | [], xs, _, k, hk => absurd hk (by simp)
  | x :: r, xs, h, k, hk => by
    unfold LocksC at h
    obtain ⟨cs, rest, rfl, h2, h3⟩ := h
    obtain ⟨A, cap, ys, hcs, -, -⟩ := h2.shape
    have hl : cs.length = 4 := by rw [hcs]; rfl
    cases k with
    | zero => exact ⟨cs, h2, hl, fun j hj => by rw [Nat.zero_mul, Nat.zero_add, List.getElem?_append_left (by omega)]⟩
    | succ k =>
      obtain ⟨ds, g1, g2, g3⟩ := LocksC.at_ h3 k (by simpa using hk)
      refine ⟨ds, g1, g2, fun j hj => ?_⟩
      rw [List.getElem?_append_right (by omega), hl, show (k + 1) * 4 + j - 4 = k * 4 + j by omega]
      exact g3 j hj
theorem LocksC.len {w : World} : ∀ {l : List LockT} {xs : List Value}, LocksC w l xs → xs.length = l.length * 4
  | [], xs, h => by unfold LocksC at h; subst h; rfl
  | x :: r, xs, h => by
    unfold LocksC at h
    obtain ⟨cs, rest, rfl, h2, h3⟩ := h
    obtain ⟨A, cap, ys, hcs, -, -⟩ := h2.shape
    have hl : cs.length = 4 := by rw [hcs]; rfl
    rw [List.length_append, hl, LocksC.len h3, List.length_cons]; omega
theorem add_next (ad : Addr) (i j : Nat) (hj : 0 < j) : (⟨(ad.add i).block, (ad.add i).off + j, none⟩ : Addr) = ad.add (i + j) := by
  unfold Addr.add
  by_cases hi : i = 0
  · subst hi; simp; omega
  · rw [if_neg hi, if_neg (by omega)]; simp; omega
/-- The k-th lock of a row: its cells, what they tell. -/
theorem lock_at {w : World} {A : Option Addr} {l : List LockT} {xs : List Value} (hc : Cells w A xs) (h : LocksC w l xs) {k : Nat} (hk : k < l.length) : ∃ (ad : Addr) (B : Option Addr) (cap : Nat), A = some ad ∧
    w.cell? (ad.add (k * 4)) = some (.int .u8 l[k].kind) ∧ w.cell? ⟨(ad.add (k * 4)).block, (ad.add (k * 4)).off + 1, none⟩ = some (.string l[k].term) ∧ w.cell? ⟨(ad.add (k * 4)).block, (ad.add (k * 4)).off + 2, none⟩ = some (.int .i64 l[k].n) ∧ w.cell? ⟨(ad.add (k * 4)).block, (ad.add (k * 4)).off + 3, none⟩ = some (.slice B l[k].kids.length cap) ∧
    LockC w l[k] [.int .u8 l[k].kind, .string l[k].term, .int .i64 l[k].n, .slice B l[k].kids.length cap] := by
  obtain ⟨ad, he, hcc⟩ := hc (by rw [h.len]; omega)
  obtain ⟨cs, h1, h2, h3⟩ := h.at_ k hk
  obtain ⟨B, cap, ys, hcs, -, -⟩ := h1.shape
  subst hcs
  refine ⟨ad, B, cap, he, hcc _ _ (h3 0 (by decide)), ?_, ?_, ?_, h1⟩
  · rw [add_next _ _ _ (by decide)]; exact hcc _ _ (h3 1 (by decide))
  · rw [add_next _ _ _ (by decide)]; exact hcc _ _ (h3 2 (by decide))
  · rw [add_next _ _ _ (by decide)]; exact hcc _ _ (h3 3 (by decide))
mutual
/-- All terms of a lock are of a size that is borne. -/
def smallT : LockT → Prop
  | .node _ t _ l => t.size ≤ 900000 ∧ l.length ≤ 1000000 ∧ smallTs l
def smallTs : List LockT → Prop
  | [] => True
  | x :: r => smallT x ∧ smallTs r
end
theorem smallTs_at : ∀ {l : List LockT}, smallTs l → ∀ (k : Nat) (hk : k < l.length), smallT l[k]
  | [], _, k, hk => absurd hk (by simp)
  | x :: r, h, 0, _ => by unfold smallTs at h; exact h.1
  | x :: r, h, k + 1, hk => by unfold smallTs at h; exact smallTs_at h.2 k (by simpa using hk)
theorem smallT_parts {x : LockT} (h : smallT x) : x.term.size ≤ 900000 ∧ x.kids.length ≤ 1000000 ∧ smallTs x.kids := by
  cases x with
  | node k t n l => unfold smallT at h; exact h
theorem sizeTs_at : ∀ {l : List LockT} (k : Nat) (hk : k < l.length), sizeT l[k] ≤ sizeTs l
  | [], k, hk => absurd hk (by simp)
  | x :: r, 0, _ => by unfold sizeTs; show sizeT x ≤ _; omega
  | x :: r, k + 1, hk => by
    unfold sizeTs
    have h : k < r.length := by simpa using hk
    have := sizeTs_at (l := r) k h
    show sizeT (r[k]'h) ≤ _
    omega
theorem sizeT_kids (x : LockT) : sizeT x = sizeTs x.kids + 1 := by
  cases x with
  | node k t n l => unfold sizeT; rfl
end Go.Proofs.YtaonadgelkdbcaaGreatDoor

namespace Go.Proofs.YtaonadgelkdbcaaGreatDoor
open Go.RowKit

theorem bool_eq {a b : Bool} (h : a = b) : Value.bool a = Value.bool b := by rw [h]
theorem len_zero {m : Nat} (h : ((m : Int) == 0) = true) : m = 0 := by
  have := eq_of_beq h
  omega
theorem len_pos {m : Nat} (h : ((m : Int) == 0) = false) : ¬ m = 0 := fun e => by rw [e] at h; cases h
theorem partsTs_stop {x : LockT} {r : List LockT} {room : Int} (h : partsT x room < 0) : partsTs (x :: r) room = -1 := by unfold partsTs; rw [if_pos h]
theorem partsTs_next {x : LockT} {r : List LockT} {room : Int} (h : ¬ partsT x room < 0) : partsTs (x :: r) room = partsTs r (partsT x room) := by
  conv => lhs; unfold partsTs
  rw [if_neg h]
theorem partsT_range (x : LockT) (room : Int) (h : 0 ≤ room) : -1 ≤ partsT x room ∧ partsT x room ≤ room := by
  rw [partsT_eq x room h]
  split <;> omega
set_option maxRecDepth 100000 in
set_option maxHeartbeats 8000000 in
theorem parts_step (k : Int) (t : ByteArray) (n : Int) (l : List LockT) (A : Option Addr) (cap : Nat) (xs : List Value) (room : Int) (w : World) (hr0 : 0 ≤ room) (hr1 : room ≤ 1000) (hsm : t.size ≤ 900000) (hll : l.length ≤ 1000000) (hc : Cells w A xs) (hl : LocksC w l xs) (hv : VarsOk w)
    (HK : ∀ (i : Nat) (hi : i < l.length) (room : Int) (W : World) (cs : List Value), 0 ≤ room → room ≤ 1000 → LockC W l[i] cs → VarsOk W → Calls Tryz.prog 42 #[.agg cs.toArray, .int .i64 room] W fun e w' => e = .returned (.int .i64 (partsT l[i] room)) ∧ Below W.heap.size W w') :
    Calls Tryz.prog 42 #[.agg #[.int .u8 k, .string t, .int .i64 n, .slice A l.length cap], .int .i64 room] w fun e w' => e = .returned (.int .i64 (partsT (.node k t n l) room)) ∧ Below w.heap.size w w' := by
  have hbA : Below w.heap.size w (w.alloc (.cells #[.int .u8 k, .string t, .int .i64 n, .slice A l.length cap] 32)) := (Below.refl _ _).alloc (Nat.le_refl _) _
  have q0 : (w.alloc (.cells #[.int .u8 k, .string t, .int .i64 n, .slice A l.length cap] 32)).cell? ⟨w.heap.size, 0, none⟩ = some (.int .u8 k) := alloc_cells 0 _ rfl
  have q1 : (w.alloc (.cells #[.int .u8 k, .string t, .int .i64 n, .slice A l.length cap] 32)).cell? ⟨w.heap.size, 1, none⟩ = some (.string t) := alloc_cells 1 _ rfl
  have q2 : (w.alloc (.cells #[.int .u8 k, .string t, .int .i64 n, .slice A l.length cap] 32)).cell? ⟨w.heap.size, 2, none⟩ = some (.int .i64 n) := alloc_cells 2 _ rfl
  have q3 : (w.alloc (.cells #[.int .u8 k, .string t, .int .i64 n, .slice A l.length cap] 32)).cell? ⟨w.heap.size, 3, none⟩ = some (.slice A l.length cap) := alloc_cells 3 _ rfl
  have HB := Lib.hid hbA
  obtain ⟨R, hR⟩ : ∃ R, partsT (.node k t n l) room = R := ⟨_, rfl⟩
  rw [hR]
  have HR := Lib.hid hR
  clear hR
  by_cases h0 : room - 1 < 0
  · have HN := Lib.hid (show R = -1 by rw [← HR.out]; unfold partsT; rw [if_pos h0])
    have h00 : room = 0 := by omega
    subst h00
    clear HK hc hl
    go_enter Tryz.func42, Tryz.ntmps42
    go_wp2_with fail
    go_ret
    rw [HN.out]
    exact ⟨rfl, HB.out⟩
  obtain ⟨ok, hok⟩ : ∃ ok, okT k t.data.toList n l.length = ok := ⟨_, rfl⟩
  have HOK := Lib.hid hok
  have HKK := Lib.hid HK
  have HV := Lib.hid hv
  have HC := Lib.hid hc
  have HL := Lib.hid hl
  clear hok HK hv hc hl hbA
  by_cases hte : t.toList = []
  · have hte2 : t.data.toList = [] := by rw [← Go.ByteArray.toList_eq]; exact hte
    have HTE := Lib.hid hte2
    clear hte2
    obtain ⟨mb, hmb⟩ : ∃ mb, ((l.length : Int) == 0) = mb := ⟨_, rfl⟩
    have HP := Lib.hid (fun W hv => lpub_any t W (by omega) hv)
    have HH := Lib.hid (fun W hv => lhash_any t W (by omega) hv)
    have HV2 := Lib.hid (HV.out.below HB.out)
    go_enter Tryz.func42, Tryz.ntmps42
    go_upto_block 0 with fail
    go_cut [6] (fun b wx => b = .bool ok ∧ Below (w.alloc (.cells #[.int .u8 k, .string t, .int .i64 n, .slice A l.length cap] 32)).heap.size (w.alloc (.cells #[.int .u8 k, .string t, .int .i64 n, .slice A l.length cap] 32)) wx)
    case first =>
      by_cases h1 : k = 1
      · subst h1
        by_cases hn : n = 0
        · subst hn
          cases mb with
          | true =>
            have hm := len_zero hmb
            have HOK := Lib.hid (show ok = pubB t.data.toList by rw [← HOK.out]; unfold okT; rw [if_pos rfl, hm]; simp)
            clear hm
            go_wp2_with fail
            refine (HP.out _ HV2.out).mono ?_
            rintro e w1 ⟨rfl, hb1⟩
            go_wp2_with fail
            go_meet
            exact ⟨bool_eq HOK.out.symm, hb1⟩
          | false =>
            have hm := len_pos hmb
            have HOK := Lib.hid (show ok = false by rw [← HOK.out]; unfold okT; rw [if_pos rfl, decide_eq_false hm]; simp)
            clear hm
            go_wp2_with fail
            go_meet
            exact ⟨bool_eq HOK.out.symm, Below.refl _ _⟩
        · have gn : (n == 0) = false := beq_false_of_ne hn
          have HOK := Lib.hid (show ok = false by rw [← HOK.out]; unfold okT; rw [if_pos rfl, decide_eq_false hn]; simp)
          clear hn
          go_wp2_with fail
          go_meet
          exact ⟨bool_eq HOK.out.symm, Below.refl _ _⟩
      have k1 : (k == 1) = false := beq_false_of_ne h1
      by_cases h2 : k = 2
      · subst h2
        by_cases hn : n = 0
        · subst hn
          cases mb with
          | true =>
            have hm := len_zero hmb
            have HOK := Lib.hid (show ok = hashB t.data.toList by rw [← HOK.out]; unfold okT; rw [if_neg (by decide), if_pos rfl, hm]; simp)
            clear hm
            go_wp2_with fail
            refine (HH.out _ HV2.out).mono ?_
            rintro e w1 ⟨rfl, hb1⟩
            go_wp2_with fail
            go_meet
            exact ⟨bool_eq HOK.out.symm, hb1⟩
          | false =>
            have hm := len_pos hmb
            have HOK := Lib.hid (show ok = false by rw [← HOK.out]; unfold okT; rw [if_neg (by decide), if_pos rfl, decide_eq_false hm]; simp)
            clear hm
            go_wp2_with fail
            go_meet
            exact ⟨bool_eq HOK.out.symm, Below.refl _ _⟩
        · have gn : (n == 0) = false := beq_false_of_ne hn
          have HOK := Lib.hid (show ok = false by rw [← HOK.out]; unfold okT; rw [if_neg (by decide), if_pos rfl, decide_eq_false hn]; simp)
          clear hn
          go_wp2_with fail
          go_meet
          exact ⟨bool_eq HOK.out.symm, Below.refl _ _⟩
      have k2 : (k == 2) = false := beq_false_of_ne h2
      by_cases h3 : k = 3
      · subst h3
        cases mb with
        | true =>
          have HM := Lib.hid (len_zero hmb)
          by_cases hn0 : 0 ≤ n
          · have g0n : decide (0 ≤ n) = true := decide_eq_true hn0
            have HOK := Lib.hid (show ok = decide (n < 1073741824) by rw [← HOK.out]; unfold okT; rw [if_neg (by decide), if_neg (by decide), if_pos (by decide), HM.out, decide_eq_true HTE.out, decide_eq_true hn0]; simp)
            go_wp2_with fail
            go_meet
            exact ⟨bool_eq HOK.out.symm, Below.refl _ _⟩
          · have g0n : decide (0 ≤ n) = false := decide_eq_false hn0
            have HOK := Lib.hid (show ok = false by rw [← HOK.out]; unfold okT; rw [if_neg (by decide), if_neg (by decide), if_pos (by decide), decide_eq_false hn0]; simp)
            clear hn0
            go_wp2_with fail
            go_meet
            exact ⟨bool_eq HOK.out.symm, Below.refl _ _⟩
        | false =>
          have hm := len_pos hmb
          have HOK := Lib.hid (show ok = false by rw [← HOK.out]; unfold okT; rw [if_neg (by decide), if_neg (by decide), if_pos (by decide), decide_eq_false hm]; simp)
          clear hm
          go_wp2_with fail
          go_meet
          exact ⟨bool_eq HOK.out.symm, Below.refl _ _⟩
      have k3 : (k == 3) = false := beq_false_of_ne h3
      by_cases h4 : k = 4
      · subst h4
        cases mb with
        | true =>
          have HM := Lib.hid (len_zero hmb)
          by_cases hn0 : 0 ≤ n
          · have g0n : decide (0 ≤ n) = true := decide_eq_true hn0
            have HOK := Lib.hid (show ok = decide (n < 1073741824) by rw [← HOK.out]; unfold okT; rw [if_neg (by decide), if_neg (by decide), if_pos (by decide), HM.out, decide_eq_true HTE.out, decide_eq_true hn0]; simp)
            go_wp2_with fail
            go_meet
            exact ⟨bool_eq HOK.out.symm, Below.refl _ _⟩
          · have g0n : decide (0 ≤ n) = false := decide_eq_false hn0
            have HOK := Lib.hid (show ok = false by rw [← HOK.out]; unfold okT; rw [if_neg (by decide), if_neg (by decide), if_pos (by decide), decide_eq_false hn0]; simp)
            clear hn0
            go_wp2_with fail
            go_meet
            exact ⟨bool_eq HOK.out.symm, Below.refl _ _⟩
        | false =>
          have hm := len_pos hmb
          have HOK := Lib.hid (show ok = false by rw [← HOK.out]; unfold okT; rw [if_neg (by decide), if_neg (by decide), if_pos (by decide), decide_eq_false hm]; simp)
          clear hm
          go_wp2_with fail
          go_meet
          exact ⟨bool_eq HOK.out.symm, Below.refl _ _⟩
      have k4 : (k == 4) = false := beq_false_of_ne h4
      by_cases h5 : k = 5
      · subst h5
        by_cases hn : n = 0
        · subst hn
          by_cases hm : l.length = 0
          · have gm : ¬ 0 < l.length := by omega
            have HOK := Lib.hid (show ok = false by rw [← HOK.out]; unfold okT; rw [if_neg (by decide), if_neg (by decide), if_neg (by decide), if_pos (by decide), hm]; simp)
            clear hm
            go_wp2_with fail
            go_meet
            exact ⟨bool_eq HOK.out.symm, Below.refl _ _⟩
          · have gm : 0 < l.length := by omega
            have g8 : decide ((l.length : Int) ≤ 8) = decide (l.length ≤ 8) := by
              by_cases h : l.length ≤ 8
              · rw [decide_eq_true h, decide_eq_true (by omega)]
              · rw [decide_eq_false h, decide_eq_false (by omega)]
            have HOK := Lib.hid (show ok = decide ((l.length : Int) ≤ 8) by rw [← HOK.out, g8]; unfold okT; rw [if_neg (by decide), if_neg (by decide), if_neg (by decide), if_pos (by decide), decide_eq_true HTE.out, decide_eq_true (show 0 < l.length by omega)]; simp)
            clear hm g8
            go_wp2_with fail
            go_meet
            exact ⟨bool_eq HOK.out.symm, Below.refl _ _⟩
        · have gn : (n == 0) = false := beq_false_of_ne hn
          have HOK := Lib.hid (show ok = false by rw [← HOK.out]; unfold okT; rw [if_neg (by decide), if_neg (by decide), if_neg (by decide), if_pos (by decide), decide_eq_false hn]; simp)
          clear hn
          go_wp2_with fail
          go_meet
          exact ⟨bool_eq HOK.out.symm, Below.refl _ _⟩
      have k5 : (k == 5) = false := beq_false_of_ne h5
      by_cases h6 : k = 6
      · subst h6
        by_cases hn : n = 0
        · subst hn
          by_cases hm : l.length = 0
          · have gm : ¬ 0 < l.length := by omega
            have HOK := Lib.hid (show ok = false by rw [← HOK.out]; unfold okT; rw [if_neg (by decide), if_neg (by decide), if_neg (by decide), if_pos (by decide), hm]; simp)
            clear hm
            go_wp2_with fail
            go_meet
            exact ⟨bool_eq HOK.out.symm, Below.refl _ _⟩
          · have gm : 0 < l.length := by omega
            have g8 : decide ((l.length : Int) ≤ 8) = decide (l.length ≤ 8) := by
              by_cases h : l.length ≤ 8
              · rw [decide_eq_true h, decide_eq_true (by omega)]
              · rw [decide_eq_false h, decide_eq_false (by omega)]
            have HOK := Lib.hid (show ok = decide ((l.length : Int) ≤ 8) by rw [← HOK.out, g8]; unfold okT; rw [if_neg (by decide), if_neg (by decide), if_neg (by decide), if_pos (by decide), decide_eq_true HTE.out, decide_eq_true (show 0 < l.length by omega)]; simp)
            clear hm g8
            go_wp2_with fail
            go_meet
            exact ⟨bool_eq HOK.out.symm, Below.refl _ _⟩
        · have gn : (n == 0) = false := beq_false_of_ne hn
          have HOK := Lib.hid (show ok = false by rw [← HOK.out]; unfold okT; rw [if_neg (by decide), if_neg (by decide), if_neg (by decide), if_pos (by decide), decide_eq_false hn]; simp)
          clear hn
          go_wp2_with fail
          go_meet
          exact ⟨bool_eq HOK.out.symm, Below.refl _ _⟩
      have k6 : (k == 6) = false := beq_false_of_ne h6
      have HOK := Lib.hid (show ok = false by rw [← HOK.out]; unfold okT; rw [if_neg h1, if_neg h2, if_neg (by omega), if_neg (by omega)])
      clear h1 h2 h3 h4 h5 h6
      go_wp2_with fail
      go_meet
      exact ⟨bool_eq HOK.out.symm, Below.refl _ _⟩
    case rest =>
      obtain ⟨rfl, hbx⟩ := hcut
      have c3 := cell_below hbx q3
      have HBX := Lib.hid (HB.out.trans (hbx.mono HB.out.size))
      clear hbx HP HH HV2 hmb
      clear q0 q1 q2 q3
      cases ok with
      | false =>
        have HN := Lib.hid (show R = -1 by rw [← HR.out]; unfold partsT; rw [if_neg h0, HOK.out]; rfl)
        go_wp2_with fail
        go_ret
        rw [HN.out]
        exact ⟨rfl, HBX.out⟩
      | true =>
        have HN := Lib.hid (show partsTs l (room - 1) = R by rw [← HR.out]; unfold partsT; rw [if_neg h0, HOK.out]; rfl)
        go_wp2_with fail
        go_loopw [98, 1] (fun i r wr => ∃ (j : Nat) (rm : Int), j ≤ l.length ∧ i = .int .i64 (j : Int) ∧ r = .int .i64 rm ∧ partsTs (l.drop j) rm = R ∧ 0 ≤ rm ∧ rm ≤ 1000 ∧ Below w.heap.size w wr) (fun i _ _ => l.length - (intOf i).toNat)
        case atStart => exact ⟨0, room - 1, Nat.zero_le _, rfl, rfl, by rw [List.drop_zero]; exact HN.out, by omega, by omega, HBX.out⟩
        case round =>
          obtain ⟨j, rm, hj, rfl, rfl, hrest, hr2, hr3, hbr⟩ := hrel
          have HBR := Lib.hid hbr
          by_cases hlt : j < l.length
          · obtain ⟨ad, B, cp, rfl, d0, d1, d2, d3, hlk⟩ := lock_at (Cells.below HC.out hbr) (LocksC.below hbr l xs HL.out) hlt
            have hbe : Below wr.heap.size wr (wr.alloc (.cells #[.int .u8 l[j].kind, .string l[j].term, .int .i64 l[j].n, .slice B l[j].kids.length cp] 32)) := (Below.refl _ _).alloc (Nat.le_refl _) _
            have hcall := HKK.out j hlt rm (wr.alloc (.cells #[.int .u8 l[j].kind, .string l[j].term, .int .i64 l[j].n, .slice B l[j].kids.length cp] 32)) _ hr2 hr3 (LockC.below hbe _ _ hlk) ((HV.out.below hbr).below hbe)
            have HBE := Lib.hid (hbr.trans (hbe.mono hbr.size))
            have hdrop : l.drop j = l[j] :: l.drop (j + 1) := List.drop_eq_getElem_cons hlt
            rw [hdrop] at hrest
            have hrg := partsT_range l[j] rm hr2
            have HREST := Lib.hid hrest
            obtain ⟨p, hp⟩ : ∃ p, partsT l[j] rm = p := ⟨_, rfl⟩
            rw [hp] at hcall hrg
            have HP := Lib.hid hp
            have HCALL := Lib.hid hcall
            clear hcall hp hrest hdrop hbe hlk hbr
            by_cases hneg : p < 0
            · have HN2 := Lib.hid (show R = -1 by rw [← HREST.out]; exact partsTs_stop (by rw [HP.out]; exact hneg))
              have gp : decide (p < 0) = true := decide_eq_true hneg
              go_wp2_with fail
              refine HCALL.out.mono ?_
              rintro e w1 ⟨rfl, hb1⟩
              have HB1 := Lib.hid (HBE.out.trans (hb1.mono HBE.out.size))
              clear hb1
              go_wp2_with fail
              go_ret
              rw [HN2.out]
              exact ⟨rfl, HB1.out⟩
            · have HN2 := Lib.hid (show partsTs (l.drop (j + 1)) p = R by rw [← HREST.out, partsTs_next (by rw [HP.out]; exact hneg), HP.out])
              have gp : decide (p < 0) = false := decide_eq_false hneg
              go_wp2_with fail
              refine HCALL.out.mono ?_
              rintro e w1 ⟨rfl, hb1⟩
              have HB1 := Lib.hid (HBE.out.trans (hb1.mono HBE.out.size))
              clear hb1
              go_wp2_with fail
              go_roundw
              case rel => exact ⟨j + 1, p, by omega, by go_num, rfl, HN2.out, by omega, by omega, HB1.out⟩
              case measure => simp [intOf]; omega
          · have HN2 := Lib.hid (show R = rm by rw [← hrest, List.drop_of_length_le (by omega)]; rfl)
            clear hrest hbr
            go_wp2_with fail
            go_ret
            rw [HN2.out]
            exact ⟨rfl, HBR.out⟩
  · have hte2 : ¬ t.data.toList = [] := fun h => hte (by rw [Go.ByteArray.toList_eq]; exact h)
    have HTE := Lib.hid hte2
    clear hte2
    obtain ⟨mb, hmb⟩ : ∃ mb, ((l.length : Int) == 0) = mb := ⟨_, rfl⟩
    have HP := Lib.hid (fun W hv => lpub_any t W (by omega) hv)
    have HH := Lib.hid (fun W hv => lhash_any t W (by omega) hv)
    have HV2 := Lib.hid (HV.out.below HB.out)
    go_enter Tryz.func42, Tryz.ntmps42
    go_upto_block 0 with fail
    go_cut [6] (fun b wx => b = .bool ok ∧ Below (w.alloc (.cells #[.int .u8 k, .string t, .int .i64 n, .slice A l.length cap] 32)).heap.size (w.alloc (.cells #[.int .u8 k, .string t, .int .i64 n, .slice A l.length cap] 32)) wx)
    case first =>
      by_cases h1 : k = 1
      · subst h1
        by_cases hn : n = 0
        · subst hn
          cases mb with
          | true =>
            have hm := len_zero hmb
            have HOK := Lib.hid (show ok = pubB t.data.toList by rw [← HOK.out]; unfold okT; rw [if_pos rfl, hm]; simp)
            clear hm
            go_wp2_with fail
            refine (HP.out _ HV2.out).mono ?_
            rintro e w1 ⟨rfl, hb1⟩
            go_wp2_with fail
            go_meet
            exact ⟨bool_eq HOK.out.symm, hb1⟩
          | false =>
            have hm := len_pos hmb
            have HOK := Lib.hid (show ok = false by rw [← HOK.out]; unfold okT; rw [if_pos rfl, decide_eq_false hm]; simp)
            clear hm
            go_wp2_with fail
            go_meet
            exact ⟨bool_eq HOK.out.symm, Below.refl _ _⟩
        · have gn : (n == 0) = false := beq_false_of_ne hn
          have HOK := Lib.hid (show ok = false by rw [← HOK.out]; unfold okT; rw [if_pos rfl, decide_eq_false hn]; simp)
          clear hn
          go_wp2_with fail
          go_meet
          exact ⟨bool_eq HOK.out.symm, Below.refl _ _⟩
      have k1 : (k == 1) = false := beq_false_of_ne h1
      by_cases h2 : k = 2
      · subst h2
        by_cases hn : n = 0
        · subst hn
          cases mb with
          | true =>
            have hm := len_zero hmb
            have HOK := Lib.hid (show ok = hashB t.data.toList by rw [← HOK.out]; unfold okT; rw [if_neg (by decide), if_pos rfl, hm]; simp)
            clear hm
            go_wp2_with fail
            refine (HH.out _ HV2.out).mono ?_
            rintro e w1 ⟨rfl, hb1⟩
            go_wp2_with fail
            go_meet
            exact ⟨bool_eq HOK.out.symm, hb1⟩
          | false =>
            have hm := len_pos hmb
            have HOK := Lib.hid (show ok = false by rw [← HOK.out]; unfold okT; rw [if_neg (by decide), if_pos rfl, decide_eq_false hm]; simp)
            clear hm
            go_wp2_with fail
            go_meet
            exact ⟨bool_eq HOK.out.symm, Below.refl _ _⟩
        · have gn : (n == 0) = false := beq_false_of_ne hn
          have HOK := Lib.hid (show ok = false by rw [← HOK.out]; unfold okT; rw [if_neg (by decide), if_pos rfl, decide_eq_false hn]; simp)
          clear hn
          go_wp2_with fail
          go_meet
          exact ⟨bool_eq HOK.out.symm, Below.refl _ _⟩
      have k2 : (k == 2) = false := beq_false_of_ne h2
      by_cases h3 : k = 3
      · subst h3
        have HOK := Lib.hid (show ok = false by rw [← HOK.out]; unfold okT; rw [if_neg (by decide), if_neg (by decide), if_pos (by decide), decide_eq_false HTE.out]; simp)
        go_wp2_with fail
        go_meet
        exact ⟨bool_eq HOK.out.symm, Below.refl _ _⟩
      have k3 : (k == 3) = false := beq_false_of_ne h3
      by_cases h4 : k = 4
      · subst h4
        have HOK := Lib.hid (show ok = false by rw [← HOK.out]; unfold okT; rw [if_neg (by decide), if_neg (by decide), if_pos (by decide), decide_eq_false HTE.out]; simp)
        go_wp2_with fail
        go_meet
        exact ⟨bool_eq HOK.out.symm, Below.refl _ _⟩
      have k4 : (k == 4) = false := beq_false_of_ne h4
      by_cases h5 : k = 5
      · subst h5
        have HOK := Lib.hid (show ok = false by rw [← HOK.out]; unfold okT; rw [if_neg (by decide), if_neg (by decide), if_neg (by decide), if_pos (by decide), decide_eq_false HTE.out]; simp)
        go_wp2_with fail
        go_meet
        exact ⟨bool_eq HOK.out.symm, Below.refl _ _⟩
      have k5 : (k == 5) = false := beq_false_of_ne h5
      by_cases h6 : k = 6
      · subst h6
        have HOK := Lib.hid (show ok = false by rw [← HOK.out]; unfold okT; rw [if_neg (by decide), if_neg (by decide), if_neg (by decide), if_pos (by decide), decide_eq_false HTE.out]; simp)
        go_wp2_with fail
        go_meet
        exact ⟨bool_eq HOK.out.symm, Below.refl _ _⟩
      have k6 : (k == 6) = false := beq_false_of_ne h6
      have HOK := Lib.hid (show ok = false by rw [← HOK.out]; unfold okT; rw [if_neg h1, if_neg h2, if_neg (by omega), if_neg (by omega)])
      clear h1 h2 h3 h4 h5 h6
      go_wp2_with fail
      go_meet
      exact ⟨bool_eq HOK.out.symm, Below.refl _ _⟩
    case rest =>
      obtain ⟨rfl, hbx⟩ := hcut
      have c3 := cell_below hbx q3
      have HBX := Lib.hid (HB.out.trans (hbx.mono HB.out.size))
      clear hbx HP HH HV2 hmb
      clear q0 q1 q2 q3
      cases ok with
      | false =>
        have HN := Lib.hid (show R = -1 by rw [← HR.out]; unfold partsT; rw [if_neg h0, HOK.out]; rfl)
        go_wp2_with fail
        go_ret
        rw [HN.out]
        exact ⟨rfl, HBX.out⟩
      | true =>
        have HN := Lib.hid (show partsTs l (room - 1) = R by rw [← HR.out]; unfold partsT; rw [if_neg h0, HOK.out]; rfl)
        go_wp2_with fail
        go_loopw [98, 1] (fun i r wr => ∃ (j : Nat) (rm : Int), j ≤ l.length ∧ i = .int .i64 (j : Int) ∧ r = .int .i64 rm ∧ partsTs (l.drop j) rm = R ∧ 0 ≤ rm ∧ rm ≤ 1000 ∧ Below w.heap.size w wr) (fun i _ _ => l.length - (intOf i).toNat)
        case atStart => exact ⟨0, room - 1, Nat.zero_le _, rfl, rfl, by rw [List.drop_zero]; exact HN.out, by omega, by omega, HBX.out⟩
        case round =>
          obtain ⟨j, rm, hj, rfl, rfl, hrest, hr2, hr3, hbr⟩ := hrel
          have HBR := Lib.hid hbr
          by_cases hlt : j < l.length
          · obtain ⟨ad, B, cp, rfl, d0, d1, d2, d3, hlk⟩ := lock_at (Cells.below HC.out hbr) (LocksC.below hbr l xs HL.out) hlt
            have hbe : Below wr.heap.size wr (wr.alloc (.cells #[.int .u8 l[j].kind, .string l[j].term, .int .i64 l[j].n, .slice B l[j].kids.length cp] 32)) := (Below.refl _ _).alloc (Nat.le_refl _) _
            have hcall := HKK.out j hlt rm (wr.alloc (.cells #[.int .u8 l[j].kind, .string l[j].term, .int .i64 l[j].n, .slice B l[j].kids.length cp] 32)) _ hr2 hr3 (LockC.below hbe _ _ hlk) ((HV.out.below hbr).below hbe)
            have HBE := Lib.hid (hbr.trans (hbe.mono hbr.size))
            have hdrop : l.drop j = l[j] :: l.drop (j + 1) := List.drop_eq_getElem_cons hlt
            rw [hdrop] at hrest
            have hrg := partsT_range l[j] rm hr2
            have HREST := Lib.hid hrest
            obtain ⟨p, hp⟩ : ∃ p, partsT l[j] rm = p := ⟨_, rfl⟩
            rw [hp] at hcall hrg
            have HP := Lib.hid hp
            have HCALL := Lib.hid hcall
            clear hcall hp hrest hdrop hbe hlk hbr
            by_cases hneg : p < 0
            · have HN2 := Lib.hid (show R = -1 by rw [← HREST.out]; exact partsTs_stop (by rw [HP.out]; exact hneg))
              have gp : decide (p < 0) = true := decide_eq_true hneg
              go_wp2_with fail
              refine HCALL.out.mono ?_
              rintro e w1 ⟨rfl, hb1⟩
              have HB1 := Lib.hid (HBE.out.trans (hb1.mono HBE.out.size))
              clear hb1
              go_wp2_with fail
              go_ret
              rw [HN2.out]
              exact ⟨rfl, HB1.out⟩
            · have HN2 := Lib.hid (show partsTs (l.drop (j + 1)) p = R by rw [← HREST.out, partsTs_next (by rw [HP.out]; exact hneg), HP.out])
              have gp : decide (p < 0) = false := decide_eq_false hneg
              go_wp2_with fail
              refine HCALL.out.mono ?_
              rintro e w1 ⟨rfl, hb1⟩
              have HB1 := Lib.hid (HBE.out.trans (hb1.mono HBE.out.size))
              clear hb1
              go_wp2_with fail
              go_roundw
              case rel => exact ⟨j + 1, p, by omega, by go_num, rfl, HN2.out, by omega, by omega, HB1.out⟩
              case measure => simp [intOf]; omega
          · have HN2 := Lib.hid (show R = rm by rw [← hrest, List.drop_of_length_le (by omega)]; rfl)
            clear hrest hbr
            go_wp2_with fail
            go_ret
            rw [HN2.out]
            exact ⟨rfl, HBR.out⟩
theorem parts_all : ∀ (m : Nat) (x : LockT) (cs : List Value) (room : Int) (w : World), sizeT x ≤ m → smallT x → 0 ≤ room → room ≤ 1000 → LockC w x cs → VarsOk w → Calls Tryz.prog 42 #[.agg cs.toArray, .int .i64 room] w fun e w' => e = .returned (.int .i64 (partsT x room)) ∧ Below w.heap.size w w'
  | 0, x, _, _, _, hm, _, _, _, _, _ => absurd (sizeT_pos x) (by omega)
  | m + 1, .node k t n l, cs, room, w, hm, hs, hr0, hr1, hc, hv => by
    unfold LockC at hc
    obtain ⟨A, cap, xs, rfl, h2, h3⟩ := hc
    obtain ⟨s1, s2, s3⟩ := smallT_parts hs
    exact parts_step k t n l A cap xs room w hr0 hr1 s1 s2 h2 h3 hv fun i hi room W cs g0 g1 g2 g3 =>
      parts_all m l[i] cs room W (by have := sizeTs_at i hi; have e := sizeT_kids (.node k t n l); simp only [LockT.kids] at e; omega) (smallTs_at s3 i hi) g0 g1 g2 g3
set_option maxRecDepth 100000 in
set_option maxHeartbeats 8000000 in
theorem lright_any (x : LockT) (cs : List Value) (w : World) (hs : smallT x) (hc : LockC w x cs) (hv : VarsOk w) : Calls Tryz.prog 17 #[.agg cs.toArray] w fun e w' => e = .returned (.bool (lockB x)) ∧ Below w.heap.size w w' := by
  obtain ⟨A, cap, xs, rfl, -, -⟩ := hc.shape
  have hb : Below w.heap.size w (w.alloc (.cells #[.int .u8 x.kind, .string x.term, .int .i64 x.n, .slice A x.kids.length cap] 32)) := (Below.refl _ _).alloc (Nat.le_refl _) _
  have HP := Lib.hid (parts_all (sizeT x) x _ 64 _ (Nat.le_refl _) hs (by omega) (by omega) (LockC.below hb x _ hc) (hv.below hb))
  have HD := Lib.hid (lockB_parts x)
  have HB := Lib.hid hb
  clear hb hc hv
  go_enter Tryz.func17, Tryz.ntmps17
  go_wp2_with fail
  refine HP.out.mono ?_
  rintro e w1 ⟨rfl, hb1⟩
  have HB1 := Lib.hid (HB.out.trans (hb1.mono HB.out.size)); clear hb1
  go_wp2_with fail
  go_ret
  exact ⟨ret_bool HD.out, HB1.out⟩
end Go.Proofs.YtaonadgelkdbcaaGreatDoor
