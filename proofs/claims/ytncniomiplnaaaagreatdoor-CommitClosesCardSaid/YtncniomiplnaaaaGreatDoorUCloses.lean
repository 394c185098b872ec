/- CommitCloses: any two outputs close a channel, or not, as the document says (locks of at most 60 parts): the row's statement and its tied card, no condition beyond the row's own (the variables that it lists read as they are laid). -/
import Derived.Test.YtncniomiplnaaaaGreatDoorQ0
import Derived.Test.YtncniomiplnaaaaGreatDoorQ1
import Derived.Test.YtncniomiplnaaaaGreatDoorQ2
import Derived.Test.YtncniomiplnaaaaGreatDoorQ3
import Derived.Test.YtncniomiplnaaaaGreatDoorQ4
import Derived.Test.YtncniomiplnaaaaGreatDoorQ5
import Derived.Test.YtncniomiplnaaaaGreatDoorQ6
import Derived.Test.YtncniomiplnaaaaGreatDoorQ7
import Derived.Test.YtncniomiplnaaaaGreatDoorQ8
import Derived.Test.YtncniomiplnaaaaGreatDoorQ9
import Derived.Test.YtncniomiplnaaaaGreatDoorQ10
import Derived.Test.YtncniomiplnaaaaGreatDoorQ11
import Derived.Test.YtncniomiplnaaaaGreatDoorQ12
import Derived.Test.YtncniomiplnaaaaGreatDoorQ13
import Derived.Test.YtncniomiplnaaaaGreatDoorQ14
import Derived.Test.YtncniomiplnaaaaGreatDoorQ15
import Derived.Test.YtncniomiplnaaaaGreatDoorQ16
import Derived.Test.YtncniomiplnaaaaGreatDoorQ17
import Derived.Test.YtncniomiplnaaaaGreatDoorQ18
import Derived.Test.YtncniomiplnaaaaGreatDoorQ19
import Derived.Test.YtncniomiplnaaaaGreatDoorQ20
import Derived.Test.YtncniomiplnaaaaGreatDoorQ21
import Derived.Test.YtncniomiplnaaaaGreatDoorQ31
import Derived.Test.YtncniomiplnaaaaGreatDoorQ33
import Derived.Test.YtncniomiplnaaaaGreatDoorQ35
import Derived.Test.YtncniomiplnaaaaGreatDoorQ36
import Derived.Test.YtncniomiplnaaaaGreatDoorQ34
set_option linter.all false
namespace Go.Proofs.YtncniomiplnaaaaGreatDoor
mutual
/-- The statements' reckoning: parts, and bytes of terms by 64, up to a bound and one. -/
def lsizeT : LockT → Int → Int
  | .node _ t _ l, top => min (lsizeTs l top (1 + (t.size : Int) / 64)) (top + 1)
def lsizeTs : List LockT → Int → Int → Int
  | [], _, n => n
  | x :: r, top, n => if n ≤ top then lsizeTs r top (n + lsizeT x top) else n
end
mutual
theorem lsizeT_ge : ∀ (x : LockT) (top : Int), 0 ≤ top → 1 ≤ lsizeT x top ∧ lsizeT x top ≤ top + 1
  | .node _ t _ l, top, h => by
    unfold lsizeT
    have := lsizeTs_ge l top (1 + (t.size : Int) / 64) h
    omega
theorem lsizeTs_ge : ∀ (l : List LockT) (top n : Int), 0 ≤ top → n ≤ lsizeTs l top n
  | [], top, n, _ => by unfold lsizeTs; omega
  | x :: r, top, n, h => by
    unfold lsizeTs
    split
    · have h1 := lsizeT_ge x top h
      have h2 := lsizeTs_ge r top (n + lsizeT x top) h
      omega
    · omega
end
theorem lsizeTs_next {x : LockT} {r : List LockT} {top n : Int} (h : n ≤ top) : lsizeTs (x :: r) top n = lsizeTs r top (n + lsizeT x top) := by
  conv => lhs; unfold lsizeTs
  rw [if_pos h]
theorem lsizeTs_stop {l : List LockT} {top n : Int} (h : ¬ n ≤ top) : lsizeTs l top n = n := by
  cases l with
  | nil => unfold lsizeTs; rfl
  | cons x r => unfold lsizeTs; rw [if_neg h]
end Go.Proofs.YtncniomiplnaaaaGreatDoor
namespace Go.Proofs.YtncniomiplnaaaaGreatDoor
open Go.RowKit
mutual
/-- Nothing is longer than memory bears. -/
def boundT : LockT → Prop
  | .node _ t _ l => t.size ≤ 1125899906842624 ∧ l.length ≤ 1125899906842624 ∧ boundTs l
def boundTs : List LockT → Prop
  | [] => True
  | x :: r => boundT x ∧ boundTs r
end
theorem boundTs_at : ∀ {l : List LockT}, boundTs l → ∀ (k : Nat) (hk : k < l.length), boundT l[k]
  | [], _, k, hk => absurd hk (by simp)
  | x :: r, h, 0, _ => by unfold boundTs at h; exact h.1
  | x :: r, h, k + 1, hk => by unfold boundTs at h; exact boundTs_at h.2 k (by simpa using hk)
theorem boundT_parts {x : LockT} (h : boundT x) : x.term.size ≤ 1125899906842624 ∧ x.kids.length ≤ 1125899906842624 ∧ boundTs x.kids := by
  cases x with
  | node k t n l => unfold boundT at h; exact h
theorem quo64 (m : Nat) : (m : Int).tdiv 64 = (m : Int) / 64 := Int.tdiv_eq_ediv_of_nonneg (by omega)
set_option maxRecDepth 100000 in
set_option maxHeartbeats 8000000 in
theorem lsize_step (k : Int) (t : ByteArray) (n : Int) (l : List LockT) (A : Option Addr) (cap : Nat) (xs : List Value) (top : Int) (w : World) (hr0 : 0 ≤ top) (hr1 : top ≤ 1000) (hsz : t.size ≤ 1125899906842624) (hll : l.length ≤ 1125899906842624) (hc : Cells w A xs) (hl : LocksC w l xs)
    (HK : ∀ (i : Nat) (hi : i < l.length) (W : World) (cs : List Value), LockC W l[i] cs → Calls Tryz.prog 32 #[.agg cs.toArray, .int .i64 top] W fun e w' => e = .returned (.int .i64 (lsizeT l[i] top)) ∧ Below W.heap.size W w') :
    Calls Tryz.prog 32 #[.agg #[.int .u8 k, .string t, .int .i64 n, .slice A l.length cap], .int .i64 top] w fun e w' => e = .returned (.int .i64 (lsizeT (.node k t n l) top)) ∧ Below w.heap.size w w' := by
  have hbA : Below w.heap.size w (w.alloc (.cells #[.int .u8 k, .string t, .int .i64 n, .slice A l.length cap] 55)) := (Below.refl _ _).alloc (Nat.le_refl _) _
  have q1 : (w.alloc (.cells #[.int .u8 k, .string t, .int .i64 n, .slice A l.length cap] 55)).cell? ⟨w.heap.size, 1, none⟩ = some (.string t) := alloc_cells 1 _ rfl
  have q3 : (w.alloc (.cells #[.int .u8 k, .string t, .int .i64 n, .slice A l.length cap] 55)).cell? ⟨w.heap.size, 3, none⟩ = some (.slice A l.length cap) := alloc_cells 3 _ rfl
  have HB := Lib.hid hbA
  have HQ := Lib.hid q3
  obtain ⟨R, hR⟩ : ∃ R, lsizeT (.node k t n l) top = R := ⟨_, rfl⟩
  rw [hR]
  obtain ⟨S, hS⟩ : ∃ S, lsizeTs l top (1 + (t.size : Int) / 64) = S := ⟨_, rfl⟩
  have HR := Lib.hid (show R = min S (top + 1) by rw [← hR, ← hS]; unfold lsizeT; rfl)
  have HS := Lib.hid hS
  have HKK := Lib.hid HK
  have HC := Lib.hid hc
  have HL := Lib.hid hl
  obtain ⟨z, hz⟩ : ∃ z : Int, (t.size : Int).tdiv 64 = z := ⟨_, rfl⟩
  have hz0 : 0 ≤ z ∧ z ≤ 1125899906842624 := by rw [← hz, quo64]; omega
  have HS := Lib.hid (show lsizeTs l top (1 + z) = S by rw [← hz, quo64]; exact HS.out)
  have HZ := Lib.hid hz
  clear hR HK hc hl hbA hS hz
  go_enter Tryz.func32, Tryz.ntmps32
  go_wp2_with fail
  try rw [HZ.out]
  go_loopw [6, 5] (fun i m wr => ∃ (j : Nat) (c : Int), j ≤ l.length ∧ i = .int .i64 (j : Int) ∧ m = .int .i64 c ∧ 1 ≤ c ∧ c ≤ 4503599627370496 ∧ lsizeTs (l.drop j) top c = S ∧ Below (w.alloc (.cells #[.int .u8 k, .string t, .int .i64 n, .slice A l.length cap] 55)).heap.size (w.alloc (.cells #[.int .u8 k, .string t, .int .i64 n, .slice A l.length cap] 55)) wr) (fun i _ _ => l.length - (intOf i).toNat)
  case atStart => exact ⟨0, 1 + z, Nat.zero_le _, rfl, by first | rfl | rw [HZ.out] | (rw [← HZ.out]; go_num), by omega, by omega, by rw [List.drop_zero]; exact HS.out, Below.refl _ _⟩
  case round =>
    obtain ⟨j, c, hj, rfl, rfl, hc1, hc2, hrest, hbr⟩ := hrel
    have c3 := cell_below hbr HQ.out
    have HBR := Lib.hid (HB.out.trans (hbr.mono HB.out.size))
    have HBR2 := Lib.hid hbr
    clear q1
    by_cases hlt : j < l.length
    · by_cases htop : c ≤ top
      · have g1 : decide (c ≤ top) = true := decide_eq_true htop
        have hbr0 := HBR.out
        obtain ⟨ad, B, cp, rfl, d0, d1, d2, d3, hlk⟩ := lock_at (Cells.below HC.out hbr0) (LocksC.below hbr0 l xs HL.out) hlt
        have hcall := HKK.out j hlt wr _ hlk
        have hdrop : l.drop j = l[j] :: l.drop (j + 1) := List.drop_eq_getElem_cons hlt
        rw [hdrop, lsizeTs_next htop] at hrest
        have hcl := lsizeT_ge l[j] top hr0
        obtain ⟨p, hp⟩ : ∃ p, lsizeT l[j] top = p := ⟨_, rfl⟩
        rw [hp] at hcall hrest hcl
        have HREST := Lib.hid hrest
        have HCALL := Lib.hid hcall
        clear hcall hp hrest hdrop hlk hbr hbr0 q3
        go_wp2_with fail
        refine HCALL.out.mono ?_
        rintro e w1 ⟨rfl, hb1⟩
        have HB1 := Lib.hid (HBR2.out.trans (hb1.mono HBR2.out.size))
        clear hb1
        go_wp2_with fail
        go_roundw
        case rel => exact ⟨j + 1, c + p, by omega, by go_num, rfl, by omega, by omega, HREST.out, HB1.out⟩
        case measure => simp [intOf]; omega
      · have g1 : decide (c ≤ top) = false := decide_eq_false htop
        have HN := Lib.hid (show R = min c (top + 1) by rw [HR.out, ← hrest, lsizeTs_stop htop])
        clear hrest hbr q3
        go_wp2_with fail
        go_ret
        rw [HN.out]
        refine ⟨?_, HBR.out⟩
        all_goals first | rfl | (simp; done) | (simp; omega)
    · have HN := Lib.hid (show R = min c (top + 1) by rw [HR.out, ← hrest, List.drop_of_length_le (by omega)]; unfold lsizeTs; rfl)
      have gj : decide ((j : Int) < (l.length : Int)) = false := decide_eq_false (by omega)
      clear hrest hbr q3
      go_wp2_with fail
      go_ret
      rw [HN.out]
      refine ⟨?_, HBR.out⟩
      all_goals first | rfl | (simp; done) | (simp; omega)
theorem lsize_all : ∀ (m : Nat) (x : LockT) (cs : List Value) (top : Int) (w : World), sizeT x ≤ m → boundT x → 0 ≤ top → top ≤ 1000 → LockC w x cs → Calls Tryz.prog 32 #[.agg cs.toArray, .int .i64 top] w fun e w' => e = .returned (.int .i64 (lsizeT x top)) ∧ Below w.heap.size w w'
  | 0, x, _, _, _, hm, _, _, _, _ => absurd (sizeT_pos x) (by omega)
  | m + 1, .node k t n l, cs, top, w, hm, hs, hr0, hr1, hc => by
    unfold LockC at hc
    obtain ⟨A, cap, xs, rfl, h2, h3⟩ := hc
    obtain ⟨s1, s2, s3⟩ := boundT_parts hs
    exact lsize_step k t n l A cap xs top w hr0 hr1 s1 s2 h2 h3 fun i hi W cs g2 =>
      lsize_all m l[i] cs top W (by have := sizeTs_at i hi; have e := sizeT_kids (.node k t n l); simp only [LockT.kids] at e; omega) (boundTs_at s3 i hi) hr0 hr1 g2
end Go.Proofs.YtncniomiplnaaaaGreatDoor
namespace Go.Proofs.YtncniomiplnaaaaGreatDoor
open Go.RowKit
abbrev OutQ := OutT × Option Addr × Nat
def outC (q : OutQ) : List Value := [.int .i64 q.1.value, .int .u8 q.1.lock.kind, .string q.1.lock.term, .int .i64 q.1.lock.n, .slice q.2.1 q.1.lock.kids.length q.2.2]
def outV (q : OutQ) : Value := .agg #[.int .i64 q.1.value, .int .u8 q.1.lock.kind, .string q.1.lock.term, .int .i64 q.1.lock.n, .slice q.2.1 q.1.lock.kids.length q.2.2]
def lineOf (q : OutQ) : LineP × LineR := (⟨q.1.value, q.1.lock, 0⟩, ⟨q.1.value, q.1.lock.kind, q.1.lock.term, q.1.lock.n, q.2.1, q.1.lock.kids.length, q.2.2, 0, ⟨#[]⟩⟩)
def bigO (d : DealR) (q : OutQ) : Bool := decide (d.dust ≤ q.1.value)
def linesO (d : DealR) (os : List OutQ) : List (LineP × LineR) := (os.filter (bigO d)).map lineOf
theorem linesO_snoc (d : DealR) (os : List OutQ) (q : OutQ) : linesO d (os ++ [q]) = if bigO d q then linesO d os ++ [lineOf q] else linesO d os := by
  unfold linesO
  rw [List.filter_append, List.map_append]
  cases h : bigO d q <;> simp [h]
theorem linesO_len (d : DealR) (os : List OutQ) : (linesO d os).length ≤ os.length := by
  unfold linesO
  rw [List.length_map]
  exact List.length_filter_le _ _
def closeE (tx : ByteArray) (pn : Int) (d : DealR) (os : List OutQ) : TxT × Int := if dealE d = 0 then ((wholeE tx pn ((linesO d os).map (·.1)) 0).1, (wholeE tx pn ((linesO d os).map (·.1)) 0).2.2) else (zeroTx, dealE d)
theorem linesO_keep {w : World} {d : DealR} {os : List OutQ} (h : ∀ q ∈ os, smallT q.1.lock ∧ LockC w q.1.lock [.int .u8 q.1.lock.kind, .string q.1.lock.term, .int .i64 q.1.lock.n, .slice q.2.1 q.1.lock.kids.length q.2.2]) : ∀ r ∈ linesO d os, LineK w.heap.size w r := fun r hr => by
  unfold linesO at hr
  obtain ⟨q, hq, rfl⟩ := List.mem_map.1 hr
  have h2 := h q (List.mem_filter.1 hq).1
  exact ⟨rfl, rfl, h2.1, fun W hb _ => LockC.below hb _ _ h2.2⟩
theorem whole_q (tx : ByteArray) (pn tag : Int) (ps : List (LineP × LineR)) (vL : Value) (base : Nat) (v w : World) (hn : ps.length < 20) (hbv : Below v.heap.size v w) (hvb : v.heap.size ≤ base) (hown : w.ownsRow base 81 7 vL ps.length ((ps.map Prod.snd).flatMap LineR.enc)) (hps : ∀ q ∈ ps, LineK v.heap.size w q) (hpt : ptOk ⟨tx, pn, 0⟩) (htx : tx.size ≤ 1125899906842624) (hv : VarsOk v) (ht : TabOk v) :
    Calls Tryz.prog 43 #[.agg #[.string tx, .int .i64 pn], vL, .int .i64 tag] w fun e w' => ∃ t ws, e = .returned (.tuple #[t, ws, .int .i64 (wholeE tx pn (ps.map (·.1)) tag).2.2]) ∧ TxF v.heap.size w' (wholeE tx pn (ps.map (·.1)) tag).1 t ∧ IntsF w' (wholeE tx pn (ps.map (·.1)) tag).2.1 ws ∧ ∃ F : List Nat, (∀ g ∈ F, base ≤ g) ∧ Fr F w w' := by
  rcases Nat.eq_zero_or_pos ps.length with h0 | h1
  · obtain rfl : ps = [] := List.eq_nil_of_length_eq_zero h0
    obtain ⟨A, c, rfl, -, -⟩ := own_shape hown
    refine (whole_nil tx pn tag A c w).mono ?_
    rintro e w' ⟨rfl, hb⟩
    exact ⟨_, _, rfl, TxF.zero _ _, IntsF.nil _, [], by simp, Fr.below hb⟩
  · rcases hown.2 with ⟨-, hn0⟩ | ⟨g, cap, cur, rfl, hbg, hg, -, -, -, htk⟩
    · omega
    · have hrow : RowL w g (ps.map (·.2)) := ⟨cur, hg, fun j u hj => row_take htk (by rw [List.flatMap_def]; exact hj)⟩
      refine (whole_any tx pn tag ps g cap v w hn h1 hbv (Nat.le_trans hvb hbg) hrow hps hpt htx hv ht).mono ?_
      rintro e w' ⟨t, ws, rfl, a1, a2, a3⟩
      exact ⟨t, ws, rfl, a1, a2, [g], by simpa using hbg, a3⟩
set_option maxRecDepth 100000 in
set_option maxHeartbeats 16000000 in
theorem close_any (tx : ByteArray) (pn : Int) (d : DealR) (a b : OutQ) (w : World) (hpt : ptOk ⟨tx, pn, 0⟩) (htx : tx.size ≤ 1125899906842624) (hk : ∀ q ∈ [a, b], smallT q.1.lock ∧ LockC w q.1.lock [.int .u8 q.1.lock.kind, .string q.1.lock.term, .int .i64 q.1.lock.n, .slice q.2.1 q.1.lock.kids.length q.2.2]) (hv : VarsOk w) (ht : TabOk w) :
    Calls Tryz.prog 33 #[.agg #[.string tx, .int .i64 pn], dealV d, outV a, outV b] w fun e w' => ∃ t, e = .returned (.tuple #[t, .int .i64 (closeE tx pn d [a, b]).2]) ∧ TxF w.heap.size w' (closeE tx pn d [a, b]).1 t ∧ Below w.heap.size w w' := by
  unfold dealV outV
  have hb0 : Below w.heap.size w (((((w.alloc (.cells #[.string tx, .int .i64 pn] 35)).alloc (.cells #[.int .i64 d.cap, .int .i64 d.push, .int .i64 d.dust, .int .i64 d.res, .int .i64 d.rate, .int .i64 d.delay, .int .i64 d.maxH, .int .i64 d.flight, .int .i64 d.minH] 23)).alloc (.cells #[.int .i64 a.1.value, .int .u8 a.1.lock.kind, .string a.1.lock.term, .int .i64 a.1.lock.n, .slice a.2.1 a.1.lock.kids.length a.2.2] 66)).alloc (.cells #[.int .i64 b.1.value, .int .u8 b.1.lock.kind, .string b.1.lock.term, .int .i64 b.1.lock.n, .slice b.2.1 b.1.lock.kids.length b.2.2] 66)).alloc (.cells #[.slice none 0 0, .slice none 0 0, .int .i64 0, .int .i64 0] 45)) := (((((Below.refl w.heap.size w).alloc (Nat.le_refl _) (.cells #[.string tx, .int .i64 pn] 35)).alloc (by simp) (.cells #[.int .i64 d.cap, .int .i64 d.push, .int .i64 d.dust, .int .i64 d.res, .int .i64 d.rate, .int .i64 d.delay, .int .i64 d.maxH, .int .i64 d.flight, .int .i64 d.minH] 23)).alloc (by simp; try omega) (.cells #[.int .i64 a.1.value, .int .u8 a.1.lock.kind, .string a.1.lock.term, .int .i64 a.1.lock.n, .slice a.2.1 a.1.lock.kids.length a.2.2] 66)).alloc (by simp; try omega) (.cells #[.int .i64 b.1.value, .int .u8 b.1.lock.kind, .string b.1.lock.term, .int .i64 b.1.lock.n, .slice b.2.1 b.1.lock.kids.length b.2.2] 66)).alloc (by simp; try omega) (.cells #[.slice none 0 0, .slice none 0 0, .int .i64 0, .int .i64 0] 45)
  have HB := Lib.hid hb0
  have H0 := Lib.hid (show (((((w.alloc (.cells #[.string tx, .int .i64 pn] 35)).alloc (.cells #[.int .i64 d.cap, .int .i64 d.push, .int .i64 d.dust, .int .i64 d.res, .int .i64 d.rate, .int .i64 d.delay, .int .i64 d.maxH, .int .i64 d.flight, .int .i64 d.minH] 23)).alloc (.cells #[.int .i64 a.1.value, .int .u8 a.1.lock.kind, .string a.1.lock.term, .int .i64 a.1.lock.n, .slice a.2.1 a.1.lock.kids.length a.2.2] 66)).alloc (.cells #[.int .i64 b.1.value, .int .u8 b.1.lock.kind, .string b.1.lock.term, .int .i64 b.1.lock.n, .slice b.2.1 b.1.lock.kids.length b.2.2] 66)).alloc (.cells #[.slice none 0 0, .slice none 0 0, .int .i64 0, .int .i64 0] 45)).heap[w.heap.size]? = some (.cells #[.string tx, .int .i64 pn] 35) from allocs_at [(.cells #[.string tx, .int .i64 pn] 35), (.cells #[.int .i64 d.cap, .int .i64 d.push, .int .i64 d.dust, .int .i64 d.res, .int .i64 d.rate, .int .i64 d.delay, .int .i64 d.maxH, .int .i64 d.flight, .int .i64 d.minH] 23), (.cells #[.int .i64 a.1.value, .int .u8 a.1.lock.kind, .string a.1.lock.term, .int .i64 a.1.lock.n, .slice a.2.1 a.1.lock.kids.length a.2.2] 66), (.cells #[.int .i64 b.1.value, .int .u8 b.1.lock.kind, .string b.1.lock.term, .int .i64 b.1.lock.n, .slice b.2.1 b.1.lock.kids.length b.2.2] 66), (.cells #[.slice none 0 0, .slice none 0 0, .int .i64 0, .int .i64 0] 45)] w 0 _ rfl)
  have H1 := Lib.hid (show (((((w.alloc (.cells #[.string tx, .int .i64 pn] 35)).alloc (.cells #[.int .i64 d.cap, .int .i64 d.push, .int .i64 d.dust, .int .i64 d.res, .int .i64 d.rate, .int .i64 d.delay, .int .i64 d.maxH, .int .i64 d.flight, .int .i64 d.minH] 23)).alloc (.cells #[.int .i64 a.1.value, .int .u8 a.1.lock.kind, .string a.1.lock.term, .int .i64 a.1.lock.n, .slice a.2.1 a.1.lock.kids.length a.2.2] 66)).alloc (.cells #[.int .i64 b.1.value, .int .u8 b.1.lock.kind, .string b.1.lock.term, .int .i64 b.1.lock.n, .slice b.2.1 b.1.lock.kids.length b.2.2] 66)).alloc (.cells #[.slice none 0 0, .slice none 0 0, .int .i64 0, .int .i64 0] 45)).heap[w.heap.size + 1]? = some (.cells #[.int .i64 d.cap, .int .i64 d.push, .int .i64 d.dust, .int .i64 d.res, .int .i64 d.rate, .int .i64 d.delay, .int .i64 d.maxH, .int .i64 d.flight, .int .i64 d.minH] 23) from allocs_at [(.cells #[.string tx, .int .i64 pn] 35), (.cells #[.int .i64 d.cap, .int .i64 d.push, .int .i64 d.dust, .int .i64 d.res, .int .i64 d.rate, .int .i64 d.delay, .int .i64 d.maxH, .int .i64 d.flight, .int .i64 d.minH] 23), (.cells #[.int .i64 a.1.value, .int .u8 a.1.lock.kind, .string a.1.lock.term, .int .i64 a.1.lock.n, .slice a.2.1 a.1.lock.kids.length a.2.2] 66), (.cells #[.int .i64 b.1.value, .int .u8 b.1.lock.kind, .string b.1.lock.term, .int .i64 b.1.lock.n, .slice b.2.1 b.1.lock.kids.length b.2.2] 66), (.cells #[.slice none 0 0, .slice none 0 0, .int .i64 0, .int .i64 0] 45)] w 1 _ rfl)
  have H2 := Lib.hid (show (((((w.alloc (.cells #[.string tx, .int .i64 pn] 35)).alloc (.cells #[.int .i64 d.cap, .int .i64 d.push, .int .i64 d.dust, .int .i64 d.res, .int .i64 d.rate, .int .i64 d.delay, .int .i64 d.maxH, .int .i64 d.flight, .int .i64 d.minH] 23)).alloc (.cells #[.int .i64 a.1.value, .int .u8 a.1.lock.kind, .string a.1.lock.term, .int .i64 a.1.lock.n, .slice a.2.1 a.1.lock.kids.length a.2.2] 66)).alloc (.cells #[.int .i64 b.1.value, .int .u8 b.1.lock.kind, .string b.1.lock.term, .int .i64 b.1.lock.n, .slice b.2.1 b.1.lock.kids.length b.2.2] 66)).alloc (.cells #[.slice none 0 0, .slice none 0 0, .int .i64 0, .int .i64 0] 45)).heap[w.heap.size + 1 + 1]? = some (.cells #[.int .i64 a.1.value, .int .u8 a.1.lock.kind, .string a.1.lock.term, .int .i64 a.1.lock.n, .slice a.2.1 a.1.lock.kids.length a.2.2] 66) from allocs_at [(.cells #[.string tx, .int .i64 pn] 35), (.cells #[.int .i64 d.cap, .int .i64 d.push, .int .i64 d.dust, .int .i64 d.res, .int .i64 d.rate, .int .i64 d.delay, .int .i64 d.maxH, .int .i64 d.flight, .int .i64 d.minH] 23), (.cells #[.int .i64 a.1.value, .int .u8 a.1.lock.kind, .string a.1.lock.term, .int .i64 a.1.lock.n, .slice a.2.1 a.1.lock.kids.length a.2.2] 66), (.cells #[.int .i64 b.1.value, .int .u8 b.1.lock.kind, .string b.1.lock.term, .int .i64 b.1.lock.n, .slice b.2.1 b.1.lock.kids.length b.2.2] 66), (.cells #[.slice none 0 0, .slice none 0 0, .int .i64 0, .int .i64 0] 45)] w 2 _ rfl)
  have H3 := Lib.hid (show (((((w.alloc (.cells #[.string tx, .int .i64 pn] 35)).alloc (.cells #[.int .i64 d.cap, .int .i64 d.push, .int .i64 d.dust, .int .i64 d.res, .int .i64 d.rate, .int .i64 d.delay, .int .i64 d.maxH, .int .i64 d.flight, .int .i64 d.minH] 23)).alloc (.cells #[.int .i64 a.1.value, .int .u8 a.1.lock.kind, .string a.1.lock.term, .int .i64 a.1.lock.n, .slice a.2.1 a.1.lock.kids.length a.2.2] 66)).alloc (.cells #[.int .i64 b.1.value, .int .u8 b.1.lock.kind, .string b.1.lock.term, .int .i64 b.1.lock.n, .slice b.2.1 b.1.lock.kids.length b.2.2] 66)).alloc (.cells #[.slice none 0 0, .slice none 0 0, .int .i64 0, .int .i64 0] 45)).heap[w.heap.size + 1 + 1 + 1]? = some (.cells #[.int .i64 b.1.value, .int .u8 b.1.lock.kind, .string b.1.lock.term, .int .i64 b.1.lock.n, .slice b.2.1 b.1.lock.kids.length b.2.2] 66) from allocs_at [(.cells #[.string tx, .int .i64 pn] 35), (.cells #[.int .i64 d.cap, .int .i64 d.push, .int .i64 d.dust, .int .i64 d.res, .int .i64 d.rate, .int .i64 d.delay, .int .i64 d.maxH, .int .i64 d.flight, .int .i64 d.minH] 23), (.cells #[.int .i64 a.1.value, .int .u8 a.1.lock.kind, .string a.1.lock.term, .int .i64 a.1.lock.n, .slice a.2.1 a.1.lock.kids.length a.2.2] 66), (.cells #[.int .i64 b.1.value, .int .u8 b.1.lock.kind, .string b.1.lock.term, .int .i64 b.1.lock.n, .slice b.2.1 b.1.lock.kids.length b.2.2] 66), (.cells #[.slice none 0 0, .slice none 0 0, .int .i64 0, .int .i64 0] 45)] w 3 _ rfl)
  have H4 := Lib.hid (show TxBox (((((w.alloc (.cells #[.string tx, .int .i64 pn] 35)).alloc (.cells #[.int .i64 d.cap, .int .i64 d.push, .int .i64 d.dust, .int .i64 d.res, .int .i64 d.rate, .int .i64 d.delay, .int .i64 d.maxH, .int .i64 d.flight, .int .i64 d.minH] 23)).alloc (.cells #[.int .i64 a.1.value, .int .u8 a.1.lock.kind, .string a.1.lock.term, .int .i64 a.1.lock.n, .slice a.2.1 a.1.lock.kids.length a.2.2] 66)).alloc (.cells #[.int .i64 b.1.value, .int .u8 b.1.lock.kind, .string b.1.lock.term, .int .i64 b.1.lock.n, .slice b.2.1 b.1.lock.kids.length b.2.2] 66)).alloc (.cells #[.slice none 0 0, .slice none 0 0, .int .i64 0, .int .i64 0] 45)) (w.heap.size + 1 + 1 + 1 + 1) none 0 0 none 0 0 0 0 from allocs_at [(.cells #[.string tx, .int .i64 pn] 35), (.cells #[.int .i64 d.cap, .int .i64 d.push, .int .i64 d.dust, .int .i64 d.res, .int .i64 d.rate, .int .i64 d.delay, .int .i64 d.maxH, .int .i64 d.flight, .int .i64 d.minH] 23), (.cells #[.int .i64 a.1.value, .int .u8 a.1.lock.kind, .string a.1.lock.term, .int .i64 a.1.lock.n, .slice a.2.1 a.1.lock.kids.length a.2.2] 66), (.cells #[.int .i64 b.1.value, .int .u8 b.1.lock.kind, .string b.1.lock.term, .int .i64 b.1.lock.n, .slice b.2.1 b.1.lock.kids.length b.2.2] 66), (.cells #[.slice none 0 0, .slice none 0 0, .int .i64 0, .int .i64 0] 45)] w 4 _ rfl)
  have HKK := Lib.hid (linesO_keep (d := d) hk)
  have HR := Lib.hid (fun W => right_deal d W)
  have HPT := Lib.hid hpt
  have hs5 : (((((w.alloc (.cells #[.string tx, .int .i64 pn] 35)).alloc (.cells #[.int .i64 d.cap, .int .i64 d.push, .int .i64 d.dust, .int .i64 d.res, .int .i64 d.rate, .int .i64 d.delay, .int .i64 d.maxH, .int .i64 d.flight, .int .i64 d.minH] 23)).alloc (.cells #[.int .i64 a.1.value, .int .u8 a.1.lock.kind, .string a.1.lock.term, .int .i64 a.1.lock.n, .slice a.2.1 a.1.lock.kids.length a.2.2] 66)).alloc (.cells #[.int .i64 b.1.value, .int .u8 b.1.lock.kind, .string b.1.lock.term, .int .i64 b.1.lock.n, .slice b.2.1 b.1.lock.kids.length b.2.2] 66)).alloc (.cells #[.slice none 0 0, .slice none 0 0, .int .i64 0, .int .i64 0] 45)).heap.size = w.heap.size + 1 + 1 + 1 + 1 + 1 := by simp
  have HV := Lib.hid hv
  have HT := Lib.hid ht
  clear hv ht
  have hll := linesO_len d [a, b]
  simp only [List.length_cons, List.length_nil, Nat.zero_add, Nat.reduceAdd] at hll
  obtain ⟨R, hR⟩ : ∃ R, closeE tx pn d [a, b] = R := ⟨_, rfl⟩
  rw [hR]
  unfold closeE at hR
  have HRE := Lib.hid hR
  unfold dealV at HR
  have d0 : (((((w.alloc (.cells #[.string tx, .int .i64 pn] 35)).alloc (.cells #[.int .i64 d.cap, .int .i64 d.push, .int .i64 d.dust, .int .i64 d.res, .int .i64 d.rate, .int .i64 d.delay, .int .i64 d.maxH, .int .i64 d.flight, .int .i64 d.minH] 23)).alloc (.cells #[.int .i64 a.1.value, .int .u8 a.1.lock.kind, .string a.1.lock.term, .int .i64 a.1.lock.n, .slice a.2.1 a.1.lock.kids.length a.2.2] 66)).alloc (.cells #[.int .i64 b.1.value, .int .u8 b.1.lock.kind, .string b.1.lock.term, .int .i64 b.1.lock.n, .slice b.2.1 b.1.lock.kids.length b.2.2] 66)).alloc (.cells #[.slice none 0 0, .slice none 0 0, .int .i64 0, .int .i64 0] 45)).cell? ⟨w.heap.size + 1, 0, none⟩ = some (.int .i64 d.cap) := cell_of (j := 0) H1.out rfl
  have d1 : (((((w.alloc (.cells #[.string tx, .int .i64 pn] 35)).alloc (.cells #[.int .i64 d.cap, .int .i64 d.push, .int .i64 d.dust, .int .i64 d.res, .int .i64 d.rate, .int .i64 d.delay, .int .i64 d.maxH, .int .i64 d.flight, .int .i64 d.minH] 23)).alloc (.cells #[.int .i64 a.1.value, .int .u8 a.1.lock.kind, .string a.1.lock.term, .int .i64 a.1.lock.n, .slice a.2.1 a.1.lock.kids.length a.2.2] 66)).alloc (.cells #[.int .i64 b.1.value, .int .u8 b.1.lock.kind, .string b.1.lock.term, .int .i64 b.1.lock.n, .slice b.2.1 b.1.lock.kids.length b.2.2] 66)).alloc (.cells #[.slice none 0 0, .slice none 0 0, .int .i64 0, .int .i64 0] 45)).cell? ⟨w.heap.size + 1, 1, none⟩ = some (.int .i64 d.push) := cell_of (j := 1) H1.out rfl
  have d2 : (((((w.alloc (.cells #[.string tx, .int .i64 pn] 35)).alloc (.cells #[.int .i64 d.cap, .int .i64 d.push, .int .i64 d.dust, .int .i64 d.res, .int .i64 d.rate, .int .i64 d.delay, .int .i64 d.maxH, .int .i64 d.flight, .int .i64 d.minH] 23)).alloc (.cells #[.int .i64 a.1.value, .int .u8 a.1.lock.kind, .string a.1.lock.term, .int .i64 a.1.lock.n, .slice a.2.1 a.1.lock.kids.length a.2.2] 66)).alloc (.cells #[.int .i64 b.1.value, .int .u8 b.1.lock.kind, .string b.1.lock.term, .int .i64 b.1.lock.n, .slice b.2.1 b.1.lock.kids.length b.2.2] 66)).alloc (.cells #[.slice none 0 0, .slice none 0 0, .int .i64 0, .int .i64 0] 45)).cell? ⟨w.heap.size + 1, 2, none⟩ = some (.int .i64 d.dust) := cell_of (j := 2) H1.out rfl
  have d3 : (((((w.alloc (.cells #[.string tx, .int .i64 pn] 35)).alloc (.cells #[.int .i64 d.cap, .int .i64 d.push, .int .i64 d.dust, .int .i64 d.res, .int .i64 d.rate, .int .i64 d.delay, .int .i64 d.maxH, .int .i64 d.flight, .int .i64 d.minH] 23)).alloc (.cells #[.int .i64 a.1.value, .int .u8 a.1.lock.kind, .string a.1.lock.term, .int .i64 a.1.lock.n, .slice a.2.1 a.1.lock.kids.length a.2.2] 66)).alloc (.cells #[.int .i64 b.1.value, .int .u8 b.1.lock.kind, .string b.1.lock.term, .int .i64 b.1.lock.n, .slice b.2.1 b.1.lock.kids.length b.2.2] 66)).alloc (.cells #[.slice none 0 0, .slice none 0 0, .int .i64 0, .int .i64 0] 45)).cell? ⟨w.heap.size + 1, 3, none⟩ = some (.int .i64 d.res) := cell_of (j := 3) H1.out rfl
  have d4 : (((((w.alloc (.cells #[.string tx, .int .i64 pn] 35)).alloc (.cells #[.int .i64 d.cap, .int .i64 d.push, .int .i64 d.dust, .int .i64 d.res, .int .i64 d.rate, .int .i64 d.delay, .int .i64 d.maxH, .int .i64 d.flight, .int .i64 d.minH] 23)).alloc (.cells #[.int .i64 a.1.value, .int .u8 a.1.lock.kind, .string a.1.lock.term, .int .i64 a.1.lock.n, .slice a.2.1 a.1.lock.kids.length a.2.2] 66)).alloc (.cells #[.int .i64 b.1.value, .int .u8 b.1.lock.kind, .string b.1.lock.term, .int .i64 b.1.lock.n, .slice b.2.1 b.1.lock.kids.length b.2.2] 66)).alloc (.cells #[.slice none 0 0, .slice none 0 0, .int .i64 0, .int .i64 0] 45)).cell? ⟨w.heap.size + 1, 4, none⟩ = some (.int .i64 d.rate) := cell_of (j := 4) H1.out rfl
  have d5 : (((((w.alloc (.cells #[.string tx, .int .i64 pn] 35)).alloc (.cells #[.int .i64 d.cap, .int .i64 d.push, .int .i64 d.dust, .int .i64 d.res, .int .i64 d.rate, .int .i64 d.delay, .int .i64 d.maxH, .int .i64 d.flight, .int .i64 d.minH] 23)).alloc (.cells #[.int .i64 a.1.value, .int .u8 a.1.lock.kind, .string a.1.lock.term, .int .i64 a.1.lock.n, .slice a.2.1 a.1.lock.kids.length a.2.2] 66)).alloc (.cells #[.int .i64 b.1.value, .int .u8 b.1.lock.kind, .string b.1.lock.term, .int .i64 b.1.lock.n, .slice b.2.1 b.1.lock.kids.length b.2.2] 66)).alloc (.cells #[.slice none 0 0, .slice none 0 0, .int .i64 0, .int .i64 0] 45)).cell? ⟨w.heap.size + 1, 5, none⟩ = some (.int .i64 d.delay) := cell_of (j := 5) H1.out rfl
  have d6 : (((((w.alloc (.cells #[.string tx, .int .i64 pn] 35)).alloc (.cells #[.int .i64 d.cap, .int .i64 d.push, .int .i64 d.dust, .int .i64 d.res, .int .i64 d.rate, .int .i64 d.delay, .int .i64 d.maxH, .int .i64 d.flight, .int .i64 d.minH] 23)).alloc (.cells #[.int .i64 a.1.value, .int .u8 a.1.lock.kind, .string a.1.lock.term, .int .i64 a.1.lock.n, .slice a.2.1 a.1.lock.kids.length a.2.2] 66)).alloc (.cells #[.int .i64 b.1.value, .int .u8 b.1.lock.kind, .string b.1.lock.term, .int .i64 b.1.lock.n, .slice b.2.1 b.1.lock.kids.length b.2.2] 66)).alloc (.cells #[.slice none 0 0, .slice none 0 0, .int .i64 0, .int .i64 0] 45)).cell? ⟨w.heap.size + 1, 6, none⟩ = some (.int .i64 d.maxH) := cell_of (j := 6) H1.out rfl
  have d7 : (((((w.alloc (.cells #[.string tx, .int .i64 pn] 35)).alloc (.cells #[.int .i64 d.cap, .int .i64 d.push, .int .i64 d.dust, .int .i64 d.res, .int .i64 d.rate, .int .i64 d.delay, .int .i64 d.maxH, .int .i64 d.flight, .int .i64 d.minH] 23)).alloc (.cells #[.int .i64 a.1.value, .int .u8 a.1.lock.kind, .string a.1.lock.term, .int .i64 a.1.lock.n, .slice a.2.1 a.1.lock.kids.length a.2.2] 66)).alloc (.cells #[.int .i64 b.1.value, .int .u8 b.1.lock.kind, .string b.1.lock.term, .int .i64 b.1.lock.n, .slice b.2.1 b.1.lock.kids.length b.2.2] 66)).alloc (.cells #[.slice none 0 0, .slice none 0 0, .int .i64 0, .int .i64 0] 45)).cell? ⟨w.heap.size + 1, 7, none⟩ = some (.int .i64 d.flight) := cell_of (j := 7) H1.out rfl
  have d8 : (((((w.alloc (.cells #[.string tx, .int .i64 pn] 35)).alloc (.cells #[.int .i64 d.cap, .int .i64 d.push, .int .i64 d.dust, .int .i64 d.res, .int .i64 d.rate, .int .i64 d.delay, .int .i64 d.maxH, .int .i64 d.flight, .int .i64 d.minH] 23)).alloc (.cells #[.int .i64 a.1.value, .int .u8 a.1.lock.kind, .string a.1.lock.term, .int .i64 a.1.lock.n, .slice a.2.1 a.1.lock.kids.length a.2.2] 66)).alloc (.cells #[.int .i64 b.1.value, .int .u8 b.1.lock.kind, .string b.1.lock.term, .int .i64 b.1.lock.n, .slice b.2.1 b.1.lock.kids.length b.2.2] 66)).alloc (.cells #[.slice none 0 0, .slice none 0 0, .int .i64 0, .int .i64 0] 45)).cell? ⟨w.heap.size + 1, 8, none⟩ = some (.int .i64 d.minH) := cell_of (j := 8) H1.out rfl
  clear hb0 hk hpt hR
  go_enter Tryz.func33, Tryz.ntmps33
  go_wp2_with fail
  generalize (((((w.alloc (.cells #[.string tx, .int .i64 pn] 35)).alloc (.cells #[.int .i64 d.cap, .int .i64 d.push, .int .i64 d.dust, .int .i64 d.res, .int .i64 d.rate, .int .i64 d.delay, .int .i64 d.maxH, .int .i64 d.flight, .int .i64 d.minH] 23)).alloc (.cells #[.int .i64 a.1.value, .int .u8 a.1.lock.kind, .string a.1.lock.term, .int .i64 a.1.lock.n, .slice a.2.1 a.1.lock.kids.length a.2.2] 66)).alloc (.cells #[.int .i64 b.1.value, .int .u8 b.1.lock.kind, .string b.1.lock.term, .int .i64 b.1.lock.n, .slice b.2.1 b.1.lock.kids.length b.2.2] 66)).alloc (.cells #[.slice none 0 0, .slice none 0 0, .int .i64 0, .int .i64 0] 45)) = V at HB H0 H1 H2 H3 H4 hs5 d0 d1 d2 d3 d4 d5 d6 d7 d8 ⊢
  go_wp2_with fail
  refine (HR.out _).mono ?_
  rintro e w1 ⟨rfl, hb1⟩
  have h0 := (hb1.block _ (lt_of_block H0.out)).trans H0.out
  have h1 := (hb1.block _ (lt_of_block H1.out)).trans H1.out
  have h2 := (hb1.block _ (lt_of_block H2.out)).trans H2.out
  have h3 := (hb1.block _ (lt_of_block H3.out)).trans H3.out
  have h4 := H4.out.below hb1
  have HB1 := Lib.hid (HB.out.trans (hb1.mono HB.out.size))
  have hs1 : w.heap.size + 1 + 1 + 1 + 1 + 1 ≤ w1.heap.size := by have := hb1.size; omega
  have G0 := Lib.hid h0
  have G1 := Lib.hid h1
  have G2 := Lib.hid h2
  have G3 := Lib.hid h3
  have G4 := Lib.hid h4
  clear hb1 h0 h1 h2 h3 h4 HB H0 H1 H2 H3 H4 hs5 d0 d1 d2 d3 d4 d5 d6 d7 d8
  by_cases hd : dealE d = 0
  · have HRE2 := Lib.hid (show ((wholeE tx pn ((linesO d [a, b]).map (·.1)) 0).1, (wholeE tx pn ((linesO d [a, b]).map (·.1)) 0).2.2) = R by rw [← HRE.out, if_pos hd])
    have hdz : (dealE d != 0) = false := by simp [hd]
    clear hd
    have a0 : w1.cell? ⟨w.heap.size + 1 + 1, 0, none⟩ = some (.int .i64 a.1.value) := cell_of (j := 0) G2.out rfl
    have a1 : w1.cell? ⟨w.heap.size + 1 + 1, 1, none⟩ = some (.int .u8 a.1.lock.kind) := cell_of (j := 1) G2.out rfl
    have a2 : w1.cell? ⟨w.heap.size + 1 + 1, 2, none⟩ = some (.string a.1.lock.term) := cell_of (j := 2) G2.out rfl
    have a3 : w1.cell? ⟨w.heap.size + 1 + 1, 3, none⟩ = some (.int .i64 a.1.lock.n) := cell_of (j := 3) G2.out rfl
    have a4 : w1.cell? ⟨w.heap.size + 1 + 1, 4, none⟩ = some (.slice a.2.1 a.1.lock.kids.length a.2.2) := cell_of (j := 4) G2.out rfl
    have b0 : w1.cell? ⟨w.heap.size + 1 + 1 + 1, 0, none⟩ = some (.int .i64 b.1.value) := cell_of (j := 0) G3.out rfl
    have b1 : w1.cell? ⟨w.heap.size + 1 + 1 + 1, 1, none⟩ = some (.int .u8 b.1.lock.kind) := cell_of (j := 1) G3.out rfl
    have b2 : w1.cell? ⟨w.heap.size + 1 + 1 + 1, 2, none⟩ = some (.string b.1.lock.term) := cell_of (j := 2) G3.out rfl
    have b3 : w1.cell? ⟨w.heap.size + 1 + 1 + 1, 3, none⟩ = some (.int .i64 b.1.lock.n) := cell_of (j := 3) G3.out rfl
    have b4 : w1.cell? ⟨w.heap.size + 1 + 1 + 1, 4, none⟩ = some (.slice b.2.1 b.1.lock.kids.length b.2.2) := cell_of (j := 4) G3.out rfl
    go_wp2_with fail
    have hbr : Below w1.heap.size w1 (w1.alloc (.cells #[.int .i64 a.1.value, .int .u8 a.1.lock.kind, .string a.1.lock.term, .int .i64 a.1.lock.n, .slice a.2.1 a.1.lock.kids.length a.2.2, .int .i64 b.1.value, .int .u8 b.1.lock.kind, .string b.1.lock.term, .int .i64 b.1.lock.n, .slice b.2.1 b.1.lock.kids.length b.2.2] 66)) := (Below.refl _ _).alloc (Nat.le_refl _) _
    have hro : (w1.alloc (.cells #[.int .i64 a.1.value, .int .u8 a.1.lock.kind, .string a.1.lock.term, .int .i64 a.1.lock.n, .slice a.2.1 a.1.lock.kids.length a.2.2, .int .i64 b.1.value, .int .u8 b.1.lock.kind, .string b.1.lock.term, .int .i64 b.1.lock.n, .slice b.2.1 b.1.lock.kids.length b.2.2] 66)).heap[w1.heap.size]? = some (.cells #[.int .i64 a.1.value, .int .u8 a.1.lock.kind, .string a.1.lock.term, .int .i64 a.1.lock.n, .slice a.2.1 a.1.lock.kids.length a.2.2, .int .i64 b.1.value, .int .u8 b.1.lock.kind, .string b.1.lock.term, .int .i64 b.1.lock.n, .slice b.2.1 b.1.lock.kids.length b.2.2] 66) := Go.heap_alloc_new w1 _
    have HCO := Lib.hid (show Cells (w1.alloc (.cells #[.int .i64 a.1.value, .int .u8 a.1.lock.kind, .string a.1.lock.term, .int .i64 a.1.lock.n, .slice a.2.1 a.1.lock.kids.length a.2.2, .int .i64 b.1.value, .int .u8 b.1.lock.kind, .string b.1.lock.term, .int .i64 b.1.lock.n, .slice b.2.1 b.1.lock.kids.length b.2.2] 66)) (some ⟨w1.heap.size, 0, none⟩) ([a, b].flatMap outC) by
      have := fresh_cells w1 #[.int .i64 a.1.value, .int .u8 a.1.lock.kind, .string a.1.lock.term, .int .i64 a.1.lock.n, .slice a.2.1 a.1.lock.kids.length a.2.2, .int .i64 b.1.value, .int .u8 b.1.lock.kind, .string b.1.lock.term, .int .i64 b.1.lock.n, .slice b.2.1 b.1.lock.kids.length b.2.2] 66
      simpa [outC] using this)
    have h0 := (hbr.block _ (lt_of_block G0.out)).trans G0.out
    have h1 := (hbr.block _ (lt_of_block G1.out)).trans G1.out
    have h4 := G4.out.below hbr
    have HB2 := Lib.hid (HB1.out.trans (hbr.mono HB1.out.size))
    have hs2 : w.heap.size + 1 + 1 + 1 + 1 + 1 ≤ (w1.alloc (.cells #[.int .i64 a.1.value, .int .u8 a.1.lock.kind, .string a.1.lock.term, .int .i64 a.1.lock.n, .slice a.2.1 a.1.lock.kids.length a.2.2, .int .i64 b.1.value, .int .u8 b.1.lock.kind, .string b.1.lock.term, .int .i64 b.1.lock.n, .slice b.2.1 b.1.lock.kids.length b.2.2] 66)).heap.size := Nat.le_trans hs1 hbr.size
    clear hbr hro a0 b0 a1 b1 a2 b2 a3 b3 a4 b4
    generalize w1.alloc (.cells #[.int .i64 a.1.value, .int .u8 a.1.lock.kind, .string a.1.lock.term, .int .i64 a.1.lock.n, .slice a.2.1 a.1.lock.kids.length a.2.2, .int .i64 b.1.value, .int .u8 b.1.lock.kind, .string b.1.lock.term, .int .i64 b.1.lock.n, .slice b.2.1 b.1.lock.kids.length b.2.2] 66) = V2 at HCO h0 h1 h4 HB2 hs2 ⊢
    generalize (⟨w1.heap.size, 0, none⟩ : Addr) = la at HCO ⊢
    have F0 := Lib.hid h0
    have F1 := Lib.hid h1
    have F4 := Lib.hid h4
    clear h0 h1 h4
    go_loopw [11, 27] (fun vl i wr => ∃ (k : Nat) (vL : Value), vL = vl ∧ k ≤ 2 ∧ i = .int .i64 (k : Int) ∧ Below V2.heap.size V2 wr ∧ wr.ownsRow V2.heap.size 81 7 vL (linesO d ([a, b].take k)).length (((linesO d ([a, b].take k)).map Prod.snd).flatMap LineR.enc)) (fun _ i _ => 2 - (intOf i).toNat)
    case atStart => exact ⟨0, _, rfl, Nat.zero_le _, rfl, Below.refl _ _, World.ownsRow_nil _ _ _ _⟩
    case round =>
      obtain ⟨k, vL, rfl, hk2, rfl, hbr, hown⟩ := hrel
      have HBR := Lib.hid hbr
      by_cases hlt : k < 2
      · have hlt2 : k < [a, b].length := hlt
        have hsn := linesO_snoc d ([a, b].take k) [a, b][k]
        rw [← List.take_succ_eq_append_getElem hlt2] at hsn
        have hcq := fun (c : Nat) (u : Value) (hc : c < 5) (hu : (outC [a, b][k])[c]? = some u) => (HCO.out.below hbr)
        obtain ⟨q, hq⟩ : ∃ q, [a, b][k] = q := ⟨_, rfl⟩
        have hcl : ∀ (c : Nat) (u : Value), c < 5 → (outC q)[c]? = some u → wr.cell? (la.add (k * 5 + c)) = some u := fun c u hc hu => by
          obtain ⟨ad, he, hcc⟩ := (HCO.out.below hbr) (by simp [outC])
          injection he with he
          subst he
          refine hcc _ _ ?_
          rw [fm_get outC 5 (fun _ => rfl) [a, b] k hlt2 c hc, hq]
          exact hu
        rw [hq] at hsn
        clear hcq
        have q0 : wr.cell? (la.add (k * 5)) = some (.int .i64 q.1.value) := hcl 0 _ (by decide) rfl
        have q1 : wr.cell? ⟨(la.add (k * 5)).block, (la.add (k * 5)).off + 1, none⟩ = some (.int .u8 q.1.lock.kind) := by rw [add_next _ _ _ (by decide)]; exact hcl 1 _ (by decide) rfl
        have q2 : wr.cell? ⟨(la.add (k * 5)).block, (la.add (k * 5)).off + 2, none⟩ = some (.string q.1.lock.term) := by rw [add_next _ _ _ (by decide)]; exact hcl 2 _ (by decide) rfl
        have q3 : wr.cell? ⟨(la.add (k * 5)).block, (la.add (k * 5)).off + 3, none⟩ = some (.int .i64 q.1.lock.n) := by rw [add_next _ _ _ (by decide)]; exact hcl 3 _ (by decide) rfl
        have q4 : wr.cell? ⟨(la.add (k * 5)).block, (la.add (k * 5)).off + 4, none⟩ = some (.slice q.2.1 q.1.lock.kids.length q.2.2) := by rw [add_next _ _ _ (by decide)]; exact hcl 4 _ (by decide) rfl
        have hbo : Below wr.heap.size wr (wr.alloc (.cells #[.int .i64 q.1.value, .int .u8 q.1.lock.kind, .string q.1.lock.term, .int .i64 q.1.lock.n, .slice q.2.1 q.1.lock.kids.length q.2.2] 66)) := (Below.refl _ _).alloc (Nat.le_refl _) _
        have hbx : (wr.alloc (.cells #[.int .i64 q.1.value, .int .u8 q.1.lock.kind, .string q.1.lock.term, .int .i64 q.1.lock.n, .slice q.2.1 q.1.lock.kids.length q.2.2] 66)).heap[wr.heap.size]? = some (.cells #[.int .i64 q.1.value, .int .u8 q.1.lock.kind, .string q.1.lock.term, .int .i64 q.1.lock.n, .slice q.2.1 q.1.lock.kids.length q.2.2] 66) := Go.heap_alloc_new wr _
        have dd : (wr.alloc (.cells #[.int .i64 q.1.value, .int .u8 q.1.lock.kind, .string q.1.lock.term, .int .i64 q.1.lock.n, .slice q.2.1 q.1.lock.kids.length q.2.2] 66)).cell? ⟨w.heap.size + 1, 2, none⟩ = some (.int .i64 d.dust) := cell_below (hbr.trans (hbo.mono hbr.size)) (cell_of (j := 2) F1.out rfl)
        have e0 : (wr.alloc (.cells #[.int .i64 q.1.value, .int .u8 q.1.lock.kind, .string q.1.lock.term, .int .i64 q.1.lock.n, .slice q.2.1 q.1.lock.kids.length q.2.2] 66)).cell? ⟨wr.heap.size, 0, none⟩ = some (.int .i64 q.1.value) := cell_of (j := 0) hbx rfl
        have e1 : (wr.alloc (.cells #[.int .i64 q.1.value, .int .u8 q.1.lock.kind, .string q.1.lock.term, .int .i64 q.1.lock.n, .slice q.2.1 q.1.lock.kids.length q.2.2] 66)).cell? ⟨wr.heap.size, 1, none⟩ = some (.int .u8 q.1.lock.kind) := cell_of (j := 1) hbx rfl
        have e2 : (wr.alloc (.cells #[.int .i64 q.1.value, .int .u8 q.1.lock.kind, .string q.1.lock.term, .int .i64 q.1.lock.n, .slice q.2.1 q.1.lock.kids.length q.2.2] 66)).cell? ⟨wr.heap.size, 2, none⟩ = some (.string q.1.lock.term) := cell_of (j := 2) hbx rfl
        have e3 : (wr.alloc (.cells #[.int .i64 q.1.value, .int .u8 q.1.lock.kind, .string q.1.lock.term, .int .i64 q.1.lock.n, .slice q.2.1 q.1.lock.kids.length q.2.2] 66)).cell? ⟨wr.heap.size, 3, none⟩ = some (.int .i64 q.1.lock.n) := cell_of (j := 3) hbx rfl
        have e4 : (wr.alloc (.cells #[.int .i64 q.1.value, .int .u8 q.1.lock.kind, .string q.1.lock.term, .int .i64 q.1.lock.n, .slice q.2.1 q.1.lock.kids.length q.2.2] 66)).cell? ⟨wr.heap.size, 4, none⟩ = some (.slice q.2.1 q.1.lock.kids.length q.2.2) := cell_of (j := 4) hbx rfl
        obtain ⟨n, hn⟩ : ∃ n, (linesO d ([a, b].take k)).length = n := ⟨_, rfl⟩
        have hnl : n ≤ 2 := by rw [← hn]; exact Nat.le_trans (linesO_len d _) (by rw [List.length_take]; omega)
        rw [hn] at hown
        by_cases hbig : d.dust ≤ q.1.value
        · have hs2' : bigO d q = true := decide_eq_true hbig
          rw [hs2', if_pos rfl] at hsn
          have HSN := Lib.hid hsn
          have HNN := Lib.hid hn
          have hbl0 : Below wr.heap.size wr ((wr.alloc (.cells #[.int .i64 q.1.value, .int .u8 q.1.lock.kind, .string q.1.lock.term, .int .i64 q.1.lock.n, .slice q.2.1 q.1.lock.kids.length q.2.2] 66)).alloc (.cells #[.int .i64 q.1.value, .int .u8 q.1.lock.kind, .string q.1.lock.term, .int .i64 q.1.lock.n, .slice q.2.1 q.1.lock.kids.length q.2.2, .int .i64 0, .string ⟨#[]⟩] 81)) := hbo.alloc hbo.size _
          have HOL := Lib.hid (show ((wr.alloc (.cells #[.int .i64 q.1.value, .int .u8 q.1.lock.kind, .string q.1.lock.term, .int .i64 q.1.lock.n, .slice q.2.1 q.1.lock.kids.length q.2.2] 66)).alloc (.cells #[.int .i64 q.1.value, .int .u8 q.1.lock.kind, .string q.1.lock.term, .int .i64 q.1.lock.n, .slice q.2.1 q.1.lock.kids.length q.2.2, .int .i64 0, .string ⟨#[]⟩] 81)).ownsRow V2.heap.size 81 7 vL n (((linesO d ([a, b].take k)).map Prod.snd).flatMap LineR.enc) from own_below hown hbl0)
          have HFC := Lib.hid (show Cells ((wr.alloc (.cells #[.int .i64 q.1.value, .int .u8 q.1.lock.kind, .string q.1.lock.term, .int .i64 q.1.lock.n, .slice q.2.1 q.1.lock.kids.length q.2.2] 66)).alloc (.cells #[.int .i64 q.1.value, .int .u8 q.1.lock.kind, .string q.1.lock.term, .int .i64 q.1.lock.n, .slice q.2.1 q.1.lock.kids.length q.2.2, .int .i64 0, .string ⟨#[]⟩] 81)) (some ⟨wr.heap.size + 1, 0, none⟩) [.int .i64 q.1.value, .int .u8 q.1.lock.kind, .string q.1.lock.term, .int .i64 q.1.lock.n, .slice q.2.1 q.1.lock.kids.length q.2.2, .int .i64 0, .string ⟨#[]⟩] by
            have := fresh_cells (wr.alloc (.cells #[.int .i64 q.1.value, .int .u8 q.1.lock.kind, .string q.1.lock.term, .int .i64 q.1.lock.n, .slice q.2.1 q.1.lock.kids.length q.2.2] 66)) #[.int .i64 q.1.value, .int .u8 q.1.lock.kind, .string q.1.lock.term, .int .i64 q.1.lock.n, .slice q.2.1 q.1.lock.kids.length q.2.2, .int .i64 0, .string ⟨#[]⟩] 81
            simpa using this)
          have HBL := Lib.hid (hbr.trans (hbl0.mono hbr.size))
          have hsz1 : V2.heap.size ≤ ((wr.alloc (.cells #[.int .i64 q.1.value, .int .u8 q.1.lock.kind, .string q.1.lock.term, .int .i64 q.1.lock.n, .slice q.2.1 q.1.lock.kids.length q.2.2] 66)).alloc (.cells #[.int .i64 q.1.value, .int .u8 q.1.lock.kind, .string q.1.lock.term, .int .i64 q.1.lock.n, .slice q.2.1 q.1.lock.kids.length q.2.2, .int .i64 0, .string ⟨#[]⟩] 81)).heap.size := Nat.le_trans hbr.size hbl0.size
          have hn1 : (n + 1) * 88 ≤ 140737488355328 := by omega
          have hn2 : n + 1 ≤ 140737488355328 := by omega
          have HN1 := Lib.hid hn1
          have HN2 := Lib.hid hn2
          have HSZ := Lib.hid hsz1
          clear hn hn1 hn2 hsn hbo hbx hbl0 hown hsz1 hs2'
          go_wp2_with (at_builtin; refine wpList_appk slLine rfl _ _ rfl V2.heap.size _ n _ rfl HOL.out (some ⟨wr.heap.size + 1, 0, none⟩) 1 1 [.int .i64 q.1.value, .int .u8 q.1.lock.kind, .string q.1.lock.term, .int .i64 q.1.lock.n, .slice q.2.1 q.1.lock.kids.length q.2.2, .int .i64 0, .string ⟨#[]⟩] rfl rfl HFC.out (LineR.enc_one (lineOf q).2) HN1.out HN2.out HSZ.out ?_; intro v' w6 hown hgr hbl hat)
          have hend : w6.ownsRow V2.heap.size 81 7 v' (linesO d ([a, b].take (k + 1))).length (((linesO d ([a, b].take (k + 1))).map Prod.snd).flatMap LineR.enc) := by
            rw [HSN.out, List.length_append, List.map_append, List.flatMap_append, HNN.out]
            exact hown
          have HEND := Lib.hid hend
          have HBE := Lib.hid (HBL.out.trans hbl)
          clear hend hown hgr hbl hat
          go_roundw
          case rel => exact ⟨k + 1, v', rfl, by omega, by go_num, HBE.out, HEND.out⟩
          case measure => simp [intOf]; omega
        · have hs2' : bigO d q = false := decide_eq_false hbig
          rw [hs2', if_neg (by decide)] at hsn
          rw [← hn, ← hsn] at hown
          have HEND := Lib.hid (show (wr.alloc (.cells #[.int .i64 q.1.value, .int .u8 q.1.lock.kind, .string q.1.lock.term, .int .i64 q.1.lock.n, .slice q.2.1 q.1.lock.kids.length q.2.2] 66)).ownsRow V2.heap.size 81 7 vL (linesO d ([a, b].take (k + 1))).length (((linesO d ([a, b].take (k + 1))).map Prod.snd).flatMap LineR.enc) from own_below hown hbo)
          have HBE := Lib.hid (hbr.trans (hbo.mono hbr.size))
          clear hn hsn hbo hbx hown hs2'
          go_wp2_with fail
          go_roundw
          case rel => exact ⟨k + 1, vL, rfl, by omega, by go_num, HBE.out, HEND.out⟩
          case measure => simp [intOf]; omega
      · have hkn : k = 2 := by omega
        subst hkn
        have hown2 : wr.ownsRow V2.heap.size 81 7 vL (linesO d [a, b]).length (((linesO d [a, b]).map Prod.snd).flatMap LineR.enc) := hown
        have hbw := HB2.out.trans (hbr.mono HB2.out.size)
        have p0 : wr.cell? ⟨w.heap.size, 0, none⟩ = some (.string tx) := cell_below hbr (cell_of (j := 0) F0.out rfl)
        have p1 : wr.cell? ⟨w.heap.size, 1, none⟩ = some (.int .i64 pn) := cell_below hbr (cell_of (j := 1) F0.out rfl)
        have hwq := whole_q tx pn 0 (linesO d [a, b]) vL V2.heap.size w wr (by omega) hbw HB2.out.size hown2 (fun r hr => (HKK.out r hr).mono hbw (DepEq.below hbw)) HPT.out htx HV.out HT.out
        have h4 := F4.out.below hbr
        have HWQ := Lib.hid hwq
        have HBW := Lib.hid hbw
        have H4 := Lib.hid h4
        have hv4 : w.heap.size + 1 + 1 + 1 + 1 + 1 ≤ V2.heap.size := hs2
        have hv5 := hbr.size
        have hv6 := HB2.out.size
        clear hwq hbw h4 hown hown2 hbr hlt hk2
        go_wp2_with fail
        refine HWQ.out.mono ?_
        rintro e wA ⟨t, ws, rfl, ⟨A, ca, B, cb, rfl, hT⟩, -, F, hFb, hfA⟩
        have HT2 := Lib.hid hT
        have hbA : TxBox wA (w.heap.size + 1 + 1 + 1 + 1) none 0 0 none 0 0 0 0 := (hfA.block _ (lt_of_block H4.out) (fun h => by have := hFb _ h; omega)).trans H4.out
        have hBA : Below w.heap.size w wA := HBW.out.trans (hfA.toBelowOf (B := w.heap.size) HBW.out.size (fun i hi => Nat.le_trans hv6 (hFb i hi)))
        obtain ⟨t1, e1, hR1, hR2⟩ : ∃ t1 e1, (wholeE tx pn ((linesO d [a, b]).map (·.1)) 0).1 = t1 ∧ (wholeE tx pn ((linesO d [a, b]).map (·.1)) 0).2.2 = e1 := ⟨_, _, rfl, rfl⟩
        rw [hR1] at HT2 ⊢
        rw [hR1, hR2] at HRE2
        rw [hR2]
        have HBA := Lib.hid hbA
        have HBB := Lib.hid hBA
        have hb7 : Below wA.heap.size wA (wA.alloc (.cells #[.slice A t1.ins.length ca, .slice B t1.outs.length cb, .int .i64 t1.after, .int .i64 t1.tag] 45)) := (Below.refl _ _).alloc (Nat.le_refl _) _
        have hx7 : TxBox (wA.alloc (.cells #[.slice A t1.ins.length ca, .slice B t1.outs.length cb, .int .i64 t1.after, .int .i64 t1.tag] 45)) wA.heap.size A t1.ins.length ca B t1.outs.length cb t1.after t1.tag := Go.heap_alloc_new wA _
        obtain ⟨y0, y1, y2, y3⟩ := hx7.cells
        have h47 := HBA.out.below hb7
        obtain ⟨z0, z1, z2, z3⟩ := h47.cells
        have zf := h47.frozen
        have H47 := Lib.hid h47
        have HB7 := Lib.hid hb7
        clear hT hbA hBA hfA hFb hR1 hR2 p0 p1 hb7 hx7 h47
        go_wp2_with fail
        change bodyPost _ _ _ _ _ (putL (wA.alloc (.cells #[.slice A t1.ins.length ca, .slice B t1.outs.length cb, .int .i64 t1.after, .int .i64 t1.tag] 45)) (w.heap.size + 1 + 1 + 1 + 1) (.slice A t1.ins.length ca) (.slice B t1.outs.length cb) (.int .i64 t1.after) (.int .i64 t1.tag))
        generalize wA.alloc (.cells #[.slice A t1.ins.length ca, .slice B t1.outs.length cb, .int .i64 t1.after, .int .i64 t1.tag] 45) = WB at H47 HB7 ⊢
        have hP := H47.out.put A t1.ins.length ca B t1.outs.length cb t1.after t1.tag
        have hF := putL_fr WB (w.heap.size + 1 + 1 + 1 + 1) (.slice A t1.ins.length ca) (.slice B t1.outs.length cb) (.int .i64 t1.after) (.int .i64 t1.tag) (F := [w.heap.size + 1 + 1 + 1 + 1]) (List.mem_singleton.2 rfl)
        generalize putL WB (w.heap.size + 1 + 1 + 1 + 1) (.slice A t1.ins.length ca) (.slice B t1.outs.length cb) (.int .i64 t1.after) (.int .i64 t1.tag) = Wf at hP hF ⊢
        have hBB := HBB.out.trans (HB7.out.mono HBB.out.size)
        have hBt := hF.toBelowOf (B := w.heap.size) hBB.size (fun i hi => by rw [List.mem_singleton.1 hi]; omega)
        have hSt := (Stay.below HB7.out).trans (stay_tx H47.out hF)
        obtain ⟨u0, u1, u2, u3⟩ := hP.cells
        rw [← HRE2.out]
        exact bodyPost_ret (v := .tuple #[.agg #[.slice A t1.ins.length ca, .slice B t1.outs.length cb, .int .i64 t1.after, .int .i64 t1.tag], .int .i64 e1]) (by simp [results, Tryz.results33, go_sem, u0, u1, u2, u3]) rfl ⟨_, rfl, ⟨A, ca, B, cb, rfl, fun W x y => HT2.out W (((HB7.out.mono HBB.out.size).trans hBt).trans x) (hSt.trans y)⟩, hBB.trans hBt⟩
  · have HRE2 := Lib.hid (show (zeroTx, dealE d) = R by rw [← HRE.out, if_neg hd])
    have hdz : (dealE d != 0) = true := by simp [hd]
    obtain ⟨z0, z1, z2, z3⟩ := G4.out.cells
    have zf := G4.out.frozen
    obtain ⟨de, hde⟩ : ∃ de, dealE d = de := ⟨_, rfl⟩
    rw [hde] at hdz HRE2 ⊢
    clear hd hde
    go_wp2_with fail
    change bodyPost _ _ _ _ _ (putL w1 (w.heap.size + 1 + 1 + 1 + 1) (.slice none 0 0) (.slice none 0 0) (.int .i64 0) (.int .i64 0))
    have hP := G4.out.put none 0 0 none 0 0 0 0
    have hF := putL_fr w1 (w.heap.size + 1 + 1 + 1 + 1) (.slice none 0 0) (.slice none 0 0) (.int .i64 0) (.int .i64 0) (F := [w.heap.size + 1 + 1 + 1 + 1]) (List.mem_singleton.2 rfl)
    generalize putL w1 (w.heap.size + 1 + 1 + 1 + 1) (.slice none 0 0) (.slice none 0 0) (.int .i64 0) (.int .i64 0) = Wf at hP hF ⊢
    obtain ⟨u0, u1, u2, u3⟩ := hP.cells
    rw [← HRE2.out]
    exact bodyPost_ret (v := .tuple #[.agg #[.slice none 0 0, .slice none 0 0, .int .i64 0, .int .i64 0], .int .i64 de]) (by simp [results, Tryz.results33, go_sem, u0, u1, u2, u3]) rfl ⟨_, rfl, TxF.zero _ _, HB1.out.trans (hF.toBelowOf HB1.out.size (fun i hi => by rw [List.mem_singleton.1 hi]; omega))⟩
end Go.Proofs.YtncniomiplnaaaaGreatDoor
namespace Go.Proofs.YtncniomiplnaaaaGreatDoor
open Go.RowKit
set_option maxRecDepth 100000 in
set_option maxHeartbeats 16000000 in
theorem rclose_any (tx : ByteArray) (pn : Int) (d : DealR) (a b : OutQ) (w : World) (hpt : ptOk ⟨tx, pn, 0⟩) (htx : tx.size ≤ 1125899906842624) (hk : ∀ q ∈ [a, b], smallT q.1.lock ∧ LockC w q.1.lock [.int .u8 q.1.lock.kind, .string q.1.lock.term, .int .i64 q.1.lock.n, .slice q.2.1 q.1.lock.kids.length q.2.2]) :
    Calls Tryz.prog 34 #[.agg #[.string tx, .int .i64 pn], dealV d, outV a, outV b] w fun e w' => ∃ t, e = .returned (.tuple #[t, .int .i64 (closeE tx pn d [a, b]).2]) ∧ TxF w.heap.size w' (closeE tx pn d [a, b]).1 t ∧ Below w.heap.size w w' := by
  unfold dealV outV
  have hb0 : Below w.heap.size w (((((w.alloc (.cells #[.string tx, .int .i64 pn] 35)).alloc (.cells #[.int .i64 d.cap, .int .i64 d.push, .int .i64 d.dust, .int .i64 d.res, .int .i64 d.rate, .int .i64 d.delay, .int .i64 d.maxH, .int .i64 d.flight, .int .i64 d.minH] 23)).alloc (.cells #[.int .i64 a.1.value, .int .u8 a.1.lock.kind, .string a.1.lock.term, .int .i64 a.1.lock.n, .slice a.2.1 a.1.lock.kids.length a.2.2] 66)).alloc (.cells #[.int .i64 b.1.value, .int .u8 b.1.lock.kind, .string b.1.lock.term, .int .i64 b.1.lock.n, .slice b.2.1 b.1.lock.kids.length b.2.2] 66)).alloc (.cells #[.slice none 0 0, .slice none 0 0, .int .i64 0, .int .i64 0] 45)) := (((((Below.refl w.heap.size w).alloc (Nat.le_refl _) (.cells #[.string tx, .int .i64 pn] 35)).alloc (by simp) (.cells #[.int .i64 d.cap, .int .i64 d.push, .int .i64 d.dust, .int .i64 d.res, .int .i64 d.rate, .int .i64 d.delay, .int .i64 d.maxH, .int .i64 d.flight, .int .i64 d.minH] 23)).alloc (by simp; try omega) (.cells #[.int .i64 a.1.value, .int .u8 a.1.lock.kind, .string a.1.lock.term, .int .i64 a.1.lock.n, .slice a.2.1 a.1.lock.kids.length a.2.2] 66)).alloc (by simp; try omega) (.cells #[.int .i64 b.1.value, .int .u8 b.1.lock.kind, .string b.1.lock.term, .int .i64 b.1.lock.n, .slice b.2.1 b.1.lock.kids.length b.2.2] 66)).alloc (by simp; try omega) (.cells #[.slice none 0 0, .slice none 0 0, .int .i64 0, .int .i64 0] 45)
  have HB := Lib.hid hb0
  have H0 := Lib.hid (show (((((w.alloc (.cells #[.string tx, .int .i64 pn] 35)).alloc (.cells #[.int .i64 d.cap, .int .i64 d.push, .int .i64 d.dust, .int .i64 d.res, .int .i64 d.rate, .int .i64 d.delay, .int .i64 d.maxH, .int .i64 d.flight, .int .i64 d.minH] 23)).alloc (.cells #[.int .i64 a.1.value, .int .u8 a.1.lock.kind, .string a.1.lock.term, .int .i64 a.1.lock.n, .slice a.2.1 a.1.lock.kids.length a.2.2] 66)).alloc (.cells #[.int .i64 b.1.value, .int .u8 b.1.lock.kind, .string b.1.lock.term, .int .i64 b.1.lock.n, .slice b.2.1 b.1.lock.kids.length b.2.2] 66)).alloc (.cells #[.slice none 0 0, .slice none 0 0, .int .i64 0, .int .i64 0] 45)).heap[w.heap.size]? = some (.cells #[.string tx, .int .i64 pn] 35) from allocs_at [(.cells #[.string tx, .int .i64 pn] 35), (.cells #[.int .i64 d.cap, .int .i64 d.push, .int .i64 d.dust, .int .i64 d.res, .int .i64 d.rate, .int .i64 d.delay, .int .i64 d.maxH, .int .i64 d.flight, .int .i64 d.minH] 23), (.cells #[.int .i64 a.1.value, .int .u8 a.1.lock.kind, .string a.1.lock.term, .int .i64 a.1.lock.n, .slice a.2.1 a.1.lock.kids.length a.2.2] 66), (.cells #[.int .i64 b.1.value, .int .u8 b.1.lock.kind, .string b.1.lock.term, .int .i64 b.1.lock.n, .slice b.2.1 b.1.lock.kids.length b.2.2] 66), (.cells #[.slice none 0 0, .slice none 0 0, .int .i64 0, .int .i64 0] 45)] w 0 _ rfl)
  have H1 := Lib.hid (show (((((w.alloc (.cells #[.string tx, .int .i64 pn] 35)).alloc (.cells #[.int .i64 d.cap, .int .i64 d.push, .int .i64 d.dust, .int .i64 d.res, .int .i64 d.rate, .int .i64 d.delay, .int .i64 d.maxH, .int .i64 d.flight, .int .i64 d.minH] 23)).alloc (.cells #[.int .i64 a.1.value, .int .u8 a.1.lock.kind, .string a.1.lock.term, .int .i64 a.1.lock.n, .slice a.2.1 a.1.lock.kids.length a.2.2] 66)).alloc (.cells #[.int .i64 b.1.value, .int .u8 b.1.lock.kind, .string b.1.lock.term, .int .i64 b.1.lock.n, .slice b.2.1 b.1.lock.kids.length b.2.2] 66)).alloc (.cells #[.slice none 0 0, .slice none 0 0, .int .i64 0, .int .i64 0] 45)).heap[w.heap.size + 1]? = some (.cells #[.int .i64 d.cap, .int .i64 d.push, .int .i64 d.dust, .int .i64 d.res, .int .i64 d.rate, .int .i64 d.delay, .int .i64 d.maxH, .int .i64 d.flight, .int .i64 d.minH] 23) from allocs_at [(.cells #[.string tx, .int .i64 pn] 35), (.cells #[.int .i64 d.cap, .int .i64 d.push, .int .i64 d.dust, .int .i64 d.res, .int .i64 d.rate, .int .i64 d.delay, .int .i64 d.maxH, .int .i64 d.flight, .int .i64 d.minH] 23), (.cells #[.int .i64 a.1.value, .int .u8 a.1.lock.kind, .string a.1.lock.term, .int .i64 a.1.lock.n, .slice a.2.1 a.1.lock.kids.length a.2.2] 66), (.cells #[.int .i64 b.1.value, .int .u8 b.1.lock.kind, .string b.1.lock.term, .int .i64 b.1.lock.n, .slice b.2.1 b.1.lock.kids.length b.2.2] 66), (.cells #[.slice none 0 0, .slice none 0 0, .int .i64 0, .int .i64 0] 45)] w 1 _ rfl)
  have H2 := Lib.hid (show (((((w.alloc (.cells #[.string tx, .int .i64 pn] 35)).alloc (.cells #[.int .i64 d.cap, .int .i64 d.push, .int .i64 d.dust, .int .i64 d.res, .int .i64 d.rate, .int .i64 d.delay, .int .i64 d.maxH, .int .i64 d.flight, .int .i64 d.minH] 23)).alloc (.cells #[.int .i64 a.1.value, .int .u8 a.1.lock.kind, .string a.1.lock.term, .int .i64 a.1.lock.n, .slice a.2.1 a.1.lock.kids.length a.2.2] 66)).alloc (.cells #[.int .i64 b.1.value, .int .u8 b.1.lock.kind, .string b.1.lock.term, .int .i64 b.1.lock.n, .slice b.2.1 b.1.lock.kids.length b.2.2] 66)).alloc (.cells #[.slice none 0 0, .slice none 0 0, .int .i64 0, .int .i64 0] 45)).heap[w.heap.size + 1 + 1]? = some (.cells #[.int .i64 a.1.value, .int .u8 a.1.lock.kind, .string a.1.lock.term, .int .i64 a.1.lock.n, .slice a.2.1 a.1.lock.kids.length a.2.2] 66) from allocs_at [(.cells #[.string tx, .int .i64 pn] 35), (.cells #[.int .i64 d.cap, .int .i64 d.push, .int .i64 d.dust, .int .i64 d.res, .int .i64 d.rate, .int .i64 d.delay, .int .i64 d.maxH, .int .i64 d.flight, .int .i64 d.minH] 23), (.cells #[.int .i64 a.1.value, .int .u8 a.1.lock.kind, .string a.1.lock.term, .int .i64 a.1.lock.n, .slice a.2.1 a.1.lock.kids.length a.2.2] 66), (.cells #[.int .i64 b.1.value, .int .u8 b.1.lock.kind, .string b.1.lock.term, .int .i64 b.1.lock.n, .slice b.2.1 b.1.lock.kids.length b.2.2] 66), (.cells #[.slice none 0 0, .slice none 0 0, .int .i64 0, .int .i64 0] 45)] w 2 _ rfl)
  have H3 := Lib.hid (show (((((w.alloc (.cells #[.string tx, .int .i64 pn] 35)).alloc (.cells #[.int .i64 d.cap, .int .i64 d.push, .int .i64 d.dust, .int .i64 d.res, .int .i64 d.rate, .int .i64 d.delay, .int .i64 d.maxH, .int .i64 d.flight, .int .i64 d.minH] 23)).alloc (.cells #[.int .i64 a.1.value, .int .u8 a.1.lock.kind, .string a.1.lock.term, .int .i64 a.1.lock.n, .slice a.2.1 a.1.lock.kids.length a.2.2] 66)).alloc (.cells #[.int .i64 b.1.value, .int .u8 b.1.lock.kind, .string b.1.lock.term, .int .i64 b.1.lock.n, .slice b.2.1 b.1.lock.kids.length b.2.2] 66)).alloc (.cells #[.slice none 0 0, .slice none 0 0, .int .i64 0, .int .i64 0] 45)).heap[w.heap.size + 1 + 1 + 1]? = some (.cells #[.int .i64 b.1.value, .int .u8 b.1.lock.kind, .string b.1.lock.term, .int .i64 b.1.lock.n, .slice b.2.1 b.1.lock.kids.length b.2.2] 66) from allocs_at [(.cells #[.string tx, .int .i64 pn] 35), (.cells #[.int .i64 d.cap, .int .i64 d.push, .int .i64 d.dust, .int .i64 d.res, .int .i64 d.rate, .int .i64 d.delay, .int .i64 d.maxH, .int .i64 d.flight, .int .i64 d.minH] 23), (.cells #[.int .i64 a.1.value, .int .u8 a.1.lock.kind, .string a.1.lock.term, .int .i64 a.1.lock.n, .slice a.2.1 a.1.lock.kids.length a.2.2] 66), (.cells #[.int .i64 b.1.value, .int .u8 b.1.lock.kind, .string b.1.lock.term, .int .i64 b.1.lock.n, .slice b.2.1 b.1.lock.kids.length b.2.2] 66), (.cells #[.slice none 0 0, .slice none 0 0, .int .i64 0, .int .i64 0] 45)] w 3 _ rfl)
  have H4 := Lib.hid (show TxBox (((((w.alloc (.cells #[.string tx, .int .i64 pn] 35)).alloc (.cells #[.int .i64 d.cap, .int .i64 d.push, .int .i64 d.dust, .int .i64 d.res, .int .i64 d.rate, .int .i64 d.delay, .int .i64 d.maxH, .int .i64 d.flight, .int .i64 d.minH] 23)).alloc (.cells #[.int .i64 a.1.value, .int .u8 a.1.lock.kind, .string a.1.lock.term, .int .i64 a.1.lock.n, .slice a.2.1 a.1.lock.kids.length a.2.2] 66)).alloc (.cells #[.int .i64 b.1.value, .int .u8 b.1.lock.kind, .string b.1.lock.term, .int .i64 b.1.lock.n, .slice b.2.1 b.1.lock.kids.length b.2.2] 66)).alloc (.cells #[.slice none 0 0, .slice none 0 0, .int .i64 0, .int .i64 0] 45)) (w.heap.size + 1 + 1 + 1 + 1) none 0 0 none 0 0 0 0 from allocs_at [(.cells #[.string tx, .int .i64 pn] 35), (.cells #[.int .i64 d.cap, .int .i64 d.push, .int .i64 d.dust, .int .i64 d.res, .int .i64 d.rate, .int .i64 d.delay, .int .i64 d.maxH, .int .i64 d.flight, .int .i64 d.minH] 23), (.cells #[.int .i64 a.1.value, .int .u8 a.1.lock.kind, .string a.1.lock.term, .int .i64 a.1.lock.n, .slice a.2.1 a.1.lock.kids.length a.2.2] 66), (.cells #[.int .i64 b.1.value, .int .u8 b.1.lock.kind, .string b.1.lock.term, .int .i64 b.1.lock.n, .slice b.2.1 b.1.lock.kids.length b.2.2] 66), (.cells #[.slice none 0 0, .slice none 0 0, .int .i64 0, .int .i64 0] 45)] w 4 _ rfl)
  have HKK := Lib.hid (linesO_keep (d := d) hk)
  have HR := Lib.hid (fun W => rright_deal d W)
  have HPT := Lib.hid hpt
  have hs5 : (((((w.alloc (.cells #[.string tx, .int .i64 pn] 35)).alloc (.cells #[.int .i64 d.cap, .int .i64 d.push, .int .i64 d.dust, .int .i64 d.res, .int .i64 d.rate, .int .i64 d.delay, .int .i64 d.maxH, .int .i64 d.flight, .int .i64 d.minH] 23)).alloc (.cells #[.int .i64 a.1.value, .int .u8 a.1.lock.kind, .string a.1.lock.term, .int .i64 a.1.lock.n, .slice a.2.1 a.1.lock.kids.length a.2.2] 66)).alloc (.cells #[.int .i64 b.1.value, .int .u8 b.1.lock.kind, .string b.1.lock.term, .int .i64 b.1.lock.n, .slice b.2.1 b.1.lock.kids.length b.2.2] 66)).alloc (.cells #[.slice none 0 0, .slice none 0 0, .int .i64 0, .int .i64 0] 45)).heap.size = w.heap.size + 1 + 1 + 1 + 1 + 1 := by simp
  have hll := linesO_len d [a, b]
  simp only [List.length_cons, List.length_nil, Nat.zero_add, Nat.reduceAdd] at hll
  obtain ⟨R, hR⟩ : ∃ R, closeE tx pn d [a, b] = R := ⟨_, rfl⟩
  rw [hR]
  unfold closeE at hR
  have HRE := Lib.hid hR
  unfold dealV at HR
  have d0 : (((((w.alloc (.cells #[.string tx, .int .i64 pn] 35)).alloc (.cells #[.int .i64 d.cap, .int .i64 d.push, .int .i64 d.dust, .int .i64 d.res, .int .i64 d.rate, .int .i64 d.delay, .int .i64 d.maxH, .int .i64 d.flight, .int .i64 d.minH] 23)).alloc (.cells #[.int .i64 a.1.value, .int .u8 a.1.lock.kind, .string a.1.lock.term, .int .i64 a.1.lock.n, .slice a.2.1 a.1.lock.kids.length a.2.2] 66)).alloc (.cells #[.int .i64 b.1.value, .int .u8 b.1.lock.kind, .string b.1.lock.term, .int .i64 b.1.lock.n, .slice b.2.1 b.1.lock.kids.length b.2.2] 66)).alloc (.cells #[.slice none 0 0, .slice none 0 0, .int .i64 0, .int .i64 0] 45)).cell? ⟨w.heap.size + 1, 0, none⟩ = some (.int .i64 d.cap) := cell_of (j := 0) H1.out rfl
  have d1 : (((((w.alloc (.cells #[.string tx, .int .i64 pn] 35)).alloc (.cells #[.int .i64 d.cap, .int .i64 d.push, .int .i64 d.dust, .int .i64 d.res, .int .i64 d.rate, .int .i64 d.delay, .int .i64 d.maxH, .int .i64 d.flight, .int .i64 d.minH] 23)).alloc (.cells #[.int .i64 a.1.value, .int .u8 a.1.lock.kind, .string a.1.lock.term, .int .i64 a.1.lock.n, .slice a.2.1 a.1.lock.kids.length a.2.2] 66)).alloc (.cells #[.int .i64 b.1.value, .int .u8 b.1.lock.kind, .string b.1.lock.term, .int .i64 b.1.lock.n, .slice b.2.1 b.1.lock.kids.length b.2.2] 66)).alloc (.cells #[.slice none 0 0, .slice none 0 0, .int .i64 0, .int .i64 0] 45)).cell? ⟨w.heap.size + 1, 1, none⟩ = some (.int .i64 d.push) := cell_of (j := 1) H1.out rfl
  have d2 : (((((w.alloc (.cells #[.string tx, .int .i64 pn] 35)).alloc (.cells #[.int .i64 d.cap, .int .i64 d.push, .int .i64 d.dust, .int .i64 d.res, .int .i64 d.rate, .int .i64 d.delay, .int .i64 d.maxH, .int .i64 d.flight, .int .i64 d.minH] 23)).alloc (.cells #[.int .i64 a.1.value, .int .u8 a.1.lock.kind, .string a.1.lock.term, .int .i64 a.1.lock.n, .slice a.2.1 a.1.lock.kids.length a.2.2] 66)).alloc (.cells #[.int .i64 b.1.value, .int .u8 b.1.lock.kind, .string b.1.lock.term, .int .i64 b.1.lock.n, .slice b.2.1 b.1.lock.kids.length b.2.2] 66)).alloc (.cells #[.slice none 0 0, .slice none 0 0, .int .i64 0, .int .i64 0] 45)).cell? ⟨w.heap.size + 1, 2, none⟩ = some (.int .i64 d.dust) := cell_of (j := 2) H1.out rfl
  have d3 : (((((w.alloc (.cells #[.string tx, .int .i64 pn] 35)).alloc (.cells #[.int .i64 d.cap, .int .i64 d.push, .int .i64 d.dust, .int .i64 d.res, .int .i64 d.rate, .int .i64 d.delay, .int .i64 d.maxH, .int .i64 d.flight, .int .i64 d.minH] 23)).alloc (.cells #[.int .i64 a.1.value, .int .u8 a.1.lock.kind, .string a.1.lock.term, .int .i64 a.1.lock.n, .slice a.2.1 a.1.lock.kids.length a.2.2] 66)).alloc (.cells #[.int .i64 b.1.value, .int .u8 b.1.lock.kind, .string b.1.lock.term, .int .i64 b.1.lock.n, .slice b.2.1 b.1.lock.kids.length b.2.2] 66)).alloc (.cells #[.slice none 0 0, .slice none 0 0, .int .i64 0, .int .i64 0] 45)).cell? ⟨w.heap.size + 1, 3, none⟩ = some (.int .i64 d.res) := cell_of (j := 3) H1.out rfl
  have d4 : (((((w.alloc (.cells #[.string tx, .int .i64 pn] 35)).alloc (.cells #[.int .i64 d.cap, .int .i64 d.push, .int .i64 d.dust, .int .i64 d.res, .int .i64 d.rate, .int .i64 d.delay, .int .i64 d.maxH, .int .i64 d.flight, .int .i64 d.minH] 23)).alloc (.cells #[.int .i64 a.1.value, .int .u8 a.1.lock.kind, .string a.1.lock.term, .int .i64 a.1.lock.n, .slice a.2.1 a.1.lock.kids.length a.2.2] 66)).alloc (.cells #[.int .i64 b.1.value, .int .u8 b.1.lock.kind, .string b.1.lock.term, .int .i64 b.1.lock.n, .slice b.2.1 b.1.lock.kids.length b.2.2] 66)).alloc (.cells #[.slice none 0 0, .slice none 0 0, .int .i64 0, .int .i64 0] 45)).cell? ⟨w.heap.size + 1, 4, none⟩ = some (.int .i64 d.rate) := cell_of (j := 4) H1.out rfl
  have d5 : (((((w.alloc (.cells #[.string tx, .int .i64 pn] 35)).alloc (.cells #[.int .i64 d.cap, .int .i64 d.push, .int .i64 d.dust, .int .i64 d.res, .int .i64 d.rate, .int .i64 d.delay, .int .i64 d.maxH, .int .i64 d.flight, .int .i64 d.minH] 23)).alloc (.cells #[.int .i64 a.1.value, .int .u8 a.1.lock.kind, .string a.1.lock.term, .int .i64 a.1.lock.n, .slice a.2.1 a.1.lock.kids.length a.2.2] 66)).alloc (.cells #[.int .i64 b.1.value, .int .u8 b.1.lock.kind, .string b.1.lock.term, .int .i64 b.1.lock.n, .slice b.2.1 b.1.lock.kids.length b.2.2] 66)).alloc (.cells #[.slice none 0 0, .slice none 0 0, .int .i64 0, .int .i64 0] 45)).cell? ⟨w.heap.size + 1, 5, none⟩ = some (.int .i64 d.delay) := cell_of (j := 5) H1.out rfl
  have d6 : (((((w.alloc (.cells #[.string tx, .int .i64 pn] 35)).alloc (.cells #[.int .i64 d.cap, .int .i64 d.push, .int .i64 d.dust, .int .i64 d.res, .int .i64 d.rate, .int .i64 d.delay, .int .i64 d.maxH, .int .i64 d.flight, .int .i64 d.minH] 23)).alloc (.cells #[.int .i64 a.1.value, .int .u8 a.1.lock.kind, .string a.1.lock.term, .int .i64 a.1.lock.n, .slice a.2.1 a.1.lock.kids.length a.2.2] 66)).alloc (.cells #[.int .i64 b.1.value, .int .u8 b.1.lock.kind, .string b.1.lock.term, .int .i64 b.1.lock.n, .slice b.2.1 b.1.lock.kids.length b.2.2] 66)).alloc (.cells #[.slice none 0 0, .slice none 0 0, .int .i64 0, .int .i64 0] 45)).cell? ⟨w.heap.size + 1, 6, none⟩ = some (.int .i64 d.maxH) := cell_of (j := 6) H1.out rfl
  have d7 : (((((w.alloc (.cells #[.string tx, .int .i64 pn] 35)).alloc (.cells #[.int .i64 d.cap, .int .i64 d.push, .int .i64 d.dust, .int .i64 d.res, .int .i64 d.rate, .int .i64 d.delay, .int .i64 d.maxH, .int .i64 d.flight, .int .i64 d.minH] 23)).alloc (.cells #[.int .i64 a.1.value, .int .u8 a.1.lock.kind, .string a.1.lock.term, .int .i64 a.1.lock.n, .slice a.2.1 a.1.lock.kids.length a.2.2] 66)).alloc (.cells #[.int .i64 b.1.value, .int .u8 b.1.lock.kind, .string b.1.lock.term, .int .i64 b.1.lock.n, .slice b.2.1 b.1.lock.kids.length b.2.2] 66)).alloc (.cells #[.slice none 0 0, .slice none 0 0, .int .i64 0, .int .i64 0] 45)).cell? ⟨w.heap.size + 1, 7, none⟩ = some (.int .i64 d.flight) := cell_of (j := 7) H1.out rfl
  have d8 : (((((w.alloc (.cells #[.string tx, .int .i64 pn] 35)).alloc (.cells #[.int .i64 d.cap, .int .i64 d.push, .int .i64 d.dust, .int .i64 d.res, .int .i64 d.rate, .int .i64 d.delay, .int .i64 d.maxH, .int .i64 d.flight, .int .i64 d.minH] 23)).alloc (.cells #[.int .i64 a.1.value, .int .u8 a.1.lock.kind, .string a.1.lock.term, .int .i64 a.1.lock.n, .slice a.2.1 a.1.lock.kids.length a.2.2] 66)).alloc (.cells #[.int .i64 b.1.value, .int .u8 b.1.lock.kind, .string b.1.lock.term, .int .i64 b.1.lock.n, .slice b.2.1 b.1.lock.kids.length b.2.2] 66)).alloc (.cells #[.slice none 0 0, .slice none 0 0, .int .i64 0, .int .i64 0] 45)).cell? ⟨w.heap.size + 1, 8, none⟩ = some (.int .i64 d.minH) := cell_of (j := 8) H1.out rfl
  clear hb0 hk hpt hR
  go_enter Tryz.func34, Tryz.ntmps34
  go_wp2_with fail
  generalize (((((w.alloc (.cells #[.string tx, .int .i64 pn] 35)).alloc (.cells #[.int .i64 d.cap, .int .i64 d.push, .int .i64 d.dust, .int .i64 d.res, .int .i64 d.rate, .int .i64 d.delay, .int .i64 d.maxH, .int .i64 d.flight, .int .i64 d.minH] 23)).alloc (.cells #[.int .i64 a.1.value, .int .u8 a.1.lock.kind, .string a.1.lock.term, .int .i64 a.1.lock.n, .slice a.2.1 a.1.lock.kids.length a.2.2] 66)).alloc (.cells #[.int .i64 b.1.value, .int .u8 b.1.lock.kind, .string b.1.lock.term, .int .i64 b.1.lock.n, .slice b.2.1 b.1.lock.kids.length b.2.2] 66)).alloc (.cells #[.slice none 0 0, .slice none 0 0, .int .i64 0, .int .i64 0] 45)) = V at HB H0 H1 H2 H3 H4 hs5 d0 d1 d2 d3 d4 d5 d6 d7 d8 ⊢
  go_wp2_with fail
  refine (HR.out _).mono ?_
  rintro e w1 ⟨rfl, hb1⟩
  have h0 := (hb1.block _ (lt_of_block H0.out)).trans H0.out
  have h1 := (hb1.block _ (lt_of_block H1.out)).trans H1.out
  have h2 := (hb1.block _ (lt_of_block H2.out)).trans H2.out
  have h3 := (hb1.block _ (lt_of_block H3.out)).trans H3.out
  have h4 := H4.out.below hb1
  have HB1 := Lib.hid (HB.out.trans (hb1.mono HB.out.size))
  have hs1 : w.heap.size + 1 + 1 + 1 + 1 + 1 ≤ w1.heap.size := by have := hb1.size; omega
  have G0 := Lib.hid h0
  have G1 := Lib.hid h1
  have G2 := Lib.hid h2
  have G3 := Lib.hid h3
  have G4 := Lib.hid h4
  clear hb1 h0 h1 h2 h3 h4 HB H0 H1 H2 H3 H4 hs5 d0 d1 d2 d3 d4 d5 d6 d7 d8
  by_cases hd : dealE d = 0
  · have HRE2 := Lib.hid (show ((wholeE tx pn ((linesO d [a, b]).map (·.1)) 0).1, (wholeE tx pn ((linesO d [a, b]).map (·.1)) 0).2.2) = R by rw [← HRE.out, if_pos hd])
    have hdz : (dealE d != 0) = false := by simp [hd]
    clear hd
    have a0 : w1.cell? ⟨w.heap.size + 1 + 1, 0, none⟩ = some (.int .i64 a.1.value) := cell_of (j := 0) G2.out rfl
    have a1 : w1.cell? ⟨w.heap.size + 1 + 1, 1, none⟩ = some (.int .u8 a.1.lock.kind) := cell_of (j := 1) G2.out rfl
    have a2 : w1.cell? ⟨w.heap.size + 1 + 1, 2, none⟩ = some (.string a.1.lock.term) := cell_of (j := 2) G2.out rfl
    have a3 : w1.cell? ⟨w.heap.size + 1 + 1, 3, none⟩ = some (.int .i64 a.1.lock.n) := cell_of (j := 3) G2.out rfl
    have a4 : w1.cell? ⟨w.heap.size + 1 + 1, 4, none⟩ = some (.slice a.2.1 a.1.lock.kids.length a.2.2) := cell_of (j := 4) G2.out rfl
    have b0 : w1.cell? ⟨w.heap.size + 1 + 1 + 1, 0, none⟩ = some (.int .i64 b.1.value) := cell_of (j := 0) G3.out rfl
    have b1 : w1.cell? ⟨w.heap.size + 1 + 1 + 1, 1, none⟩ = some (.int .u8 b.1.lock.kind) := cell_of (j := 1) G3.out rfl
    have b2 : w1.cell? ⟨w.heap.size + 1 + 1 + 1, 2, none⟩ = some (.string b.1.lock.term) := cell_of (j := 2) G3.out rfl
    have b3 : w1.cell? ⟨w.heap.size + 1 + 1 + 1, 3, none⟩ = some (.int .i64 b.1.lock.n) := cell_of (j := 3) G3.out rfl
    have b4 : w1.cell? ⟨w.heap.size + 1 + 1 + 1, 4, none⟩ = some (.slice b.2.1 b.1.lock.kids.length b.2.2) := cell_of (j := 4) G3.out rfl
    go_wp2_with fail
    have hbr : Below w1.heap.size w1 (w1.alloc (.cells #[.int .i64 a.1.value, .int .u8 a.1.lock.kind, .string a.1.lock.term, .int .i64 a.1.lock.n, .slice a.2.1 a.1.lock.kids.length a.2.2, .int .i64 b.1.value, .int .u8 b.1.lock.kind, .string b.1.lock.term, .int .i64 b.1.lock.n, .slice b.2.1 b.1.lock.kids.length b.2.2] 66)) := (Below.refl _ _).alloc (Nat.le_refl _) _
    have hro : (w1.alloc (.cells #[.int .i64 a.1.value, .int .u8 a.1.lock.kind, .string a.1.lock.term, .int .i64 a.1.lock.n, .slice a.2.1 a.1.lock.kids.length a.2.2, .int .i64 b.1.value, .int .u8 b.1.lock.kind, .string b.1.lock.term, .int .i64 b.1.lock.n, .slice b.2.1 b.1.lock.kids.length b.2.2] 66)).heap[w1.heap.size]? = some (.cells #[.int .i64 a.1.value, .int .u8 a.1.lock.kind, .string a.1.lock.term, .int .i64 a.1.lock.n, .slice a.2.1 a.1.lock.kids.length a.2.2, .int .i64 b.1.value, .int .u8 b.1.lock.kind, .string b.1.lock.term, .int .i64 b.1.lock.n, .slice b.2.1 b.1.lock.kids.length b.2.2] 66) := Go.heap_alloc_new w1 _
    have HCO := Lib.hid (show Cells (w1.alloc (.cells #[.int .i64 a.1.value, .int .u8 a.1.lock.kind, .string a.1.lock.term, .int .i64 a.1.lock.n, .slice a.2.1 a.1.lock.kids.length a.2.2, .int .i64 b.1.value, .int .u8 b.1.lock.kind, .string b.1.lock.term, .int .i64 b.1.lock.n, .slice b.2.1 b.1.lock.kids.length b.2.2] 66)) (some ⟨w1.heap.size, 0, none⟩) ([a, b].flatMap outC) by
      have := fresh_cells w1 #[.int .i64 a.1.value, .int .u8 a.1.lock.kind, .string a.1.lock.term, .int .i64 a.1.lock.n, .slice a.2.1 a.1.lock.kids.length a.2.2, .int .i64 b.1.value, .int .u8 b.1.lock.kind, .string b.1.lock.term, .int .i64 b.1.lock.n, .slice b.2.1 b.1.lock.kids.length b.2.2] 66
      simpa [outC] using this)
    have h0 := (hbr.block _ (lt_of_block G0.out)).trans G0.out
    have h1 := (hbr.block _ (lt_of_block G1.out)).trans G1.out
    have h4 := G4.out.below hbr
    have HB2 := Lib.hid (HB1.out.trans (hbr.mono HB1.out.size))
    have hs2 : w.heap.size + 1 + 1 + 1 + 1 + 1 ≤ (w1.alloc (.cells #[.int .i64 a.1.value, .int .u8 a.1.lock.kind, .string a.1.lock.term, .int .i64 a.1.lock.n, .slice a.2.1 a.1.lock.kids.length a.2.2, .int .i64 b.1.value, .int .u8 b.1.lock.kind, .string b.1.lock.term, .int .i64 b.1.lock.n, .slice b.2.1 b.1.lock.kids.length b.2.2] 66)).heap.size := Nat.le_trans hs1 hbr.size
    clear hbr hro a0 b0 a1 b1 a2 b2 a3 b3 a4 b4
    generalize w1.alloc (.cells #[.int .i64 a.1.value, .int .u8 a.1.lock.kind, .string a.1.lock.term, .int .i64 a.1.lock.n, .slice a.2.1 a.1.lock.kids.length a.2.2, .int .i64 b.1.value, .int .u8 b.1.lock.kind, .string b.1.lock.term, .int .i64 b.1.lock.n, .slice b.2.1 b.1.lock.kids.length b.2.2] 66) = V2 at HCO h0 h1 h4 HB2 hs2 ⊢
    generalize (⟨w1.heap.size, 0, none⟩ : Addr) = la at HCO ⊢
    have F0 := Lib.hid h0
    have F1 := Lib.hid h1
    have F4 := Lib.hid h4
    clear h0 h1 h4
    go_loopw [11, 26] (fun vl i wr => ∃ (k : Nat) (vL : Value), vL = vl ∧ k ≤ 2 ∧ i = .int .i64 (k : Int) ∧ Below V2.heap.size V2 wr ∧ wr.ownsRow V2.heap.size 87 6 vL (linesO d ([a, b].take k)).length (((linesO d ([a, b].take k)).map Prod.snd).flatMap encD)) (fun _ i _ => 2 - (intOf i).toNat)
    case atStart => exact ⟨0, _, rfl, Nat.zero_le _, rfl, Below.refl _ _, World.ownsRow_nil _ _ _ _⟩
    case round =>
      obtain ⟨k, vL, rfl, hk2, rfl, hbr, hown⟩ := hrel
      have HBR := Lib.hid hbr
      by_cases hlt : k < 2
      · have hlt2 : k < [a, b].length := hlt
        have hsn := linesO_snoc d ([a, b].take k) [a, b][k]
        rw [← List.take_succ_eq_append_getElem hlt2] at hsn
        have hcq := fun (c : Nat) (u : Value) (hc : c < 5) (hu : (outC [a, b][k])[c]? = some u) => (HCO.out.below hbr)
        obtain ⟨q, hq⟩ : ∃ q, [a, b][k] = q := ⟨_, rfl⟩
        have hcl : ∀ (c : Nat) (u : Value), c < 5 → (outC q)[c]? = some u → wr.cell? (la.add (k * 5 + c)) = some u := fun c u hc hu => by
          obtain ⟨ad, he, hcc⟩ := (HCO.out.below hbr) (by simp [outC])
          injection he with he
          subst he
          refine hcc _ _ ?_
          rw [fm_get outC 5 (fun _ => rfl) [a, b] k hlt2 c hc, hq]
          exact hu
        rw [hq] at hsn
        clear hcq
        have q0 : wr.cell? (la.add (k * 5)) = some (.int .i64 q.1.value) := hcl 0 _ (by decide) rfl
        have q1 : wr.cell? ⟨(la.add (k * 5)).block, (la.add (k * 5)).off + 1, none⟩ = some (.int .u8 q.1.lock.kind) := by rw [add_next _ _ _ (by decide)]; exact hcl 1 _ (by decide) rfl
        have q2 : wr.cell? ⟨(la.add (k * 5)).block, (la.add (k * 5)).off + 2, none⟩ = some (.string q.1.lock.term) := by rw [add_next _ _ _ (by decide)]; exact hcl 2 _ (by decide) rfl
        have q3 : wr.cell? ⟨(la.add (k * 5)).block, (la.add (k * 5)).off + 3, none⟩ = some (.int .i64 q.1.lock.n) := by rw [add_next _ _ _ (by decide)]; exact hcl 3 _ (by decide) rfl
        have q4 : wr.cell? ⟨(la.add (k * 5)).block, (la.add (k * 5)).off + 4, none⟩ = some (.slice q.2.1 q.1.lock.kids.length q.2.2) := by rw [add_next _ _ _ (by decide)]; exact hcl 4 _ (by decide) rfl
        have hbo : Below wr.heap.size wr (wr.alloc (.cells #[.int .i64 q.1.value, .int .u8 q.1.lock.kind, .string q.1.lock.term, .int .i64 q.1.lock.n, .slice q.2.1 q.1.lock.kids.length q.2.2] 66)) := (Below.refl _ _).alloc (Nat.le_refl _) _
        have hbx : (wr.alloc (.cells #[.int .i64 q.1.value, .int .u8 q.1.lock.kind, .string q.1.lock.term, .int .i64 q.1.lock.n, .slice q.2.1 q.1.lock.kids.length q.2.2] 66)).heap[wr.heap.size]? = some (.cells #[.int .i64 q.1.value, .int .u8 q.1.lock.kind, .string q.1.lock.term, .int .i64 q.1.lock.n, .slice q.2.1 q.1.lock.kids.length q.2.2] 66) := Go.heap_alloc_new wr _
        have dd : (wr.alloc (.cells #[.int .i64 q.1.value, .int .u8 q.1.lock.kind, .string q.1.lock.term, .int .i64 q.1.lock.n, .slice q.2.1 q.1.lock.kids.length q.2.2] 66)).cell? ⟨w.heap.size + 1, 2, none⟩ = some (.int .i64 d.dust) := cell_below (hbr.trans (hbo.mono hbr.size)) (cell_of (j := 2) F1.out rfl)
        have e0 : (wr.alloc (.cells #[.int .i64 q.1.value, .int .u8 q.1.lock.kind, .string q.1.lock.term, .int .i64 q.1.lock.n, .slice q.2.1 q.1.lock.kids.length q.2.2] 66)).cell? ⟨wr.heap.size, 0, none⟩ = some (.int .i64 q.1.value) := cell_of (j := 0) hbx rfl
        have e1 : (wr.alloc (.cells #[.int .i64 q.1.value, .int .u8 q.1.lock.kind, .string q.1.lock.term, .int .i64 q.1.lock.n, .slice q.2.1 q.1.lock.kids.length q.2.2] 66)).cell? ⟨wr.heap.size, 1, none⟩ = some (.int .u8 q.1.lock.kind) := cell_of (j := 1) hbx rfl
        have e2 : (wr.alloc (.cells #[.int .i64 q.1.value, .int .u8 q.1.lock.kind, .string q.1.lock.term, .int .i64 q.1.lock.n, .slice q.2.1 q.1.lock.kids.length q.2.2] 66)).cell? ⟨wr.heap.size, 2, none⟩ = some (.string q.1.lock.term) := cell_of (j := 2) hbx rfl
        have e3 : (wr.alloc (.cells #[.int .i64 q.1.value, .int .u8 q.1.lock.kind, .string q.1.lock.term, .int .i64 q.1.lock.n, .slice q.2.1 q.1.lock.kids.length q.2.2] 66)).cell? ⟨wr.heap.size, 3, none⟩ = some (.int .i64 q.1.lock.n) := cell_of (j := 3) hbx rfl
        have e4 : (wr.alloc (.cells #[.int .i64 q.1.value, .int .u8 q.1.lock.kind, .string q.1.lock.term, .int .i64 q.1.lock.n, .slice q.2.1 q.1.lock.kids.length q.2.2] 66)).cell? ⟨wr.heap.size, 4, none⟩ = some (.slice q.2.1 q.1.lock.kids.length q.2.2) := cell_of (j := 4) hbx rfl
        obtain ⟨n, hn⟩ : ∃ n, (linesO d ([a, b].take k)).length = n := ⟨_, rfl⟩
        have hnl : n ≤ 2 := by rw [← hn]; exact Nat.le_trans (linesO_len d _) (by rw [List.length_take]; omega)
        rw [hn] at hown
        by_cases hbig : d.dust ≤ q.1.value
        · have hs2' : bigO d q = true := decide_eq_true hbig
          rw [hs2', if_pos rfl] at hsn
          have HSN := Lib.hid hsn
          have HNN := Lib.hid hn
          have hbl0 : Below wr.heap.size wr ((wr.alloc (.cells #[.int .i64 q.1.value, .int .u8 q.1.lock.kind, .string q.1.lock.term, .int .i64 q.1.lock.n, .slice q.2.1 q.1.lock.kids.length q.2.2] 66)).alloc (.cells #[.int .i64 q.1.value, .int .u8 q.1.lock.kind, .string q.1.lock.term, .int .i64 q.1.lock.n, .slice q.2.1 q.1.lock.kids.length q.2.2, .int .i64 0] 87)) := hbo.alloc hbo.size _
          have HOL := Lib.hid (show ((wr.alloc (.cells #[.int .i64 q.1.value, .int .u8 q.1.lock.kind, .string q.1.lock.term, .int .i64 q.1.lock.n, .slice q.2.1 q.1.lock.kids.length q.2.2] 66)).alloc (.cells #[.int .i64 q.1.value, .int .u8 q.1.lock.kind, .string q.1.lock.term, .int .i64 q.1.lock.n, .slice q.2.1 q.1.lock.kids.length q.2.2, .int .i64 0] 87)).ownsRow V2.heap.size 87 6 vL n (((linesO d ([a, b].take k)).map Prod.snd).flatMap encD) from own_below hown hbl0)
          have HFC := Lib.hid (show Cells ((wr.alloc (.cells #[.int .i64 q.1.value, .int .u8 q.1.lock.kind, .string q.1.lock.term, .int .i64 q.1.lock.n, .slice q.2.1 q.1.lock.kids.length q.2.2] 66)).alloc (.cells #[.int .i64 q.1.value, .int .u8 q.1.lock.kind, .string q.1.lock.term, .int .i64 q.1.lock.n, .slice q.2.1 q.1.lock.kids.length q.2.2, .int .i64 0] 87)) (some ⟨wr.heap.size + 1, 0, none⟩) [.int .i64 q.1.value, .int .u8 q.1.lock.kind, .string q.1.lock.term, .int .i64 q.1.lock.n, .slice q.2.1 q.1.lock.kids.length q.2.2, .int .i64 0] by
            have := fresh_cells (wr.alloc (.cells #[.int .i64 q.1.value, .int .u8 q.1.lock.kind, .string q.1.lock.term, .int .i64 q.1.lock.n, .slice q.2.1 q.1.lock.kids.length q.2.2] 66)) #[.int .i64 q.1.value, .int .u8 q.1.lock.kind, .string q.1.lock.term, .int .i64 q.1.lock.n, .slice q.2.1 q.1.lock.kids.length q.2.2, .int .i64 0] 87
            simpa using this)
          have HBL := Lib.hid (hbr.trans (hbl0.mono hbr.size))
          have hsz1 : V2.heap.size ≤ ((wr.alloc (.cells #[.int .i64 q.1.value, .int .u8 q.1.lock.kind, .string q.1.lock.term, .int .i64 q.1.lock.n, .slice q.2.1 q.1.lock.kids.length q.2.2] 66)).alloc (.cells #[.int .i64 q.1.value, .int .u8 q.1.lock.kind, .string q.1.lock.term, .int .i64 q.1.lock.n, .slice q.2.1 q.1.lock.kids.length q.2.2, .int .i64 0] 87)).heap.size := Nat.le_trans hbr.size hbl0.size
          have hn1 : (n + 1) * 72 ≤ 140737488355328 := by omega
          have hn2 : n + 1 ≤ 140737488355328 := by omega
          have HN1 := Lib.hid hn1
          have HN2 := Lib.hid hn2
          have HSZ := Lib.hid hsz1
          clear hn hn1 hn2 hsn hbo hbx hbl0 hown hsz1 hs2'
          go_wp2_with (at_builtin; refine wpList_appk slD rfl _ _ rfl V2.heap.size _ n _ rfl HOL.out (some ⟨wr.heap.size + 1, 0, none⟩) 1 1 [.int .i64 q.1.value, .int .u8 q.1.lock.kind, .string q.1.lock.term, .int .i64 q.1.lock.n, .slice q.2.1 q.1.lock.kids.length q.2.2, .int .i64 0] rfl rfl HFC.out (encD_one (lineOf q).2) HN1.out HN2.out HSZ.out ?_; intro v' w6 hown hgr hbl hat)
          have hend : w6.ownsRow V2.heap.size 87 6 v' (linesO d ([a, b].take (k + 1))).length (((linesO d ([a, b].take (k + 1))).map Prod.snd).flatMap encD) := by
            rw [HSN.out, List.length_append, List.map_append, List.flatMap_append, HNN.out]
            exact hown
          have HEND := Lib.hid hend
          have HBE := Lib.hid (HBL.out.trans hbl)
          clear hend hown hgr hbl hat
          go_roundw
          case rel => exact ⟨k + 1, v', rfl, by omega, by go_num, HBE.out, HEND.out⟩
          case measure => simp [intOf]; omega
        · have hs2' : bigO d q = false := decide_eq_false hbig
          rw [hs2', if_neg (by decide)] at hsn
          rw [← hn, ← hsn] at hown
          have HEND := Lib.hid (show (wr.alloc (.cells #[.int .i64 q.1.value, .int .u8 q.1.lock.kind, .string q.1.lock.term, .int .i64 q.1.lock.n, .slice q.2.1 q.1.lock.kids.length q.2.2] 66)).ownsRow V2.heap.size 87 6 vL (linesO d ([a, b].take (k + 1))).length (((linesO d ([a, b].take (k + 1))).map Prod.snd).flatMap encD) from own_below hown hbo)
          have HBE := Lib.hid (hbr.trans (hbo.mono hbr.size))
          clear hn hsn hbo hbx hown hs2'
          go_wp2_with fail
          go_roundw
          case rel => exact ⟨k + 1, vL, rfl, by omega, by go_num, HBE.out, HEND.out⟩
          case measure => simp [intOf]; omega
      · have hkn : k = 2 := by omega
        subst hkn
        have hown2 : wr.ownsRow V2.heap.size 87 6 vL (linesO d [a, b]).length (((linesO d [a, b]).map Prod.snd).flatMap encD) := hown
        have hbw := HB2.out.trans (hbr.mono HB2.out.size)
        have p0 : wr.cell? ⟨w.heap.size, 0, none⟩ = some (.string tx) := cell_below hbr (cell_of (j := 0) F0.out rfl)
        have p1 : wr.cell? ⟨w.heap.size, 1, none⟩ = some (.int .i64 pn) := cell_below hbr (cell_of (j := 1) F0.out rfl)
        have hwq := rwhole_q tx pn 0 (linesO d [a, b]) vL V2.heap.size w wr (by omega) hbw HB2.out.size hown2 (fun r hr => (HKK.out r hr).mono hbw (DepEq.below hbw)) HPT.out htx
        have h4 := F4.out.below hbr
        have HWQ := Lib.hid hwq
        have HBW := Lib.hid hbw
        have H4 := Lib.hid h4
        have hv4 : w.heap.size + 1 + 1 + 1 + 1 + 1 ≤ V2.heap.size := hs2
        have hv5 := hbr.size
        have hv6 := HB2.out.size
        clear hwq hbw h4 hown hown2 hbr hlt hk2
        go_wp2_with fail
        refine HWQ.out.mono ?_
        rintro e wA ⟨t, ws, rfl, ⟨A, ca, B, cb, rfl, hT⟩, -, F, hFb, hfA⟩
        have HT2 := Lib.hid hT
        have hbA : TxBox wA (w.heap.size + 1 + 1 + 1 + 1) none 0 0 none 0 0 0 0 := (hfA.block _ (lt_of_block H4.out) (fun h => by have := hFb _ h; omega)).trans H4.out
        have hBA : Below w.heap.size w wA := HBW.out.trans (hfA.toBelowOf (B := w.heap.size) HBW.out.size (fun i hi => Nat.le_trans hv6 (hFb i hi)))
        obtain ⟨t1, e1, hR1, hR2⟩ : ∃ t1 e1, (wholeE tx pn ((linesO d [a, b]).map (·.1)) 0).1 = t1 ∧ (wholeE tx pn ((linesO d [a, b]).map (·.1)) 0).2.2 = e1 := ⟨_, _, rfl, rfl⟩
        rw [hR1] at HT2 ⊢
        rw [hR1, hR2] at HRE2
        rw [hR2]
        have HBA := Lib.hid hbA
        have HBB := Lib.hid hBA
        have hb7 : Below wA.heap.size wA (wA.alloc (.cells #[.slice A t1.ins.length ca, .slice B t1.outs.length cb, .int .i64 t1.after, .int .i64 t1.tag] 45)) := (Below.refl _ _).alloc (Nat.le_refl _) _
        have hx7 : TxBox (wA.alloc (.cells #[.slice A t1.ins.length ca, .slice B t1.outs.length cb, .int .i64 t1.after, .int .i64 t1.tag] 45)) wA.heap.size A t1.ins.length ca B t1.outs.length cb t1.after t1.tag := Go.heap_alloc_new wA _
        obtain ⟨y0, y1, y2, y3⟩ := hx7.cells
        have h47 := HBA.out.below hb7
        obtain ⟨z0, z1, z2, z3⟩ := h47.cells
        have zf := h47.frozen
        have H47 := Lib.hid h47
        have HB7 := Lib.hid hb7
        clear hT hbA hBA hfA hFb hR1 hR2 p0 p1 hb7 hx7 h47
        go_wp2_with fail
        change bodyPost _ _ _ _ _ (putL (wA.alloc (.cells #[.slice A t1.ins.length ca, .slice B t1.outs.length cb, .int .i64 t1.after, .int .i64 t1.tag] 45)) (w.heap.size + 1 + 1 + 1 + 1) (.slice A t1.ins.length ca) (.slice B t1.outs.length cb) (.int .i64 t1.after) (.int .i64 t1.tag))
        generalize wA.alloc (.cells #[.slice A t1.ins.length ca, .slice B t1.outs.length cb, .int .i64 t1.after, .int .i64 t1.tag] 45) = WB at H47 HB7 ⊢
        have hP := H47.out.put A t1.ins.length ca B t1.outs.length cb t1.after t1.tag
        have hF := putL_fr WB (w.heap.size + 1 + 1 + 1 + 1) (.slice A t1.ins.length ca) (.slice B t1.outs.length cb) (.int .i64 t1.after) (.int .i64 t1.tag) (F := [w.heap.size + 1 + 1 + 1 + 1]) (List.mem_singleton.2 rfl)
        generalize putL WB (w.heap.size + 1 + 1 + 1 + 1) (.slice A t1.ins.length ca) (.slice B t1.outs.length cb) (.int .i64 t1.after) (.int .i64 t1.tag) = Wf at hP hF ⊢
        have hBB := HBB.out.trans (HB7.out.mono HBB.out.size)
        have hBt := hF.toBelowOf (B := w.heap.size) hBB.size (fun i hi => by rw [List.mem_singleton.1 hi]; omega)
        have hSt := (Stay.below HB7.out).trans (stay_tx H47.out hF)
        obtain ⟨u0, u1, u2, u3⟩ := hP.cells
        rw [← HRE2.out]
        exact bodyPost_ret (v := .tuple #[.agg #[.slice A t1.ins.length ca, .slice B t1.outs.length cb, .int .i64 t1.after, .int .i64 t1.tag], .int .i64 e1]) (by simp [results, Tryz.results34, go_sem, u0, u1, u2, u3]) rfl ⟨_, rfl, ⟨A, ca, B, cb, rfl, fun W x y => HT2.out W (((HB7.out.mono HBB.out.size).trans hBt).trans x) (hSt.trans y)⟩, hBB.trans hBt⟩
  · have HRE2 := Lib.hid (show (zeroTx, dealE d) = R by rw [← HRE.out, if_neg hd])
    have hdz : (dealE d != 0) = true := by simp [hd]
    obtain ⟨z0, z1, z2, z3⟩ := G4.out.cells
    have zf := G4.out.frozen
    obtain ⟨de, hde⟩ : ∃ de, dealE d = de := ⟨_, rfl⟩
    rw [hde] at hdz HRE2 ⊢
    clear hd hde
    go_wp2_with fail
    change bodyPost _ _ _ _ _ (putL w1 (w.heap.size + 1 + 1 + 1 + 1) (.slice none 0 0) (.slice none 0 0) (.int .i64 0) (.int .i64 0))
    have hP := G4.out.put none 0 0 none 0 0 0 0
    have hF := putL_fr w1 (w.heap.size + 1 + 1 + 1 + 1) (.slice none 0 0) (.slice none 0 0) (.int .i64 0) (.int .i64 0) (F := [w.heap.size + 1 + 1 + 1 + 1]) (List.mem_singleton.2 rfl)
    generalize putL w1 (w.heap.size + 1 + 1 + 1 + 1) (.slice none 0 0) (.slice none 0 0) (.int .i64 0) (.int .i64 0) = Wf at hP hF ⊢
    obtain ⟨u0, u1, u2, u3⟩ := hP.cells
    rw [← HRE2.out]
    exact bodyPost_ret (v := .tuple #[.agg #[.slice none 0 0, .slice none 0 0, .int .i64 0, .int .i64 0], .int .i64 de]) (by simp [results, Tryz.results34, go_sem, u0, u1, u2, u3]) rfl ⟨_, rfl, TxF.zero _ _, HB1.out.trans (hF.toBelowOf HB1.out.size (fun i hi => by rw [List.mem_singleton.1 hi]; omega))⟩
end Go.Proofs.YtncniomiplnaaaaGreatDoor
namespace Go.Proofs.YtncniomiplnaaaaGreatDoor
open Go.RowKit
/-- What the statements' bound leaves: all locks are small. -/
theorem lsize_small60 : ∀ (m : Nat) (x : LockT), sizeT x ≤ m → lsizeT x 60 ≤ 60 → smallT x
  | 0, x, h, _ => absurd (sizeT_pos x) (by omega)
  | m + 1, .node k t n l, h, hl => by
    unfold lsizeT at hl
    unfold sizeT at h
    have h0 : lsizeTs l 60 (1 + (t.size : Int) / 64) ≤ 60 := by omega
    have go : ∀ (l : List LockT) (c : Int), 0 ≤ c → sizeTs l ≤ m → lsizeTs l 60 c ≤ 60 → smallTs l ∧ c + (l.length : Int) ≤ 60 := by
      intro l
      induction l with
      | nil => intro c _ _ h; unfold lsizeTs at h; exact ⟨by unfold smallTs; trivial, by simp; omega⟩
      | cons x r ih =>
        intro c hc hs h
        unfold sizeTs at hs
        unfold lsizeTs at h
        split at h
        · have g := lsizeT_ge x 60 (by omega)
          obtain ⟨i1, i2⟩ := ih (c + lsizeT x 60) (by omega) (by omega) h
          have g2 := lsizeTs_ge r 60 (c + lsizeT x 60) (by omega)
          have hx : lsizeT x 60 ≤ 60 := by omega
          exact ⟨by unfold smallTs; exact ⟨lsize_small60 m x (by omega) hx, i1⟩, by rw [List.length_cons]; push_cast; omega⟩
        · omega
    have hn : 0 ≤ (t.size : Int) / 64 := Int.ediv_nonneg (by omega) (by omega)
    obtain ⟨g1, g2⟩ := go l _ (by omega) (by omega) h0
    unfold smallT
    refine ⟨?_, ?_, g1⟩
    · have h5 : (t.size : Int) / 64 ≤ 60 := by omega
      omega
    · omega
theorem closeE_small {tx : ByteArray} {pn : Int} {d : DealR} {a b : OutQ} (ha : smallT a.1.lock) (hb : smallT b.1.lock) : (∀ o ∈ (closeE tx pn d [a, b]).1.outs, smallT o.lock) ∧ (closeE tx pn d [a, b]).1.ins.length ≤ 1000000 ∧ (closeE tx pn d [a, b]).1.outs.length ≤ 1000000 := by
  have hz : (∀ o ∈ zeroTx.outs, smallT o.lock) ∧ zeroTx.ins.length ≤ 1000000 ∧ zeroTx.outs.length ≤ 1000000 := ⟨fun o h => by simp [zeroTx] at h, by decide, by decide⟩
  unfold closeE
  split
  · simp only
    unfold wholeE
    split
    · exact hz
    · split
      · refine ⟨fun o ho => ?_, by simp [txOf], ?_⟩
        · obtain ⟨p, hp, rfl⟩ := List.mem_map.1 (show o ∈ (ordL ltP ((linesO d [a, b]).map (·.1))).map outP from ho)
          obtain ⟨r, hr, rfl⟩ := List.mem_map.1 ((ordL_mem ltP _ p).1 hp)
          obtain ⟨q, hq, rfl⟩ := List.mem_map.1 (show r ∈ ([a, b].filter (bigO d)).map lineOf from hr)
          rcases List.mem_cons.1 (List.mem_filter.1 hq).1 with rfl | h
          · exact ha
          · rw [List.mem_singleton.1 h]; exact hb
        · show ((ordL ltP ((linesO d [a, b]).map (·.1))).map outP).length ≤ 1000000
          rw [List.length_map, ordL_len, List.length_map]
          exact Nat.le_trans (linesO_len d [a, b]) (by simp)
      · exact hz
  · exact hz
set_option maxRecDepth 100000 in
set_option maxHeartbeats 16000000 in
theorem closes_law (tx : ByteArray) (pn : Int) (d : DealR) (a b : OutQ) (w : World) (htx : tx.size ≤ 140737488355328) (hpn : (Lit.int .i64 pn).wf = true) (hca : LockC w a.1.lock [.int .u8 a.1.lock.kind, .string a.1.lock.term, .int .i64 a.1.lock.n, .slice a.2.1 a.1.lock.kids.length a.2.2]) (hcb : LockC w b.1.lock [.int .u8 b.1.lock.kind, .string b.1.lock.term, .int .i64 b.1.lock.n, .slice b.2.1 b.1.lock.kids.length b.2.2]) (hba : boundT a.1.lock) (hbb : boundT b.1.lock) (hv : VarsOk w) (ht : TabOk w) :
    Calls Tryz.prog 7 #[.agg #[.string tx, .int .i64 pn], dealV d, outV a, outV b] w fun e w' => e = .returned (.bool true) ∧ Below w.heap.size w w' := by
  have hb0 : Below w.heap.size w ((((w.alloc (.cells #[.string tx, .int .i64 pn] 35)).alloc (.cells #[.int .i64 d.cap, .int .i64 d.push, .int .i64 d.dust, .int .i64 d.res, .int .i64 d.rate, .int .i64 d.delay, .int .i64 d.maxH, .int .i64 d.flight, .int .i64 d.minH] 23)).alloc (.cells #[.int .i64 a.1.value, .int .u8 a.1.lock.kind, .string a.1.lock.term, .int .i64 a.1.lock.n, .slice a.2.1 a.1.lock.kids.length a.2.2] 66)).alloc (.cells #[.int .i64 b.1.value, .int .u8 b.1.lock.kind, .string b.1.lock.term, .int .i64 b.1.lock.n, .slice b.2.1 b.1.lock.kids.length b.2.2] 66)) := ((((Below.refl w.heap.size w).alloc (Nat.le_refl _) (.cells #[.string tx, .int .i64 pn] 35)).alloc (by simp) (.cells #[.int .i64 d.cap, .int .i64 d.push, .int .i64 d.dust, .int .i64 d.res, .int .i64 d.rate, .int .i64 d.delay, .int .i64 d.maxH, .int .i64 d.flight, .int .i64 d.minH] 23)).alloc (by simp; try omega) (.cells #[.int .i64 a.1.value, .int .u8 a.1.lock.kind, .string a.1.lock.term, .int .i64 a.1.lock.n, .slice a.2.1 a.1.lock.kids.length a.2.2] 66)).alloc (by simp; try omega) (.cells #[.int .i64 b.1.value, .int .u8 b.1.lock.kind, .string b.1.lock.term, .int .i64 b.1.lock.n, .slice b.2.1 b.1.lock.kids.length b.2.2] 66)
  have HB := Lib.hid hb0
  have H0 := Lib.hid (show ((((w.alloc (.cells #[.string tx, .int .i64 pn] 35)).alloc (.cells #[.int .i64 d.cap, .int .i64 d.push, .int .i64 d.dust, .int .i64 d.res, .int .i64 d.rate, .int .i64 d.delay, .int .i64 d.maxH, .int .i64 d.flight, .int .i64 d.minH] 23)).alloc (.cells #[.int .i64 a.1.value, .int .u8 a.1.lock.kind, .string a.1.lock.term, .int .i64 a.1.lock.n, .slice a.2.1 a.1.lock.kids.length a.2.2] 66)).alloc (.cells #[.int .i64 b.1.value, .int .u8 b.1.lock.kind, .string b.1.lock.term, .int .i64 b.1.lock.n, .slice b.2.1 b.1.lock.kids.length b.2.2] 66)).heap[w.heap.size]? = some (.cells #[.string tx, .int .i64 pn] 35) from allocs_at [(.cells #[.string tx, .int .i64 pn] 35), (.cells #[.int .i64 d.cap, .int .i64 d.push, .int .i64 d.dust, .int .i64 d.res, .int .i64 d.rate, .int .i64 d.delay, .int .i64 d.maxH, .int .i64 d.flight, .int .i64 d.minH] 23), (.cells #[.int .i64 a.1.value, .int .u8 a.1.lock.kind, .string a.1.lock.term, .int .i64 a.1.lock.n, .slice a.2.1 a.1.lock.kids.length a.2.2] 66), (.cells #[.int .i64 b.1.value, .int .u8 b.1.lock.kind, .string b.1.lock.term, .int .i64 b.1.lock.n, .slice b.2.1 b.1.lock.kids.length b.2.2] 66)] w 0 _ rfl)
  have H1 := Lib.hid (show ((((w.alloc (.cells #[.string tx, .int .i64 pn] 35)).alloc (.cells #[.int .i64 d.cap, .int .i64 d.push, .int .i64 d.dust, .int .i64 d.res, .int .i64 d.rate, .int .i64 d.delay, .int .i64 d.maxH, .int .i64 d.flight, .int .i64 d.minH] 23)).alloc (.cells #[.int .i64 a.1.value, .int .u8 a.1.lock.kind, .string a.1.lock.term, .int .i64 a.1.lock.n, .slice a.2.1 a.1.lock.kids.length a.2.2] 66)).alloc (.cells #[.int .i64 b.1.value, .int .u8 b.1.lock.kind, .string b.1.lock.term, .int .i64 b.1.lock.n, .slice b.2.1 b.1.lock.kids.length b.2.2] 66)).heap[w.heap.size + 1]? = some (.cells #[.int .i64 d.cap, .int .i64 d.push, .int .i64 d.dust, .int .i64 d.res, .int .i64 d.rate, .int .i64 d.delay, .int .i64 d.maxH, .int .i64 d.flight, .int .i64 d.minH] 23) from allocs_at [(.cells #[.string tx, .int .i64 pn] 35), (.cells #[.int .i64 d.cap, .int .i64 d.push, .int .i64 d.dust, .int .i64 d.res, .int .i64 d.rate, .int .i64 d.delay, .int .i64 d.maxH, .int .i64 d.flight, .int .i64 d.minH] 23), (.cells #[.int .i64 a.1.value, .int .u8 a.1.lock.kind, .string a.1.lock.term, .int .i64 a.1.lock.n, .slice a.2.1 a.1.lock.kids.length a.2.2] 66), (.cells #[.int .i64 b.1.value, .int .u8 b.1.lock.kind, .string b.1.lock.term, .int .i64 b.1.lock.n, .slice b.2.1 b.1.lock.kids.length b.2.2] 66)] w 1 _ rfl)
  have H2 := Lib.hid (show ((((w.alloc (.cells #[.string tx, .int .i64 pn] 35)).alloc (.cells #[.int .i64 d.cap, .int .i64 d.push, .int .i64 d.dust, .int .i64 d.res, .int .i64 d.rate, .int .i64 d.delay, .int .i64 d.maxH, .int .i64 d.flight, .int .i64 d.minH] 23)).alloc (.cells #[.int .i64 a.1.value, .int .u8 a.1.lock.kind, .string a.1.lock.term, .int .i64 a.1.lock.n, .slice a.2.1 a.1.lock.kids.length a.2.2] 66)).alloc (.cells #[.int .i64 b.1.value, .int .u8 b.1.lock.kind, .string b.1.lock.term, .int .i64 b.1.lock.n, .slice b.2.1 b.1.lock.kids.length b.2.2] 66)).heap[w.heap.size + 1 + 1]? = some (.cells #[.int .i64 a.1.value, .int .u8 a.1.lock.kind, .string a.1.lock.term, .int .i64 a.1.lock.n, .slice a.2.1 a.1.lock.kids.length a.2.2] 66) from allocs_at [(.cells #[.string tx, .int .i64 pn] 35), (.cells #[.int .i64 d.cap, .int .i64 d.push, .int .i64 d.dust, .int .i64 d.res, .int .i64 d.rate, .int .i64 d.delay, .int .i64 d.maxH, .int .i64 d.flight, .int .i64 d.minH] 23), (.cells #[.int .i64 a.1.value, .int .u8 a.1.lock.kind, .string a.1.lock.term, .int .i64 a.1.lock.n, .slice a.2.1 a.1.lock.kids.length a.2.2] 66), (.cells #[.int .i64 b.1.value, .int .u8 b.1.lock.kind, .string b.1.lock.term, .int .i64 b.1.lock.n, .slice b.2.1 b.1.lock.kids.length b.2.2] 66)] w 2 _ rfl)
  have H3 := Lib.hid (show ((((w.alloc (.cells #[.string tx, .int .i64 pn] 35)).alloc (.cells #[.int .i64 d.cap, .int .i64 d.push, .int .i64 d.dust, .int .i64 d.res, .int .i64 d.rate, .int .i64 d.delay, .int .i64 d.maxH, .int .i64 d.flight, .int .i64 d.minH] 23)).alloc (.cells #[.int .i64 a.1.value, .int .u8 a.1.lock.kind, .string a.1.lock.term, .int .i64 a.1.lock.n, .slice a.2.1 a.1.lock.kids.length a.2.2] 66)).alloc (.cells #[.int .i64 b.1.value, .int .u8 b.1.lock.kind, .string b.1.lock.term, .int .i64 b.1.lock.n, .slice b.2.1 b.1.lock.kids.length b.2.2] 66)).heap[w.heap.size + 1 + 1 + 1]? = some (.cells #[.int .i64 b.1.value, .int .u8 b.1.lock.kind, .string b.1.lock.term, .int .i64 b.1.lock.n, .slice b.2.1 b.1.lock.kids.length b.2.2] 66) from allocs_at [(.cells #[.string tx, .int .i64 pn] 35), (.cells #[.int .i64 d.cap, .int .i64 d.push, .int .i64 d.dust, .int .i64 d.res, .int .i64 d.rate, .int .i64 d.delay, .int .i64 d.maxH, .int .i64 d.flight, .int .i64 d.minH] 23), (.cells #[.int .i64 a.1.value, .int .u8 a.1.lock.kind, .string a.1.lock.term, .int .i64 a.1.lock.n, .slice a.2.1 a.1.lock.kids.length a.2.2] 66), (.cells #[.int .i64 b.1.value, .int .u8 b.1.lock.kind, .string b.1.lock.term, .int .i64 b.1.lock.n, .slice b.2.1 b.1.lock.kids.length b.2.2] 66)] w 3 _ rfl)
  have HCA := Lib.hid (LockC.below hb0 _ _ hca)
  have HCB := Lib.hid (LockC.below hb0 _ _ hcb)
  have HSA := Lib.hid (lsize_small60 _ a.1.lock (Nat.le_refl _))
  have HSB := Lib.hid (lsize_small60 _ b.1.lock (Nat.le_refl _))
  have HBA := Lib.hid hba
  have HBD := Lib.hid hbb
  have HV := Lib.hid (hv.below hb0)
  have HT := Lib.hid (ht.below hb0)
  have hs4 : w.heap.size + 1 + 1 + 1 < ((((w.alloc (.cells #[.string tx, .int .i64 pn] 35)).alloc (.cells #[.int .i64 d.cap, .int .i64 d.push, .int .i64 d.dust, .int .i64 d.res, .int .i64 d.rate, .int .i64 d.delay, .int .i64 d.maxH, .int .i64 d.flight, .int .i64 d.minH] 23)).alloc (.cells #[.int .i64 a.1.value, .int .u8 a.1.lock.kind, .string a.1.lock.term, .int .i64 a.1.lock.n, .slice a.2.1 a.1.lock.kids.length a.2.2] 66)).alloc (.cells #[.int .i64 b.1.value, .int .u8 b.1.lock.kind, .string b.1.lock.term, .int .i64 b.1.lock.n, .slice b.2.1 b.1.lock.kids.length b.2.2] 66)).heap.size := by simp
  unfold dealV outV
  have p0 : ((((w.alloc (.cells #[.string tx, .int .i64 pn] 35)).alloc (.cells #[.int .i64 d.cap, .int .i64 d.push, .int .i64 d.dust, .int .i64 d.res, .int .i64 d.rate, .int .i64 d.delay, .int .i64 d.maxH, .int .i64 d.flight, .int .i64 d.minH] 23)).alloc (.cells #[.int .i64 a.1.value, .int .u8 a.1.lock.kind, .string a.1.lock.term, .int .i64 a.1.lock.n, .slice a.2.1 a.1.lock.kids.length a.2.2] 66)).alloc (.cells #[.int .i64 b.1.value, .int .u8 b.1.lock.kind, .string b.1.lock.term, .int .i64 b.1.lock.n, .slice b.2.1 b.1.lock.kids.length b.2.2] 66)).cell? ⟨w.heap.size, 0, none⟩ = some (.string tx) := cell_of (j := 0) (((Below.refl ((((w.alloc (.cells #[.string tx, .int .i64 pn] 35)).alloc (.cells #[.int .i64 d.cap, .int .i64 d.push, .int .i64 d.dust, .int .i64 d.res, .int .i64 d.rate, .int .i64 d.delay, .int .i64 d.maxH, .int .i64 d.flight, .int .i64 d.minH] 23)).alloc (.cells #[.int .i64 a.1.value, .int .u8 a.1.lock.kind, .string a.1.lock.term, .int .i64 a.1.lock.n, .slice a.2.1 a.1.lock.kids.length a.2.2] 66)).alloc (.cells #[.int .i64 b.1.value, .int .u8 b.1.lock.kind, .string b.1.lock.term, .int .i64 b.1.lock.n, .slice b.2.1 b.1.lock.kids.length b.2.2] 66)).heap.size ((((w.alloc (.cells #[.string tx, .int .i64 pn] 35)).alloc (.cells #[.int .i64 d.cap, .int .i64 d.push, .int .i64 d.dust, .int .i64 d.res, .int .i64 d.rate, .int .i64 d.delay, .int .i64 d.maxH, .int .i64 d.flight, .int .i64 d.minH] 23)).alloc (.cells #[.int .i64 a.1.value, .int .u8 a.1.lock.kind, .string a.1.lock.term, .int .i64 a.1.lock.n, .slice a.2.1 a.1.lock.kids.length a.2.2] 66)).alloc (.cells #[.int .i64 b.1.value, .int .u8 b.1.lock.kind, .string b.1.lock.term, .int .i64 b.1.lock.n, .slice b.2.1 b.1.lock.kids.length b.2.2] 66))).block _ (lt_of_block H0.out)).trans H0.out) rfl
  have p1 : ((((w.alloc (.cells #[.string tx, .int .i64 pn] 35)).alloc (.cells #[.int .i64 d.cap, .int .i64 d.push, .int .i64 d.dust, .int .i64 d.res, .int .i64 d.rate, .int .i64 d.delay, .int .i64 d.maxH, .int .i64 d.flight, .int .i64 d.minH] 23)).alloc (.cells #[.int .i64 a.1.value, .int .u8 a.1.lock.kind, .string a.1.lock.term, .int .i64 a.1.lock.n, .slice a.2.1 a.1.lock.kids.length a.2.2] 66)).alloc (.cells #[.int .i64 b.1.value, .int .u8 b.1.lock.kind, .string b.1.lock.term, .int .i64 b.1.lock.n, .slice b.2.1 b.1.lock.kids.length b.2.2] 66)).cell? ⟨w.heap.size, 1, none⟩ = some (.int .i64 pn) := cell_of (j := 1) (((Below.refl ((((w.alloc (.cells #[.string tx, .int .i64 pn] 35)).alloc (.cells #[.int .i64 d.cap, .int .i64 d.push, .int .i64 d.dust, .int .i64 d.res, .int .i64 d.rate, .int .i64 d.delay, .int .i64 d.maxH, .int .i64 d.flight, .int .i64 d.minH] 23)).alloc (.cells #[.int .i64 a.1.value, .int .u8 a.1.lock.kind, .string a.1.lock.term, .int .i64 a.1.lock.n, .slice a.2.1 a.1.lock.kids.length a.2.2] 66)).alloc (.cells #[.int .i64 b.1.value, .int .u8 b.1.lock.kind, .string b.1.lock.term, .int .i64 b.1.lock.n, .slice b.2.1 b.1.lock.kids.length b.2.2] 66)).heap.size ((((w.alloc (.cells #[.string tx, .int .i64 pn] 35)).alloc (.cells #[.int .i64 d.cap, .int .i64 d.push, .int .i64 d.dust, .int .i64 d.res, .int .i64 d.rate, .int .i64 d.delay, .int .i64 d.maxH, .int .i64 d.flight, .int .i64 d.minH] 23)).alloc (.cells #[.int .i64 a.1.value, .int .u8 a.1.lock.kind, .string a.1.lock.term, .int .i64 a.1.lock.n, .slice a.2.1 a.1.lock.kids.length a.2.2] 66)).alloc (.cells #[.int .i64 b.1.value, .int .u8 b.1.lock.kind, .string b.1.lock.term, .int .i64 b.1.lock.n, .slice b.2.1 b.1.lock.kids.length b.2.2] 66))).block _ (lt_of_block H0.out)).trans H0.out) rfl
  have d0 : ((((w.alloc (.cells #[.string tx, .int .i64 pn] 35)).alloc (.cells #[.int .i64 d.cap, .int .i64 d.push, .int .i64 d.dust, .int .i64 d.res, .int .i64 d.rate, .int .i64 d.delay, .int .i64 d.maxH, .int .i64 d.flight, .int .i64 d.minH] 23)).alloc (.cells #[.int .i64 a.1.value, .int .u8 a.1.lock.kind, .string a.1.lock.term, .int .i64 a.1.lock.n, .slice a.2.1 a.1.lock.kids.length a.2.2] 66)).alloc (.cells #[.int .i64 b.1.value, .int .u8 b.1.lock.kind, .string b.1.lock.term, .int .i64 b.1.lock.n, .slice b.2.1 b.1.lock.kids.length b.2.2] 66)).cell? ⟨w.heap.size + 1, 0, none⟩ = some (.int .i64 d.cap) := cell_of (j := 0) (((Below.refl ((((w.alloc (.cells #[.string tx, .int .i64 pn] 35)).alloc (.cells #[.int .i64 d.cap, .int .i64 d.push, .int .i64 d.dust, .int .i64 d.res, .int .i64 d.rate, .int .i64 d.delay, .int .i64 d.maxH, .int .i64 d.flight, .int .i64 d.minH] 23)).alloc (.cells #[.int .i64 a.1.value, .int .u8 a.1.lock.kind, .string a.1.lock.term, .int .i64 a.1.lock.n, .slice a.2.1 a.1.lock.kids.length a.2.2] 66)).alloc (.cells #[.int .i64 b.1.value, .int .u8 b.1.lock.kind, .string b.1.lock.term, .int .i64 b.1.lock.n, .slice b.2.1 b.1.lock.kids.length b.2.2] 66)).heap.size ((((w.alloc (.cells #[.string tx, .int .i64 pn] 35)).alloc (.cells #[.int .i64 d.cap, .int .i64 d.push, .int .i64 d.dust, .int .i64 d.res, .int .i64 d.rate, .int .i64 d.delay, .int .i64 d.maxH, .int .i64 d.flight, .int .i64 d.minH] 23)).alloc (.cells #[.int .i64 a.1.value, .int .u8 a.1.lock.kind, .string a.1.lock.term, .int .i64 a.1.lock.n, .slice a.2.1 a.1.lock.kids.length a.2.2] 66)).alloc (.cells #[.int .i64 b.1.value, .int .u8 b.1.lock.kind, .string b.1.lock.term, .int .i64 b.1.lock.n, .slice b.2.1 b.1.lock.kids.length b.2.2] 66))).block _ (lt_of_block H1.out)).trans H1.out) rfl
  have d1 : ((((w.alloc (.cells #[.string tx, .int .i64 pn] 35)).alloc (.cells #[.int .i64 d.cap, .int .i64 d.push, .int .i64 d.dust, .int .i64 d.res, .int .i64 d.rate, .int .i64 d.delay, .int .i64 d.maxH, .int .i64 d.flight, .int .i64 d.minH] 23)).alloc (.cells #[.int .i64 a.1.value, .int .u8 a.1.lock.kind, .string a.1.lock.term, .int .i64 a.1.lock.n, .slice a.2.1 a.1.lock.kids.length a.2.2] 66)).alloc (.cells #[.int .i64 b.1.value, .int .u8 b.1.lock.kind, .string b.1.lock.term, .int .i64 b.1.lock.n, .slice b.2.1 b.1.lock.kids.length b.2.2] 66)).cell? ⟨w.heap.size + 1, 1, none⟩ = some (.int .i64 d.push) := cell_of (j := 1) (((Below.refl ((((w.alloc (.cells #[.string tx, .int .i64 pn] 35)).alloc (.cells #[.int .i64 d.cap, .int .i64 d.push, .int .i64 d.dust, .int .i64 d.res, .int .i64 d.rate, .int .i64 d.delay, .int .i64 d.maxH, .int .i64 d.flight, .int .i64 d.minH] 23)).alloc (.cells #[.int .i64 a.1.value, .int .u8 a.1.lock.kind, .string a.1.lock.term, .int .i64 a.1.lock.n, .slice a.2.1 a.1.lock.kids.length a.2.2] 66)).alloc (.cells #[.int .i64 b.1.value, .int .u8 b.1.lock.kind, .string b.1.lock.term, .int .i64 b.1.lock.n, .slice b.2.1 b.1.lock.kids.length b.2.2] 66)).heap.size ((((w.alloc (.cells #[.string tx, .int .i64 pn] 35)).alloc (.cells #[.int .i64 d.cap, .int .i64 d.push, .int .i64 d.dust, .int .i64 d.res, .int .i64 d.rate, .int .i64 d.delay, .int .i64 d.maxH, .int .i64 d.flight, .int .i64 d.minH] 23)).alloc (.cells #[.int .i64 a.1.value, .int .u8 a.1.lock.kind, .string a.1.lock.term, .int .i64 a.1.lock.n, .slice a.2.1 a.1.lock.kids.length a.2.2] 66)).alloc (.cells #[.int .i64 b.1.value, .int .u8 b.1.lock.kind, .string b.1.lock.term, .int .i64 b.1.lock.n, .slice b.2.1 b.1.lock.kids.length b.2.2] 66))).block _ (lt_of_block H1.out)).trans H1.out) rfl
  have d2 : ((((w.alloc (.cells #[.string tx, .int .i64 pn] 35)).alloc (.cells #[.int .i64 d.cap, .int .i64 d.push, .int .i64 d.dust, .int .i64 d.res, .int .i64 d.rate, .int .i64 d.delay, .int .i64 d.maxH, .int .i64 d.flight, .int .i64 d.minH] 23)).alloc (.cells #[.int .i64 a.1.value, .int .u8 a.1.lock.kind, .string a.1.lock.term, .int .i64 a.1.lock.n, .slice a.2.1 a.1.lock.kids.length a.2.2] 66)).alloc (.cells #[.int .i64 b.1.value, .int .u8 b.1.lock.kind, .string b.1.lock.term, .int .i64 b.1.lock.n, .slice b.2.1 b.1.lock.kids.length b.2.2] 66)).cell? ⟨w.heap.size + 1, 2, none⟩ = some (.int .i64 d.dust) := cell_of (j := 2) (((Below.refl ((((w.alloc (.cells #[.string tx, .int .i64 pn] 35)).alloc (.cells #[.int .i64 d.cap, .int .i64 d.push, .int .i64 d.dust, .int .i64 d.res, .int .i64 d.rate, .int .i64 d.delay, .int .i64 d.maxH, .int .i64 d.flight, .int .i64 d.minH] 23)).alloc (.cells #[.int .i64 a.1.value, .int .u8 a.1.lock.kind, .string a.1.lock.term, .int .i64 a.1.lock.n, .slice a.2.1 a.1.lock.kids.length a.2.2] 66)).alloc (.cells #[.int .i64 b.1.value, .int .u8 b.1.lock.kind, .string b.1.lock.term, .int .i64 b.1.lock.n, .slice b.2.1 b.1.lock.kids.length b.2.2] 66)).heap.size ((((w.alloc (.cells #[.string tx, .int .i64 pn] 35)).alloc (.cells #[.int .i64 d.cap, .int .i64 d.push, .int .i64 d.dust, .int .i64 d.res, .int .i64 d.rate, .int .i64 d.delay, .int .i64 d.maxH, .int .i64 d.flight, .int .i64 d.minH] 23)).alloc (.cells #[.int .i64 a.1.value, .int .u8 a.1.lock.kind, .string a.1.lock.term, .int .i64 a.1.lock.n, .slice a.2.1 a.1.lock.kids.length a.2.2] 66)).alloc (.cells #[.int .i64 b.1.value, .int .u8 b.1.lock.kind, .string b.1.lock.term, .int .i64 b.1.lock.n, .slice b.2.1 b.1.lock.kids.length b.2.2] 66))).block _ (lt_of_block H1.out)).trans H1.out) rfl
  have d3 : ((((w.alloc (.cells #[.string tx, .int .i64 pn] 35)).alloc (.cells #[.int .i64 d.cap, .int .i64 d.push, .int .i64 d.dust, .int .i64 d.res, .int .i64 d.rate, .int .i64 d.delay, .int .i64 d.maxH, .int .i64 d.flight, .int .i64 d.minH] 23)).alloc (.cells #[.int .i64 a.1.value, .int .u8 a.1.lock.kind, .string a.1.lock.term, .int .i64 a.1.lock.n, .slice a.2.1 a.1.lock.kids.length a.2.2] 66)).alloc (.cells #[.int .i64 b.1.value, .int .u8 b.1.lock.kind, .string b.1.lock.term, .int .i64 b.1.lock.n, .slice b.2.1 b.1.lock.kids.length b.2.2] 66)).cell? ⟨w.heap.size + 1, 3, none⟩ = some (.int .i64 d.res) := cell_of (j := 3) (((Below.refl ((((w.alloc (.cells #[.string tx, .int .i64 pn] 35)).alloc (.cells #[.int .i64 d.cap, .int .i64 d.push, .int .i64 d.dust, .int .i64 d.res, .int .i64 d.rate, .int .i64 d.delay, .int .i64 d.maxH, .int .i64 d.flight, .int .i64 d.minH] 23)).alloc (.cells #[.int .i64 a.1.value, .int .u8 a.1.lock.kind, .string a.1.lock.term, .int .i64 a.1.lock.n, .slice a.2.1 a.1.lock.kids.length a.2.2] 66)).alloc (.cells #[.int .i64 b.1.value, .int .u8 b.1.lock.kind, .string b.1.lock.term, .int .i64 b.1.lock.n, .slice b.2.1 b.1.lock.kids.length b.2.2] 66)).heap.size ((((w.alloc (.cells #[.string tx, .int .i64 pn] 35)).alloc (.cells #[.int .i64 d.cap, .int .i64 d.push, .int .i64 d.dust, .int .i64 d.res, .int .i64 d.rate, .int .i64 d.delay, .int .i64 d.maxH, .int .i64 d.flight, .int .i64 d.minH] 23)).alloc (.cells #[.int .i64 a.1.value, .int .u8 a.1.lock.kind, .string a.1.lock.term, .int .i64 a.1.lock.n, .slice a.2.1 a.1.lock.kids.length a.2.2] 66)).alloc (.cells #[.int .i64 b.1.value, .int .u8 b.1.lock.kind, .string b.1.lock.term, .int .i64 b.1.lock.n, .slice b.2.1 b.1.lock.kids.length b.2.2] 66))).block _ (lt_of_block H1.out)).trans H1.out) rfl
  have d4 : ((((w.alloc (.cells #[.string tx, .int .i64 pn] 35)).alloc (.cells #[.int .i64 d.cap, .int .i64 d.push, .int .i64 d.dust, .int .i64 d.res, .int .i64 d.rate, .int .i64 d.delay, .int .i64 d.maxH, .int .i64 d.flight, .int .i64 d.minH] 23)).alloc (.cells #[.int .i64 a.1.value, .int .u8 a.1.lock.kind, .string a.1.lock.term, .int .i64 a.1.lock.n, .slice a.2.1 a.1.lock.kids.length a.2.2] 66)).alloc (.cells #[.int .i64 b.1.value, .int .u8 b.1.lock.kind, .string b.1.lock.term, .int .i64 b.1.lock.n, .slice b.2.1 b.1.lock.kids.length b.2.2] 66)).cell? ⟨w.heap.size + 1, 4, none⟩ = some (.int .i64 d.rate) := cell_of (j := 4) (((Below.refl ((((w.alloc (.cells #[.string tx, .int .i64 pn] 35)).alloc (.cells #[.int .i64 d.cap, .int .i64 d.push, .int .i64 d.dust, .int .i64 d.res, .int .i64 d.rate, .int .i64 d.delay, .int .i64 d.maxH, .int .i64 d.flight, .int .i64 d.minH] 23)).alloc (.cells #[.int .i64 a.1.value, .int .u8 a.1.lock.kind, .string a.1.lock.term, .int .i64 a.1.lock.n, .slice a.2.1 a.1.lock.kids.length a.2.2] 66)).alloc (.cells #[.int .i64 b.1.value, .int .u8 b.1.lock.kind, .string b.1.lock.term, .int .i64 b.1.lock.n, .slice b.2.1 b.1.lock.kids.length b.2.2] 66)).heap.size ((((w.alloc (.cells #[.string tx, .int .i64 pn] 35)).alloc (.cells #[.int .i64 d.cap, .int .i64 d.push, .int .i64 d.dust, .int .i64 d.res, .int .i64 d.rate, .int .i64 d.delay, .int .i64 d.maxH, .int .i64 d.flight, .int .i64 d.minH] 23)).alloc (.cells #[.int .i64 a.1.value, .int .u8 a.1.lock.kind, .string a.1.lock.term, .int .i64 a.1.lock.n, .slice a.2.1 a.1.lock.kids.length a.2.2] 66)).alloc (.cells #[.int .i64 b.1.value, .int .u8 b.1.lock.kind, .string b.1.lock.term, .int .i64 b.1.lock.n, .slice b.2.1 b.1.lock.kids.length b.2.2] 66))).block _ (lt_of_block H1.out)).trans H1.out) rfl
  have d5 : ((((w.alloc (.cells #[.string tx, .int .i64 pn] 35)).alloc (.cells #[.int .i64 d.cap, .int .i64 d.push, .int .i64 d.dust, .int .i64 d.res, .int .i64 d.rate, .int .i64 d.delay, .int .i64 d.maxH, .int .i64 d.flight, .int .i64 d.minH] 23)).alloc (.cells #[.int .i64 a.1.value, .int .u8 a.1.lock.kind, .string a.1.lock.term, .int .i64 a.1.lock.n, .slice a.2.1 a.1.lock.kids.length a.2.2] 66)).alloc (.cells #[.int .i64 b.1.value, .int .u8 b.1.lock.kind, .string b.1.lock.term, .int .i64 b.1.lock.n, .slice b.2.1 b.1.lock.kids.length b.2.2] 66)).cell? ⟨w.heap.size + 1, 5, none⟩ = some (.int .i64 d.delay) := cell_of (j := 5) (((Below.refl ((((w.alloc (.cells #[.string tx, .int .i64 pn] 35)).alloc (.cells #[.int .i64 d.cap, .int .i64 d.push, .int .i64 d.dust, .int .i64 d.res, .int .i64 d.rate, .int .i64 d.delay, .int .i64 d.maxH, .int .i64 d.flight, .int .i64 d.minH] 23)).alloc (.cells #[.int .i64 a.1.value, .int .u8 a.1.lock.kind, .string a.1.lock.term, .int .i64 a.1.lock.n, .slice a.2.1 a.1.lock.kids.length a.2.2] 66)).alloc (.cells #[.int .i64 b.1.value, .int .u8 b.1.lock.kind, .string b.1.lock.term, .int .i64 b.1.lock.n, .slice b.2.1 b.1.lock.kids.length b.2.2] 66)).heap.size ((((w.alloc (.cells #[.string tx, .int .i64 pn] 35)).alloc (.cells #[.int .i64 d.cap, .int .i64 d.push, .int .i64 d.dust, .int .i64 d.res, .int .i64 d.rate, .int .i64 d.delay, .int .i64 d.maxH, .int .i64 d.flight, .int .i64 d.minH] 23)).alloc (.cells #[.int .i64 a.1.value, .int .u8 a.1.lock.kind, .string a.1.lock.term, .int .i64 a.1.lock.n, .slice a.2.1 a.1.lock.kids.length a.2.2] 66)).alloc (.cells #[.int .i64 b.1.value, .int .u8 b.1.lock.kind, .string b.1.lock.term, .int .i64 b.1.lock.n, .slice b.2.1 b.1.lock.kids.length b.2.2] 66))).block _ (lt_of_block H1.out)).trans H1.out) rfl
  have d6 : ((((w.alloc (.cells #[.string tx, .int .i64 pn] 35)).alloc (.cells #[.int .i64 d.cap, .int .i64 d.push, .int .i64 d.dust, .int .i64 d.res, .int .i64 d.rate, .int .i64 d.delay, .int .i64 d.maxH, .int .i64 d.flight, .int .i64 d.minH] 23)).alloc (.cells #[.int .i64 a.1.value, .int .u8 a.1.lock.kind, .string a.1.lock.term, .int .i64 a.1.lock.n, .slice a.2.1 a.1.lock.kids.length a.2.2] 66)).alloc (.cells #[.int .i64 b.1.value, .int .u8 b.1.lock.kind, .string b.1.lock.term, .int .i64 b.1.lock.n, .slice b.2.1 b.1.lock.kids.length b.2.2] 66)).cell? ⟨w.heap.size + 1, 6, none⟩ = some (.int .i64 d.maxH) := cell_of (j := 6) (((Below.refl ((((w.alloc (.cells #[.string tx, .int .i64 pn] 35)).alloc (.cells #[.int .i64 d.cap, .int .i64 d.push, .int .i64 d.dust, .int .i64 d.res, .int .i64 d.rate, .int .i64 d.delay, .int .i64 d.maxH, .int .i64 d.flight, .int .i64 d.minH] 23)).alloc (.cells #[.int .i64 a.1.value, .int .u8 a.1.lock.kind, .string a.1.lock.term, .int .i64 a.1.lock.n, .slice a.2.1 a.1.lock.kids.length a.2.2] 66)).alloc (.cells #[.int .i64 b.1.value, .int .u8 b.1.lock.kind, .string b.1.lock.term, .int .i64 b.1.lock.n, .slice b.2.1 b.1.lock.kids.length b.2.2] 66)).heap.size ((((w.alloc (.cells #[.string tx, .int .i64 pn] 35)).alloc (.cells #[.int .i64 d.cap, .int .i64 d.push, .int .i64 d.dust, .int .i64 d.res, .int .i64 d.rate, .int .i64 d.delay, .int .i64 d.maxH, .int .i64 d.flight, .int .i64 d.minH] 23)).alloc (.cells #[.int .i64 a.1.value, .int .u8 a.1.lock.kind, .string a.1.lock.term, .int .i64 a.1.lock.n, .slice a.2.1 a.1.lock.kids.length a.2.2] 66)).alloc (.cells #[.int .i64 b.1.value, .int .u8 b.1.lock.kind, .string b.1.lock.term, .int .i64 b.1.lock.n, .slice b.2.1 b.1.lock.kids.length b.2.2] 66))).block _ (lt_of_block H1.out)).trans H1.out) rfl
  have d7 : ((((w.alloc (.cells #[.string tx, .int .i64 pn] 35)).alloc (.cells #[.int .i64 d.cap, .int .i64 d.push, .int .i64 d.dust, .int .i64 d.res, .int .i64 d.rate, .int .i64 d.delay, .int .i64 d.maxH, .int .i64 d.flight, .int .i64 d.minH] 23)).alloc (.cells #[.int .i64 a.1.value, .int .u8 a.1.lock.kind, .string a.1.lock.term, .int .i64 a.1.lock.n, .slice a.2.1 a.1.lock.kids.length a.2.2] 66)).alloc (.cells #[.int .i64 b.1.value, .int .u8 b.1.lock.kind, .string b.1.lock.term, .int .i64 b.1.lock.n, .slice b.2.1 b.1.lock.kids.length b.2.2] 66)).cell? ⟨w.heap.size + 1, 7, none⟩ = some (.int .i64 d.flight) := cell_of (j := 7) (((Below.refl ((((w.alloc (.cells #[.string tx, .int .i64 pn] 35)).alloc (.cells #[.int .i64 d.cap, .int .i64 d.push, .int .i64 d.dust, .int .i64 d.res, .int .i64 d.rate, .int .i64 d.delay, .int .i64 d.maxH, .int .i64 d.flight, .int .i64 d.minH] 23)).alloc (.cells #[.int .i64 a.1.value, .int .u8 a.1.lock.kind, .string a.1.lock.term, .int .i64 a.1.lock.n, .slice a.2.1 a.1.lock.kids.length a.2.2] 66)).alloc (.cells #[.int .i64 b.1.value, .int .u8 b.1.lock.kind, .string b.1.lock.term, .int .i64 b.1.lock.n, .slice b.2.1 b.1.lock.kids.length b.2.2] 66)).heap.size ((((w.alloc (.cells #[.string tx, .int .i64 pn] 35)).alloc (.cells #[.int .i64 d.cap, .int .i64 d.push, .int .i64 d.dust, .int .i64 d.res, .int .i64 d.rate, .int .i64 d.delay, .int .i64 d.maxH, .int .i64 d.flight, .int .i64 d.minH] 23)).alloc (.cells #[.int .i64 a.1.value, .int .u8 a.1.lock.kind, .string a.1.lock.term, .int .i64 a.1.lock.n, .slice a.2.1 a.1.lock.kids.length a.2.2] 66)).alloc (.cells #[.int .i64 b.1.value, .int .u8 b.1.lock.kind, .string b.1.lock.term, .int .i64 b.1.lock.n, .slice b.2.1 b.1.lock.kids.length b.2.2] 66))).block _ (lt_of_block H1.out)).trans H1.out) rfl
  have d8 : ((((w.alloc (.cells #[.string tx, .int .i64 pn] 35)).alloc (.cells #[.int .i64 d.cap, .int .i64 d.push, .int .i64 d.dust, .int .i64 d.res, .int .i64 d.rate, .int .i64 d.delay, .int .i64 d.maxH, .int .i64 d.flight, .int .i64 d.minH] 23)).alloc (.cells #[.int .i64 a.1.value, .int .u8 a.1.lock.kind, .string a.1.lock.term, .int .i64 a.1.lock.n, .slice a.2.1 a.1.lock.kids.length a.2.2] 66)).alloc (.cells #[.int .i64 b.1.value, .int .u8 b.1.lock.kind, .string b.1.lock.term, .int .i64 b.1.lock.n, .slice b.2.1 b.1.lock.kids.length b.2.2] 66)).cell? ⟨w.heap.size + 1, 8, none⟩ = some (.int .i64 d.minH) := cell_of (j := 8) (((Below.refl ((((w.alloc (.cells #[.string tx, .int .i64 pn] 35)).alloc (.cells #[.int .i64 d.cap, .int .i64 d.push, .int .i64 d.dust, .int .i64 d.res, .int .i64 d.rate, .int .i64 d.delay, .int .i64 d.maxH, .int .i64 d.flight, .int .i64 d.minH] 23)).alloc (.cells #[.int .i64 a.1.value, .int .u8 a.1.lock.kind, .string a.1.lock.term, .int .i64 a.1.lock.n, .slice a.2.1 a.1.lock.kids.length a.2.2] 66)).alloc (.cells #[.int .i64 b.1.value, .int .u8 b.1.lock.kind, .string b.1.lock.term, .int .i64 b.1.lock.n, .slice b.2.1 b.1.lock.kids.length b.2.2] 66)).heap.size ((((w.alloc (.cells #[.string tx, .int .i64 pn] 35)).alloc (.cells #[.int .i64 d.cap, .int .i64 d.push, .int .i64 d.dust, .int .i64 d.res, .int .i64 d.rate, .int .i64 d.delay, .int .i64 d.maxH, .int .i64 d.flight, .int .i64 d.minH] 23)).alloc (.cells #[.int .i64 a.1.value, .int .u8 a.1.lock.kind, .string a.1.lock.term, .int .i64 a.1.lock.n, .slice a.2.1 a.1.lock.kids.length a.2.2] 66)).alloc (.cells #[.int .i64 b.1.value, .int .u8 b.1.lock.kind, .string b.1.lock.term, .int .i64 b.1.lock.n, .slice b.2.1 b.1.lock.kids.length b.2.2] 66))).block _ (lt_of_block H1.out)).trans H1.out) rfl
  have a0 : ((((w.alloc (.cells #[.string tx, .int .i64 pn] 35)).alloc (.cells #[.int .i64 d.cap, .int .i64 d.push, .int .i64 d.dust, .int .i64 d.res, .int .i64 d.rate, .int .i64 d.delay, .int .i64 d.maxH, .int .i64 d.flight, .int .i64 d.minH] 23)).alloc (.cells #[.int .i64 a.1.value, .int .u8 a.1.lock.kind, .string a.1.lock.term, .int .i64 a.1.lock.n, .slice a.2.1 a.1.lock.kids.length a.2.2] 66)).alloc (.cells #[.int .i64 b.1.value, .int .u8 b.1.lock.kind, .string b.1.lock.term, .int .i64 b.1.lock.n, .slice b.2.1 b.1.lock.kids.length b.2.2] 66)).cell? ⟨w.heap.size + 1 + 1, 0, none⟩ = some (.int .i64 a.1.value) := cell_of (j := 0) (((Below.refl ((((w.alloc (.cells #[.string tx, .int .i64 pn] 35)).alloc (.cells #[.int .i64 d.cap, .int .i64 d.push, .int .i64 d.dust, .int .i64 d.res, .int .i64 d.rate, .int .i64 d.delay, .int .i64 d.maxH, .int .i64 d.flight, .int .i64 d.minH] 23)).alloc (.cells #[.int .i64 a.1.value, .int .u8 a.1.lock.kind, .string a.1.lock.term, .int .i64 a.1.lock.n, .slice a.2.1 a.1.lock.kids.length a.2.2] 66)).alloc (.cells #[.int .i64 b.1.value, .int .u8 b.1.lock.kind, .string b.1.lock.term, .int .i64 b.1.lock.n, .slice b.2.1 b.1.lock.kids.length b.2.2] 66)).heap.size ((((w.alloc (.cells #[.string tx, .int .i64 pn] 35)).alloc (.cells #[.int .i64 d.cap, .int .i64 d.push, .int .i64 d.dust, .int .i64 d.res, .int .i64 d.rate, .int .i64 d.delay, .int .i64 d.maxH, .int .i64 d.flight, .int .i64 d.minH] 23)).alloc (.cells #[.int .i64 a.1.value, .int .u8 a.1.lock.kind, .string a.1.lock.term, .int .i64 a.1.lock.n, .slice a.2.1 a.1.lock.kids.length a.2.2] 66)).alloc (.cells #[.int .i64 b.1.value, .int .u8 b.1.lock.kind, .string b.1.lock.term, .int .i64 b.1.lock.n, .slice b.2.1 b.1.lock.kids.length b.2.2] 66))).block _ (lt_of_block H2.out)).trans H2.out) rfl
  have a1 : ((((w.alloc (.cells #[.string tx, .int .i64 pn] 35)).alloc (.cells #[.int .i64 d.cap, .int .i64 d.push, .int .i64 d.dust, .int .i64 d.res, .int .i64 d.rate, .int .i64 d.delay, .int .i64 d.maxH, .int .i64 d.flight, .int .i64 d.minH] 23)).alloc (.cells #[.int .i64 a.1.value, .int .u8 a.1.lock.kind, .string a.1.lock.term, .int .i64 a.1.lock.n, .slice a.2.1 a.1.lock.kids.length a.2.2] 66)).alloc (.cells #[.int .i64 b.1.value, .int .u8 b.1.lock.kind, .string b.1.lock.term, .int .i64 b.1.lock.n, .slice b.2.1 b.1.lock.kids.length b.2.2] 66)).cell? ⟨w.heap.size + 1 + 1, 1, none⟩ = some (.int .u8 a.1.lock.kind) := cell_of (j := 1) (((Below.refl ((((w.alloc (.cells #[.string tx, .int .i64 pn] 35)).alloc (.cells #[.int .i64 d.cap, .int .i64 d.push, .int .i64 d.dust, .int .i64 d.res, .int .i64 d.rate, .int .i64 d.delay, .int .i64 d.maxH, .int .i64 d.flight, .int .i64 d.minH] 23)).alloc (.cells #[.int .i64 a.1.value, .int .u8 a.1.lock.kind, .string a.1.lock.term, .int .i64 a.1.lock.n, .slice a.2.1 a.1.lock.kids.length a.2.2] 66)).alloc (.cells #[.int .i64 b.1.value, .int .u8 b.1.lock.kind, .string b.1.lock.term, .int .i64 b.1.lock.n, .slice b.2.1 b.1.lock.kids.length b.2.2] 66)).heap.size ((((w.alloc (.cells #[.string tx, .int .i64 pn] 35)).alloc (.cells #[.int .i64 d.cap, .int .i64 d.push, .int .i64 d.dust, .int .i64 d.res, .int .i64 d.rate, .int .i64 d.delay, .int .i64 d.maxH, .int .i64 d.flight, .int .i64 d.minH] 23)).alloc (.cells #[.int .i64 a.1.value, .int .u8 a.1.lock.kind, .string a.1.lock.term, .int .i64 a.1.lock.n, .slice a.2.1 a.1.lock.kids.length a.2.2] 66)).alloc (.cells #[.int .i64 b.1.value, .int .u8 b.1.lock.kind, .string b.1.lock.term, .int .i64 b.1.lock.n, .slice b.2.1 b.1.lock.kids.length b.2.2] 66))).block _ (lt_of_block H2.out)).trans H2.out) rfl
  have a2 : ((((w.alloc (.cells #[.string tx, .int .i64 pn] 35)).alloc (.cells #[.int .i64 d.cap, .int .i64 d.push, .int .i64 d.dust, .int .i64 d.res, .int .i64 d.rate, .int .i64 d.delay, .int .i64 d.maxH, .int .i64 d.flight, .int .i64 d.minH] 23)).alloc (.cells #[.int .i64 a.1.value, .int .u8 a.1.lock.kind, .string a.1.lock.term, .int .i64 a.1.lock.n, .slice a.2.1 a.1.lock.kids.length a.2.2] 66)).alloc (.cells #[.int .i64 b.1.value, .int .u8 b.1.lock.kind, .string b.1.lock.term, .int .i64 b.1.lock.n, .slice b.2.1 b.1.lock.kids.length b.2.2] 66)).cell? ⟨w.heap.size + 1 + 1, 2, none⟩ = some (.string a.1.lock.term) := cell_of (j := 2) (((Below.refl ((((w.alloc (.cells #[.string tx, .int .i64 pn] 35)).alloc (.cells #[.int .i64 d.cap, .int .i64 d.push, .int .i64 d.dust, .int .i64 d.res, .int .i64 d.rate, .int .i64 d.delay, .int .i64 d.maxH, .int .i64 d.flight, .int .i64 d.minH] 23)).alloc (.cells #[.int .i64 a.1.value, .int .u8 a.1.lock.kind, .string a.1.lock.term, .int .i64 a.1.lock.n, .slice a.2.1 a.1.lock.kids.length a.2.2] 66)).alloc (.cells #[.int .i64 b.1.value, .int .u8 b.1.lock.kind, .string b.1.lock.term, .int .i64 b.1.lock.n, .slice b.2.1 b.1.lock.kids.length b.2.2] 66)).heap.size ((((w.alloc (.cells #[.string tx, .int .i64 pn] 35)).alloc (.cells #[.int .i64 d.cap, .int .i64 d.push, .int .i64 d.dust, .int .i64 d.res, .int .i64 d.rate, .int .i64 d.delay, .int .i64 d.maxH, .int .i64 d.flight, .int .i64 d.minH] 23)).alloc (.cells #[.int .i64 a.1.value, .int .u8 a.1.lock.kind, .string a.1.lock.term, .int .i64 a.1.lock.n, .slice a.2.1 a.1.lock.kids.length a.2.2] 66)).alloc (.cells #[.int .i64 b.1.value, .int .u8 b.1.lock.kind, .string b.1.lock.term, .int .i64 b.1.lock.n, .slice b.2.1 b.1.lock.kids.length b.2.2] 66))).block _ (lt_of_block H2.out)).trans H2.out) rfl
  have a3 : ((((w.alloc (.cells #[.string tx, .int .i64 pn] 35)).alloc (.cells #[.int .i64 d.cap, .int .i64 d.push, .int .i64 d.dust, .int .i64 d.res, .int .i64 d.rate, .int .i64 d.delay, .int .i64 d.maxH, .int .i64 d.flight, .int .i64 d.minH] 23)).alloc (.cells #[.int .i64 a.1.value, .int .u8 a.1.lock.kind, .string a.1.lock.term, .int .i64 a.1.lock.n, .slice a.2.1 a.1.lock.kids.length a.2.2] 66)).alloc (.cells #[.int .i64 b.1.value, .int .u8 b.1.lock.kind, .string b.1.lock.term, .int .i64 b.1.lock.n, .slice b.2.1 b.1.lock.kids.length b.2.2] 66)).cell? ⟨w.heap.size + 1 + 1, 3, none⟩ = some (.int .i64 a.1.lock.n) := cell_of (j := 3) (((Below.refl ((((w.alloc (.cells #[.string tx, .int .i64 pn] 35)).alloc (.cells #[.int .i64 d.cap, .int .i64 d.push, .int .i64 d.dust, .int .i64 d.res, .int .i64 d.rate, .int .i64 d.delay, .int .i64 d.maxH, .int .i64 d.flight, .int .i64 d.minH] 23)).alloc (.cells #[.int .i64 a.1.value, .int .u8 a.1.lock.kind, .string a.1.lock.term, .int .i64 a.1.lock.n, .slice a.2.1 a.1.lock.kids.length a.2.2] 66)).alloc (.cells #[.int .i64 b.1.value, .int .u8 b.1.lock.kind, .string b.1.lock.term, .int .i64 b.1.lock.n, .slice b.2.1 b.1.lock.kids.length b.2.2] 66)).heap.size ((((w.alloc (.cells #[.string tx, .int .i64 pn] 35)).alloc (.cells #[.int .i64 d.cap, .int .i64 d.push, .int .i64 d.dust, .int .i64 d.res, .int .i64 d.rate, .int .i64 d.delay, .int .i64 d.maxH, .int .i64 d.flight, .int .i64 d.minH] 23)).alloc (.cells #[.int .i64 a.1.value, .int .u8 a.1.lock.kind, .string a.1.lock.term, .int .i64 a.1.lock.n, .slice a.2.1 a.1.lock.kids.length a.2.2] 66)).alloc (.cells #[.int .i64 b.1.value, .int .u8 b.1.lock.kind, .string b.1.lock.term, .int .i64 b.1.lock.n, .slice b.2.1 b.1.lock.kids.length b.2.2] 66))).block _ (lt_of_block H2.out)).trans H2.out) rfl
  have a4 : ((((w.alloc (.cells #[.string tx, .int .i64 pn] 35)).alloc (.cells #[.int .i64 d.cap, .int .i64 d.push, .int .i64 d.dust, .int .i64 d.res, .int .i64 d.rate, .int .i64 d.delay, .int .i64 d.maxH, .int .i64 d.flight, .int .i64 d.minH] 23)).alloc (.cells #[.int .i64 a.1.value, .int .u8 a.1.lock.kind, .string a.1.lock.term, .int .i64 a.1.lock.n, .slice a.2.1 a.1.lock.kids.length a.2.2] 66)).alloc (.cells #[.int .i64 b.1.value, .int .u8 b.1.lock.kind, .string b.1.lock.term, .int .i64 b.1.lock.n, .slice b.2.1 b.1.lock.kids.length b.2.2] 66)).cell? ⟨w.heap.size + 1 + 1, 4, none⟩ = some (.slice a.2.1 a.1.lock.kids.length a.2.2) := cell_of (j := 4) (((Below.refl ((((w.alloc (.cells #[.string tx, .int .i64 pn] 35)).alloc (.cells #[.int .i64 d.cap, .int .i64 d.push, .int .i64 d.dust, .int .i64 d.res, .int .i64 d.rate, .int .i64 d.delay, .int .i64 d.maxH, .int .i64 d.flight, .int .i64 d.minH] 23)).alloc (.cells #[.int .i64 a.1.value, .int .u8 a.1.lock.kind, .string a.1.lock.term, .int .i64 a.1.lock.n, .slice a.2.1 a.1.lock.kids.length a.2.2] 66)).alloc (.cells #[.int .i64 b.1.value, .int .u8 b.1.lock.kind, .string b.1.lock.term, .int .i64 b.1.lock.n, .slice b.2.1 b.1.lock.kids.length b.2.2] 66)).heap.size ((((w.alloc (.cells #[.string tx, .int .i64 pn] 35)).alloc (.cells #[.int .i64 d.cap, .int .i64 d.push, .int .i64 d.dust, .int .i64 d.res, .int .i64 d.rate, .int .i64 d.delay, .int .i64 d.maxH, .int .i64 d.flight, .int .i64 d.minH] 23)).alloc (.cells #[.int .i64 a.1.value, .int .u8 a.1.lock.kind, .string a.1.lock.term, .int .i64 a.1.lock.n, .slice a.2.1 a.1.lock.kids.length a.2.2] 66)).alloc (.cells #[.int .i64 b.1.value, .int .u8 b.1.lock.kind, .string b.1.lock.term, .int .i64 b.1.lock.n, .slice b.2.1 b.1.lock.kids.length b.2.2] 66))).block _ (lt_of_block H2.out)).trans H2.out) rfl
  have b0 : ((((w.alloc (.cells #[.string tx, .int .i64 pn] 35)).alloc (.cells #[.int .i64 d.cap, .int .i64 d.push, .int .i64 d.dust, .int .i64 d.res, .int .i64 d.rate, .int .i64 d.delay, .int .i64 d.maxH, .int .i64 d.flight, .int .i64 d.minH] 23)).alloc (.cells #[.int .i64 a.1.value, .int .u8 a.1.lock.kind, .string a.1.lock.term, .int .i64 a.1.lock.n, .slice a.2.1 a.1.lock.kids.length a.2.2] 66)).alloc (.cells #[.int .i64 b.1.value, .int .u8 b.1.lock.kind, .string b.1.lock.term, .int .i64 b.1.lock.n, .slice b.2.1 b.1.lock.kids.length b.2.2] 66)).cell? ⟨w.heap.size + 1 + 1 + 1, 0, none⟩ = some (.int .i64 b.1.value) := cell_of (j := 0) (((Below.refl ((((w.alloc (.cells #[.string tx, .int .i64 pn] 35)).alloc (.cells #[.int .i64 d.cap, .int .i64 d.push, .int .i64 d.dust, .int .i64 d.res, .int .i64 d.rate, .int .i64 d.delay, .int .i64 d.maxH, .int .i64 d.flight, .int .i64 d.minH] 23)).alloc (.cells #[.int .i64 a.1.value, .int .u8 a.1.lock.kind, .string a.1.lock.term, .int .i64 a.1.lock.n, .slice a.2.1 a.1.lock.kids.length a.2.2] 66)).alloc (.cells #[.int .i64 b.1.value, .int .u8 b.1.lock.kind, .string b.1.lock.term, .int .i64 b.1.lock.n, .slice b.2.1 b.1.lock.kids.length b.2.2] 66)).heap.size ((((w.alloc (.cells #[.string tx, .int .i64 pn] 35)).alloc (.cells #[.int .i64 d.cap, .int .i64 d.push, .int .i64 d.dust, .int .i64 d.res, .int .i64 d.rate, .int .i64 d.delay, .int .i64 d.maxH, .int .i64 d.flight, .int .i64 d.minH] 23)).alloc (.cells #[.int .i64 a.1.value, .int .u8 a.1.lock.kind, .string a.1.lock.term, .int .i64 a.1.lock.n, .slice a.2.1 a.1.lock.kids.length a.2.2] 66)).alloc (.cells #[.int .i64 b.1.value, .int .u8 b.1.lock.kind, .string b.1.lock.term, .int .i64 b.1.lock.n, .slice b.2.1 b.1.lock.kids.length b.2.2] 66))).block _ (lt_of_block H3.out)).trans H3.out) rfl
  have b1 : ((((w.alloc (.cells #[.string tx, .int .i64 pn] 35)).alloc (.cells #[.int .i64 d.cap, .int .i64 d.push, .int .i64 d.dust, .int .i64 d.res, .int .i64 d.rate, .int .i64 d.delay, .int .i64 d.maxH, .int .i64 d.flight, .int .i64 d.minH] 23)).alloc (.cells #[.int .i64 a.1.value, .int .u8 a.1.lock.kind, .string a.1.lock.term, .int .i64 a.1.lock.n, .slice a.2.1 a.1.lock.kids.length a.2.2] 66)).alloc (.cells #[.int .i64 b.1.value, .int .u8 b.1.lock.kind, .string b.1.lock.term, .int .i64 b.1.lock.n, .slice b.2.1 b.1.lock.kids.length b.2.2] 66)).cell? ⟨w.heap.size + 1 + 1 + 1, 1, none⟩ = some (.int .u8 b.1.lock.kind) := cell_of (j := 1) (((Below.refl ((((w.alloc (.cells #[.string tx, .int .i64 pn] 35)).alloc (.cells #[.int .i64 d.cap, .int .i64 d.push, .int .i64 d.dust, .int .i64 d.res, .int .i64 d.rate, .int .i64 d.delay, .int .i64 d.maxH, .int .i64 d.flight, .int .i64 d.minH] 23)).alloc (.cells #[.int .i64 a.1.value, .int .u8 a.1.lock.kind, .string a.1.lock.term, .int .i64 a.1.lock.n, .slice a.2.1 a.1.lock.kids.length a.2.2] 66)).alloc (.cells #[.int .i64 b.1.value, .int .u8 b.1.lock.kind, .string b.1.lock.term, .int .i64 b.1.lock.n, .slice b.2.1 b.1.lock.kids.length b.2.2] 66)).heap.size ((((w.alloc (.cells #[.string tx, .int .i64 pn] 35)).alloc (.cells #[.int .i64 d.cap, .int .i64 d.push, .int .i64 d.dust, .int .i64 d.res, .int .i64 d.rate, .int .i64 d.delay, .int .i64 d.maxH, .int .i64 d.flight, .int .i64 d.minH] 23)).alloc (.cells #[.int .i64 a.1.value, .int .u8 a.1.lock.kind, .string a.1.lock.term, .int .i64 a.1.lock.n, .slice a.2.1 a.1.lock.kids.length a.2.2] 66)).alloc (.cells #[.int .i64 b.1.value, .int .u8 b.1.lock.kind, .string b.1.lock.term, .int .i64 b.1.lock.n, .slice b.2.1 b.1.lock.kids.length b.2.2] 66))).block _ (lt_of_block H3.out)).trans H3.out) rfl
  have b2 : ((((w.alloc (.cells #[.string tx, .int .i64 pn] 35)).alloc (.cells #[.int .i64 d.cap, .int .i64 d.push, .int .i64 d.dust, .int .i64 d.res, .int .i64 d.rate, .int .i64 d.delay, .int .i64 d.maxH, .int .i64 d.flight, .int .i64 d.minH] 23)).alloc (.cells #[.int .i64 a.1.value, .int .u8 a.1.lock.kind, .string a.1.lock.term, .int .i64 a.1.lock.n, .slice a.2.1 a.1.lock.kids.length a.2.2] 66)).alloc (.cells #[.int .i64 b.1.value, .int .u8 b.1.lock.kind, .string b.1.lock.term, .int .i64 b.1.lock.n, .slice b.2.1 b.1.lock.kids.length b.2.2] 66)).cell? ⟨w.heap.size + 1 + 1 + 1, 2, none⟩ = some (.string b.1.lock.term) := cell_of (j := 2) (((Below.refl ((((w.alloc (.cells #[.string tx, .int .i64 pn] 35)).alloc (.cells #[.int .i64 d.cap, .int .i64 d.push, .int .i64 d.dust, .int .i64 d.res, .int .i64 d.rate, .int .i64 d.delay, .int .i64 d.maxH, .int .i64 d.flight, .int .i64 d.minH] 23)).alloc (.cells #[.int .i64 a.1.value, .int .u8 a.1.lock.kind, .string a.1.lock.term, .int .i64 a.1.lock.n, .slice a.2.1 a.1.lock.kids.length a.2.2] 66)).alloc (.cells #[.int .i64 b.1.value, .int .u8 b.1.lock.kind, .string b.1.lock.term, .int .i64 b.1.lock.n, .slice b.2.1 b.1.lock.kids.length b.2.2] 66)).heap.size ((((w.alloc (.cells #[.string tx, .int .i64 pn] 35)).alloc (.cells #[.int .i64 d.cap, .int .i64 d.push, .int .i64 d.dust, .int .i64 d.res, .int .i64 d.rate, .int .i64 d.delay, .int .i64 d.maxH, .int .i64 d.flight, .int .i64 d.minH] 23)).alloc (.cells #[.int .i64 a.1.value, .int .u8 a.1.lock.kind, .string a.1.lock.term, .int .i64 a.1.lock.n, .slice a.2.1 a.1.lock.kids.length a.2.2] 66)).alloc (.cells #[.int .i64 b.1.value, .int .u8 b.1.lock.kind, .string b.1.lock.term, .int .i64 b.1.lock.n, .slice b.2.1 b.1.lock.kids.length b.2.2] 66))).block _ (lt_of_block H3.out)).trans H3.out) rfl
  have b3 : ((((w.alloc (.cells #[.string tx, .int .i64 pn] 35)).alloc (.cells #[.int .i64 d.cap, .int .i64 d.push, .int .i64 d.dust, .int .i64 d.res, .int .i64 d.rate, .int .i64 d.delay, .int .i64 d.maxH, .int .i64 d.flight, .int .i64 d.minH] 23)).alloc (.cells #[.int .i64 a.1.value, .int .u8 a.1.lock.kind, .string a.1.lock.term, .int .i64 a.1.lock.n, .slice a.2.1 a.1.lock.kids.length a.2.2] 66)).alloc (.cells #[.int .i64 b.1.value, .int .u8 b.1.lock.kind, .string b.1.lock.term, .int .i64 b.1.lock.n, .slice b.2.1 b.1.lock.kids.length b.2.2] 66)).cell? ⟨w.heap.size + 1 + 1 + 1, 3, none⟩ = some (.int .i64 b.1.lock.n) := cell_of (j := 3) (((Below.refl ((((w.alloc (.cells #[.string tx, .int .i64 pn] 35)).alloc (.cells #[.int .i64 d.cap, .int .i64 d.push, .int .i64 d.dust, .int .i64 d.res, .int .i64 d.rate, .int .i64 d.delay, .int .i64 d.maxH, .int .i64 d.flight, .int .i64 d.minH] 23)).alloc (.cells #[.int .i64 a.1.value, .int .u8 a.1.lock.kind, .string a.1.lock.term, .int .i64 a.1.lock.n, .slice a.2.1 a.1.lock.kids.length a.2.2] 66)).alloc (.cells #[.int .i64 b.1.value, .int .u8 b.1.lock.kind, .string b.1.lock.term, .int .i64 b.1.lock.n, .slice b.2.1 b.1.lock.kids.length b.2.2] 66)).heap.size ((((w.alloc (.cells #[.string tx, .int .i64 pn] 35)).alloc (.cells #[.int .i64 d.cap, .int .i64 d.push, .int .i64 d.dust, .int .i64 d.res, .int .i64 d.rate, .int .i64 d.delay, .int .i64 d.maxH, .int .i64 d.flight, .int .i64 d.minH] 23)).alloc (.cells #[.int .i64 a.1.value, .int .u8 a.1.lock.kind, .string a.1.lock.term, .int .i64 a.1.lock.n, .slice a.2.1 a.1.lock.kids.length a.2.2] 66)).alloc (.cells #[.int .i64 b.1.value, .int .u8 b.1.lock.kind, .string b.1.lock.term, .int .i64 b.1.lock.n, .slice b.2.1 b.1.lock.kids.length b.2.2] 66))).block _ (lt_of_block H3.out)).trans H3.out) rfl
  have b4 : ((((w.alloc (.cells #[.string tx, .int .i64 pn] 35)).alloc (.cells #[.int .i64 d.cap, .int .i64 d.push, .int .i64 d.dust, .int .i64 d.res, .int .i64 d.rate, .int .i64 d.delay, .int .i64 d.maxH, .int .i64 d.flight, .int .i64 d.minH] 23)).alloc (.cells #[.int .i64 a.1.value, .int .u8 a.1.lock.kind, .string a.1.lock.term, .int .i64 a.1.lock.n, .slice a.2.1 a.1.lock.kids.length a.2.2] 66)).alloc (.cells #[.int .i64 b.1.value, .int .u8 b.1.lock.kind, .string b.1.lock.term, .int .i64 b.1.lock.n, .slice b.2.1 b.1.lock.kids.length b.2.2] 66)).cell? ⟨w.heap.size + 1 + 1 + 1, 4, none⟩ = some (.slice b.2.1 b.1.lock.kids.length b.2.2) := cell_of (j := 4) (((Below.refl ((((w.alloc (.cells #[.string tx, .int .i64 pn] 35)).alloc (.cells #[.int .i64 d.cap, .int .i64 d.push, .int .i64 d.dust, .int .i64 d.res, .int .i64 d.rate, .int .i64 d.delay, .int .i64 d.maxH, .int .i64 d.flight, .int .i64 d.minH] 23)).alloc (.cells #[.int .i64 a.1.value, .int .u8 a.1.lock.kind, .string a.1.lock.term, .int .i64 a.1.lock.n, .slice a.2.1 a.1.lock.kids.length a.2.2] 66)).alloc (.cells #[.int .i64 b.1.value, .int .u8 b.1.lock.kind, .string b.1.lock.term, .int .i64 b.1.lock.n, .slice b.2.1 b.1.lock.kids.length b.2.2] 66)).heap.size ((((w.alloc (.cells #[.string tx, .int .i64 pn] 35)).alloc (.cells #[.int .i64 d.cap, .int .i64 d.push, .int .i64 d.dust, .int .i64 d.res, .int .i64 d.rate, .int .i64 d.delay, .int .i64 d.maxH, .int .i64 d.flight, .int .i64 d.minH] 23)).alloc (.cells #[.int .i64 a.1.value, .int .u8 a.1.lock.kind, .string a.1.lock.term, .int .i64 a.1.lock.n, .slice a.2.1 a.1.lock.kids.length a.2.2] 66)).alloc (.cells #[.int .i64 b.1.value, .int .u8 b.1.lock.kind, .string b.1.lock.term, .int .i64 b.1.lock.n, .slice b.2.1 b.1.lock.kids.length b.2.2] 66))).block _ (lt_of_block H3.out)).trans H3.out) rfl
  clear hb0 hca hcb hba hbb hv ht
  by_cases h100 : (100 : Int) < (tx.size : Int)
  · go_enter Tryz.func7, Tryz.ntmps7
    go_wp2_with fail
    go_ret
    exact ⟨rfl, HB.out⟩
  · have hts : tx.size ≤ 100 := by omega
    go_enter Tryz.func7, Tryz.ntmps7
    go_wp2_with fail
    generalize ((((w.alloc (.cells #[.string tx, .int .i64 pn] 35)).alloc (.cells #[.int .i64 d.cap, .int .i64 d.push, .int .i64 d.dust, .int .i64 d.res, .int .i64 d.rate, .int .i64 d.delay, .int .i64 d.maxH, .int .i64 d.flight, .int .i64 d.minH] 23)).alloc (.cells #[.int .i64 a.1.value, .int .u8 a.1.lock.kind, .string a.1.lock.term, .int .i64 a.1.lock.n, .slice a.2.1 a.1.lock.kids.length a.2.2] 66)).alloc (.cells #[.int .i64 b.1.value, .int .u8 b.1.lock.kind, .string b.1.lock.term, .int .i64 b.1.lock.n, .slice b.2.1 b.1.lock.kids.length b.2.2] 66)) = V at HB H0 H1 H2 H3 HCA HCB HV HT hs4 p0 p1 d0 d1 d2 d3 d4 d5 d6 d7 d8 a0 a1 a2 a3 a4 b0 b1 b2 b3 b4 ⊢
    refine (lsize_all _ a.1.lock _ 60 V (Nat.le_refl _) HBA.out (by decide) (by decide) HCA.out).mono ?_
    rintro e w1 ⟨rfl, hb1⟩
    have HB1 := Lib.hid hb1
    clear p0 p1 d0 d1 d2 d3 d4 d5 d6 d7 d8 a0 a1 a2 a3 a4 b0 b1 b2 b3 b4
    obtain ⟨la, hla⟩ : ∃ la, lsizeT a.1.lock 60 = la := ⟨_, rfl⟩
    rw [hla] at HSA ⊢
    have p0 : w1.cell? ⟨w.heap.size, 0, none⟩ = some (.string tx) := cell_of (j := 0) ((hb1.block _ (lt_of_block H0.out)).trans H0.out) rfl
    have p1 : w1.cell? ⟨w.heap.size, 1, none⟩ = some (.int .i64 pn) := cell_of (j := 1) ((hb1.block _ (lt_of_block H0.out)).trans H0.out) rfl
    have d0 : w1.cell? ⟨w.heap.size + 1, 0, none⟩ = some (.int .i64 d.cap) := cell_of (j := 0) ((hb1.block _ (lt_of_block H1.out)).trans H1.out) rfl
    have d1 : w1.cell? ⟨w.heap.size + 1, 1, none⟩ = some (.int .i64 d.push) := cell_of (j := 1) ((hb1.block _ (lt_of_block H1.out)).trans H1.out) rfl
    have d2 : w1.cell? ⟨w.heap.size + 1, 2, none⟩ = some (.int .i64 d.dust) := cell_of (j := 2) ((hb1.block _ (lt_of_block H1.out)).trans H1.out) rfl
    have d3 : w1.cell? ⟨w.heap.size + 1, 3, none⟩ = some (.int .i64 d.res) := cell_of (j := 3) ((hb1.block _ (lt_of_block H1.out)).trans H1.out) rfl
    have d4 : w1.cell? ⟨w.heap.size + 1, 4, none⟩ = some (.int .i64 d.rate) := cell_of (j := 4) ((hb1.block _ (lt_of_block H1.out)).trans H1.out) rfl
    have d5 : w1.cell? ⟨w.heap.size + 1, 5, none⟩ = some (.int .i64 d.delay) := cell_of (j := 5) ((hb1.block _ (lt_of_block H1.out)).trans H1.out) rfl
    have d6 : w1.cell? ⟨w.heap.size + 1, 6, none⟩ = some (.int .i64 d.maxH) := cell_of (j := 6) ((hb1.block _ (lt_of_block H1.out)).trans H1.out) rfl
    have d7 : w1.cell? ⟨w.heap.size + 1, 7, none⟩ = some (.int .i64 d.flight) := cell_of (j := 7) ((hb1.block _ (lt_of_block H1.out)).trans H1.out) rfl
    have d8 : w1.cell? ⟨w.heap.size + 1, 8, none⟩ = some (.int .i64 d.minH) := cell_of (j := 8) ((hb1.block _ (lt_of_block H1.out)).trans H1.out) rfl
    have a0 : w1.cell? ⟨w.heap.size + 1 + 1, 0, none⟩ = some (.int .i64 a.1.value) := cell_of (j := 0) ((hb1.block _ (lt_of_block H2.out)).trans H2.out) rfl
    have a1 : w1.cell? ⟨w.heap.size + 1 + 1, 1, none⟩ = some (.int .u8 a.1.lock.kind) := cell_of (j := 1) ((hb1.block _ (lt_of_block H2.out)).trans H2.out) rfl
    have a2 : w1.cell? ⟨w.heap.size + 1 + 1, 2, none⟩ = some (.string a.1.lock.term) := cell_of (j := 2) ((hb1.block _ (lt_of_block H2.out)).trans H2.out) rfl
    have a3 : w1.cell? ⟨w.heap.size + 1 + 1, 3, none⟩ = some (.int .i64 a.1.lock.n) := cell_of (j := 3) ((hb1.block _ (lt_of_block H2.out)).trans H2.out) rfl
    have a4 : w1.cell? ⟨w.heap.size + 1 + 1, 4, none⟩ = some (.slice a.2.1 a.1.lock.kids.length a.2.2) := cell_of (j := 4) ((hb1.block _ (lt_of_block H2.out)).trans H2.out) rfl
    have b0 : w1.cell? ⟨w.heap.size + 1 + 1 + 1, 0, none⟩ = some (.int .i64 b.1.value) := cell_of (j := 0) ((hb1.block _ (lt_of_block H3.out)).trans H3.out) rfl
    have b1 : w1.cell? ⟨w.heap.size + 1 + 1 + 1, 1, none⟩ = some (.int .u8 b.1.lock.kind) := cell_of (j := 1) ((hb1.block _ (lt_of_block H3.out)).trans H3.out) rfl
    have b2 : w1.cell? ⟨w.heap.size + 1 + 1 + 1, 2, none⟩ = some (.string b.1.lock.term) := cell_of (j := 2) ((hb1.block _ (lt_of_block H3.out)).trans H3.out) rfl
    have b3 : w1.cell? ⟨w.heap.size + 1 + 1 + 1, 3, none⟩ = some (.int .i64 b.1.lock.n) := cell_of (j := 3) ((hb1.block _ (lt_of_block H3.out)).trans H3.out) rfl
    have b4 : w1.cell? ⟨w.heap.size + 1 + 1 + 1, 4, none⟩ = some (.slice b.2.1 b.1.lock.kids.length b.2.2) := cell_of (j := 4) ((hb1.block _ (lt_of_block H3.out)).trans H3.out) rfl
    clear hb1 hla
    by_cases h1 : 60 < la
    · go_wp2_with fail
      go_ret
      exact ⟨rfl, HB.out.trans (HB1.out.mono HB.out.size)⟩
    · have HA := Lib.hid (HSA.out (by omega))
      go_wp2_with fail
      refine (lsize_all _ b.1.lock _ 60 w1 (Nat.le_refl _) HBD.out (by decide) (by decide) (LockC.below HB1.out _ _ HCB.out)).mono ?_
      rintro e w2 ⟨rfl, hb2⟩
      have hb12 := HB1.out.trans (hb2.mono HB1.out.size)
      have HB2 := Lib.hid hb12
      clear p0 p1 d0 d1 d2 d3 d4 d5 d6 d7 d8 a0 a1 a2 a3 a4 b0 b1 b2 b3 b4
      obtain ⟨lb, hlb⟩ : ∃ lb, lsizeT b.1.lock 60 = lb := ⟨_, rfl⟩
      rw [hlb] at HSB ⊢
      have p0 : w2.cell? ⟨w.heap.size, 0, none⟩ = some (.string tx) := cell_of (j := 0) ((hb12.block _ (lt_of_block H0.out)).trans H0.out) rfl
      have p1 : w2.cell? ⟨w.heap.size, 1, none⟩ = some (.int .i64 pn) := cell_of (j := 1) ((hb12.block _ (lt_of_block H0.out)).trans H0.out) rfl
      have d0 : w2.cell? ⟨w.heap.size + 1, 0, none⟩ = some (.int .i64 d.cap) := cell_of (j := 0) ((hb12.block _ (lt_of_block H1.out)).trans H1.out) rfl
      have d1 : w2.cell? ⟨w.heap.size + 1, 1, none⟩ = some (.int .i64 d.push) := cell_of (j := 1) ((hb12.block _ (lt_of_block H1.out)).trans H1.out) rfl
      have d2 : w2.cell? ⟨w.heap.size + 1, 2, none⟩ = some (.int .i64 d.dust) := cell_of (j := 2) ((hb12.block _ (lt_of_block H1.out)).trans H1.out) rfl
      have d3 : w2.cell? ⟨w.heap.size + 1, 3, none⟩ = some (.int .i64 d.res) := cell_of (j := 3) ((hb12.block _ (lt_of_block H1.out)).trans H1.out) rfl
      have d4 : w2.cell? ⟨w.heap.size + 1, 4, none⟩ = some (.int .i64 d.rate) := cell_of (j := 4) ((hb12.block _ (lt_of_block H1.out)).trans H1.out) rfl
      have d5 : w2.cell? ⟨w.heap.size + 1, 5, none⟩ = some (.int .i64 d.delay) := cell_of (j := 5) ((hb12.block _ (lt_of_block H1.out)).trans H1.out) rfl
      have d6 : w2.cell? ⟨w.heap.size + 1, 6, none⟩ = some (.int .i64 d.maxH) := cell_of (j := 6) ((hb12.block _ (lt_of_block H1.out)).trans H1.out) rfl
      have d7 : w2.cell? ⟨w.heap.size + 1, 7, none⟩ = some (.int .i64 d.flight) := cell_of (j := 7) ((hb12.block _ (lt_of_block H1.out)).trans H1.out) rfl
      have d8 : w2.cell? ⟨w.heap.size + 1, 8, none⟩ = some (.int .i64 d.minH) := cell_of (j := 8) ((hb12.block _ (lt_of_block H1.out)).trans H1.out) rfl
      have a0 : w2.cell? ⟨w.heap.size + 1 + 1, 0, none⟩ = some (.int .i64 a.1.value) := cell_of (j := 0) ((hb12.block _ (lt_of_block H2.out)).trans H2.out) rfl
      have a1 : w2.cell? ⟨w.heap.size + 1 + 1, 1, none⟩ = some (.int .u8 a.1.lock.kind) := cell_of (j := 1) ((hb12.block _ (lt_of_block H2.out)).trans H2.out) rfl
      have a2 : w2.cell? ⟨w.heap.size + 1 + 1, 2, none⟩ = some (.string a.1.lock.term) := cell_of (j := 2) ((hb12.block _ (lt_of_block H2.out)).trans H2.out) rfl
      have a3 : w2.cell? ⟨w.heap.size + 1 + 1, 3, none⟩ = some (.int .i64 a.1.lock.n) := cell_of (j := 3) ((hb12.block _ (lt_of_block H2.out)).trans H2.out) rfl
      have a4 : w2.cell? ⟨w.heap.size + 1 + 1, 4, none⟩ = some (.slice a.2.1 a.1.lock.kids.length a.2.2) := cell_of (j := 4) ((hb12.block _ (lt_of_block H2.out)).trans H2.out) rfl
      have b0 : w2.cell? ⟨w.heap.size + 1 + 1 + 1, 0, none⟩ = some (.int .i64 b.1.value) := cell_of (j := 0) ((hb12.block _ (lt_of_block H3.out)).trans H3.out) rfl
      have b1 : w2.cell? ⟨w.heap.size + 1 + 1 + 1, 1, none⟩ = some (.int .u8 b.1.lock.kind) := cell_of (j := 1) ((hb12.block _ (lt_of_block H3.out)).trans H3.out) rfl
      have b2 : w2.cell? ⟨w.heap.size + 1 + 1 + 1, 2, none⟩ = some (.string b.1.lock.term) := cell_of (j := 2) ((hb12.block _ (lt_of_block H3.out)).trans H3.out) rfl
      have b3 : w2.cell? ⟨w.heap.size + 1 + 1 + 1, 3, none⟩ = some (.int .i64 b.1.lock.n) := cell_of (j := 3) ((hb12.block _ (lt_of_block H3.out)).trans H3.out) rfl
      have b4 : w2.cell? ⟨w.heap.size + 1 + 1 + 1, 4, none⟩ = some (.slice b.2.1 b.1.lock.kids.length b.2.2) := cell_of (j := 4) ((hb12.block _ (lt_of_block H3.out)).trans H3.out) rfl
      clear hb2 hb12 hlb
      by_cases h2 : 60 < lb
      · go_wp2_with fail
        go_ret
        exact ⟨rfl, HB.out.trans (HB2.out.mono HB.out.size)⟩
      · have HS := Lib.hid (HSB.out (by omega))
        have hmx : (140737488355328 : Nat) ≤ maxLen := by decide
        have hpt : ptOk ⟨tx, pn, 0⟩ := ⟨Nat.le_trans htx hmx, hpn⟩
        have hkeep : ∀ W, Below V.heap.size V W → ∀ q ∈ [a, b], smallT q.1.lock ∧ LockC W q.1.lock [.int .u8 q.1.lock.kind, .string q.1.lock.term, .int .i64 q.1.lock.n, .slice q.2.1 q.1.lock.kids.length q.2.2] := fun W hW q hq => by
          rcases List.mem_cons.1 hq with rfl | hq
          · exact ⟨HA.out, LockC.below hW _ _ HCA.out⟩
          · rw [List.mem_singleton.1 hq]
            exact ⟨HS.out, LockC.below hW _ _ HCB.out⟩
        have hclose := close_any tx pn d a b w2 hpt (by omega) (hkeep w2 HB2.out) (HV.out.below HB2.out) (HT.out.below HB2.out)
        have hcs := closeE_small (tx := tx) (pn := pn) (d := d) HA.out HS.out
        have HR2 := Lib.hid (fun W (hW : Below V.heap.size V W) => rclose_any tx pn d a b W hpt (by omega) (hkeep W hW))
        obtain ⟨t, er, hre⟩ : ∃ t er, closeE tx pn d [a, b] = (t, er) := ⟨_, _, rfl⟩
        rw [hre] at hclose hcs HR2
        unfold dealV outV at hclose HR2
        have HCL := Lib.hid hclose
        have HCS := Lib.hid hcs
        have e1 : (er == er) = true := by simp
        clear hclose hkeep hpt hre hcs hmx
        go_wp2_with fail
        refine HCL.out.mono ?_
        rintro e w3 ⟨t1, rfl, hT1, hb3⟩
        obtain ⟨A1, ca1, B1, cb1, rfl, hT⟩ := hT1
        have hb13 := HB2.out.trans (hb3.mono HB2.out.size)
        have HT1 := Lib.hid hT
        have hs23 := hb3.size
        clear p0 p1 d0 d1 d2 d3 d4 d5 d6 d7 d8 a0 a1 a2 a3 a4 b0 b1 b2 b3 b4 hT hb3
        have hbX : Below w3.heap.size w3 (w3.alloc (.cells #[.slice A1 t.ins.length ca1, .slice B1 t.outs.length cb1, .int .i64 t.after, .int .i64 t.tag] 45)) := (Below.refl _ _).alloc (Nat.le_refl _) _
        have hx1 : TxBox (w3.alloc (.cells #[.slice A1 t.ins.length ca1, .slice B1 t.outs.length cb1, .int .i64 t.after, .int .i64 t.tag] 45)) w3.heap.size A1 t.ins.length ca1 B1 t.outs.length cb1 t.after t.tag := Go.heap_alloc_new w3 _
        have hb14 := hb13.trans (hbX.mono hb13.size)
        have hb20 := hb14
        have p0 : (w3.alloc (.cells #[.slice A1 t.ins.length ca1, .slice B1 t.outs.length cb1, .int .i64 t.after, .int .i64 t.tag] 45)).cell? ⟨w.heap.size, 0, none⟩ = some (.string tx) := cell_of (j := 0) ((hb14.block _ (lt_of_block H0.out)).trans H0.out) rfl
        have p1 : (w3.alloc (.cells #[.slice A1 t.ins.length ca1, .slice B1 t.outs.length cb1, .int .i64 t.after, .int .i64 t.tag] 45)).cell? ⟨w.heap.size, 1, none⟩ = some (.int .i64 pn) := cell_of (j := 1) ((hb14.block _ (lt_of_block H0.out)).trans H0.out) rfl
        have d0 : (w3.alloc (.cells #[.slice A1 t.ins.length ca1, .slice B1 t.outs.length cb1, .int .i64 t.after, .int .i64 t.tag] 45)).cell? ⟨w.heap.size + 1, 0, none⟩ = some (.int .i64 d.cap) := cell_of (j := 0) ((hb14.block _ (lt_of_block H1.out)).trans H1.out) rfl
        have d1 : (w3.alloc (.cells #[.slice A1 t.ins.length ca1, .slice B1 t.outs.length cb1, .int .i64 t.after, .int .i64 t.tag] 45)).cell? ⟨w.heap.size + 1, 1, none⟩ = some (.int .i64 d.push) := cell_of (j := 1) ((hb14.block _ (lt_of_block H1.out)).trans H1.out) rfl
        have d2 : (w3.alloc (.cells #[.slice A1 t.ins.length ca1, .slice B1 t.outs.length cb1, .int .i64 t.after, .int .i64 t.tag] 45)).cell? ⟨w.heap.size + 1, 2, none⟩ = some (.int .i64 d.dust) := cell_of (j := 2) ((hb14.block _ (lt_of_block H1.out)).trans H1.out) rfl
        have d3 : (w3.alloc (.cells #[.slice A1 t.ins.length ca1, .slice B1 t.outs.length cb1, .int .i64 t.after, .int .i64 t.tag] 45)).cell? ⟨w.heap.size + 1, 3, none⟩ = some (.int .i64 d.res) := cell_of (j := 3) ((hb14.block _ (lt_of_block H1.out)).trans H1.out) rfl
        have d4 : (w3.alloc (.cells #[.slice A1 t.ins.length ca1, .slice B1 t.outs.length cb1, .int .i64 t.after, .int .i64 t.tag] 45)).cell? ⟨w.heap.size + 1, 4, none⟩ = some (.int .i64 d.rate) := cell_of (j := 4) ((hb14.block _ (lt_of_block H1.out)).trans H1.out) rfl
        have d5 : (w3.alloc (.cells #[.slice A1 t.ins.length ca1, .slice B1 t.outs.length cb1, .int .i64 t.after, .int .i64 t.tag] 45)).cell? ⟨w.heap.size + 1, 5, none⟩ = some (.int .i64 d.delay) := cell_of (j := 5) ((hb14.block _ (lt_of_block H1.out)).trans H1.out) rfl
        have d6 : (w3.alloc (.cells #[.slice A1 t.ins.length ca1, .slice B1 t.outs.length cb1, .int .i64 t.after, .int .i64 t.tag] 45)).cell? ⟨w.heap.size + 1, 6, none⟩ = some (.int .i64 d.maxH) := cell_of (j := 6) ((hb14.block _ (lt_of_block H1.out)).trans H1.out) rfl
        have d7 : (w3.alloc (.cells #[.slice A1 t.ins.length ca1, .slice B1 t.outs.length cb1, .int .i64 t.after, .int .i64 t.tag] 45)).cell? ⟨w.heap.size + 1, 7, none⟩ = some (.int .i64 d.flight) := cell_of (j := 7) ((hb14.block _ (lt_of_block H1.out)).trans H1.out) rfl
        have d8 : (w3.alloc (.cells #[.slice A1 t.ins.length ca1, .slice B1 t.outs.length cb1, .int .i64 t.after, .int .i64 t.tag] 45)).cell? ⟨w.heap.size + 1, 8, none⟩ = some (.int .i64 d.minH) := cell_of (j := 8) ((hb14.block _ (lt_of_block H1.out)).trans H1.out) rfl
        have a0 : (w3.alloc (.cells #[.slice A1 t.ins.length ca1, .slice B1 t.outs.length cb1, .int .i64 t.after, .int .i64 t.tag] 45)).cell? ⟨w.heap.size + 1 + 1, 0, none⟩ = some (.int .i64 a.1.value) := cell_of (j := 0) ((hb14.block _ (lt_of_block H2.out)).trans H2.out) rfl
        have a1 : (w3.alloc (.cells #[.slice A1 t.ins.length ca1, .slice B1 t.outs.length cb1, .int .i64 t.after, .int .i64 t.tag] 45)).cell? ⟨w.heap.size + 1 + 1, 1, none⟩ = some (.int .u8 a.1.lock.kind) := cell_of (j := 1) ((hb14.block _ (lt_of_block H2.out)).trans H2.out) rfl
        have a2 : (w3.alloc (.cells #[.slice A1 t.ins.length ca1, .slice B1 t.outs.length cb1, .int .i64 t.after, .int .i64 t.tag] 45)).cell? ⟨w.heap.size + 1 + 1, 2, none⟩ = some (.string a.1.lock.term) := cell_of (j := 2) ((hb14.block _ (lt_of_block H2.out)).trans H2.out) rfl
        have a3 : (w3.alloc (.cells #[.slice A1 t.ins.length ca1, .slice B1 t.outs.length cb1, .int .i64 t.after, .int .i64 t.tag] 45)).cell? ⟨w.heap.size + 1 + 1, 3, none⟩ = some (.int .i64 a.1.lock.n) := cell_of (j := 3) ((hb14.block _ (lt_of_block H2.out)).trans H2.out) rfl
        have a4 : (w3.alloc (.cells #[.slice A1 t.ins.length ca1, .slice B1 t.outs.length cb1, .int .i64 t.after, .int .i64 t.tag] 45)).cell? ⟨w.heap.size + 1 + 1, 4, none⟩ = some (.slice a.2.1 a.1.lock.kids.length a.2.2) := cell_of (j := 4) ((hb14.block _ (lt_of_block H2.out)).trans H2.out) rfl
        have b0 : (w3.alloc (.cells #[.slice A1 t.ins.length ca1, .slice B1 t.outs.length cb1, .int .i64 t.after, .int .i64 t.tag] 45)).cell? ⟨w.heap.size + 1 + 1 + 1, 0, none⟩ = some (.int .i64 b.1.value) := cell_of (j := 0) ((hb14.block _ (lt_of_block H3.out)).trans H3.out) rfl
        have b1 : (w3.alloc (.cells #[.slice A1 t.ins.length ca1, .slice B1 t.outs.length cb1, .int .i64 t.after, .int .i64 t.tag] 45)).cell? ⟨w.heap.size + 1 + 1 + 1, 1, none⟩ = some (.int .u8 b.1.lock.kind) := cell_of (j := 1) ((hb14.block _ (lt_of_block H3.out)).trans H3.out) rfl
        have b2 : (w3.alloc (.cells #[.slice A1 t.ins.length ca1, .slice B1 t.outs.length cb1, .int .i64 t.after, .int .i64 t.tag] 45)).cell? ⟨w.heap.size + 1 + 1 + 1, 2, none⟩ = some (.string b.1.lock.term) := cell_of (j := 2) ((hb14.block _ (lt_of_block H3.out)).trans H3.out) rfl
        have b3 : (w3.alloc (.cells #[.slice A1 t.ins.length ca1, .slice B1 t.outs.length cb1, .int .i64 t.after, .int .i64 t.tag] 45)).cell? ⟨w.heap.size + 1 + 1 + 1, 3, none⟩ = some (.int .i64 b.1.lock.n) := cell_of (j := 3) ((hb14.block _ (lt_of_block H3.out)).trans H3.out) rfl
        have b4 : (w3.alloc (.cells #[.slice A1 t.ins.length ca1, .slice B1 t.outs.length cb1, .int .i64 t.after, .int .i64 t.tag] 45)).cell? ⟨w.heap.size + 1 + 1 + 1, 4, none⟩ = some (.slice b.2.1 b.1.lock.kids.length b.2.2) := cell_of (j := 4) ((hb14.block _ (lt_of_block H3.out)).trans H3.out) rfl
        have HB3 := Lib.hid hb14
        have HX1 := Lib.hid hx1
        have HBX := Lib.hid hbX
        clear hb13 hbX hx1 hb14 hb20
        go_wp2_with fail
        generalize w3.alloc (.cells #[.slice A1 t.ins.length ca1, .slice B1 t.outs.length cb1, .int .i64 t.after, .int .i64 t.tag] 45) = w4 at HB3 HX1 HBX p0 p1 d0 d1 d2 d3 d4 d5 d6 d7 d8 a0 a1 a2 a3 a4 b0 b1 b2 b3 b4 ⊢
        go_wp2_with fail
        refine (HR2.out w4 HB3.out).mono ?_
        rintro e w5 ⟨t2, rfl, hT2, hb5⟩
        obtain ⟨A2, ca2, B2, cb2, rfl, hT⟩ := hT2
        have HT2 := Lib.hid hT
        clear p0 p1 d0 d1 d2 d3 d4 d5 d6 d7 d8 a0 a1 a2 a3 a4 b0 b1 b2 b3 b4 hT
        have hx1 := HX1.out.below hb5
        have hbY : Below w5.heap.size w5 (w5.alloc (.cells #[.slice A2 t.ins.length ca2, .slice B2 t.outs.length cb2, .int .i64 t.after, .int .i64 t.tag] 45)) := (Below.refl _ _).alloc (Nat.le_refl _) _
        have hx2 : TxBox (w5.alloc (.cells #[.slice A2 t.ins.length ca2, .slice B2 t.outs.length cb2, .int .i64 t.after, .int .i64 t.tag] 45)) w5.heap.size A2 t.ins.length ca2 B2 t.outs.length cb2 t.after t.tag := Go.heap_alloc_new w5 _
        have hx3 := hx1.below hbY
        have hb15 := HB3.out.trans (hb5.mono HB3.out.size)
        have hb16 := hb15.trans (hbY.mono hb15.size)
        have hst : Stay w3 (w5.alloc (.cells #[.slice A2 t.ins.length ca2, .slice B2 t.outs.length cb2, .int .i64 t.after, .int .i64 t.tag] 45)) := (Stay.below HBX.out).trans ((Stay.below hb5).trans (Stay.below hbY))
        have hbb : Below w3.heap.size w3 (w5.alloc (.cells #[.slice A2 t.ins.length ca2, .slice B2 t.outs.length cb2, .int .i64 t.after, .int .i64 t.tag] 45)) := HBX.out.trans ((hb5.trans (hbY.mono hb5.size)).mono HBX.out.size)
        have hc1 := HT1.out _ (hbb.mono hs23) hst
        have hc2 := HT2.out _ (hbY.mono hb5.size) (Stay.below hbY)
        have HSM := Lib.hid (sameTx_eq t A1 B1 A2 B2 ca1 cb1 ca2 cb2 (w5.alloc (.cells #[.slice A2 t.ins.length ca2, .slice B2 t.outs.length cb2, .int .i64 t.after, .int .i64 t.tag] 45)) HCS.out.1 HCS.out.2.1 HCS.out.2.2 hc1 hc2)
        obtain ⟨y0, y1, y2, y3⟩ := hx3.cells
        obtain ⟨z0, z1, z2, z3⟩ := hx2.cells
        have HB6 := Lib.hid hb16
        clear hx1 hx2 hx3 hb15 hb16 hst hbb hc1 hc2 hbY hb5
        go_wp2_with fail
        refine HSM.out.mono ?_
        rintro e w7 ⟨rfl, hb7⟩
        have hb8 := HB6.out.trans (hb7.mono HB6.out.size)
        have HW := Lib.hid (works_any w7 (HV.out.below hb8) (HT.out.below hb8))
        have HB8 := Lib.hid (HB.out.trans (hb8.mono HB.out.size))
        clear hb7 hb8 y0 y1 y2 y3 z0 z1 z2 z3
        go_wp2_with fail
        refine HW.out.mono ?_
        rintro e w8 ⟨rfl, hb9⟩
        have HB9 := Lib.hid (HB8.out.trans (hb9.mono HB8.out.size))
        clear hb9
        go_wp2_with fail
        go_ret
        exact ⟨rfl, HB9.out⟩
end Go.Proofs.YtncniomiplnaaaaGreatDoor
namespace Go.Proofs.YtncniomiplnaaaaGreatDoor
open Go.RowKit Go.ChangeShapes Go.WideShapes Go.Deep
section
variable {H : Type} {enc : TypeId × Value → H} {W : World} {base : Nat}
theorem LocksC.of_chunks : ∀ {l : List LockT} {xs : List Value}, Chunks (LockC W) l xs → LocksC W l xs
  | [], xs, h => by unfold Chunks at h; unfold LocksC; exact h
  | x :: r, xs, h => by
    unfold Chunks at h
    obtain ⟨cs, rest, h1, h2, h3⟩ := h
    unfold LocksC
    exact ⟨cs, rest, h1, h2, LocksC.of_chunks h3⟩
theorem boundTs_of : ∀ {l : List LockT}, (∀ x ∈ l, boundT x) → boundTs l
  | [], _ => by unfold boundTs; trivial
  | x :: r, h => by unfold boundTs; exact ⟨h x (List.mem_cons_self ..), boundTs_of fun y hy => h y (List.mem_cons_of_mem _ hy)⟩
theorem list4 {cs : List Value} (h : cs.length = 4) : ∃ a b c d, cs = [a, b, c, d] := by
  match cs, h with
  | [a, b, c, d], _ => exact ⟨a, b, c, d, rfl⟩
theorem lockCells : Tryz.prog.cellsOf 55 = 4 := by kernel_rfl
theorem lockBytes : Tryz.prog.bytesOf 55 = 56 := by kernel_rfl
theorem cells1 : Tryz.prog.cellsOf 5 = 1 ∧ Tryz.prog.cellsOf 24 = 1 ∧ Tryz.prog.cellsOf 3 = 1 ∧ Tryz.prog.cellsOf 53 = 1 ∧ Tryz.prog.cellsOf 2 = 1 ∧ Tryz.prog.cellsOf 9 = 1 ∧ Tryz.prog.cellsOf 35 = 2 ∧ Tryz.prog.cellsOf 42 = 1 ∧ Tryz.prog.cellsOf 43 = 1 := ⟨by kernel_rfl, by kernel_rfl, by kernel_rfl, by kernel_rfl, by kernel_rfl, by kernel_rfl, by kernel_rfl, by kernel_rfl, by kernel_rfl⟩
set_option maxRecDepth 100000 in
theorem trod_lock : ∀ (fuel : Nat) (cs : List Value) (x : DataW H × List MemPlace), DataW.trod enc Tryz.prog W 0 (fun _ => true) true fuel 55 cs = some x → (∀ k ∈ x.1.weights Tryz.prog 55, k ≤ reachBytes) → ∃ l : LockT, LockC W l cs ∧ boundT l := by
  intro fuel
  induction fuel using Nat.strongRecOn with
  | ind fuel ih =>
    intro cs x h hB
    obtain ⟨y0, y1, y2, y3, m, hx, hl, h0, h1, h2, h3⟩ : ∃ y0 y1 y2 y3 m, x = (.agg [y0.1, y1.1, y2.1, y3.1], y0.2 ++ (y1.2 ++ (y2.2 ++ y3.2))) ∧ cs.length = 4 ∧ DataW.trod enc Tryz.prog W 0 (fun _ => true) true m 5 (cs.take 1) = some y0 ∧ DataW.trod enc Tryz.prog W 0 (fun _ => true) true m 24 ((cs.drop 1).take 1) = some y1 ∧ DataW.trod enc Tryz.prog W 0 (fun _ => true) true m 3 ((cs.drop 2).take 1) = some y2 ∧ (m < fuel ∧ DataW.trod enc Tryz.prog W 0 (fun _ => true) true m 53 ((cs.drop 3).take 1) = some y3) := by
      obtain ⟨xs, n, hfu, rfl, hl, hlen, hf⟩ := DataW.trod_struct Tryz.underlying55 h
      obtain ⟨c0, c1, c2, c3, -⟩ := cells1
      rw [lockCells] at hl
      match xs, hlen with
      | [y0, y1, y2, y3], _ =>
        have f0 : DataW.trod enc Tryz.prog W 0 (fun _ => true) true n 5 ((cs.drop 0).take (Tryz.prog.cellsOf 5)) = some y0 := hf 0 _ rfl
        have f1 : DataW.trod enc Tryz.prog W 0 (fun _ => true) true n 24 ((cs.drop 1).take (Tryz.prog.cellsOf 24)) = some y1 := hf 1 _ rfl
        have f2 : DataW.trod enc Tryz.prog W 0 (fun _ => true) true n 3 ((cs.drop 2).take (Tryz.prog.cellsOf 3)) = some y2 := hf 2 _ rfl
        have f3 : DataW.trod enc Tryz.prog W 0 (fun _ => true) true n 53 ((cs.drop 3).take (Tryz.prog.cellsOf 53)) = some y3 := hf 3 _ rfl
        rw [c0, List.drop_zero] at f0
        rw [c1] at f1
        rw [c2] at f2
        rw [c3] at f3
        exact ⟨y0, y1, y2, y3, n, by simp, hl, f0, f1, f2, by omega, f3⟩
    obtain ⟨v0, v1, v2, v3, rfl⟩ := list4 hl
    subst hx
    obtain ⟨n0, e0, -, -⟩ := DataW.trod_int Tryz.underlying5 h0
    obtain ⟨s1, e1, r1, -⟩ := DataW.trod_string Tryz.underlying24 h1
    obtain ⟨n2, e2, -, -⟩ := DataW.trod_int Tryz.underlying3 h2
    simp only [List.take_succ_cons, List.take_zero, List.drop_succ_cons, List.drop_zero, List.cons.injEq, and_true] at e0 e1 e2
    subst e0; subst e1; subst e2
    have w1 := weight_agg (fs := _) Tryz.underlying55 hB 1 _ y1.1 rfl rfl
    have w3 := weight_agg (fs := _) Tryz.underlying55 hB 3 _ y3.1 rfl rfl
    rw [show y1.1 = _ from congrArg Prod.fst r1] at w1
    have hsz := weight_string w1
    obtain ⟨hm, h3⟩ := h3
    obtain ⟨A, l, c, xs, hcs, g1, g2, g3, g4⟩ := open_rows (enc := enc) (W := W) Tryz.underlying53 lockCells lockBytes (by decide) (LockC W) boundT (fun n hn cs y _ hy hw => ih n (by omega) cs y hy hw) h3 w3
    have hcs2 : [v3] = [.slice A (List.length l) c] := hcs
    simp only [List.cons.injEq, and_true] at hcs2
    subst hcs2
    have hrb : reachBytes ≤ 1125899906842624 := by decide
    refine ⟨.node n0 s1 n2 l, ?_, ?_⟩
    · unfold LockC
      exact ⟨A, c, xs, rfl, g1, LocksC.of_chunks g2⟩
    · unfold boundT
      exact ⟨by omega, by omega, boundTs_of g3⟩
/-- An output's five cells. -/
def OutCk (W : World) (o : OutT) (cs : List Value) : Prop := ∃ ds, cs = .int .i64 o.value :: ds ∧ LockC W o.lock ds
theorem OutsC.of_chunks : ∀ {l : List OutT} {xs : List Value}, Chunks (OutCk W) l xs → OutsC W l xs
  | [], xs, h => by unfold Chunks at h; unfold OutsC; exact h
  | x :: r, xs, h => by
    unfold Chunks at h
    obtain ⟨cs, rest, rfl, ⟨ds, rfl, h2⟩, h3⟩ := h
    unfold OutsC
    exact ⟨ds, rest, rfl, h2, OutsC.of_chunks h3⟩
set_option maxRecDepth 100000 in
theorem trod_out {fuel : Nat} {cs : List Value} {x : DataW H × List MemPlace} (h : DataW.trod enc Tryz.prog W 0 (fun _ => true) true fuel 66 cs = some x) (hB : ∀ k ∈ x.1.weights Tryz.prog 66, k ≤ reachBytes) : ∃ o : OutT, OutCk W o cs ∧ boundT o.lock := by
  obtain ⟨xs, n, hfu, rfl, hl, hlen, hf⟩ := DataW.trod_struct Tryz.underlying66 h
  obtain ⟨-, -, -, -, c0, -⟩ := cells1
  rw [show Tryz.prog.cellsOf 66 = 5 by kernel_rfl] at hl
  obtain ⟨v0, v1, v2, v3, v4, rfl⟩ := list5 hl
  match xs, hlen with
  | [y0, y1], _ =>
    have f0 : DataW.trod enc Tryz.prog W 0 (fun _ => true) true n 2 (([v0, v1, v2, v3, v4].drop 0).take (Tryz.prog.cellsOf 2)) = some y0 := hf 0 _ rfl
    have f1 : DataW.trod enc Tryz.prog W 0 (fun _ => true) true n 55 (([v0, v1, v2, v3, v4].drop 1).take (Tryz.prog.cellsOf 55)) = some y1 := hf 1 _ rfl
    simp only [c0, lockCells, List.drop_zero, List.drop_succ_cons, List.take_succ_cons, List.take_zero] at f0 f1
    obtain ⟨n0, e0, -, -⟩ := DataW.trod_int Tryz.underlying2 f0
    simp only [List.cons.injEq, and_true] at e0
    subst e0
    have w1 := weight_agg (fs := _) Tryz.underlying66 hB 1 _ y1.1 rfl rfl
    obtain ⟨l, g1, g2⟩ := trod_lock n _ _ f1 w1
    exact ⟨⟨n0, l⟩, ⟨_, rfl, g1⟩, g2⟩
set_option maxRecDepth 100000 in
theorem open_out {v : Value} {d : DataW H} {p : List MemPlace} (hval : Value.okWide Tryz.prog W .any base 66 v) (h : DataW.Trod enc Tryz.prog W 0 (fun _ => true) true 66 v d p) (hB : ∀ n ∈ d.weights Tryz.prog 66, n ≤ reachBytes) :
    ∃ q : OutQ, v = outV q ∧ LockC W q.1.lock [.int .u8 q.1.lock.kind, .string q.1.lock.term, .int .i64 q.1.lock.n, .slice q.2.1 q.1.lock.kids.length q.2.2] ∧ boundT q.1.lock := by
  obtain ⟨cs, rfl, hsz⟩ := okWide_struct Tryz.underlying66 hval
  obtain ⟨fuel, hf⟩ := h
  obtain ⟨o, ⟨ds, hcs, hlk⟩, hbd⟩ := trod_out hf hB
  obtain ⟨B, cap, ys, hds, hrest⟩ := hlk.shape
  subst hds
  refine ⟨(o, B, cap), ?_, hlk, hbd⟩
  have e : cs = (Value.int .i64 o.value :: [.int .u8 o.lock.kind, .string o.lock.term, .int .i64 o.lock.n, .slice B o.lock.kids.length cap]).toArray := by
    rw [← hcs]
    simp [Value.cells]
  rw [e]
  rfl
end
end Go.Proofs.YtncniomiplnaaaaGreatDoor
namespace Go.Proofs.YtncniomiplnaaaaGreatDoor
open Go.ChangeShapes Go.WideShapes Go.ChangeAt Go.RowKit Go.WideMaps Go.WideElems
open Go.ChangeMaps (open_string shut_string)
theorem vars_of {W : World} (h : laidMetH Tryz.prog Rows.commitClosesRow.laid W) : VarsOk W := by
  rw [MakeChecks.laidMetH_plain _ _ _ (by kernel_rfl)] at h
  exact laid_vars h
theorem tab_of {W : World} (h : laidMetH Tryz.prog Rows.commitClosesRow.laid W) : TabOk W := by
  rw [MakeChecks.laidMetH_plain _ _ _ (by kernel_rfl)] at h
  exact laid_tab h
set_option maxRecDepth 100000 in
set_option maxHeartbeats 4000000 in
theorem commitCloses_lifted (os : Os) (started : os.Started) (H : Type) (enc : TypeId × Value → H) :
    ReturnsInHanded {} Tryz.checked os 7 .any (fun w args => (Rows.commitClosesSpec.pre enc Tryz.prog Tryz.f7 Rows.commitClosesRow.domain false w args ∧ laidMetH Tryz.prog Rows.commitClosesRow.laid w) ∧ sizedMet enc Tryz.prog Tryz.f7 (OpenSpec.ofChange Rows.commitClosesSpec) false w args)
      (Rows.commitClosesSpec.post enc Tryz.prog Tryz.f7 false true false false) := by
  refine returnsInHanded_of_change_and (C := Tryz.checked) (X := fun w _ => laidMetH Tryz.prog Rows.commitClosesRow.laid w) (fun _ _ _ hh h => h.of_heap hh) own started (by kernel_rfl) Tryz.func7
    (ChangeSpec.witness_shaped (enc := enc) (C := Tryz.checked) (os := os) (X := fun w _ => laidMetH Tryz.prog Rows.commitClosesRow.laid w) false (World.laidAll Tryz.prog os Rows.commitClosesRow.laid) #[.agg #[.string ⟨#[]⟩, .int .i64 0], .agg #[.int .i64 0, .int .i64 0, .int .i64 0, .int .i64 0, .int .i64 0, .int .i64 0, .int .i64 0, .int .i64 0, .int .i64 0], .agg #[.int .i64 0, .int .u8 0, .string ⟨#[]⟩, .int .i64 0, .slice none 0 0], .agg #[.int .i64 0, .int .u8 0, .string ⟨#[]⟩, .int .i64 0, .slice none 0 0]] 8 (World.laidAll_os _ _ _)
      (World.shaped_of_ZipB (by kernel_rfl) (by kernel_rfl)) (by kernel_rfl) (by kernel_rfl) (by kernel_rfl)
      (by rw [MakeChecks.laidMetH_plain _ _ _ (by kernel_rfl)]; exact laidMet_laidAll _ (by kernel_rfl) (by kernel_rfl))) ?_
  intro W base args ds gs before hval0 hW hc hz0 hL _
  have hval : ∀ (j : Nat) t v, Tryz.f7.params[j]? = some t → args[j]? = some v → Value.okWide Tryz.prog W .any base t v := hval0
  have hz1 : ∀ n ∈ DataW.weightsEach Tryz.prog (Tryz.f7.params.toList ++ Rows.commitClosesSpec.plain.varTypes Tryz.prog) (ds ++ gs), n ≤ reachBytes := fun n hn => of_decide_eq_true (List.all_eq_true.1 hz0 n hn)
  have hW' := hW
  obtain ⟨p, q, hA0, hV, rfl, _, _⟩ := hW
  have hA : DataW.TrodAll enc Tryz.prog W 0 (fun _ => true) true Tryz.f7.params.toList args.toList ds p := hA0
  rw [Tryz.params7] at hA hval
  obtain ⟨v0, vs0, d0, ds0, p0, q0, hargs, rfl, rfl, h0, r0⟩ := trodAll_cons hA
  obtain ⟨v1, vs1, d1, ds1, p1, q1, rfl, rfl, rfl, h1, r1⟩ := trodAll_cons r0
  obtain ⟨v2, vs2, d2, ds2, p2, q2, rfl, rfl, rfl, h2, r2⟩ := trodAll_cons r1
  obtain ⟨v3, vs3, d3, ds3, p3, q3, rfl, rfl, rfl, h3, r3⟩ := trodAll_cons r2
  obtain ⟨rfl, rfl, rfl⟩ := trodAll_nil r3
  obtain rfl : args = #[v0, v1, v2, v3] := by cases args; simp_all
  obtain ⟨rfl, rfl⟩ := trodVars_none hV
  have z0 := weightsEach_le hz1 0 35 d0 rfl rfl
  have z1 := weightsEach_le hz1 1 23 d1 rfl rfl
  have z2 := weightsEach_le hz1 2 66 d2 rfl rfl
  have z3 := weightsEach_le hz1 3 66 d3 rfl rfl
  obtain ⟨tx, pn, rfl, htx, hpn⟩ := open_point (hval 0 35 v0 rfl rfl) h0 z0
  obtain ⟨d, rfl⟩ := open_deal (hval 1 23 v1 rfl rfl) h1 z1
  obtain ⟨q2, rfl, hc2, hb2⟩ := open_out (hval 2 66 v2 rfl rfl) h2 z2
  obtain ⟨q3, rfl, hc3, hb3⟩ := open_out (hval 3 66 v3 rfl rfl) h3 z3
  refine (closes_law tx pn d q2 q3 W (Nat.le_trans htx (by decide)) hpn hc2 hc3 hb2 hb3 (vars_of hL) (tab_of hL)).mono fun e W' ⟨he, hb⟩ => ?_
  subst he
  refine ⟨_, rfl, post_true hW' rfl ?_ rfl rfl hb⟩
  rw [Tryz.params7]
  intro t ht
  have ht2 : t ∈ [35, 23, 66, 66] := ht
  simp only [List.mem_cons, List.not_mem_nil, or_false] at ht2
  rcases ht2 with rfl | rfl | rfl | rfl <;> exact ⟨by kernel_rfl, of_decide_eq_true (by kernel_rfl)⟩
theorem commitCloses_holds : Rows.CommitClosesSaid :=
  OpenClaim.holds_of_wide 7 Tryz.f7 rfl rfl rfl rfl rfl rfl rfl ⟨rfl, rfl, rfl, rfl, rfl⟩ rfl rfl rfl rfl rfl (by kernel_rfl) Tryz.func7 (by kernel_rfl)
    (of_decide_eq_true (by kernel_rfl)) (by unfold Func.isWrapper; first | (rw [if_pos (by decide +kernel)]; kernel_rfl) | (rw [if_neg (by decide +kernel)]; exact ⟨rfl, rfl⟩))
    (fun os started H enc _ => commitCloses_lifted os started H enc)
theorem commitCloses_card : Rows.CommitClosesCardSaid :=
  Claim7.holds_tied_plain_at .later [] _ _ _ _ commitCloses_holds (fun _ h => by cases h) (by kernel_rfl) (fun _ h => by cases h) commitCloses_row_tie rfl ⟨rfl, rfl⟩ (by kernel_rfl) rfl
    (fun f fn hf hfn => by
      obtain rfl : f = 7 := Option.some.inj ((show Tryz.prog.funcNamed "sluiceway/sluicewaylaw18.CommitCloses" = some 7 by kernel_rfl).symm.trans hf) |>.symm
      obtain rfl : fn = Tryz.f7 := (Option.some.inj (Tryz.func7.symm.trans hfn)).symm
      exact ⟨by kernel_rfl, fun j t ht => by
        rw [Tryz.params7] at ht
        have hm : t ∈ [35, 23, 66, 66] := by simpa using Array.mem_of_getElem? ht
        have hall : ([35, 23, 66, 66].all fun u => !Tryz.prog.wantsStandIn u) = true := by kernel_rfl
        exact (show Tryz.prog.wantsStandIn t = false by simpa using List.all_eq_true.1 hall t hm)⟩)
    (by kernel_rfl)
end Go.Proofs.YtncniomiplnaaaaGreatDoor
#print axioms Go.Proofs.YtncniomiplnaaaaGreatDoor.commitCloses_card
