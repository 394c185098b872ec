/- right: are numbers ones of coins? A new ledger; what a ledger's block says. -/
import Derived.Test.YtmlcojhanimnpaaI6
namespace Go.Proofs.Ytmlcojhanimnpaa
open Go.RowKit

theorem right1_any (n : Int) (w : World) : Calls Try.prog 87 #[.int .i64 n] w fun e w' => e = .returned (.bool (!okCoin n)) ∧ w = w' := by
  by_cases h0 : 0 ≤ n
  · by_cases h1 : n ≤ 2100000000000000
    · have hb : okCoin n = true := okCoin_iff.2 ⟨h0, h1⟩
      rw [hb]
      go_enter Try.func87, Try.ntmps87
      go_wp2
      go_ret
      exact ⟨ret_bool (by first | (simp; omega) | simp), rfl⟩
    · have hb : okCoin n = false := by rw [ok_dec, decide_eq_false h1]; simp
      rw [hb]
      go_enter Try.func87, Try.ntmps87
      go_wp2
      go_ret
      exact ⟨ret_bool (by first | (simp; omega) | simp), rfl⟩
  · have hb : okCoin n = false := by rw [ok_dec, decide_eq_false h0]; rfl
    rw [hb]
    go_enter Try.func87, Try.ntmps87
    go_wp2
    go_ret
    exact ⟨rfl, rfl⟩
def ints (l : List Int) : List Value := l.map fun n => .int .i64 n
theorem ints_at {w : World} {A : Option Addr} {l : List Int} (h : Cells w A (ints l)) {k : Nat} (hk : k < l.length) : ∃ ad, A = some ad ∧ w.cell? (ad.add k) = some (.int .i64 l[k]) := by
  obtain ⟨ad, he, hc⟩ := h.at_ (k := k) (by simpa [ints] using hk)
  exact ⟨ad, he, by rw [hc]; simp [ints]⟩
def firstBad (l : List Int) : Int := match l.findIdx? (fun n => !okCoin n) with | some i => i | none => -1
set_option maxRecDepth 100000 in
set_option maxHeartbeats 1000000 in
theorem idxInts (l : List Int) (A : Option Addr) (c : Nat) (w : World) (hl : l.length ≤ 1000) (hA : Cells w A (ints l)) :
    Calls Try.prog 94 #[.slice A l.length c, .func (.func 87) #[] #[]] w fun e w' => e = .returned (.int .i64 (firstBad l)) ∧ w = w' := by
  go_enter Try.func94, Try.ntmps94
  go_wp2_with fail
  go_loop [8] (fun i => ∃ k : Nat, k ≤ l.length ∧ i = .int .i64 k ∧ ∀ j (hj : j < l.length), j < k → okCoin l[j] = true) (fun i => l.length - (intOf i).toNat)
  case atStart => exact ⟨0, Nat.zero_le _, rfl, fun j _ h => by omega⟩
  case round =>
    obtain ⟨k, hk, rfl, hall⟩ := hrel
    have HALL := Lib.hid hall; clear hall
    by_cases hlt : k < l.length
    · obtain ⟨ad, rfl, hc⟩ := ints_at hA hlt
      clear hA
      cases hq : okCoin l[k] with
      | true =>
        have HQ := Lib.hid hq; clear hq
        go_wp2_with fail
        refine (right1_any _ _).mono ?_
        rintro e w' ⟨rfl, rfl⟩
        rw [HQ.out]
        go_wp2_with fail
        go_round
        case rel =>
          refine ⟨k + 1, by omega, by go_num, fun j hj hjk => ?_⟩
          rcases Nat.lt_or_ge j k with h | h
          · exact HALL.out j hj h
          · obtain rfl : j = k := by omega
            exact HQ.out
        case measure => simp [intOf]; omega
      | false =>
        have hf : firstBad l = k := by
          have : l.findIdx? (fun n => !okCoin n) = some k := by
            rw [List.findIdx?_eq_some_iff_getElem]
            exact ⟨hlt, by rw [hq]; rfl, fun j hj => by rw [HALL.out j (by omega) hj]; simp⟩
          unfold firstBad
          rw [this]
        have HQ := Lib.hid hq; clear hq
        have HF := Lib.hid hf; clear hf
        go_wp2_with fail
        refine (right1_any _ _).mono ?_
        rintro e w' ⟨rfl, rfl⟩
        rw [HQ.out]
        go_wp2_with fail
        go_ret
        exact ⟨ret_int HF.out.symm, rfl⟩
    · have hf : firstBad l = -1 := by
        have : l.findIdx? (fun n => !okCoin n) = none := by
          rw [List.findIdx?_eq_none_iff]
          intro x hx
          obtain ⟨j, hj, rfl⟩ := List.getElem_of_mem hx
          rw [HALL.out j hj (by omega)]; rfl
        unfold firstBad
        rw [this]
      have HF := Lib.hid hf; clear hf
      go_wp2_with fail
      go_ret
      exact ⟨ret_int HF.out.symm, rfl⟩
theorem firstBad_all (l : List Int) : (decide (firstBad l ≥ 0)) = !(l.all okCoin) := by
  unfold firstBad
  cases h : l.findIdx? (fun n => !okCoin n) with
  | none =>
    rw [List.findIdx?_eq_none_iff] at h
    have : l.all okCoin = true := List.all_eq_true.2 fun x hx => by simpa using h x hx
    rw [this]; rfl
  | some i =>
    rw [List.findIdx?_eq_some_iff_getElem] at h
    obtain ⟨hi, hb, -⟩ := h
    have : l.all okCoin = false := List.all_eq_false.2 ⟨l[i], List.getElem_mem _, by simpa using hb⟩
    rw [this]; simp
set_option maxRecDepth 100000 in
theorem hasInts (l : List Int) (A : Option Addr) (c : Nat) (w : World) (hl : l.length ≤ 1000) (hA : Cells w A (ints l)) :
    Calls Try.prog 86 #[.slice A l.length c, .func (.func 87) #[] #[]] w fun e w' => e = .returned (.bool (!(l.all okCoin))) ∧ w = w' := by
  have hf := firstBad_all l
  have HF := Lib.hid hf; clear hf
  go_enter Try.func86, Try.ntmps86
  go_wp2_with fail
  refine (idxInts l A c _ hl hA).mono ?_
  rintro e w' ⟨rfl, rfl⟩
  go_wp2_with fail
  go_ret
  exact ⟨ret_bool HF.out, rfl⟩
theorem right_any (l : List Int) (A : Option Addr) (c : Nat) (w : World) (hl : l.length ≤ 1000) (hA : Cells w A (ints l)) :
    Calls Try.prog 63 #[.slice A l.length c] w fun e w' => e = .returned (.bool (l.all okCoin)) ∧ w = w' := by
  cases hq : l.all okCoin with
  | true =>
    have HQ := Lib.hid hq; clear hq
    go_enter Try.func63, Try.ntmps63
    go_wp2_with fail
    refine (hasInts l A c _ hl hA).mono ?_
    rintro e w' ⟨rfl, rfl⟩
    rw [HQ.out]
    go_wp2_with fail
    go_ret
    exact ⟨rfl, rfl⟩
  | false =>
    have HQ := Lib.hid hq; clear hq
    go_enter Try.func63, Try.ntmps63
    go_wp2_with fail
    refine (hasInts l A c _ hl hA).mono ?_
    rintro e w' ⟨rfl, rfl⟩
    rw [HQ.out]
    go_wp2_with fail
    go_ret
    exact ⟨rfl, rfl⟩
/-- right at one number, at two: the numbers lie in a block of their own. -/
theorem right_one (n : Int) (w : World) : Calls Try.prog 63 #[.slice (some ⟨w.heap.size, 0, none⟩) 1 1] (w.alloc (.cells #[.int .i64 n] 2)) fun e w' => e = .returned (.bool (okCoin n)) ∧ w.alloc (.cells #[.int .i64 n] 2) = w' := by
  refine (right_any [n] (some ⟨w.heap.size, 0, none⟩) 1 _ (by simp) (fun _ => ⟨_, rfl, fun j u hj => World.news_of_block (Go.heap_alloc_new w _) j u hj⟩)).mono ?_
  rintro e w' ⟨rfl, rfl⟩
  simp
theorem right_two (n m : Int) (w : World) : Calls Try.prog 63 #[.slice (some ⟨w.heap.size, 0, none⟩) 2 2] (w.alloc (.cells #[.int .i64 n, .int .i64 m] 2)) fun e w' => e = .returned (.bool (okCoin n && okCoin m)) ∧ w.alloc (.cells #[.int .i64 n, .int .i64 m] 2) = w' := by
  refine (right_any [n, m] (some ⟨w.heap.size, 0, none⟩) 2 _ (by simp) (fun _ => ⟨_, rfl, fun j u hj => World.news_of_block (Go.heap_alloc_new w _) j u hj⟩)).mono ?_
  rintro e w' ⟨rfl, rfl⟩
  simp
/-- The ledger s lies at block p. -/
structure LedAt (w : World) (p c d : Nat) (v : Value) (vs : List Value) (s : Led) : Prop where
  blk : w.heap[p]? = some (.cells #[.map (some c), .map (some d), v, .int .i64 s.last] 70)
  mc : SMap w c (menc encI s.coins)
  md : SMap w d (menc encC s.chans)
  ne : c ≠ d
  own : w.ownsRow 0 74 2 v s.holds.length vs
  hv : HoldVs w s.holds vs
theorem LedAt.cell {w : World} {p c d : Nat} {v : Value} {vs : List Value} {s : Led} (h : LedAt w p c d v vs s) :
    w.cell? ⟨p, 0, none⟩ = some (.map (some c)) ∧ w.cell? ⟨p, 1, none⟩ = some (.map (some d)) ∧ w.cell? ⟨p, 2, none⟩ = some v ∧ w.cell? ⟨p, 3, none⟩ = some (.int .i64 s.last) := by
  have h1 := h.blk
  refine ⟨?_, ?_, ?_, ?_⟩ <;> simp [World.cell?, h1]
theorem LedAt.free {w : World} {p c d : Nat} {v : Value} {vs : List Value} {s : Led} (h : LedAt w p c d v vs s) (j : Nat) : w.frozen? ⟨p, j, none⟩ = false := by
  have h1 := h.blk
  simp [World.frozen?, h1]
/-- The blocks that a call of the ledger may write to. -/
def fp (p c d : Nat) (v : Value) : List Nat := p :: c :: d :: v.ownBlock.toList
theorem ownsRow_block {w w' : World} {base : Nat} {E : TypeId} {k : Nat} {v : Value} {n : Nat} {xs : List Value} (h : w.ownsRow base E k v n xs) (hk : ∀ g, v.ownBlock = some g → w'.heap[g]? = w.heap[g]?) : w'.ownsRow base E k v n xs := by
  refine ⟨h.1, ?_⟩
  rcases h.2 with h0 | ⟨g, cap, cur, rfl, hg, hh, rest⟩
  · exact .inl h0
  · exact .inr ⟨g, cap, cur, rfl, hg, (hk g rfl).trans hh, rest⟩
/-- What is done apart from a ledger's blocks and from all legs leaves it. -/
theorem LedAt.kept {w w' : World} {p c d : Nat} {v : Value} {vs : List Value} {s : Led} (h : LedAt w p c d v vs s) (hb : ∀ i ∈ fp p c d v, w'.heap[i]? = w.heap[i]?) (hk : ∀ (g : Nat) (cur : Array Value), w.heap[g]? = some (Obj.cells cur 45) → w'.heap[g]? = w.heap[g]?) : LedAt w' p c d v vs s :=
  ⟨(hb p (by simp [fp])).trans h.blk, h.mc.block (hb c (by simp [fp])), h.md.block (hb d (by simp [fp])), h.ne, ownsRow_block h.own fun g hg => hb g (by simp [fp, hg]), h.hv.kept hk⟩
theorem LedAt.below {w w' : World} {p c d : Nat} {v : Value} {vs : List Value} {s : Led} (h : LedAt w p c d v vs s) (hb : Below w.heap.size w w') : LedAt w' p c d v vs s := by
  refine h.kept (fun i hi => hb.block i ?_) (fun g cur hg => hb.block g (lt_of_block hg))
  simp only [fp, List.mem_cons] at hi
  rcases hi with rfl | rfl | rfl | hi
  · exact lt_of_block h.blk
  · exact h.mc.lt
  · exact h.md.lt
  · exact (World.ownsRow.lt h.own i (by simpa using hi)).2
theorem LedAt.lts {w : World} {p c d : Nat} {v : Value} {vs : List Value} {s : Led} (h : LedAt w p c d v vs s) : ∀ i ∈ fp p c d v, i < w.heap.size := by
  intro i hi
  simp only [fp, List.mem_cons] at hi
  rcases hi with rfl | rfl | rfl | hi
  · exact lt_of_block h.blk
  · exact h.mc.lt
  · exact h.md.lt
  · exact (World.ownsRow.lt h.own i (by simpa using hi)).2
theorem LedAt.alloc {w : World} {p c d : Nat} {v : Value} {vs : List Value} {s : Led} (h : LedAt w p c d v vs s) (o : Obj) : LedAt (w.alloc o) p c d v vs s := h.below ((Below.refl _ _).alloc (Nat.le_refl _) o)
theorem LedAt.cellA {w : World} {p c d : Nat} {v : Value} {vs : List Value} {s : Led} (h : LedAt w p c d v vs s) :
    (∀ o, (w.alloc o).cell? ⟨p, 0, none⟩ = some (.map (some c))) ∧ (∀ o, (w.alloc o).cell? ⟨p, 1, none⟩ = some (.map (some d))) ∧ (∀ o, (w.alloc o).cell? ⟨p, 2, none⟩ = some v) ∧ (∀ o, (w.alloc o).cell? ⟨p, 3, none⟩ = some (.int .i64 s.last)) :=
  ⟨fun o => (h.alloc o).cell.1, fun o => (h.alloc o).cell.2.1, fun o => (h.alloc o).cell.2.2.1, fun o => (h.alloc o).cell.2.2.2⟩
end Go.Proofs.Ytmlcojhanimnpaa
