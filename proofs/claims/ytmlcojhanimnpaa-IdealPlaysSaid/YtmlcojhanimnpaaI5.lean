/- Taking a leg's amount out of a channel. -/
import Derived.Test.YtmlcojhanimnpaaI4
import Derived.RegionTactic
import Derived.ChangeAlike
import Derived.BigRegion
import Derived.BigQuiet
import Derived.Deep.QuietTactic
namespace Go.Proofs.Ytmlcojhanimnpaa
open Go.RowKit

def legV (x : Leg) : Value := .agg #[.string x.ch, .string x.src, .int .i64 x.amt]
def TakeP (w : World) (d : Nat) (l : List (ByteArray × Chan)) (x : Leg) (e : Ending) (w' : World) : Prop :=
  e = .returned (.int .i64 (take1 l x).1) ∧ SMap w' d (menc encC (take1 l x).2) ∧ w.grownBy w' (some d)
theorem lk_some {w : World} {b : Nat} {l : List (ByteArray × Chan)} (h : SMap w b (menc encC l)) (key : ByteArray) {c : Chan} (hc : mget l key = some c) :
    (Instr.lookup 65 (.map (some b)) (.string key) true).run Try.prog w = .ok (.tuple #[.agg #[.string c.name, .string c.a, .string c.b, .int .i64 c.cap, .int .i64 c.hasA, .int .i64 c.hasB], .bool true]) w := by
  have h1 := look_chans h key true
  rw [hc] at h1
  exact h1
theorem lk_none {w : World} {b : Nat} {l : List (ByteArray × Chan)} (h : SMap w b (menc encC l)) (key : ByteArray) (hc : mget l key = none) :
    (Instr.lookup 65 (.map (some b)) (.string key) true).run Try.prog w = .ok (.tuple #[.agg #[.string ⟨#[]⟩, .string ⟨#[]⟩, .string ⟨#[]⟩, .int .i64 0, .int .i64 0, .int .i64 0], .bool false]) w := by
  have h1 := look_chans h key true
  rw [hc] at h1
  exact h1
theorem SMap.drewN {w : World} {b : Nat} {l : List (ByteArray × Value)} (h : SMap w b l) (n : Nat) : SMap (w.drewN n) b l := h
theorem alloc3_new (w : World) (o1 o2 o3 : Obj) : (((w.alloc o1).alloc o2).alloc o3).heap[w.heap.size + 1 + 1]? = some o3 := by
  have h := Go.heap_alloc_new ((w.alloc o1).alloc o2) o3
  have e : ((w.alloc o1).alloc o2).heap.size = w.heap.size + 1 + 1 := by simp
  rw [e] at h; exact h
theorem cell3 (w : World) (o1 o2 : Obj) (cs : Array Value) (t : TypeId) (j : Nat) : (((w.alloc o1).alloc o2).alloc (.cells cs t)).cell? ⟨w.heap.size + 1 + 1, j, none⟩ = cs[j]? := by
  have h := alloc3_new w o1 o2 (.cells cs t)
  simp only [World.cell?, h]
  rfl
theorem grown3 (w : World) (o1 o2 o3 : Obj) (row : Option Nat) : w.grownBy (((w.alloc o1).alloc o2).alloc o3) row := grown_of_below ((((Below.refl _ _).alloc (Nat.le_refl _) _).alloc (by simp) _).alloc (by simp; omega) _) row
theorem smap3 {w : World} {b : Nat} {l : List (ByteArray × Value)} (h : SMap w b l) (o1 o2 o3 : Obj) : SMap (((w.alloc o1).alloc o2).alloc o3) b l := ((h.alloc _).alloc _).alloc _
set_option maxHeartbeats 1000000 in
theorem take_none (c d : Nat) (l : List (ByteArray × Chan)) (x : Leg) (w : World) (hd : SMap w d (menc encC l)) (hn : mget l x.ch = none) :
    Calls Try.prog 36 #[.agg #[.map (some c), .map (some d)], .agg #[.string x.ch, .string x.src, .int .i64 x.amt]] w (TakeP w d l x) := by
  have ht : take1 l x = (5, l) := by unfold take1; rw [hn]
  have hl := fun o o' => lk_none ((hd.alloc o).alloc o') x.ch hn
  unfold TakeP
  rw [ht]
  generalize x.ch = xc at *
  generalize x.src = xs at *
  generalize x.amt = xa at *
  clear hn ht
  have HD := Lib.hid hd; clear hd
  go_enter Try.func36, Try.ntmps36
  go_wp2_with fail
  refine (side_any _ chan0 xs _ (cell3 ..) (cell3 ..)).mono ?_
  rintro e w' ⟨rfl, rfl⟩
  generalize sideAt (w.heap.size + 1 + 1) chan0 xs = v
  go_wp2
  go_ret
  exact ⟨rfl, smap3 HD.out _ _ _, grown3 ..⟩
theorem has_side (g : Nat) (c : Chan) (x : ByteArray) : (c.has x = none ∧ sideAt g c x = .pointer none) ∨ (x = c.a ∧ c.has x = some c.hasA ∧ sideAt g c x = .pointer (some ⟨g, 4, none⟩)) ∨ (x ≠ c.a ∧ x = c.b ∧ c.has x = some c.hasB ∧ sideAt g c x = .pointer (some ⟨g, 5, none⟩)) := by
  unfold Chan.has sideAt
  by_cases h1 : x = c.a
  · rw [if_pos h1, if_pos h1]; exact .inr (.inl ⟨h1, rfl, rfl⟩)
  · rw [if_neg h1, if_neg h1]
    by_cases h2 : x = c.b
    · rw [if_pos h2, if_pos h2]; exact .inr (.inr ⟨h1, h2, rfl, rfl⟩)
    · rw [if_neg h2, if_neg h2]; exact .inl ⟨rfl, rfl⟩
set_option maxHeartbeats 1000000 in
theorem take_noside (c d : Nat) (l : List (ByteArray × Chan)) (x : Leg) (k : Chan) (w : World) (hd : SMap w d (menc encC l)) (hk : mget l x.ch = some k) (hn : k.has x.src = none) :
    Calls Try.prog 36 #[.agg #[.map (some c), .map (some d)], .agg #[.string x.ch, .string x.src, .int .i64 x.amt]] w (TakeP w d l x) := by
  have ht : take1 l x = (5, l) := by unfold take1; rw [hk]; simp only [hn]
  have hl := fun o o' => lk_some ((hd.alloc o).alloc o') x.ch hk
  have hs : sideAt (w.heap.size + 1 + 1) k x.src = .pointer none := by
    rcases has_side (w.heap.size + 1 + 1) k x.src with ⟨-, h⟩ | ⟨-, h, -⟩ | ⟨-, -, h, -⟩
    · exact h
    · rw [hn] at h; cases h
    · rw [hn] at h; cases h
  unfold TakeP
  rw [ht]
  generalize x.ch = xc at *
  generalize x.src = xs at *
  generalize x.amt = xa at *
  clear hn ht hk
  have HD := Lib.hid hd; clear hd
  have HS := Lib.hid hs; clear hs
  go_enter Try.func36, Try.ntmps36
  go_wp2_with fail
  refine (side_any _ k xs _ (cell3 ..) (cell3 ..)).mono ?_
  rintro e w' ⟨rfl, rfl⟩
  rw [HS.out]
  go_wp2
  go_ret
  exact ⟨rfl, smap3 HD.out _ _ _, grown3 ..⟩
set_option maxRecDepth 100000 in
set_option maxHeartbeats 1000000 in
theorem take_a (c d : Nat) (l : List (ByteArray × Chan)) (x : Leg) (k : Chan) (w : World) (hd : SMap w d (menc encC l)) (hk : mget l x.ch = some k) (hxa : x.src = k.a) (hbd : k.hasA ≤ maxMoney) :
    Calls Try.prog 36 #[.agg #[.map (some c), .map (some d)], .agg #[.string x.ch, .string x.src, .int .i64 x.amt]] w (TakeP w d l x) := by
  have hhas : k.has x.src = some k.hasA := by unfold Chan.has; rw [if_pos hxa]
  have ht : take1 l x = if x.amt < 1 ∨ maxMoney < x.amt then (40, l) else if k.hasA < x.amt then (170, l) else (0, mset l x.ch (k.put x.src (k.hasA - x.amt))) := by unfold take1; rw [hk]; simp only [hhas]
  have hp : k.put x.src (k.hasA - x.amt) = { k with hasA := k.hasA - x.amt } := by unfold Chan.put; rw [if_pos hxa]
  have hs : sideAt (w.heap.size + 1 + 1) k x.src = .pointer (some ⟨w.heap.size + 1 + 1, 4, none⟩) := by unfold sideAt; rw [if_pos hxa]
  have hl := fun o o' => lk_some ((hd.alloc o).alloc o') x.ch hk
  rw [hp] at ht
  unfold TakeP
  rw [ht]
  clear ht hp hhas hk hxa
  generalize x.ch = xc at *
  generalize x.src = xs at *
  generalize x.amt = xa at *
  unfold maxMoney at *
  have hbd' : ¬ 2100000000000000000 < k.hasA := by omega
  clear hbd
  have HD := Lib.hid hd; clear hd
  have HS := Lib.hid hs; clear hs
  by_cases h1 : xa < 1
  · rw [if_pos (.inl h1)]
    go_enter Try.func36, Try.ntmps36
    go_wp2_with fail
    refine (side_any _ k xs _ (cell3 ..) (cell3 ..)).mono ?_
    rintro e w' ⟨rfl, rfl⟩
    rw [HS.out]
    go_wp2
    go_ret
    exact ⟨rfl, smap3 HD.out _ _ _, grown3 ..⟩
  · by_cases h2 : 2100000000000000000 < xa
    · rw [if_pos (.inr h2)]
      go_enter Try.func36, Try.ntmps36
      go_wp2_with fail
      refine (side_any _ k xs _ (cell3 ..) (cell3 ..)).mono ?_
      rintro e w' ⟨rfl, rfl⟩
      rw [HS.out]
      go_wp2
      go_ret
      exact ⟨rfl, smap3 HD.out _ _ _, grown3 ..⟩
    · rw [if_neg (by omega)]
      by_cases h3 : k.hasA < xa
      · rw [if_pos h3]
        have h3' : decide (k.hasA < xa) = true := by simpa using h3
        clear h3
        go_enter Try.func36, Try.ntmps36
        go_wp2_with fail
        refine (side_any _ k xs _ (cell3 ..) (cell3 ..)).mono ?_
        rintro e w' ⟨rfl, rfl⟩
        rw [HS.out]
        go_wp2
        go_quiet (fail)
        go_wp2
        go_ret
        exact ⟨rfl, smap3 HD.out _ _ _, only_drewN (grown3 ..) _⟩
      · rw [if_neg h3]
        have h3' : decide (k.hasA < xa) = false := by simpa using h3
        have hlo : 0 ≤ k.hasA - xa := by omega
        have hhi : ¬ 2100000000000000000 < k.hasA - xa := by omega
        go_enter Try.func36, Try.ntmps36
        go_wp2_with fail
        refine (side_any _ k xs _ (cell3 ..) (cell3 ..)).mono ?_
        rintro e w' ⟨rfl, rfl⟩
        rw [HS.out]
        clear h3
        go_wp2
        go_quiet (fail)
        go_wp2
        go_region
        have hne : d ≠ w.heap.size + 1 + 1 := by have := HD.out.lt; omega
        all_goals
          go_wp2_with (at_mapUpdate; (refine wpList_supd _ rfl _ _ _ 65 rfl 9 87 Try.underlying65 Try.underlying9 d (menc encC l) rfl (SMap.setCell (SMap.drewN (smap3 HD.out _ _ _) _) _ hne _) xc (encC { k with hasA := k.hasA - xa }) rfl rfl ?_); intro w1 hm1 hg1)
          rw [mset_menc] at hm1
          go_wp2
          go_ret
          exact ⟨rfl, hm1, (only_setCell (only_drewN (grown3 w _ _ _ (some d)) _) (.inr (Nat.le_trans (Nat.le_succ _) (Nat.le_succ _))) _).andThen hg1 (fun j hj => .inr hj)⟩
set_option maxRecDepth 100000 in
set_option maxHeartbeats 1000000 in
theorem take_b (c d : Nat) (l : List (ByteArray × Chan)) (x : Leg) (k : Chan) (w : World) (hd : SMap w d (menc encC l)) (hk : mget l x.ch = some k) (hxn : x.src ≠ k.a) (hxa : x.src = k.b) (hbd : k.hasB ≤ maxMoney) :
    Calls Try.prog 36 #[.agg #[.map (some c), .map (some d)], .agg #[.string x.ch, .string x.src, .int .i64 x.amt]] w (TakeP w d l x) := by
  have hhas : k.has x.src = some k.hasB := by unfold Chan.has; rw [if_neg hxn, if_pos hxa]
  have ht : take1 l x = if x.amt < 1 ∨ maxMoney < x.amt then (40, l) else if k.hasB < x.amt then (170, l) else (0, mset l x.ch (k.put x.src (k.hasB - x.amt))) := by unfold take1; rw [hk]; simp only [hhas]
  have hp : k.put x.src (k.hasB - x.amt) = { k with hasB := k.hasB - x.amt } := by unfold Chan.put; rw [if_neg hxn]
  have hs : sideAt (w.heap.size + 1 + 1) k x.src = .pointer (some ⟨w.heap.size + 1 + 1, 5, none⟩) := by unfold sideAt; rw [if_neg hxn, if_pos hxa]
  have hl := fun o o' => lk_some ((hd.alloc o).alloc o') x.ch hk
  rw [hp] at ht
  unfold TakeP
  rw [ht]
  clear ht hp hhas hk hxa hxn
  generalize x.ch = xc at *
  generalize x.src = xs at *
  generalize x.amt = xa at *
  unfold maxMoney at *
  have hbd' : ¬ 2100000000000000000 < k.hasB := by omega
  clear hbd
  have HD := Lib.hid hd; clear hd
  have HS := Lib.hid hs; clear hs
  by_cases h1 : xa < 1
  · rw [if_pos (.inl h1)]
    go_enter Try.func36, Try.ntmps36
    go_wp2_with fail
    refine (side_any _ k xs _ (cell3 ..) (cell3 ..)).mono ?_
    rintro e w' ⟨rfl, rfl⟩
    rw [HS.out]
    go_wp2
    go_ret
    exact ⟨rfl, smap3 HD.out _ _ _, grown3 ..⟩
  · by_cases h2 : 2100000000000000000 < xa
    · rw [if_pos (.inr h2)]
      go_enter Try.func36, Try.ntmps36
      go_wp2_with fail
      refine (side_any _ k xs _ (cell3 ..) (cell3 ..)).mono ?_
      rintro e w' ⟨rfl, rfl⟩
      rw [HS.out]
      go_wp2
      go_ret
      exact ⟨rfl, smap3 HD.out _ _ _, grown3 ..⟩
    · rw [if_neg (by omega)]
      by_cases h3 : k.hasB < xa
      · rw [if_pos h3]
        have h3' : decide (k.hasB < xa) = true := by simpa using h3
        clear h3
        go_enter Try.func36, Try.ntmps36
        go_wp2_with fail
        refine (side_any _ k xs _ (cell3 ..) (cell3 ..)).mono ?_
        rintro e w' ⟨rfl, rfl⟩
        rw [HS.out]
        go_wp2
        go_quiet (fail)
        go_wp2
        go_ret
        exact ⟨rfl, smap3 HD.out _ _ _, only_drewN (grown3 ..) _⟩
      · rw [if_neg h3]
        have h3' : decide (k.hasB < xa) = false := by simpa using h3
        have hlo : 0 ≤ k.hasB - xa := by omega
        have hhi : ¬ 2100000000000000000 < k.hasB - xa := by omega
        go_enter Try.func36, Try.ntmps36
        go_wp2_with fail
        refine (side_any _ k xs _ (cell3 ..) (cell3 ..)).mono ?_
        rintro e w' ⟨rfl, rfl⟩
        rw [HS.out]
        clear h3
        go_wp2
        go_quiet (fail)
        go_wp2
        go_region
        have hne : d ≠ w.heap.size + 1 + 1 := by have := HD.out.lt; omega
        all_goals
          go_wp2_with (at_mapUpdate; (refine wpList_supd _ rfl _ _ _ 65 rfl 9 87 Try.underlying65 Try.underlying9 d (menc encC l) rfl (SMap.setCell (SMap.drewN (smap3 HD.out _ _ _) _) _ hne _) xc (encC { k with hasB := k.hasB - xa }) rfl rfl ?_); intro w1 hm1 hg1)
          rw [mset_menc] at hm1
          go_wp2
          go_ret
          exact ⟨rfl, hm1, (only_setCell (only_drewN (grown3 w _ _ _ (some d)) _) (.inr (Nat.le_trans (Nat.le_succ _) (Nat.le_succ _))) _).andThen hg1 (fun j hj => .inr hj)⟩
/-- take at every leg, where the amounts of the channel are ones that may be. -/
theorem take_any (c d : Nat) (l : List (ByteArray × Chan)) (x : Leg) (w : World) (hd : SMap w d (menc encC l)) (hb : ∀ k, mget l x.ch = some k → k.hasA ≤ maxMoney ∧ k.hasB ≤ maxMoney) :
    Calls Try.prog 36 #[.agg #[.map (some c), .map (some d)], .agg #[.string x.ch, .string x.src, .int .i64 x.amt]] w (TakeP w d l x) := by
  cases hk : mget l x.ch with
  | none => exact take_none c d l x w hd hk
  | some k =>
    obtain ⟨h1, h2⟩ := hb k hk
    rcases has_side 0 k x.src with ⟨h, -⟩ | ⟨h, -, -⟩ | ⟨hn, h, -, -⟩
    · exact take_noside c d l x k w hd hk h
    · exact take_a c d l x k w hd hk h h1
    · exact take_b c d l x k w hd hk hn h h2
end Go.Proofs.Ytmlcojhanimnpaa
