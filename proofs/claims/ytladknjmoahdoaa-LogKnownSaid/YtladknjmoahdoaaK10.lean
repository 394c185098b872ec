/- A step at each closure. -/
import Derived.Test.YtladknjmoahdoaaK9
set_option linter.all false
namespace Go.Proofs.Ytladknjmoahdoaa
open Go.RowKit

theorem DiskAt.setIn {w : World} {p m b i k j : Nat} {es : List (ByteArray × FileM)} {d : DiskT} (h : DiskAt w p m (some b) es d) (hs : d.set = some (i, k)) : DiskAt (w.setCell ⟨b, 0, none⟩ (.int .i64 j)) p m (some b) es { d with set := some (j, k) } := by
  have hfr : Fr [b] w (w.setCell ⟨b, 0, none⟩ (.int .i64 j)) := (Fr.refl _ w).put b 0 _ (.inl (by simp))
  have hsb := h.set
  rw [hs] at hsb
  have hsb' : w.heap[b]? = some (.cells #[.int .i64 i, .int .u64 k] 65) := hsb
  refine ⟨hfr.kept (by simpa using h.p_ne.2.1 b rfl) h.blk, h.map.fr hfr (by simpa using h.m_ne.1 b rfl), fun e he => (h.files e he).fr hfr fun g hg => ?_, h.eq, setCell_heap _ hsb', h.apart⟩
  intro hgb
  have e1 : g = b := by simpa using hgb
  subst e1
  have := h.apart
  simp only [fpD, List.cons_append, List.nodup_cons, List.mem_cons, List.mem_append, not_or, Option.toList_some, List.nil_append] at this
  exact this.2.2.1 (List.mem_flatMap.2 ⟨e, he, hg⟩)
/-- What a step answers and leaves. -/
def StepP (w : World) (p m : Nat) (sb : Option Nat) (es : List (ByteArray × FileM)) (d : DiskT) (R : World → Prop) (e : Ending) (w' : World) : Prop :=
  ((stepD d).1 = true ∧ e = .returned (.int .i64 0) ∧ R w') ∨ ((stepD d).1 = false ∧ e = .returned (.int .i64 7) ∧ DiskAt w' p m sb es (stepD d).2 ∧ Fr (p :: sb.toList) w w')
set_option maxRecDepth 100000 in
set_option maxHeartbeats 4000000 in
theorem step_create (p m : Nat) (sb : Option Nat) (es : List (ByteArray × FileM)) (d : DiskT) (cs : Array Value) (w : World) (R : World → Prop) (h : DiskAt w p m sb es d) (hi : Inv d) (hst : d.steps ≤ 4000000000)
    (hF : ∀ w1, DiskAt w1 p m sb es (stepD d).2 → Fr (p :: sb.toList) w w1 → (stepD d).1 = true → Calls Try.prog 39 cs w1 (UnitP R)) :
    Calls Try.prog 38 #[.pointer (some ⟨p, 0, none⟩), .func (.func 39) #[] cs] w (StepP w p m sb es d R) := by
  obtain ⟨-, -, -, c3, -, c5, -⟩ := h.cell
  have z3 := h.free 3
  have z6 := h.free 6
  have HH := Lib.hid h
  have hw3 : IntKind.i64.wrap ((d.steps : Int) + 1) = (d.steps : Int) + 1 := IntWalk.i64_in _ (by omega)
  have b3 : (d.steps : Int) + 1 < 9223372036854775808 := by omega
  have b4 : (0 : Int) ≤ (d.steps : Int) + 1 := by omega
  have e3 : (((d.steps + 1 : Nat)) : Int) = (d.steps : Int) + 1 := by omega
  have E3 := Lib.hid e3
  rcases sb with _ | b
  · have hset : d.set = none := by
      have := h.set
      cases hs : d.set with
      | none => rfl
      | some q => rw [hs] at this; exact this.elim
    have hr : stepD d = (true, { d with steps := d.steps + 1 }) := by unfold stepD; rw [hset]
    rw [hr] at hF
    have hc := hF (w.setCell ⟨p, 3, none⟩ (.int .i64 ((d.steps : Int) + 1))) (by rw [← e3]; exact h.setSteps (d.steps + 1)) ((Fr.refl _ w).put p 3 _ (.inl (by simp))) rfl
    unfold StepP
    rw [hr]
    have HC := Lib.hid hc
    have c5' : w.cell? ⟨p, 5, none⟩ = some (.pointer none) := c5
    clear hc hF hr hset h hi e3 c5
    go_enter Try.func38, Try.ntmps38
    go_wp2_with fail
    refine HC.out.mono ?_
    rintro e w1 ⟨rfl, hR⟩
    have HR := Lib.hid hR
    clear hR
    go_wp2_with fail
    go_ret
    exact .inl ⟨by trivial, rfl, HR.out⟩
  · have hsb := h.set
    cases hs : d.set with
    | none => rw [hs] at hsb; exact hsb.elim
    | some q =>
      obtain ⟨i, k⟩ := q
      rw [hs] at hsb
      have hsb' : w.heap[b]? = some (.cells #[.int .i64 i, .int .u64 k] 65) := hsb
      have k0 : w.cell? ⟨b, 0, none⟩ = some (.int .i64 i) := cell_of (j := 0) hsb' rfl
      have k0f := free_of hsb' 0
      have c5' : w.cell? ⟨p, 5, none⟩ = some (.pointer (some ⟨b, 0, none⟩)) := c5
      have hbp : p ≠ b := h.p_ne.2.1 b rfl
      have hil := (hi.set i k hs).1
      have HS := Lib.hid hs
      have HBP := Lib.hid hbp
      cases i with
      | zero =>
        have hr : stepD d = (false, { d with off := true }) := by unfold stepD; rw [hs]
        unfold StepP
        rw [hr]
        have HF := Lib.hid (show DiskAt (w.setCell ⟨p, 6, none⟩ (.bool true)) p m (some b) es { d with off := true } ∧ Fr (p :: [b]) w (w.setCell ⟨p, 6, none⟩ (.bool true)) from ⟨h.setOff true, (Fr.refl _ w).put p 6 _ (.inl (by simp))⟩)
        obtain ⟨-, -, -, -, -, -, c6⟩ := h.cell
        have k0' : w.cell? ⟨b, 0, none⟩ = some (.int .i64 0) := k0
        clear hF hr hs h hi e3 c5 hsb hsb' hbp hil k0
        go_enter Try.func38, Try.ntmps38
        go_wp2_with fail
        go_ret
        exact .inr ⟨by trivial, rfl, HF.out⟩
      | succ i =>
        have hr : stepD d = (true, { d with steps := d.steps + 1, set := some (i, k) }) := by unfold stepD; rw [hs]
        rw [hr] at hF
        have e1 : (((i + 1 : Nat)) : Int) - 1 = (i : Int) := by omega
        have hd1 := h.setIn (j := i) hs
        have hc := hF ((w.setCell ⟨b, 0, none⟩ (.int .i64 i)).setCell ⟨p, 3, none⟩ (.int .i64 ((d.steps : Int) + 1))) (by rw [← e3]; exact hd1.setSteps (d.steps + 1)) (((Fr.refl _ w).put b 0 _ (.inl (by simp))).put p 3 _ (.inl (by simp))) rfl
        unfold StepP
        rw [hr]
        have HC := Lib.hid hc
        obtain ⟨-, -, -, d3, -, -, -⟩ := hd1.cell
        have d3f := hd1.free 3
        have hw1 : IntKind.i64.wrap ((((i + 1 : Nat)) : Int) - 1) = (i : Int) := by rw [e1]; exact IntWalk.i64_in _ (by omega)
        have hne : (((((i + 1 : Nat)) : Int)) == 0) = false := by simp; omega
        dsimp only at d3
        have hii : ∃ ii : Int, (((i + 1 : Nat)) : Int) = ii ∧ ii - 1 = (i : Int) := ⟨_, rfl, e1⟩
        obtain ⟨ii, hii, hi1⟩ := hii
        rw [hii] at k0 hne hw1
        have HII := Lib.hid hii
        have b6 : 0 ≤ ii - 1 := by omega
        have b7 : ii - 1 < 9223372036854775808 := by omega
        clear hc hF hr hs h hi e3 c5 hsb hsb' hbp hd1 e1 hii
        go_enter Try.func38, Try.ntmps38
        go_wp2_with fail
        try rw [hi1]
        refine HC.out.mono ?_
        rintro e w1 ⟨rfl, hR⟩
        have HR := Lib.hid hR
        clear hR
        go_wp2_with fail
        go_ret
        exact .inl ⟨by trivial, rfl, HR.out⟩
set_option maxRecDepth 100000 in
set_option maxHeartbeats 4000000 in
theorem step_write (p m : Nat) (sb : Option Nat) (es : List (ByteArray × FileM)) (d : DiskT) (cs : Array Value) (w : World) (R : World → Prop) (h : DiskAt w p m sb es d) (hi : Inv d) (hst : d.steps ≤ 4000000000)
    (hF : ∀ w1, DiskAt w1 p m sb es (stepD d).2 → Fr (p :: sb.toList) w w1 → (stepD d).1 = true → Calls Try.prog 41 cs w1 (UnitP R)) :
    Calls Try.prog 38 #[.pointer (some ⟨p, 0, none⟩), .func (.func 41) #[] cs] w (StepP w p m sb es d R) := by
  obtain ⟨-, -, -, c3, -, c5, -⟩ := h.cell
  have z3 := h.free 3
  have z6 := h.free 6
  have HH := Lib.hid h
  have hw3 : IntKind.i64.wrap ((d.steps : Int) + 1) = (d.steps : Int) + 1 := IntWalk.i64_in _ (by omega)
  have b3 : (d.steps : Int) + 1 < 9223372036854775808 := by omega
  have b4 : (0 : Int) ≤ (d.steps : Int) + 1 := by omega
  have e3 : (((d.steps + 1 : Nat)) : Int) = (d.steps : Int) + 1 := by omega
  have E3 := Lib.hid e3
  rcases sb with _ | b
  · have hset : d.set = none := by
      have := h.set
      cases hs : d.set with
      | none => rfl
      | some q => rw [hs] at this; exact this.elim
    have hr : stepD d = (true, { d with steps := d.steps + 1 }) := by unfold stepD; rw [hset]
    rw [hr] at hF
    have hc := hF (w.setCell ⟨p, 3, none⟩ (.int .i64 ((d.steps : Int) + 1))) (by rw [← e3]; exact h.setSteps (d.steps + 1)) ((Fr.refl _ w).put p 3 _ (.inl (by simp))) rfl
    unfold StepP
    rw [hr]
    have HC := Lib.hid hc
    have c5' : w.cell? ⟨p, 5, none⟩ = some (.pointer none) := c5
    clear hc hF hr hset h hi e3 c5
    go_enter Try.func38, Try.ntmps38
    go_wp2_with fail
    refine HC.out.mono ?_
    rintro e w1 ⟨rfl, hR⟩
    have HR := Lib.hid hR
    clear hR
    go_wp2_with fail
    go_ret
    exact .inl ⟨by trivial, rfl, HR.out⟩
  · have hsb := h.set
    cases hs : d.set with
    | none => rw [hs] at hsb; exact hsb.elim
    | some q =>
      obtain ⟨i, k⟩ := q
      rw [hs] at hsb
      have hsb' : w.heap[b]? = some (.cells #[.int .i64 i, .int .u64 k] 65) := hsb
      have k0 : w.cell? ⟨b, 0, none⟩ = some (.int .i64 i) := cell_of (j := 0) hsb' rfl
      have k0f := free_of hsb' 0
      have c5' : w.cell? ⟨p, 5, none⟩ = some (.pointer (some ⟨b, 0, none⟩)) := c5
      have hbp : p ≠ b := h.p_ne.2.1 b rfl
      have hil := (hi.set i k hs).1
      have HS := Lib.hid hs
      have HBP := Lib.hid hbp
      cases i with
      | zero =>
        have hr : stepD d = (false, { d with off := true }) := by unfold stepD; rw [hs]
        unfold StepP
        rw [hr]
        have HF := Lib.hid (show DiskAt (w.setCell ⟨p, 6, none⟩ (.bool true)) p m (some b) es { d with off := true } ∧ Fr (p :: [b]) w (w.setCell ⟨p, 6, none⟩ (.bool true)) from ⟨h.setOff true, (Fr.refl _ w).put p 6 _ (.inl (by simp))⟩)
        obtain ⟨-, -, -, -, -, -, c6⟩ := h.cell
        have k0' : w.cell? ⟨b, 0, none⟩ = some (.int .i64 0) := k0
        clear hF hr hs h hi e3 c5 hsb hsb' hbp hil k0
        go_enter Try.func38, Try.ntmps38
        go_wp2_with fail
        go_ret
        exact .inr ⟨by trivial, rfl, HF.out⟩
      | succ i =>
        have hr : stepD d = (true, { d with steps := d.steps + 1, set := some (i, k) }) := by unfold stepD; rw [hs]
        rw [hr] at hF
        have e1 : (((i + 1 : Nat)) : Int) - 1 = (i : Int) := by omega
        have hd1 := h.setIn (j := i) hs
        have hc := hF ((w.setCell ⟨b, 0, none⟩ (.int .i64 i)).setCell ⟨p, 3, none⟩ (.int .i64 ((d.steps : Int) + 1))) (by rw [← e3]; exact hd1.setSteps (d.steps + 1)) (((Fr.refl _ w).put b 0 _ (.inl (by simp))).put p 3 _ (.inl (by simp))) rfl
        unfold StepP
        rw [hr]
        have HC := Lib.hid hc
        obtain ⟨-, -, -, d3, -, -, -⟩ := hd1.cell
        have d3f := hd1.free 3
        have hw1 : IntKind.i64.wrap ((((i + 1 : Nat)) : Int) - 1) = (i : Int) := by rw [e1]; exact IntWalk.i64_in _ (by omega)
        have hne : (((((i + 1 : Nat)) : Int)) == 0) = false := by simp; omega
        dsimp only at d3
        have hii : ∃ ii : Int, (((i + 1 : Nat)) : Int) = ii ∧ ii - 1 = (i : Int) := ⟨_, rfl, e1⟩
        obtain ⟨ii, hii, hi1⟩ := hii
        rw [hii] at k0 hne hw1
        have HII := Lib.hid hii
        have b6 : 0 ≤ ii - 1 := by omega
        have b7 : ii - 1 < 9223372036854775808 := by omega
        clear hc hF hr hs h hi e3 c5 hsb hsb' hbp hd1 e1 hii
        go_enter Try.func38, Try.ntmps38
        go_wp2_with fail
        try rw [hi1]
        refine HC.out.mono ?_
        rintro e w1 ⟨rfl, hR⟩
        have HR := Lib.hid hR
        clear hR
        go_wp2_with fail
        go_ret
        exact .inl ⟨by trivial, rfl, HR.out⟩
set_option maxRecDepth 100000 in
set_option maxHeartbeats 4000000 in
theorem step_sync (p m : Nat) (sb : Option Nat) (es : List (ByteArray × FileM)) (d : DiskT) (cs : Array Value) (w : World) (R : World → Prop) (h : DiskAt w p m sb es d) (hi : Inv d) (hst : d.steps ≤ 4000000000)
    (hF : ∀ w1, DiskAt w1 p m sb es (stepD d).2 → Fr (p :: sb.toList) w w1 → (stepD d).1 = true → Calls Try.prog 43 cs w1 (UnitP R)) :
    Calls Try.prog 38 #[.pointer (some ⟨p, 0, none⟩), .func (.func 43) #[] cs] w (StepP w p m sb es d R) := by
  obtain ⟨-, -, -, c3, -, c5, -⟩ := h.cell
  have z3 := h.free 3
  have z6 := h.free 6
  have HH := Lib.hid h
  have hw3 : IntKind.i64.wrap ((d.steps : Int) + 1) = (d.steps : Int) + 1 := IntWalk.i64_in _ (by omega)
  have b3 : (d.steps : Int) + 1 < 9223372036854775808 := by omega
  have b4 : (0 : Int) ≤ (d.steps : Int) + 1 := by omega
  have e3 : (((d.steps + 1 : Nat)) : Int) = (d.steps : Int) + 1 := by omega
  have E3 := Lib.hid e3
  rcases sb with _ | b
  · have hset : d.set = none := by
      have := h.set
      cases hs : d.set with
      | none => rfl
      | some q => rw [hs] at this; exact this.elim
    have hr : stepD d = (true, { d with steps := d.steps + 1 }) := by unfold stepD; rw [hset]
    rw [hr] at hF
    have hc := hF (w.setCell ⟨p, 3, none⟩ (.int .i64 ((d.steps : Int) + 1))) (by rw [← e3]; exact h.setSteps (d.steps + 1)) ((Fr.refl _ w).put p 3 _ (.inl (by simp))) rfl
    unfold StepP
    rw [hr]
    have HC := Lib.hid hc
    have c5' : w.cell? ⟨p, 5, none⟩ = some (.pointer none) := c5
    clear hc hF hr hset h hi e3 c5
    go_enter Try.func38, Try.ntmps38
    go_wp2_with fail
    refine HC.out.mono ?_
    rintro e w1 ⟨rfl, hR⟩
    have HR := Lib.hid hR
    clear hR
    go_wp2_with fail
    go_ret
    exact .inl ⟨by trivial, rfl, HR.out⟩
  · have hsb := h.set
    cases hs : d.set with
    | none => rw [hs] at hsb; exact hsb.elim
    | some q =>
      obtain ⟨i, k⟩ := q
      rw [hs] at hsb
      have hsb' : w.heap[b]? = some (.cells #[.int .i64 i, .int .u64 k] 65) := hsb
      have k0 : w.cell? ⟨b, 0, none⟩ = some (.int .i64 i) := cell_of (j := 0) hsb' rfl
      have k0f := free_of hsb' 0
      have c5' : w.cell? ⟨p, 5, none⟩ = some (.pointer (some ⟨b, 0, none⟩)) := c5
      have hbp : p ≠ b := h.p_ne.2.1 b rfl
      have hil := (hi.set i k hs).1
      have HS := Lib.hid hs
      have HBP := Lib.hid hbp
      cases i with
      | zero =>
        have hr : stepD d = (false, { d with off := true }) := by unfold stepD; rw [hs]
        unfold StepP
        rw [hr]
        have HF := Lib.hid (show DiskAt (w.setCell ⟨p, 6, none⟩ (.bool true)) p m (some b) es { d with off := true } ∧ Fr (p :: [b]) w (w.setCell ⟨p, 6, none⟩ (.bool true)) from ⟨h.setOff true, (Fr.refl _ w).put p 6 _ (.inl (by simp))⟩)
        obtain ⟨-, -, -, -, -, -, c6⟩ := h.cell
        have k0' : w.cell? ⟨b, 0, none⟩ = some (.int .i64 0) := k0
        clear hF hr hs h hi e3 c5 hsb hsb' hbp hil k0
        go_enter Try.func38, Try.ntmps38
        go_wp2_with fail
        go_ret
        exact .inr ⟨by trivial, rfl, HF.out⟩
      | succ i =>
        have hr : stepD d = (true, { d with steps := d.steps + 1, set := some (i, k) }) := by unfold stepD; rw [hs]
        rw [hr] at hF
        have e1 : (((i + 1 : Nat)) : Int) - 1 = (i : Int) := by omega
        have hd1 := h.setIn (j := i) hs
        have hc := hF ((w.setCell ⟨b, 0, none⟩ (.int .i64 i)).setCell ⟨p, 3, none⟩ (.int .i64 ((d.steps : Int) + 1))) (by rw [← e3]; exact hd1.setSteps (d.steps + 1)) (((Fr.refl _ w).put b 0 _ (.inl (by simp))).put p 3 _ (.inl (by simp))) rfl
        unfold StepP
        rw [hr]
        have HC := Lib.hid hc
        obtain ⟨-, -, -, d3, -, -, -⟩ := hd1.cell
        have d3f := hd1.free 3
        have hw1 : IntKind.i64.wrap ((((i + 1 : Nat)) : Int) - 1) = (i : Int) := by rw [e1]; exact IntWalk.i64_in _ (by omega)
        have hne : (((((i + 1 : Nat)) : Int)) == 0) = false := by simp; omega
        dsimp only at d3
        have hii : ∃ ii : Int, (((i + 1 : Nat)) : Int) = ii ∧ ii - 1 = (i : Int) := ⟨_, rfl, e1⟩
        obtain ⟨ii, hii, hi1⟩ := hii
        rw [hii] at k0 hne hw1
        have HII := Lib.hid hii
        have b6 : 0 ≤ ii - 1 := by omega
        have b7 : ii - 1 < 9223372036854775808 := by omega
        clear hc hF hr hs h hi e3 c5 hsb hsb' hbp hd1 e1 hii
        go_enter Try.func38, Try.ntmps38
        go_wp2_with fail
        try rw [hi1]
        refine HC.out.mono ?_
        rintro e w1 ⟨rfl, hR⟩
        have HR := Lib.hid hR
        clear hR
        go_wp2_with fail
        go_ret
        exact .inl ⟨by trivial, rfl, HR.out⟩
end Go.Proofs.Ytladknjmoahdoaa
