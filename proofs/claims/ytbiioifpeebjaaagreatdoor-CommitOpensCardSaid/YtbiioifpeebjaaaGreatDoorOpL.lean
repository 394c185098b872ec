/- The law CommitOpens. -/
import Derived.Test.YtbiioifpeebjaaaGreatDoorOpP
import Derived.Test.YtbiioifpeebjaaaGreatDoorOpQ
import Derived.Test.YtbiioifpeebjaaaGreatDoorQ17
import Derived.Deep.DeepCutAuto
set_option linter.all false
namespace Go.Proofs.YtbiioifpeebjaaaGreatDoor
open Go.RowKit

section
open Go
theorem float_all2 {P : Program} {md : Region.Mode} {ops : Array Oper} {Q : Exit → Act → World → Prop} {stop : Array Bool} {R0 : Act → Act → World → Prop} {F : List (Nat × Tmp)} {o : Obj} {base g f n : Nat} {a : Act} {w : World} (hn : n = f + F.length + g) (hF : floatB md ops stop F = true) (hrd : F.all (fun p => (Region.ready md ops (Array.replicate n false)).contains p.1) = true) (hnd : (F.map (·.1)).Nodup) (hns : (F.map (·.2)).Nodup)
    (hsel : Region.noSelect ops = true) (hQ : ∀ c a w s v, Q (.panic c) a w → Q (.panic c) (Act.put a s v) w)
    (hal : ∀ p ∈ F, ∀ (K : Act → World → Prop) (a : Act) (w : World), K (Act.put a (some p.2) (.pointer (some ⟨w.heap.size, 0, none⟩))) (w.alloc o) → wpOp P ops Q p.1 K a w)
    (hfin : ∀ a' w bs, bs.length = F.length → R0 a a' w → (∀ b ∈ bs, base ≤ b ∧ w.heap[b]? = some o) → bs.Nodup → wpAny P md ops Q g stop (putD a' ((F.map (·.2)).zip bs)) w)
    (hbw : base ≤ w.heap.size) (hA : AnyB P md ops Q (R0 a) stop f (mark F (Array.replicate n false)) a w) : wpAny P md ops Q n (Array.replicate n false) a w := float_all (R := R0 a) hn hF hrd hnd hns hsel hQ hal hfin hbw hA
theorem anyG_take2 {P : Program} {md : Region.Mode} {ops : Array Oper} {Q : Exit → Act → World → Prop} {S : World → Prop} {n i dd : Nat} {oi on : Oper} {v : Value} {f : Nat} {l : Array Bool} {a : Act} {w : World} (hi : ops[i]? = some oi) (hn : ops[n]? = some on) (hw : on.after.any (fun e => Region.binds md e && e.on == i) = true) (hin : (i == n) = false)
    (hs : Region.noSelect ops = true) (hf : Region.free md ops l i = true) (hr : (Region.ready md ops l).contains i = true)
    (hQ : ∀ c a w, Q (.panic c) (a.put oi.dst v) w → Q (.panic c) a w) (hy : YieldsIf P ops S oi v a) (hS : S w) (hd : oi.dst = some dd)
    (h : AnyG P md ops Q S n f (l.setIfInBounds i true) (a.put (some dd) v) w) : AnyG P md ops Q S n (f + 1) l a w := anyG_take hi hn hw hin hs hf hr hQ hy hS (by rw [hd]; exact h)
end
theorem tmod_pick (i : Int) : Int.tmod (Int.tmod i 1073741824 + 1073741824) 1073741824 = i % 1073741824 ∧ -1073741824 < Int.tmod i 1073741824 ∧ Int.tmod i 1073741824 < 1073741824 := by
  rcases Int.le_total 0 i with h | h
  · rw [Int.tmod_eq_emod_of_nonneg h, Int.tmod_eq_emod_of_nonneg (by omega)]
    omega
  · have e : Int.tmod i 1073741824 = -((-i) % 1073741824) := by
      have h2 := Int.neg_tmod (-i) 1073741824
      rw [Int.neg_neg] at h2
      rw [h2, Int.tmod_eq_emod_of_nonneg (by omega)]
    rw [e, Int.tmod_eq_emod_of_nonneg (by omega)]
    omega
set_option maxHeartbeats 4000000 in
theorem pick_any (i : Int) (w : World) : Calls Tryz.prog 6 #[.int .i64 i, .int .i64 1073741824] w fun e w' => e = .returned (.int .i64 (i % 1073741824)) ∧ w' = w := by
  obtain ⟨h1, h2, h3⟩ := tmod_pick i
  obtain ⟨t, ht⟩ : ∃ t, Int.tmod i 1073741824 = t := ⟨_, rfl⟩
  obtain ⟨r, hr⟩ : ∃ r, i % 1073741824 = r := ⟨_, rfl⟩
  have h4 : 0 ≤ r ∧ r < 1073741824 := by rw [← hr]; exact ⟨Int.emod_nonneg _ (by decide), Int.emod_lt_of_pos _ (by decide)⟩
  rw [ht] at h1 h2 h3
  rw [hr] at h1 ⊢
  have q1 : IntKind.i64.wrap t = t := by rw [IntKind.wrap_i64]; omega
  have q2 : IntKind.i64.wrap (t + 1073741824) = t + 1073741824 := by rw [IntKind.wrap_i64]; omega
  have q3 : IntKind.i64.wrap r = r := by rw [IntKind.wrap_i64]; omega
  clear hr h2 h3 h4
  go_enter Tryz.func6, Tryz.ntmps6
  go_wp2_with fail
  go_ret
  exact ⟨rfl, rfl⟩
theorem cells_row {w : World} {b : Nat} {l : List ByteArray} {T : TypeId} (h : w.heap[b]? = some (.cells (strs l).toArray T (0, 0))) : Cells w (some ⟨b, 0, none⟩) (strs l) := fun hn => ⟨_, rfl, fun j u hj => by
  have e : ((⟨b, 0, none⟩ : Go.Addr).add j) = ⟨b, j, none⟩ := by
    unfold Go.Addr.add
    split
    · rename_i h0; rw [h0]
    · simp
  rw [e]
  exact cell_of h (by simpa using hj)⟩
theorem delay_ok {d : DealR} (h : dealE d = 0) : 1 ≤ d.delay ∧ d.delay ≤ 10000 := by
  have hb : dealB d = true := by
    unfold dealE at h
    split at h
    · assumption
    · cases h
  unfold dealB dealN at hb
  simp only [Bool.and_eq_true] at hb
  exact btwB_of hb.1.1.1.1.2
set_option maxRecDepth 100000 in
set_option maxHeartbeats 8000000 in
theorem opens_law (d : DealR) (expiry after age : Int) (knows : Bool) (w : World) (hv : VarsOk w) (ht : TabOk w) :
    Calls Tryz.prog 3 #[dealV d, .int .i64 expiry, .int .i64 after, .int .i64 age, .bool knows] w fun e w' => e = .returned (.bool true) ∧ Below w.heap.size w w' := by
  have hb0 : Below w.heap.size w (w.alloc (.cells #[.int .i64 d.cap, .int .i64 d.push, .int .i64 d.dust, .int .i64 d.res, .int .i64 d.rate, .int .i64 d.delay, .int .i64 d.maxH, .int .i64 d.flight, .int .i64 d.minH] 23)) := (Below.refl w.heap.size w).alloc (Nat.le_refl _) (.cells #[.int .i64 d.cap, .int .i64 d.push, .int .i64 d.dust, .int .i64 d.res, .int .i64 d.rate, .int .i64 d.delay, .int .i64 d.maxH, .int .i64 d.flight, .int .i64 d.minH] 23)
  have HB := Lib.hid hb0
  have HD0 := Lib.hid (show (w.alloc (.cells #[.int .i64 d.cap, .int .i64 d.push, .int .i64 d.dust, .int .i64 d.res, .int .i64 d.rate, .int .i64 d.delay, .int .i64 d.maxH, .int .i64 d.flight, .int .i64 d.minH] 23)).heap[w.heap.size]? = some (.cells #[.int .i64 d.cap, .int .i64 d.push, .int .i64 d.dust, .int .i64 d.res, .int .i64 d.rate, .int .i64 d.delay, .int .i64 d.maxH, .int .i64 d.flight, .int .i64 d.minH] 23) from Go.heap_alloc_new w _)
  have HR := Lib.hid (fun W => right_deal d W)
  obtain ⟨de, hde⟩ : ∃ de, dealE d = de := ⟨_, rfl⟩
  rw [hde] at HR
  have HDE := Lib.hid hde
  have HV := Lib.hid (hv.below hb0)
  have HT := Lib.hid (ht.below hb0)
  have d0 : (w.alloc (.cells #[.int .i64 d.cap, .int .i64 d.push, .int .i64 d.dust, .int .i64 d.res, .int .i64 d.rate, .int .i64 d.delay, .int .i64 d.maxH, .int .i64 d.flight, .int .i64 d.minH] 23)).cell? ⟨w.heap.size, 0, none⟩ = some (.int .i64 d.cap) := cell_of (j := 0) HD0.out rfl
  have d1 : (w.alloc (.cells #[.int .i64 d.cap, .int .i64 d.push, .int .i64 d.dust, .int .i64 d.res, .int .i64 d.rate, .int .i64 d.delay, .int .i64 d.maxH, .int .i64 d.flight, .int .i64 d.minH] 23)).cell? ⟨w.heap.size, 1, none⟩ = some (.int .i64 d.push) := cell_of (j := 1) HD0.out rfl
  have d2 : (w.alloc (.cells #[.int .i64 d.cap, .int .i64 d.push, .int .i64 d.dust, .int .i64 d.res, .int .i64 d.rate, .int .i64 d.delay, .int .i64 d.maxH, .int .i64 d.flight, .int .i64 d.minH] 23)).cell? ⟨w.heap.size, 2, none⟩ = some (.int .i64 d.dust) := cell_of (j := 2) HD0.out rfl
  have d3 : (w.alloc (.cells #[.int .i64 d.cap, .int .i64 d.push, .int .i64 d.dust, .int .i64 d.res, .int .i64 d.rate, .int .i64 d.delay, .int .i64 d.maxH, .int .i64 d.flight, .int .i64 d.minH] 23)).cell? ⟨w.heap.size, 3, none⟩ = some (.int .i64 d.res) := cell_of (j := 3) HD0.out rfl
  have d4 : (w.alloc (.cells #[.int .i64 d.cap, .int .i64 d.push, .int .i64 d.dust, .int .i64 d.res, .int .i64 d.rate, .int .i64 d.delay, .int .i64 d.maxH, .int .i64 d.flight, .int .i64 d.minH] 23)).cell? ⟨w.heap.size, 4, none⟩ = some (.int .i64 d.rate) := cell_of (j := 4) HD0.out rfl
  have d5 : (w.alloc (.cells #[.int .i64 d.cap, .int .i64 d.push, .int .i64 d.dust, .int .i64 d.res, .int .i64 d.rate, .int .i64 d.delay, .int .i64 d.maxH, .int .i64 d.flight, .int .i64 d.minH] 23)).cell? ⟨w.heap.size, 5, none⟩ = some (.int .i64 d.delay) := cell_of (j := 5) HD0.out rfl
  have d6 : (w.alloc (.cells #[.int .i64 d.cap, .int .i64 d.push, .int .i64 d.dust, .int .i64 d.res, .int .i64 d.rate, .int .i64 d.delay, .int .i64 d.maxH, .int .i64 d.flight, .int .i64 d.minH] 23)).cell? ⟨w.heap.size, 6, none⟩ = some (.int .i64 d.maxH) := cell_of (j := 6) HD0.out rfl
  have d7 : (w.alloc (.cells #[.int .i64 d.cap, .int .i64 d.push, .int .i64 d.dust, .int .i64 d.res, .int .i64 d.rate, .int .i64 d.delay, .int .i64 d.maxH, .int .i64 d.flight, .int .i64 d.minH] 23)).cell? ⟨w.heap.size, 7, none⟩ = some (.int .i64 d.flight) := cell_of (j := 7) HD0.out rfl
  have d8 : (w.alloc (.cells #[.int .i64 d.cap, .int .i64 d.push, .int .i64 d.dust, .int .i64 d.res, .int .i64 d.rate, .int .i64 d.delay, .int .i64 d.maxH, .int .i64 d.flight, .int .i64 d.minH] 23)).cell? ⟨w.heap.size, 8, none⟩ = some (.int .i64 d.minH) := cell_of (j := 8) HD0.out rfl
  unfold dealV at HR ⊢
  clear hb0 hv ht hde
  go_enter Tryz.func3, Tryz.ntmps3
  go_wp2_with fail
  generalize w.alloc (.cells #[.int .i64 d.cap, .int .i64 d.push, .int .i64 d.dust, .int .i64 d.res, .int .i64 d.rate, .int .i64 d.delay, .int .i64 d.maxH, .int .i64 d.flight, .int .i64 d.minH] 23) = V at HB HD0 HV HT d0 d1 d2 d3 d4 d5 d6 d7 d8 ⊢
  refine (HR.out V).mono ?_
  rintro e w1 ⟨rfl, hb1⟩
  have HB1 := Lib.hid (HB.out.trans (hb1.mono HB.out.size))
  have HD1 := Lib.hid ((hb1.block _ (lt_of_block HD0.out)).trans HD0.out)
  have HV1 := Lib.hid (HV.out.below hb1)
  have HT1 := Lib.hid (HT.out.below hb1)
  clear hb1 HB HD0 HV HT HR d0 d1 d2 d3 d4 d5 d6 d7 d8
  have d0 : w1.cell? ⟨w.heap.size, 0, none⟩ = some (.int .i64 d.cap) := cell_of (j := 0) HD1.out rfl
  have d1 : w1.cell? ⟨w.heap.size, 1, none⟩ = some (.int .i64 d.push) := cell_of (j := 1) HD1.out rfl
  have d2 : w1.cell? ⟨w.heap.size, 2, none⟩ = some (.int .i64 d.dust) := cell_of (j := 2) HD1.out rfl
  have d3 : w1.cell? ⟨w.heap.size, 3, none⟩ = some (.int .i64 d.res) := cell_of (j := 3) HD1.out rfl
  have d4 : w1.cell? ⟨w.heap.size, 4, none⟩ = some (.int .i64 d.rate) := cell_of (j := 4) HD1.out rfl
  have d5 : w1.cell? ⟨w.heap.size, 5, none⟩ = some (.int .i64 d.delay) := cell_of (j := 5) HD1.out rfl
  have d6 : w1.cell? ⟨w.heap.size, 6, none⟩ = some (.int .i64 d.maxH) := cell_of (j := 6) HD1.out rfl
  have d7 : w1.cell? ⟨w.heap.size, 7, none⟩ = some (.int .i64 d.flight) := cell_of (j := 7) HD1.out rfl
  have d8 : w1.cell? ⟨w.heap.size, 8, none⟩ = some (.int .i64 d.minH) := cell_of (j := 8) HD1.out rfl
  by_cases hok : de = 0 ∧ 0 ≤ after ∧ 0 ≤ age
  · obtain ⟨rfl, h1, h2⟩ := hok
    have hx1 : decide (after < 0) = false := decide_eq_false (by omega)
    have hx2 : decide (age < 0) = false := decide_eq_false (by omega)
    have hex : 0 ≤ expiry % 1073741824 ∧ expiry % 1073741824 < 1073741824 := ⟨Int.emod_nonneg _ (by decide), Int.emod_lt_of_pos _ (by decide)⟩
    have HP := Lib.hid (fun W => pick_any expiry W)
    obtain ⟨ex, hexq⟩ : ∃ ex, expiry % 1073741824 = ex := ⟨_, rfl⟩
    rw [hexq] at hex HP
    have HEX := Lib.hid hex
    have hdl := delay_ok HDE.out
    have HDL := Lib.hid hdl
    clear hexq hex hdl
    go_wp2_with fail
    refine (HP.out _).mono ?_
    rintro e w2 ⟨rfl, rfl⟩
    go_wp2_with fail
    refine (keys_any _).mono ?_
    rintro e w2 ⟨rfl, hb2⟩
    have HB2 := Lib.hid (HB1.out.trans (hb2.mono HB1.out.size))
    have HD2 := Lib.hid ((hb2.block _ (lt_of_block HD1.out)).trans HD1.out)
    have HV2 := Lib.hid (HV1.out.below hb2)
    have HT2 := Lib.hid (HT1.out.below hb2)
    clear hb2 HB1 HD1 HV1 HT1 d0 d1 d2 d3 d4 d5 d6 d7 d8
    unfold keysV
    go_upto_if 45 with fail
    have hb5 : Below w2.heap.size w2 ((((w2.alloc (.cells #[.string exK.rev, .string exK.later, .string exK.mine, .string exK.theirs, .string exK.pay] 30)).alloc (.cells #[.string ⟨#[110, 51, 59]⟩, .string ⟨#[110, 52, 59]⟩] 28)).alloc (.cells #[.string ⟨#[110, 53, 59]⟩, .string ⟨#[110, 54, 59]⟩] 28)).alloc (.cells #[.string ⟨#[86, 110, 49, 59, 110, 50, 59]⟩] 28)) := ((((Below.refl w2.heap.size w2).alloc (Nat.le_refl _) (.cells #[.string exK.rev, .string exK.later, .string exK.mine, .string exK.theirs, .string exK.pay] 30)).alloc (by simp) (.cells #[.string ⟨#[110, 51, 59]⟩, .string ⟨#[110, 52, 59]⟩] 28)).alloc (by simp; try omega) (.cells #[.string ⟨#[110, 53, 59]⟩, .string ⟨#[110, 54, 59]⟩] 28)).alloc (by simp; try omega) (.cells #[.string ⟨#[86, 110, 49, 59, 110, 50, 59]⟩] 28)
    have HB5 := Lib.hid (HB2.out.trans (hb5.mono HB2.out.size))
    have HD5 := Lib.hid ((hb5.block _ (lt_of_block HD2.out)).trans HD2.out)
    have HV5 := Lib.hid (HV2.out.below hb5)
    have HT5 := Lib.hid (HT2.out.below hb5)
    have HK5 := Lib.hid (show ((((w2.alloc (.cells #[.string exK.rev, .string exK.later, .string exK.mine, .string exK.theirs, .string exK.pay] 30)).alloc (.cells #[.string ⟨#[110, 51, 59]⟩, .string ⟨#[110, 52, 59]⟩] 28)).alloc (.cells #[.string ⟨#[110, 53, 59]⟩, .string ⟨#[110, 54, 59]⟩] 28)).alloc (.cells #[.string ⟨#[86, 110, 49, 59, 110, 50, 59]⟩] 28)).heap[w2.heap.size]? = some (.cells #[.string exK.rev, .string exK.later, .string exK.mine, .string exK.theirs, .string exK.pay] 30) from allocs_at [(.cells #[.string exK.rev, .string exK.later, .string exK.mine, .string exK.theirs, .string exK.pay] 30), (.cells #[.string ⟨#[110, 51, 59]⟩, .string ⟨#[110, 52, 59]⟩] 28), (.cells #[.string ⟨#[110, 53, 59]⟩, .string ⟨#[110, 54, 59]⟩] 28), (.cells #[.string ⟨#[86, 110, 49, 59, 110, 50, 59]⟩] 28)] w2 0 _ rfl)
    have HO5 := Lib.hid (show Cells ((((w2.alloc (.cells #[.string exK.rev, .string exK.later, .string exK.mine, .string exK.theirs, .string exK.pay] 30)).alloc (.cells #[.string ⟨#[110, 51, 59]⟩, .string ⟨#[110, 52, 59]⟩] 28)).alloc (.cells #[.string ⟨#[110, 53, 59]⟩, .string ⟨#[110, 54, 59]⟩] 28)).alloc (.cells #[.string ⟨#[86, 110, 49, 59, 110, 50, 59]⟩] 28)) (some ⟨w2.heap.size + 1, 0, none⟩) (strs ownerS) from cells_row (allocs_at [(.cells #[.string exK.rev, .string exK.later, .string exK.mine, .string exK.theirs, .string exK.pay] 30), (.cells #[.string ⟨#[110, 51, 59]⟩, .string ⟨#[110, 52, 59]⟩] 28), (.cells #[.string ⟨#[110, 53, 59]⟩, .string ⟨#[110, 54, 59]⟩] 28), (.cells #[.string ⟨#[86, 110, 49, 59, 110, 50, 59]⟩] 28)] w2 1 _ rfl))
    have HE5 := Lib.hid (show Cells ((((w2.alloc (.cells #[.string exK.rev, .string exK.later, .string exK.mine, .string exK.theirs, .string exK.pay] 30)).alloc (.cells #[.string ⟨#[110, 51, 59]⟩, .string ⟨#[110, 52, 59]⟩] 28)).alloc (.cells #[.string ⟨#[110, 53, 59]⟩, .string ⟨#[110, 54, 59]⟩] 28)).alloc (.cells #[.string ⟨#[86, 110, 49, 59, 110, 50, 59]⟩] 28)) (some ⟨w2.heap.size + 1 + 1, 0, none⟩) (strs otherS) from cells_row (allocs_at [(.cells #[.string exK.rev, .string exK.later, .string exK.mine, .string exK.theirs, .string exK.pay] 30), (.cells #[.string ⟨#[110, 51, 59]⟩, .string ⟨#[110, 52, 59]⟩] 28), (.cells #[.string ⟨#[110, 53, 59]⟩, .string ⟨#[110, 54, 59]⟩] 28), (.cells #[.string ⟨#[86, 110, 49, 59, 110, 50, 59]⟩] 28)] w2 2 _ rfl))
    have HR5 := Lib.hid (show Cells ((((w2.alloc (.cells #[.string exK.rev, .string exK.later, .string exK.mine, .string exK.theirs, .string exK.pay] 30)).alloc (.cells #[.string ⟨#[110, 51, 59]⟩, .string ⟨#[110, 52, 59]⟩] 28)).alloc (.cells #[.string ⟨#[110, 53, 59]⟩, .string ⟨#[110, 54, 59]⟩] 28)).alloc (.cells #[.string ⟨#[86, 110, 49, 59, 110, 50, 59]⟩] 28)) (some ⟨w2.heap.size + 1 + 1 + 1, 0, none⟩) (strs revkS) from cells_row (allocs_at [(.cells #[.string exK.rev, .string exK.later, .string exK.mine, .string exK.theirs, .string exK.pay] 30), (.cells #[.string ⟨#[110, 51, 59]⟩, .string ⟨#[110, 52, 59]⟩] 28), (.cells #[.string ⟨#[110, 53, 59]⟩, .string ⟨#[110, 54, 59]⟩] 28), (.cells #[.string ⟨#[86, 110, 49, 59, 110, 50, 59]⟩] 28)] w2 3 _ rfl))
    clear hb5 HB2 HD2 HV2 HT2
    generalize ((((w2.alloc (.cells #[.string exK.rev, .string exK.later, .string exK.mine, .string exK.theirs, .string exK.pay] 30)).alloc (.cells #[.string ⟨#[110, 51, 59]⟩, .string ⟨#[110, 52, 59]⟩] 28)).alloc (.cells #[.string ⟨#[110, 53, 59]⟩, .string ⟨#[110, 54, 59]⟩] 28)).alloc (.cells #[.string ⟨#[86, 110, 49, 59, 110, 50, 59]⟩] 28)) = V5 at HB5 HD5 HV5 HT5 HK5 HO5 HE5 HR5 ⊢
    generalize w2.heap.size = kb at HK5 HO5 HE5 HR5 ⊢
    go_cut [15] (fun v wx => v = .string (preT knows) ∧ wx = V5)
    case first =>
      cases knows with
      | true =>
        go_wp2_with fail
        go_meet
        exact ⟨rfl, rfl⟩
      | false =>
        go_wp2_with fail
        go_meet
        exact ⟨rfl, rfl⟩
    case rest =>
      obtain ⟨rfl, rfl⟩ := hcut
      have d0 : wc.cell? ⟨w.heap.size, 0, none⟩ = some (.int .i64 d.cap) := cell_of (j := 0) HD5.out rfl
      have d1 : wc.cell? ⟨w.heap.size, 1, none⟩ = some (.int .i64 d.push) := cell_of (j := 1) HD5.out rfl
      have d2 : wc.cell? ⟨w.heap.size, 2, none⟩ = some (.int .i64 d.dust) := cell_of (j := 2) HD5.out rfl
      have d3 : wc.cell? ⟨w.heap.size, 3, none⟩ = some (.int .i64 d.res) := cell_of (j := 3) HD5.out rfl
      have d4 : wc.cell? ⟨w.heap.size, 4, none⟩ = some (.int .i64 d.rate) := cell_of (j := 4) HD5.out rfl
      have d5 : wc.cell? ⟨w.heap.size, 5, none⟩ = some (.int .i64 d.delay) := cell_of (j := 5) HD5.out rfl
      have d6 : wc.cell? ⟨w.heap.size, 6, none⟩ = some (.int .i64 d.maxH) := cell_of (j := 6) HD5.out rfl
      have d7 : wc.cell? ⟨w.heap.size, 7, none⟩ = some (.int .i64 d.flight) := cell_of (j := 7) HD5.out rfl
      have d8 : wc.cell? ⟨w.heap.size, 8, none⟩ = some (.int .i64 d.minH) := cell_of (j := 8) HD5.out rfl
      obtain ⟨g, hg⟩ : ∃ g, decide (d.delay ≤ age) = g := ⟨_, rfl⟩
      obtain ⟨lt, hlt⟩ : ∃ lt, decide (ex ≤ after) = lt := ⟨_, rfl⟩
      go_upto_region 10 with fail
      obtain ⟨k0, -⟩ : wc.cell? ⟨kb, 0, none⟩ = some (.string exK.rev) ∧ True := ⟨cell_of (j := 0) HK5.out rfl, trivial⟩
      obtain ⟨k1, -⟩ : wc.cell? ⟨kb, 1, none⟩ = some (.string exK.later) ∧ True := ⟨cell_of (j := 1) HK5.out rfl, trivial⟩
      obtain ⟨k2, -⟩ : wc.cell? ⟨kb, 2, none⟩ = some (.string exK.mine) ∧ True := ⟨cell_of (j := 2) HK5.out rfl, trivial⟩
      obtain ⟨k3, -⟩ : wc.cell? ⟨kb, 3, none⟩ = some (.string exK.theirs) ∧ True := ⟨cell_of (j := 3) HK5.out rfl, trivial⟩
      obtain ⟨k4, -⟩ : wc.cell? ⟨kb, 4, none⟩ = some (.string exK.pay) ∧ True := ⟨cell_of (j := 4) HK5.out rfl, trivial⟩
      have hx1 := fun W => lockV_out (htlc_any d exK ⟨true, 0, 0, ⟨#[72, 110, 57, 59]⟩, ex⟩ W)
      have hx2 := fun W => lockV_out (htlc_any d exK ⟨false, 0, 0, ⟨#[72, 110, 57, 59]⟩, ex⟩ W)
      unfold dealV keysV htlcV at hx1 hx2
      obtain ⟨x1, hq1⟩ : ∃ x, htlcL d.delay exK true ⟨#[72, 110, 57, 59]⟩ ex = x := ⟨_, rfl⟩
      obtain ⟨x2, hq2⟩ : ∃ x, htlcL d.delay exK false ⟨#[72, 110, 57, 59]⟩ ex = x := ⟨_, rfl⟩
      rw [hq1] at hx1
      rw [hq2] at hx2
      have HX1 := Lib.hid hx1
      have HX2 := Lib.hid hx2
      have HQ1 := Lib.hid hq1
      have HQ2 := Lib.hid hq2
      clear hx1 hx2 hq1 hq2
      refine wp_region_noPanic ?_
      refine wp_region_any (by kernel_rfl) ?_
      have hS : Below wc.heap.size wc wc.drew := (Below.refl _ _).drew
      change wpAny _ _ _ _ 14 (Array.replicate 14 false) _ wc.drew
      refine float_all2 (F := [(10, 18), (11, 19)]) (o := (.cells #[.int .u8 0, .string ⟨#[]⟩, .int .i64 0, .slice none 0 0] 35)) (base := wc.heap.size) (g := 2) (f := 10) (stop := #[true, true, true, true, true, true, true, true, true, true, true, true, false, false]) (R0 := fun a0 a u => ∃ (A1 A2 : Option Addr) (c1 c2 : Nat), a = (Act.put (Act.put (Act.put (Act.put (Act.put (Act.put (Act.put (Act.put (Act.put (Act.put a0 (some 53) (.agg #[.int .i64 d.cap, .int .i64 d.push, .int .i64 d.dust, .int .i64 d.res, .int .i64 d.rate, .int .i64 d.delay, .int .i64 d.maxH, .int .i64 d.flight, .int .i64 d.minH])) (some 54) (.agg #[.string exK.rev, .string exK.later, .string exK.mine, .string exK.theirs, .string exK.pay])) (some 55) (.int .i64 ex)) (some 56) (.agg #[.bool true, .int .i64 0, .int .i64 0, .string ⟨#[72, 110, 57, 59]⟩, .int .i64 ex])) (some 58) (.agg #[.int .i64 d.cap, .int .i64 d.push, .int .i64 d.dust, .int .i64 d.res, .int .i64 d.rate, .int .i64 d.delay, .int .i64 d.maxH, .int .i64 d.flight, .int .i64 d.minH])) (some 59) (.agg #[.string exK.rev, .string exK.later, .string exK.mine, .string exK.theirs, .string exK.pay])) (some 60) (.int .i64 ex)) (some 61) (.agg #[.bool false, .int .i64 0, .int .i64 0, .string ⟨#[72, 110, 57, 59]⟩, .int .i64 ex])) (some 57) (.agg #[.int .u8 x1.kind, .string x1.term, .int .i64 x1.n, .slice A1 x1.kids.length c1])) (some 62) (.agg #[.int .u8 x2.kind, .string x2.term, .int .i64 x2.n, .slice A2 x2.kids.length c2])) ∧ LockH u x1 [.int .u8 x1.kind, .string x1.term, .int .i64 x1.n, .slice A1 x1.kids.length c1] ∧ LockH u x2 [.int .u8 x2.kind, .string x2.term, .int .i64 x2.n, .slice A2 x2.kids.length c2] ∧ Below wc.heap.size wc u) rfl (by kernel_rfl) (by kernel_rfl) (by decide) (by decide) (by kernel_rfl) (fun _ _ _ _ _ h => h) ?hal ?hfin hS.size ?chain
      case hal =>
        intro p hp K a w hK
        simp only [List.mem_cons, List.not_mem_nil, or_false] at hp
        rcases hp with rfl | rfl
        all_goals
          refine wpOp_step rfl (fun K' hK' => ?_)
          rw [if_pos (by simp [Region.wanted])]
          go_simp
          exact hK' _ _ hK
      case chain =>
        refine anyB_take (S := fun U => Below wc.heap.size wc U) (i := 0) (v := ?_) (fun _ _ h hb => below_step h hb) rfl (by kernel_rfl) (by kernel_rfl) (by kernel_rfl) (by kernel_rfl) (by kernel_rfl) (by kernel_rfl) (fun _ _ _ h => h) (Or.inl ⟨by rfl, ?_⟩) hS ?_
        rotate_left
        · (intro w' hSw; have e0 := cell_below hSw d0; have e1 := cell_below hSw d1; have e2 := cell_below hSw d2; have e3 := cell_below hSw d3; have e4 := cell_below hSw d4; have e5 := cell_below hSw d5; have e6 := cell_below hSw d6; have e7 := cell_below hSw d7; have e8 := cell_below hSw d8; (try dsimp only at hSw); go_simp; (try with_reducible rfl))
        try simp only [Act.put, List.setIfInBounds_toArray, List.set_cons_zero, List.set_cons_succ]
        refine anyB_take (S := fun U => Below wc.heap.size wc U) (i := 1) (v := ?_) (fun _ _ h hb => below_step h hb) rfl (by kernel_rfl) (by kernel_rfl) (by kernel_rfl) (by kernel_rfl) (by kernel_rfl) (by kernel_rfl) (fun _ _ _ h => h) (Or.inl ⟨by rfl, ?_⟩) hS ?_
        rotate_left
        · (intro w' hSw; have k0_ := cell_below hSw k0; have k1_ := cell_below hSw k1; have k2_ := cell_below hSw k2; have k3_ := cell_below hSw k3; have k4_ := cell_below hSw k4; (try dsimp only at hSw); go_simp; (try with_reducible rfl))
        try simp only [Act.put, List.setIfInBounds_toArray, List.set_cons_zero, List.set_cons_succ]
        refine anyB_take (S := fun U => Below wc.heap.size wc U) (i := 2) (v := ?_) (fun _ _ h hb => below_step h hb) rfl (by kernel_rfl) (by kernel_rfl) (by kernel_rfl) (by kernel_rfl) (by kernel_rfl) (by kernel_rfl) (fun _ _ _ h => h) (Or.inl ⟨by rfl, ?_⟩) hS ?_
        rotate_left
        · (intro w' hSw; (try dsimp only at hSw); go_simp; (try with_reducible rfl))
        try simp only [Act.put, List.setIfInBounds_toArray, List.set_cons_zero, List.set_cons_succ]
        refine anyB_take (S := fun U => Below wc.heap.size wc U) (i := 3) (v := ?_) (fun _ _ h hb => below_step h hb) rfl (by kernel_rfl) (by kernel_rfl) (by kernel_rfl) (by kernel_rfl) (by kernel_rfl) (by kernel_rfl) (fun _ _ _ h => h) (Or.inl ⟨by rfl, ?_⟩) hS ?_
        rotate_left
        · (intro w' hSw; (try dsimp only at hSw); go_simp; (try with_reducible rfl))
        try simp only [Act.put, List.setIfInBounds_toArray, List.set_cons_zero, List.set_cons_succ]
        refine anyB_take (S := fun U => Below wc.heap.size wc U) (i := 5) (v := ?_) (fun _ _ h hb => below_step h hb) rfl (by kernel_rfl) (by kernel_rfl) (by kernel_rfl) (by kernel_rfl) (by kernel_rfl) (by kernel_rfl) (fun _ _ _ h => h) (Or.inl ⟨by rfl, ?_⟩) hS ?_
        rotate_left
        · (intro w' hSw; have e0 := cell_below hSw d0; have e1 := cell_below hSw d1; have e2 := cell_below hSw d2; have e3 := cell_below hSw d3; have e4 := cell_below hSw d4; have e5 := cell_below hSw d5; have e6 := cell_below hSw d6; have e7 := cell_below hSw d7; have e8 := cell_below hSw d8; (try dsimp only at hSw); go_simp; (try with_reducible rfl))
        try simp only [Act.put, List.setIfInBounds_toArray, List.set_cons_zero, List.set_cons_succ]
        refine anyB_take (S := fun U => Below wc.heap.size wc U) (i := 6) (v := ?_) (fun _ _ h hb => below_step h hb) rfl (by kernel_rfl) (by kernel_rfl) (by kernel_rfl) (by kernel_rfl) (by kernel_rfl) (by kernel_rfl) (fun _ _ _ h => h) (Or.inl ⟨by rfl, ?_⟩) hS ?_
        rotate_left
        · (intro w' hSw; have k0_ := cell_below hSw k0; have k1_ := cell_below hSw k1; have k2_ := cell_below hSw k2; have k3_ := cell_below hSw k3; have k4_ := cell_below hSw k4; (try dsimp only at hSw); go_simp; (try with_reducible rfl))
        try simp only [Act.put, List.setIfInBounds_toArray, List.set_cons_zero, List.set_cons_succ]
        refine anyB_take (S := fun U => Below wc.heap.size wc U) (i := 7) (v := ?_) (fun _ _ h hb => below_step h hb) rfl (by kernel_rfl) (by kernel_rfl) (by kernel_rfl) (by kernel_rfl) (by kernel_rfl) (by kernel_rfl) (fun _ _ _ h => h) (Or.inl ⟨by rfl, ?_⟩) hS ?_
        rotate_left
        · (intro w' hSw; (try dsimp only at hSw); go_simp; (try with_reducible rfl))
        try simp only [Act.put, List.setIfInBounds_toArray, List.set_cons_zero, List.set_cons_succ]
        refine anyB_take (S := fun U => Below wc.heap.size wc U) (i := 8) (v := ?_) (fun _ _ h hb => below_step h hb) rfl (by kernel_rfl) (by kernel_rfl) (by kernel_rfl) (by kernel_rfl) (by kernel_rfl) (by kernel_rfl) (fun _ _ _ h => h) (Or.inl ⟨by rfl, ?_⟩) hS ?_
        rotate_left
        · (intro w' hSw; (try dsimp only at hSw); go_simp; (try with_reducible rfl))
        try simp only [Act.put, List.setIfInBounds_toArray, List.set_cons_zero, List.set_cons_succ]
        refine anyB_one (k := 4) (by kernel_rfl) (by kernel_rfl) (by kernel_rfl) (fun g1 hg => ?_)
        have hS := below_step hS hg
        refine wpOp_step rfl (fun K' hK => ?_)
        have HK := Lib.hid hK
        clear hK
        rw [if_pos (by rfl)]
        go_simp
        refine Calls.mono (HX1.out _) ?_
        rintro e v1 ⟨A1, c1, rfl, hl1, hb⟩
        have hS := below_step hS hb
        have HBB := Lib.hid hb
        clear hb hg
        go_wp2_with fail
        refine HK.out _ _ ⟨HBB.out, ?_⟩
        clear HK HBB
        try simp only [Act.put, List.setIfInBounds_toArray, List.set_cons_zero, List.set_cons_succ]
        refine anyB_one (k := 9) (by kernel_rfl) (by kernel_rfl) (by kernel_rfl) (fun g2 hg => ?_)
        have hS := below_step hS hg
        have hl1_ := hl1.mono (DepEq.below hg)
        clear hl1
        have hl1 := hl1_
        clear hl1_
        refine wpOp_step rfl (fun K' hK => ?_)
        have HK := Lib.hid hK
        clear hK
        rw [if_pos (by rfl)]
        go_simp
        refine Calls.mono (HX2.out _) ?_
        rintro e v2 ⟨A2, c2, rfl, hl2, hb⟩
        have hS := below_step hS hb
        have hl1_ := hl1.mono (DepEq.below hb)
        clear hl1
        have hl1 := hl1_
        clear hl1_
        have HBB := Lib.hid hb
        clear hb hg
        go_wp2_with fail
        refine HK.out _ _ ⟨HBB.out, ?_⟩
        clear HK HBB
        try simp only [Act.put, List.setIfInBounds_toArray, List.set_cons_zero, List.set_cons_succ]
        exact anyB_stop (by kernel_rfl) (fun u hu => ⟨A1, A2, c1, c2, rfl, hl1.mono (DepEq.below hu), hl2.mono (DepEq.below hu), below_step hS hu⟩)
      case hfin =>
        rintro a u bs hl ⟨A1, A2, c1, c2, rfl, hl1, hl2, hS⟩ hbx hnd
        obtain ⟨b1, b2, rfl⟩ : ∃ y0 y1, bs = [y0, y1] := by
          match bs, hl with
          | [y0, y1], _ => exact ⟨_, _, rfl⟩
        obtain ⟨hb0, hz0⟩ := hbx b1 (by simp)
        replace hz0 : LBox u b1 0 ⟨#[]⟩ 0 (.slice none 0 0) := hz0
        obtain ⟨hb1, hz1⟩ := hbx b2 (by simp)
        replace hz1 : LBox u b2 0 ⟨#[]⟩ 0 (.slice none 0 0) := hz1
        have hne : b1 ≠ b2 := by simpa using hnd
        simp only [List.map_cons, List.map_nil, List.zip_cons_cons, List.zip_nil_right, putD, List.foldr_cons, List.foldr_nil, Act.put, List.setIfInBounds_toArray, List.set_cons_zero, List.set_cons_succ]
        refine wpAny_one (k := 12) (by kernel_rfl) ?_
        refine wpOp_step rfl (fun K' hK => ?_)
        have HK := Lib.hid hK
        clear hK
        rw [if_pos (by rfl)]
        obtain ⟨p0, p1, p2, p3, pf⟩ := hz0.cells
        go_simp
        refine HK.out _ (putL u b1 (.int .u8 x1.kind) (.string x1.term) (.int .i64 x1.n) (.slice A1 x1.kids.length c1)) ?_
        clear HK p0 p1 p2 p3 pf
        have hA0 := hz0.put x1.kind x1.term x1.n (.slice A1 x1.kids.length c1)
        have hF0 := putL_fr u b1 (.int .u8 x1.kind) (.string x1.term) (.int .i64 x1.n) (.slice A1 x1.kids.length c1) (F := [b1]) (List.mem_singleton.2 rfl)
        generalize (putL u b1 (.int .u8 x1.kind) (.string x1.term) (.int .i64 x1.n) (.slice A1 x1.kids.length c1)) = U1 at hA0 hF0 ⊢
        try simp only [Act.put, List.setIfInBounds_toArray, List.set_cons_zero, List.set_cons_succ]
        have hz1b := hz1.fr hF0 (by simpa using Ne.symm hne)
        refine wpAny_one (k := 13) (by kernel_rfl) ?_
        refine wpOp_step rfl (fun K' hK => ?_)
        have HK := Lib.hid hK
        clear hK
        rw [if_pos (by rfl)]
        obtain ⟨p0, p1, p2, p3, pf⟩ := hz1b.cells
        go_simp
        refine HK.out _ (putL U1 b2 (.int .u8 x2.kind) (.string x2.term) (.int .i64 x2.n) (.slice A2 x2.kids.length c2)) ?_
        clear HK p0 p1 p2 p3 pf
        have hA1 := hz1b.put x2.kind x2.term x2.n (.slice A2 x2.kids.length c2)
        have hF1 := putL_fr U1 b2 (.int .u8 x2.kind) (.string x2.term) (.int .i64 x2.n) (.slice A2 x2.kids.length c2) (F := [b2]) (List.mem_singleton.2 rfl)
        generalize (putL U1 b2 (.int .u8 x2.kind) (.string x2.term) (.int .i64 x2.n) (.slice A2 x2.kids.length c2)) = V1 at hA1 hF1 ⊢
        try simp only [Act.put, List.setIfInBounds_toArray, List.set_cons_zero, List.set_cons_succ]
        refine wpAny_end (by kernel_rfl) ?_
        refine NoPanic.normal ?_
        have hWU : Below wc.heap.size wc U1 := hS.trans (hF0.toBelowOf hS.size (fun i hi => by rw [List.mem_singleton.1 hi]; exact hb0))
        have hWV : Below wc.heap.size wc V1 := hWU.trans (hF1.toBelowOf hWU.size (fun i hi => by rw [List.mem_singleton.1 hi]; exact hb1))
        have HBV1 := Lib.hid hWV
        have BX1 := Lib.hid (hA0.fr hF1 (by simpa using hne))
        have BX2 := Lib.hid hA1
        have LK1 := Lib.hid ((hl1.mono (DepEq.box hz0 hF0)).mono (DepEq.box hz1b hF1))
        have LK2 := Lib.hid ((hl2.mono (DepEq.box hz0 hF0)).mono (DepEq.box hz1b hF1))
        clear hz0 hz1 hz1b hF0 hF1 hWU hWV hA0 hA1 hbx hnd hb0 hb1 hS hne hl1 hl2 hl
        replace d0 := cell_below HBV1.out d0
        replace d1 := cell_below HBV1.out d1
        replace d2 := cell_below HBV1.out d2
        replace d3 := cell_below HBV1.out d3
        replace d4 := cell_below HBV1.out d4
        replace d5 := cell_below HBV1.out d5
        replace d6 := cell_below HBV1.out d6
        replace d7 := cell_below HBV1.out d7
        replace d8 := cell_below HBV1.out d8
        replace k0 := cell_below HBV1.out k0
        replace k1 := cell_below HBV1.out k1
        replace k2 := cell_below HBV1.out k2
        replace k3 := cell_below HBV1.out k3
        replace k4 := cell_below HBV1.out k4
        go_upto_region 11 with fail
        have hx3 := fun W => lockV_out (own_any d exK W)
        have hx4 := fun W => lockV_out (other_any exK W)
        unfold dealV keysV at hx3
        unfold keysV at hx4
        obtain ⟨x3, hq3⟩ : ∃ x, ownL d.delay exK = x := ⟨_, rfl⟩
        obtain ⟨x4, hq4⟩ : ∃ x, otherL exK = x := ⟨_, rfl⟩
        rw [hq3] at hx3
        rw [hq4] at hx4
        have HX3 := Lib.hid hx3
        have HX4 := Lib.hid hx4
        have HQ3 := Lib.hid hq3
        have HQ4 := Lib.hid hq4
        clear hx3 hx4 hq3 hq4
        refine wp_region_noPanic ?_
        refine wp_region_any (by kernel_rfl) ?_
        have hS : Below V1.heap.size V1 V1.drew := (Below.refl _ _).drew
        change wpAny _ _ _ _ 9 (Array.replicate 9 false) _ V1.drew
        refine float_all2 (F := [(5, 20), (6, 21)]) (o := (.cells #[.int .u8 0, .string ⟨#[]⟩, .int .i64 0, .slice none 0 0] 35)) (base := V1.heap.size) (g := 2) (f := 5) (stop := #[true, true, true, true, true, true, true, false, false]) (R0 := fun a0 a u => ∃ (A3 A4 : Option Addr) (c3 c4 : Nat), a = (Act.put (Act.put (Act.put (Act.put (Act.put a0 (some 63) (.agg #[.int .i64 d.cap, .int .i64 d.push, .int .i64 d.dust, .int .i64 d.res, .int .i64 d.rate, .int .i64 d.delay, .int .i64 d.maxH, .int .i64 d.flight, .int .i64 d.minH])) (some 64) (.agg #[.string exK.rev, .string exK.later, .string exK.mine, .string exK.theirs, .string exK.pay])) (some 66) (.agg #[.string exK.rev, .string exK.later, .string exK.mine, .string exK.theirs, .string exK.pay])) (some 65) (.agg #[.int .u8 x3.kind, .string x3.term, .int .i64 x3.n, .slice A3 x3.kids.length c3])) (some 67) (.agg #[.int .u8 x4.kind, .string x4.term, .int .i64 x4.n, .slice A4 x4.kids.length c4])) ∧ LockH u x3 [.int .u8 x3.kind, .string x3.term, .int .i64 x3.n, .slice A3 x3.kids.length c3] ∧ LockH u x4 [.int .u8 x4.kind, .string x4.term, .int .i64 x4.n, .slice A4 x4.kids.length c4] ∧ Below V1.heap.size V1 u) rfl (by kernel_rfl) (by kernel_rfl) (by decide) (by decide) (by kernel_rfl) (fun _ _ _ _ _ h => h) ?hal ?hfin hS.size ?chain
        case hal =>
          intro p hp K a w hK
          simp only [List.mem_cons, List.not_mem_nil, or_false] at hp
          rcases hp with rfl | rfl
          all_goals
            refine wpOp_step rfl (fun K' hK' => ?_)
            rw [if_pos (by simp [Region.wanted])]
            go_simp
            exact hK' _ _ hK
        case chain =>
          refine anyB_take (S := fun U => Below V1.heap.size V1 U) (i := 0) (v := ?_) (fun _ _ h hb => below_step h hb) rfl (by kernel_rfl) (by kernel_rfl) (by kernel_rfl) (by kernel_rfl) (by kernel_rfl) (by kernel_rfl) (fun _ _ _ h => h) (Or.inl ⟨by rfl, ?_⟩) hS ?_
          rotate_left
          · (intro w' hSw; have e0 := cell_below hSw d0; have e1 := cell_below hSw d1; have e2 := cell_below hSw d2; have e3 := cell_below hSw d3; have e4 := cell_below hSw d4; have e5 := cell_below hSw d5; have e6 := cell_below hSw d6; have e7 := cell_below hSw d7; have e8 := cell_below hSw d8; (try dsimp only at hSw); go_simp; (try with_reducible rfl))
          try simp only [Act.put, List.setIfInBounds_toArray, List.set_cons_zero, List.set_cons_succ]
          refine anyB_take (S := fun U => Below V1.heap.size V1 U) (i := 1) (v := ?_) (fun _ _ h hb => below_step h hb) rfl (by kernel_rfl) (by kernel_rfl) (by kernel_rfl) (by kernel_rfl) (by kernel_rfl) (by kernel_rfl) (fun _ _ _ h => h) (Or.inl ⟨by rfl, ?_⟩) hS ?_
          rotate_left
          · (intro w' hSw; have k0_ := cell_below hSw k0; have k1_ := cell_below hSw k1; have k2_ := cell_below hSw k2; have k3_ := cell_below hSw k3; have k4_ := cell_below hSw k4; (try dsimp only at hSw); go_simp; (try with_reducible rfl))
          try simp only [Act.put, List.setIfInBounds_toArray, List.set_cons_zero, List.set_cons_succ]
          refine anyB_take (S := fun U => Below V1.heap.size V1 U) (i := 3) (v := ?_) (fun _ _ h hb => below_step h hb) rfl (by kernel_rfl) (by kernel_rfl) (by kernel_rfl) (by kernel_rfl) (by kernel_rfl) (by kernel_rfl) (fun _ _ _ h => h) (Or.inl ⟨by rfl, ?_⟩) hS ?_
          rotate_left
          · (intro w' hSw; have k0_ := cell_below hSw k0; have k1_ := cell_below hSw k1; have k2_ := cell_below hSw k2; have k3_ := cell_below hSw k3; have k4_ := cell_below hSw k4; (try dsimp only at hSw); go_simp; (try with_reducible rfl))
          try simp only [Act.put, List.setIfInBounds_toArray, List.set_cons_zero, List.set_cons_succ]
          refine anyB_one (k := 2) (by kernel_rfl) (by kernel_rfl) (by kernel_rfl) (fun g3 hg => ?_)
          have hS := below_step hS hg
          refine wpOp_step rfl (fun K' hK => ?_)
          have HK := Lib.hid hK
          clear hK
          rw [if_pos (by rfl)]
          go_simp
          refine Calls.mono (HX3.out _) ?_
          rintro e v3 ⟨A3, c3, rfl, hl3, hb⟩
          have hS := below_step hS hb
          have HBB := Lib.hid hb
          clear hb hg
          go_wp2_with fail
          refine HK.out _ _ ⟨HBB.out, ?_⟩
          clear HK HBB
          try simp only [Act.put, List.setIfInBounds_toArray, List.set_cons_zero, List.set_cons_succ]
          refine anyB_one (k := 4) (by kernel_rfl) (by kernel_rfl) (by kernel_rfl) (fun g4 hg => ?_)
          have hS := below_step hS hg
          have hl3_ := hl3.mono (DepEq.below hg)
          clear hl3
          have hl3 := hl3_
          clear hl3_
          refine wpOp_step rfl (fun K' hK => ?_)
          have HK := Lib.hid hK
          clear hK
          rw [if_pos (by rfl)]
          go_simp
          refine Calls.mono (HX4.out _) ?_
          rintro e v4 ⟨A4, c4, rfl, hl4, hb⟩
          have hS := below_step hS hb
          have hl3_ := hl3.mono (DepEq.below hb)
          clear hl3
          have hl3 := hl3_
          clear hl3_
          have HBB := Lib.hid hb
          clear hb hg
          go_wp2_with fail
          refine HK.out _ _ ⟨HBB.out, ?_⟩
          clear HK HBB
          try simp only [Act.put, List.setIfInBounds_toArray, List.set_cons_zero, List.set_cons_succ]
          exact anyB_stop (by kernel_rfl) (fun u hu => ⟨A3, A4, c3, c4, rfl, hl3.mono (DepEq.below hu), hl4.mono (DepEq.below hu), below_step hS hu⟩)
        case hfin =>
          rintro a u bs hl ⟨A3, A4, c3, c4, rfl, hl3, hl4, hS⟩ hbx hnd
          obtain ⟨b3, b4, rfl⟩ : ∃ y0 y1, bs = [y0, y1] := by
            match bs, hl with
            | [y0, y1], _ => exact ⟨_, _, rfl⟩
          obtain ⟨hb0, hz0⟩ := hbx b3 (by simp)
          replace hz0 : LBox u b3 0 ⟨#[]⟩ 0 (.slice none 0 0) := hz0
          obtain ⟨hb1, hz1⟩ := hbx b4 (by simp)
          replace hz1 : LBox u b4 0 ⟨#[]⟩ 0 (.slice none 0 0) := hz1
          have hne : b3 ≠ b4 := by simpa using hnd
          simp only [List.map_cons, List.map_nil, List.zip_cons_cons, List.zip_nil_right, putD, List.foldr_cons, List.foldr_nil, Act.put, List.setIfInBounds_toArray, List.set_cons_zero, List.set_cons_succ]
          refine wpAny_one (k := 7) (by kernel_rfl) ?_
          refine wpOp_step rfl (fun K' hK => ?_)
          have HK := Lib.hid hK
          clear hK
          rw [if_pos (by rfl)]
          obtain ⟨p0, p1, p2, p3, pf⟩ := hz0.cells
          go_simp
          refine HK.out _ (putL u b3 (.int .u8 x3.kind) (.string x3.term) (.int .i64 x3.n) (.slice A3 x3.kids.length c3)) ?_
          clear HK p0 p1 p2 p3 pf
          have hA0 := hz0.put x3.kind x3.term x3.n (.slice A3 x3.kids.length c3)
          have hF0 := putL_fr u b3 (.int .u8 x3.kind) (.string x3.term) (.int .i64 x3.n) (.slice A3 x3.kids.length c3) (F := [b3]) (List.mem_singleton.2 rfl)
          generalize (putL u b3 (.int .u8 x3.kind) (.string x3.term) (.int .i64 x3.n) (.slice A3 x3.kids.length c3)) = U1 at hA0 hF0 ⊢
          try simp only [Act.put, List.setIfInBounds_toArray, List.set_cons_zero, List.set_cons_succ]
          have hz1b := hz1.fr hF0 (by simpa using Ne.symm hne)
          refine wpAny_one (k := 8) (by kernel_rfl) ?_
          refine wpOp_step rfl (fun K' hK => ?_)
          have HK := Lib.hid hK
          clear hK
          rw [if_pos (by rfl)]
          obtain ⟨p0, p1, p2, p3, pf⟩ := hz1b.cells
          go_simp
          refine HK.out _ (putL U1 b4 (.int .u8 x4.kind) (.string x4.term) (.int .i64 x4.n) (.slice A4 x4.kids.length c4)) ?_
          clear HK p0 p1 p2 p3 pf
          have hA1 := hz1b.put x4.kind x4.term x4.n (.slice A4 x4.kids.length c4)
          have hF1 := putL_fr U1 b4 (.int .u8 x4.kind) (.string x4.term) (.int .i64 x4.n) (.slice A4 x4.kids.length c4) (F := [b4]) (List.mem_singleton.2 rfl)
          generalize (putL U1 b4 (.int .u8 x4.kind) (.string x4.term) (.int .i64 x4.n) (.slice A4 x4.kids.length c4)) = V2 at hA1 hF1 ⊢
          try simp only [Act.put, List.setIfInBounds_toArray, List.set_cons_zero, List.set_cons_succ]
          refine wpAny_end (by kernel_rfl) ?_
          refine NoPanic.normal ?_
          have hWU : Below V1.heap.size V1 U1 := hS.trans (hF0.toBelowOf hS.size (fun i hi => by rw [List.mem_singleton.1 hi]; exact hb0))
          have hWV : Below V1.heap.size V1 V2 := hWU.trans (hF1.toBelowOf hWU.size (fun i hi => by rw [List.mem_singleton.1 hi]; exact hb1))
          have HBV2 := Lib.hid hWV
          have BX3 := Lib.hid (hA0.fr hF1 (by simpa using hne))
          have BX4 := Lib.hid hA1
          have LK3 := Lib.hid ((hl3.mono (DepEq.box hz0 hF0)).mono (DepEq.box hz1b hF1))
          have LK4 := Lib.hid ((hl4.mono (DepEq.box hz0 hF0)).mono (DepEq.box hz1b hF1))
          clear hz0 hz1 hz1b hF0 hF1 hWU hWV hA0 hA1 hbx hnd hb0 hb1 hS hne hl3 hl4 hl
          have BXn1 := Lib.hid (BX1.out.below HBV2.out)
          have BXn2 := Lib.hid (BX2.out.below HBV2.out)
          have LKn1 := Lib.hid (LK1.out.mono (DepEq.below HBV2.out))
          have LKn2 := Lib.hid (LK2.out.mono (DepEq.below HBV2.out))
          clear BX1 BX2 LK1 LK2 d0 d1 d2 d3 d4 d5 d6 d7 d8 k0 k1 k2 k3 k4 HX1 HX2 HX3 HX4
          have BX1 := BXn1
          have BX2 := BXn2
          have LK1 := LKn1
          have LK2 := LKn2
          clear BXn1 BXn2 LKn1 LKn2
          have hbc : Below wc.heap.size wc V2 := HBV1.out.trans (HBV2.out.mono HBV1.out.size)
          have HBC := Lib.hid (HB5.out.trans (hbc.mono HB5.out.size))
          have HV2' := Lib.hid (HV5.out.below hbc)
          have HT2' := Lib.hid (HT5.out.below hbc)
          have HC_owner := Lib.hid (Cells.below HO5.out hbc)
          have HC_other := Lib.hid (Cells.below HE5.out hbc)
          have HC_revk := Lib.hid (Cells.below HR5.out hbc)
          have HG := Lib.hid hg
          have HLT := Lib.hid hlt
          clear hbc hg hlt HBV1 HBV2 HB5 HD5 HV5 HT5 HK5 HO5 HE5 HR5
          have HO_offer_owner := Lib.hid (fun (W : World) (hW : Below V2.heap.size V2 W) => (show Calls Tryz.prog 11 #[.agg #[.int .u8 x1.kind, .string x1.term, .int .i64 x1.n, .slice A1 x1.kids.length c1], .slice (some ⟨kb + 1, 0, none⟩) 2 2, .string (preT knows), .int .i64 after, .int .i64 age] W (fun e w' => e = .returned (.bool (lt && g)) ∧ Below W.heap.size W w') by
            have h := lo_offer_owner d.delay ex after age knows HDL.out HEX.out x1 HQ1.out (some ⟨kb + 1, 0, none⟩) [.int .u8 x1.kind, .string x1.term, .int .i64 x1.n, .slice A1 x1.kids.length c1] W ((LK1.out.mono (DepEq.below hW)).at) (Cells.below HC_owner.out hW) (HV2'.out.below hW)
            rw [HG.out] at h
            rw [HLT.out] at h
            exact h))
          have HO_offer_other := Lib.hid (fun (W : World) (hW : Below V2.heap.size V2 W) => (show Calls Tryz.prog 11 #[.agg #[.int .u8 x1.kind, .string x1.term, .int .i64 x1.n, .slice A1 x1.kids.length c1], .slice (some ⟨kb + 1 + 1, 0, none⟩) 2 2, .string (preT knows), .int .i64 after, .int .i64 age] W (fun e w' => e = .returned (.bool knows) ∧ Below W.heap.size W w') by
            have h := lo_offer_other d.delay ex after age knows HDL.out HEX.out x1 HQ1.out (some ⟨kb + 1 + 1, 0, none⟩) [.int .u8 x1.kind, .string x1.term, .int .i64 x1.n, .slice A1 x1.kids.length c1] W ((LK1.out.mono (DepEq.below hW)).at) (Cells.below HC_other.out hW) (HV2'.out.below hW)
            exact h))
          have HO_offer_revk := Lib.hid (fun (W : World) (hW : Below V2.heap.size V2 W) => (show Calls Tryz.prog 11 #[.agg #[.int .u8 x1.kind, .string x1.term, .int .i64 x1.n, .slice A1 x1.kids.length c1], .slice (some ⟨kb + 1 + 1 + 1, 0, none⟩) 1 1, .string (preT knows), .int .i64 after, .int .i64 age] W (fun e w' => e = .returned (.bool true) ∧ Below W.heap.size W w') by
            have h := lo_offer_revk d.delay ex after age knows HDL.out HEX.out x1 HQ1.out (some ⟨kb + 1 + 1 + 1, 0, none⟩) [.int .u8 x1.kind, .string x1.term, .int .i64 x1.n, .slice A1 x1.kids.length c1] W ((LK1.out.mono (DepEq.below hW)).at) (Cells.below HC_revk.out hW) (HV2'.out.below hW)
            exact h))
          have HO_take_owner := Lib.hid (fun (W : World) (hW : Below V2.heap.size V2 W) => (show Calls Tryz.prog 11 #[.agg #[.int .u8 x2.kind, .string x2.term, .int .i64 x2.n, .slice A2 x2.kids.length c2], .slice (some ⟨kb + 1, 0, none⟩) 2 2, .string (preT knows), .int .i64 after, .int .i64 age] W (fun e w' => e = .returned (.bool (g && knows)) ∧ Below W.heap.size W w') by
            have h := lo_take_owner d.delay ex after age knows HDL.out HEX.out x2 HQ2.out (some ⟨kb + 1, 0, none⟩) [.int .u8 x2.kind, .string x2.term, .int .i64 x2.n, .slice A2 x2.kids.length c2] W ((LK2.out.mono (DepEq.below hW)).at) (Cells.below HC_owner.out hW) (HV2'.out.below hW)
            rw [HG.out] at h
            exact h))
          have HO_take_other := Lib.hid (fun (W : World) (hW : Below V2.heap.size V2 W) => (show Calls Tryz.prog 11 #[.agg #[.int .u8 x2.kind, .string x2.term, .int .i64 x2.n, .slice A2 x2.kids.length c2], .slice (some ⟨kb + 1 + 1, 0, none⟩) 2 2, .string (preT knows), .int .i64 after, .int .i64 age] W (fun e w' => e = .returned (.bool lt) ∧ Below W.heap.size W w') by
            have h := lo_take_other d.delay ex after age knows HDL.out HEX.out x2 HQ2.out (some ⟨kb + 1 + 1, 0, none⟩) [.int .u8 x2.kind, .string x2.term, .int .i64 x2.n, .slice A2 x2.kids.length c2] W ((LK2.out.mono (DepEq.below hW)).at) (Cells.below HC_other.out hW) (HV2'.out.below hW)
            rw [HLT.out] at h
            exact h))
          have HO_take_revk := Lib.hid (fun (W : World) (hW : Below V2.heap.size V2 W) => (show Calls Tryz.prog 11 #[.agg #[.int .u8 x2.kind, .string x2.term, .int .i64 x2.n, .slice A2 x2.kids.length c2], .slice (some ⟨kb + 1 + 1 + 1, 0, none⟩) 1 1, .string (preT knows), .int .i64 after, .int .i64 age] W (fun e w' => e = .returned (.bool true) ∧ Below W.heap.size W w') by
            have h := lo_take_revk d.delay ex after age knows HDL.out HEX.out x2 HQ2.out (some ⟨kb + 1 + 1 + 1, 0, none⟩) [.int .u8 x2.kind, .string x2.term, .int .i64 x2.n, .slice A2 x2.kids.length c2] W ((LK2.out.mono (DepEq.below hW)).at) (Cells.below HC_revk.out hW) (HV2'.out.below hW)
            exact h))
          have HO_own_owner := Lib.hid (fun (W : World) (hW : Below V2.heap.size V2 W) => (show Calls Tryz.prog 11 #[.agg #[.int .u8 x3.kind, .string x3.term, .int .i64 x3.n, .slice A3 x3.kids.length c3], .slice (some ⟨kb + 1, 0, none⟩) 2 2, .string (preT knows), .int .i64 after, .int .i64 age] W (fun e w' => e = .returned (.bool g) ∧ Below W.heap.size W w') by
            have h := lo_own_owner d.delay ex after age knows HDL.out HEX.out x3 HQ3.out (some ⟨kb + 1, 0, none⟩) [.int .u8 x3.kind, .string x3.term, .int .i64 x3.n, .slice A3 x3.kids.length c3] W ((LK3.out.mono (DepEq.below hW)).at) (Cells.below HC_owner.out hW) (HV2'.out.below hW)
            rw [HG.out] at h
            exact h))
          have HO_own_other := Lib.hid (fun (W : World) (hW : Below V2.heap.size V2 W) => (show Calls Tryz.prog 11 #[.agg #[.int .u8 x3.kind, .string x3.term, .int .i64 x3.n, .slice A3 x3.kids.length c3], .slice (some ⟨kb + 1 + 1, 0, none⟩) 2 2, .string (preT knows), .int .i64 after, .int .i64 age] W (fun e w' => e = .returned (.bool false) ∧ Below W.heap.size W w') by
            have h := lo_own_other d.delay ex after age knows HDL.out HEX.out x3 HQ3.out (some ⟨kb + 1 + 1, 0, none⟩) [.int .u8 x3.kind, .string x3.term, .int .i64 x3.n, .slice A3 x3.kids.length c3] W ((LK3.out.mono (DepEq.below hW)).at) (Cells.below HC_other.out hW) (HV2'.out.below hW)
            exact h))
          have HO_own_revk := Lib.hid (fun (W : World) (hW : Below V2.heap.size V2 W) => (show Calls Tryz.prog 11 #[.agg #[.int .u8 x3.kind, .string x3.term, .int .i64 x3.n, .slice A3 x3.kids.length c3], .slice (some ⟨kb + 1 + 1 + 1, 0, none⟩) 1 1, .string (preT knows), .int .i64 after, .int .i64 age] W (fun e w' => e = .returned (.bool true) ∧ Below W.heap.size W w') by
            have h := lo_own_revk d.delay ex after age knows HDL.out HEX.out x3 HQ3.out (some ⟨kb + 1 + 1 + 1, 0, none⟩) [.int .u8 x3.kind, .string x3.term, .int .i64 x3.n, .slice A3 x3.kids.length c3] W ((LK3.out.mono (DepEq.below hW)).at) (Cells.below HC_revk.out hW) (HV2'.out.below hW)
            exact h))
          have HO_theirs_owner := Lib.hid (fun (W : World) (hW : Below V2.heap.size V2 W) => (show Calls Tryz.prog 11 #[.agg #[.int .u8 x4.kind, .string x4.term, .int .i64 x4.n, .slice A4 x4.kids.length c4], .slice (some ⟨kb + 1, 0, none⟩) 2 2, .string (preT knows), .int .i64 after, .int .i64 age] W (fun e w' => e = .returned (.bool false) ∧ Below W.heap.size W w') by
            have h := lo_theirs_owner d.delay ex after age knows HDL.out HEX.out x4 HQ4.out (some ⟨kb + 1, 0, none⟩) [.int .u8 x4.kind, .string x4.term, .int .i64 x4.n, .slice A4 x4.kids.length c4] W ((LK4.out.mono (DepEq.below hW)).at) (Cells.below HC_owner.out hW) (HV2'.out.below hW)
            exact h))
          have HO_theirs_other := Lib.hid (fun (W : World) (hW : Below V2.heap.size V2 W) => (show Calls Tryz.prog 11 #[.agg #[.int .u8 x4.kind, .string x4.term, .int .i64 x4.n, .slice A4 x4.kids.length c4], .slice (some ⟨kb + 1 + 1, 0, none⟩) 2 2, .string (preT knows), .int .i64 after, .int .i64 age] W (fun e w' => e = .returned (.bool true) ∧ Below W.heap.size W w') by
            have h := lo_theirs_other d.delay ex after age knows HDL.out HEX.out x4 HQ4.out (some ⟨kb + 1 + 1, 0, none⟩) [.int .u8 x4.kind, .string x4.term, .int .i64 x4.n, .slice A4 x4.kids.length c4] W ((LK4.out.mono (DepEq.below hW)).at) (Cells.below HC_other.out hW) (HV2'.out.below hW)
            exact h))
          have HO_theirs_revk := Lib.hid (fun (W : World) (hW : Below V2.heap.size V2 W) => (show Calls Tryz.prog 11 #[.agg #[.int .u8 x4.kind, .string x4.term, .int .i64 x4.n, .slice A4 x4.kids.length c4], .slice (some ⟨kb + 1 + 1 + 1, 0, none⟩) 1 1, .string (preT knows), .int .i64 after, .int .i64 age] W (fun e w' => e = .returned (.bool false) ∧ Below W.heap.size W w') by
            have h := lo_theirs_revk d.delay ex after age knows HDL.out HEX.out x4 HQ4.out (some ⟨kb + 1 + 1 + 1, 0, none⟩) [.int .u8 x4.kind, .string x4.term, .int .i64 x4.n, .slice A4 x4.kids.length c4] W ((LK4.out.mono (DepEq.below hW)).at) (Cells.below HC_revk.out hW) (HV2'.out.below hW)
            exact h))
          have HW0 := Lib.hid (Below.refl V2.heap.size V2)
          clear LK1 LK2 LK3 LK4
          obtain ⟨p0, p1, p2, p3, -⟩ := BX3.out.cells
          go_wp2_with fail
          refine (HO_own_owner.out _ HW0.out).mono ?_
          rintro e w10 ⟨rfl, hb⟩
          have HW1 := Lib.hid (HW0.out.trans (hb.mono HW0.out.size))
          replace p0 := cell_below hb p0
          replace p1 := cell_below hb p1
          replace p2 := cell_below hb p2
          replace p3 := cell_below hb p3
          clear hb
          go_wp2_with fail
          refine (HO_own_other.out _ HW1.out).mono ?_
          rintro e w11 ⟨rfl, hb⟩
          have HW2 := Lib.hid (HW1.out.trans (hb.mono HW1.out.size))
          replace p0 := cell_below hb p0
          replace p1 := cell_below hb p1
          replace p2 := cell_below hb p2
          replace p3 := cell_below hb p3
          clear hb
          go_wp2_with fail
          refine (HO_own_revk.out _ HW2.out).mono ?_
          rintro e w12 ⟨rfl, hb⟩
          have HW3 := Lib.hid (HW2.out.trans (hb.mono HW2.out.size))
          clear hb p0 p1 p2 p3
          obtain ⟨p0, p1, p2, p3, -⟩ := (BX4.out.below HW3.out).cells
          go_wp2_with fail
          refine (HO_theirs_owner.out _ HW3.out).mono ?_
          rintro e w13 ⟨rfl, hb⟩
          have HW4 := Lib.hid (HW3.out.trans (hb.mono HW3.out.size))
          replace p0 := cell_below hb p0
          replace p1 := cell_below hb p1
          replace p2 := cell_below hb p2
          replace p3 := cell_below hb p3
          clear hb
          go_wp2_with fail
          refine (HO_theirs_other.out _ HW4.out).mono ?_
          rintro e w14 ⟨rfl, hb⟩
          have HW5 := Lib.hid (HW4.out.trans (hb.mono HW4.out.size))
          replace p0 := cell_below hb p0
          replace p1 := cell_below hb p1
          replace p2 := cell_below hb p2
          replace p3 := cell_below hb p3
          clear hb
          go_wp2_with fail
          refine (HO_theirs_revk.out _ HW5.out).mono ?_
          rintro e w15 ⟨rfl, hb⟩
          have HW6 := Lib.hid (HW5.out.trans (hb.mono HW5.out.size))
          clear hb p0 p1 p2 p3
          skip
          go_upto_region 14 with fail
          go_cut [24] (fun v wx => v = .bool true ∧ Below V2.heap.size V2 wx)
          case first =>
            obtain ⟨p0, p1, p2, p3, -⟩ := (BX1.out.below HW6.out).cells
            cases lt with
            | true =>
              go_wp2_with fail
              refine (HO_offer_owner.out _ HW6.out).mono ?_
              rintro e w16 ⟨rfl, hb⟩
              have HW7 := Lib.hid (HW6.out.trans (hb.mono HW6.out.size))
              replace p0 := cell_below hb p0
              replace p1 := cell_below hb p1
              replace p2 := cell_below hb p2
              replace p3 := cell_below hb p3
              clear hb
              go_wp2_with fail
              refine (HO_offer_other.out _ HW7.out).mono ?_
              rintro e w17 ⟨rfl, hb⟩
              have HW8 := Lib.hid (HW7.out.trans (hb.mono HW7.out.size))
              replace p0 := cell_below hb p0
              replace p1 := cell_below hb p1
              replace p2 := cell_below hb p2
              replace p3 := cell_below hb p3
              clear hb
              go_wp2_with fail
              refine (HO_offer_revk.out _ HW8.out).mono ?_
              rintro e w18 ⟨rfl, hb⟩
              have HW9 := Lib.hid (HW8.out.trans (hb.mono HW8.out.size))
              replace p0 := cell_below hb p0
              replace p1 := cell_below hb p1
              replace p2 := cell_below hb p2
              replace p3 := cell_below hb p3
              clear hb
              go_wp2_with fail
              go_meet
              exact ⟨rfl, HW9.out⟩
            | false =>
              go_wp2_with fail
              refine (HO_offer_owner.out _ HW6.out).mono ?_
              rintro e w16 ⟨rfl, hb⟩
              have HW7 := Lib.hid (HW6.out.trans (hb.mono HW6.out.size))
              replace p0 := cell_below hb p0
              replace p1 := cell_below hb p1
              replace p2 := cell_below hb p2
              replace p3 := cell_below hb p3
              clear hb
              go_wp2_with fail
              refine (HO_offer_other.out _ HW7.out).mono ?_
              rintro e w17 ⟨rfl, hb⟩
              have HW8 := Lib.hid (HW7.out.trans (hb.mono HW7.out.size))
              replace p0 := cell_below hb p0
              replace p1 := cell_below hb p1
              replace p2 := cell_below hb p2
              replace p3 := cell_below hb p3
              clear hb
              go_wp2_with fail
              refine (HO_offer_revk.out _ HW8.out).mono ?_
              rintro e w18 ⟨rfl, hb⟩
              have HW9 := Lib.hid (HW8.out.trans (hb.mono HW8.out.size))
              replace p0 := cell_below hb p0
              replace p1 := cell_below hb p1
              replace p2 := cell_below hb p2
              replace p3 := cell_below hb p3
              clear hb
              go_wp2_with fail
              go_meet
              exact ⟨rfl, HW9.out⟩
          case rest =>
            obtain ⟨rfl, hcb⟩ := hcut
            have HW20 := Lib.hid hcb
            clear hcb HW0 HW1 HW2 HW3 HW4 HW5 HW6
            go_upto_region 15 with fail
            go_cut [25] (fun v wx => v = .bool true ∧ Below V2.heap.size V2 wx)
            case first =>
              obtain ⟨p0, p1, p2, p3, -⟩ := (BX2.out.below HW20.out).cells
              cases g with
              | true =>
                go_wp2_with fail
                refine (HO_take_owner.out _ HW20.out).mono ?_
                rintro e w30 ⟨rfl, hb⟩
                have HW21 := Lib.hid (HW20.out.trans (hb.mono HW20.out.size))
                replace p0 := cell_below hb p0
                replace p1 := cell_below hb p1
                replace p2 := cell_below hb p2
                replace p3 := cell_below hb p3
                clear hb
                go_wp2_with fail
                refine (HO_take_other.out _ HW21.out).mono ?_
                rintro e w31 ⟨rfl, hb⟩
                have HW22 := Lib.hid (HW21.out.trans (hb.mono HW21.out.size))
                replace p0 := cell_below hb p0
                replace p1 := cell_below hb p1
                replace p2 := cell_below hb p2
                replace p3 := cell_below hb p3
                clear hb
                go_wp2_with fail
                refine (HO_take_revk.out _ HW22.out).mono ?_
                rintro e w32 ⟨rfl, hb⟩
                have HW23 := Lib.hid (HW22.out.trans (hb.mono HW22.out.size))
                replace p0 := cell_below hb p0
                replace p1 := cell_below hb p1
                replace p2 := cell_below hb p2
                replace p3 := cell_below hb p3
                clear hb
                go_wp2_with fail
                go_meet
                exact ⟨rfl, HW23.out⟩
              | false =>
                go_wp2_with fail
                refine (HO_take_owner.out _ HW20.out).mono ?_
                rintro e w30 ⟨rfl, hb⟩
                have HW21 := Lib.hid (HW20.out.trans (hb.mono HW20.out.size))
                replace p0 := cell_below hb p0
                replace p1 := cell_below hb p1
                replace p2 := cell_below hb p2
                replace p3 := cell_below hb p3
                clear hb
                go_wp2_with fail
                refine (HO_take_other.out _ HW21.out).mono ?_
                rintro e w31 ⟨rfl, hb⟩
                have HW22 := Lib.hid (HW21.out.trans (hb.mono HW21.out.size))
                replace p0 := cell_below hb p0
                replace p1 := cell_below hb p1
                replace p2 := cell_below hb p2
                replace p3 := cell_below hb p3
                clear hb
                go_wp2_with fail
                refine (HO_take_revk.out _ HW22.out).mono ?_
                rintro e w32 ⟨rfl, hb⟩
                have HW23 := Lib.hid (HW22.out.trans (hb.mono HW22.out.size))
                replace p0 := cell_below hb p0
                replace p1 := cell_below hb p1
                replace p2 := cell_below hb p2
                replace p3 := cell_below hb p3
                clear hb
                go_wp2_with fail
                go_meet
                exact ⟨rfl, HW23.out⟩
            case rest =>
              obtain ⟨rfl, hcb⟩ := hcut
              have HW30 := Lib.hid hcb
              clear hcb HW20
              have hx5 := fun W => lockV_out (fund_any ⟨#[80, 110, 49, 59]⟩ ⟨#[80, 110, 50, 59]⟩ W)
              obtain ⟨x5, hq5⟩ : ∃ x, fundL ⟨#[80, 110, 49, 59]⟩ ⟨#[80, 110, 50, 59]⟩ = x := ⟨_, rfl⟩
              rw [hq5] at hx5
              have HX5 := Lib.hid hx5
              have HQ5 := Lib.hid hq5
              clear hx5 hq5
              go_wp2_with fail
              refine (HX5.out _).mono ?_
              rintro e wf ⟨A5, c5, rfl, hl5, hb5⟩
              have hba : Below wf.heap.size wf (wf.alloc (.cells #[.int .u8 x5.kind, .string x5.term, .int .i64 x5.n, .slice A5 x5.kids.length c5] 35)) := (Below.refl _ _).alloc (Nat.le_refl _) _
              have HW31 := Lib.hid (HW30.out.trans ((hb5.trans (hba.mono hb5.size)).mono HW30.out.size))
              have LK5 := Lib.hid (hl5.mono (DepEq.below hba))
              have BX5 := Lib.hid (show LBox (wf.alloc (.cells #[.int .u8 x5.kind, .string x5.term, .int .i64 x5.n, .slice A5 x5.kids.length c5] 35)) wf.heap.size x5.kind x5.term x5.n (.slice A5 x5.kids.length c5) from Go.heap_alloc_new wf _)
              clear hl5 hb5 hba HW30
              go_upto_region 17 with fail
              generalize wf.alloc (.cells #[.int .u8 x5.kind, .string x5.term, .int .i64 x5.n, .slice A5 x5.kids.length c5] 35) = V3 at HW31 LK5 BX5 ⊢
              generalize wf.heap.size = b5 at BX5 ⊢
              have HF_two := Lib.hid (fun (A : Option Addr) (W : World) (hW : Below V3.heap.size V3 W) (hA : Cells W A (strs twoS)) => lo_fund_two d.delay ex after age knows HDL.out HEX.out x5 HQ5.out A [.int .u8 x5.kind, .string x5.term, .int .i64 x5.n, .slice A5 x5.kids.length c5] W ((LK5.out.mono (DepEq.below hW)).at) hA ((HV2'.out.below HW31.out).below hW))
              have HF_owner := Lib.hid (fun (A : Option Addr) (W : World) (hW : Below V3.heap.size V3 W) (hA : Cells W A (strs ownerS)) => lo_fund_owner d.delay ex after age knows HDL.out HEX.out x5 HQ5.out A [.int .u8 x5.kind, .string x5.term, .int .i64 x5.n, .slice A5 x5.kids.length c5] W ((LK5.out.mono (DepEq.below hW)).at) hA ((HV2'.out.below HW31.out).below hW))
              have HF_one := Lib.hid (fun (A : Option Addr) (W : World) (hW : Below V3.heap.size V3 W) (hA : Cells W A (strs oneS)) => lo_fund_one d.delay ex after age knows HDL.out HEX.out x5 HQ5.out A [.int .u8 x5.kind, .string x5.term, .int .i64 x5.n, .slice A5 x5.kids.length c5] W ((LK5.out.mono (DepEq.below hW)).at) hA ((HV2'.out.below HW31.out).below hW))
              have hx6 := fun W => lockV_out (fund_any ⟨#[80, 110, 50, 59]⟩ ⟨#[80, 110, 49, 59]⟩ W)
              rw [show fundL ⟨#[80, 110, 50, 59]⟩ ⟨#[80, 110, 49, 59]⟩ = x5 by rw [← HQ5.out, fund_eq, fund_eq2]] at hx6
              have HX6 := Lib.hid hx6
              have HS5 := Lib.hid (show smallT x5 by rw [← HQ5.out]; exact small_fund (by decide) (by decide))
              clear hx6
              obtain ⟨p0, p1, p2, p3, -⟩ := BX5.out.cells
              refine wp_region_noPanic ?_
              refine wp_region_any (by kernel_rfl) (anyG_any (S := fun U : World => Below V3.heap.size V3 U) (n := 44) _ _ _ _ ?_)
              have hS : Below V3.heap.size V3 V3.drew := (Below.refl _ _).drew
              change AnyG _ _ _ _ _ _ 45 (Array.replicate 45 false) _ V3.drew
              refine anyG_take2 (i := 0) (dd := 176) (v := ?_) rfl rfl (by kernel_rfl) (by kernel_rfl) (by kernel_rfl) (by kernel_rfl) (by kernel_rfl) (fun _ _ _ h => h) (Or.inl ⟨by rfl, ?_⟩) hS (by kernel_rfl) ?_
              rotate_left
              · (intro w' hSw; (try dsimp only at hSw); go_simp; (try with_reducible rfl))
              try simp only [Act.put, List.setIfInBounds_toArray, List.set_cons_zero, List.set_cons_succ]
              refine anyG_take2 (i := 1) (dd := 177) (v := ?_) rfl rfl (by kernel_rfl) (by kernel_rfl) (by kernel_rfl) (by kernel_rfl) (by kernel_rfl) (fun _ _ _ h => h) (Or.inl ⟨by rfl, ?_⟩) hS (by kernel_rfl) ?_
              rotate_left
              · (intro w' hSw; (try dsimp only at hSw); go_simp; (try with_reducible rfl))
              try simp only [Act.put, List.setIfInBounds_toArray, List.set_cons_zero, List.set_cons_succ]
              refine anyG_take2 (i := 2) (dd := 178) (v := ?_) rfl rfl (by kernel_rfl) (by kernel_rfl) (by kernel_rfl) (by kernel_rfl) (by kernel_rfl) (fun _ _ _ h => h) (Or.inl ⟨by rfl, ?_⟩) hS (by kernel_rfl) ?_
              rotate_left
              · (intro w' hSw; (try dsimp only at hSw); go_simp; (try with_reducible rfl))
              try simp only [Act.put, List.setIfInBounds_toArray, List.set_cons_zero, List.set_cons_succ]
              refine anyG_take2 (i := 3) (dd := 179) (v := ?_) rfl rfl (by kernel_rfl) (by kernel_rfl) (by kernel_rfl) (by kernel_rfl) (by kernel_rfl) (fun _ _ _ h => h) (Or.inl ⟨by rfl, ?_⟩) hS (by kernel_rfl) ?_
              rotate_left
              · (intro w' hSw; (try dsimp only at hSw); go_simp; (try with_reducible rfl))
              try simp only [Act.put, List.setIfInBounds_toArray, List.set_cons_zero, List.set_cons_succ]
              refine anyG_take2 (i := 4) (dd := 180) (v := ?_) rfl rfl (by kernel_rfl) (by kernel_rfl) (by kernel_rfl) (by kernel_rfl) (by kernel_rfl) (fun _ _ _ h => h) (Or.inl ⟨by rfl, ?_⟩) hS (by kernel_rfl) ?_
              rotate_left
              · (intro w' hSw; (try dsimp only at hSw); go_simp; (try with_reducible rfl))
              try simp only [Act.put, List.setIfInBounds_toArray, List.set_cons_zero, List.set_cons_succ]
              refine anyG_take2 (i := 5) (dd := 181) (v := ?_) rfl rfl (by kernel_rfl) (by kernel_rfl) (by kernel_rfl) (by kernel_rfl) (by kernel_rfl) (fun _ _ _ h => h) (Or.inl ⟨by rfl, ?_⟩) hS (by kernel_rfl) ?_
              rotate_left
              · (intro w' hSw; (try dsimp only at hSw); go_simp; (try with_reducible rfl))
              try simp only [Act.put, List.setIfInBounds_toArray, List.set_cons_zero, List.set_cons_succ]
              refine anyG_take2 (i := 6) (dd := 182) (v := ?_) rfl rfl (by kernel_rfl) (by kernel_rfl) (by kernel_rfl) (by kernel_rfl) (by kernel_rfl) (fun _ _ _ h => h) (Or.inl ⟨by rfl, ?_⟩) hS (by kernel_rfl) ?_
              rotate_left
              · (intro w' hSw; (try dsimp only at hSw); go_simp; (try with_reducible rfl))
              try simp only [Act.put, List.setIfInBounds_toArray, List.set_cons_zero, List.set_cons_succ]
              refine anyG_take2 (i := 7) (dd := 183) (v := ?_) rfl rfl (by kernel_rfl) (by kernel_rfl) (by kernel_rfl) (by kernel_rfl) (by kernel_rfl) (fun _ _ _ h => h) (Or.inl ⟨by rfl, ?_⟩) hS (by kernel_rfl) ?_
              rotate_left
              · (intro w' hSw; (try dsimp only at hSw); go_simp; (try with_reducible rfl))
              try simp only [Act.put, List.setIfInBounds_toArray, List.set_cons_zero, List.set_cons_succ]
              refine anyG_take2 (i := 8) (dd := 184) (v := ?_) rfl rfl (by kernel_rfl) (by kernel_rfl) (by kernel_rfl) (by kernel_rfl) (by kernel_rfl) (fun _ _ _ h => h) (Or.inl ⟨by rfl, ?_⟩) hS (by kernel_rfl) ?_
              rotate_left
              · (intro w' hSw; (try dsimp only at hSw); go_simp; (try with_reducible rfl))
              try simp only [Act.put, List.setIfInBounds_toArray, List.set_cons_zero, List.set_cons_succ]
              refine anyG_take2 (i := 9) (dd := 185) (v := ?_) rfl rfl (by kernel_rfl) (by kernel_rfl) (by kernel_rfl) (by kernel_rfl) (by kernel_rfl) (fun _ _ _ h => h) (Or.inl ⟨by rfl, ?_⟩) hS (by kernel_rfl) ?_
              rotate_left
              · (intro w' hSw; (try dsimp only at hSw); go_simp; (try with_reducible rfl))
              try simp only [Act.put, List.setIfInBounds_toArray, List.set_cons_zero, List.set_cons_succ]
              refine anyG_take2 (i := 10) (dd := 186) (v := ?_) rfl rfl (by kernel_rfl) (by kernel_rfl) (by kernel_rfl) (by kernel_rfl) (by kernel_rfl) (fun _ _ _ h => h) (Or.inl ⟨by rfl, ?_⟩) hS (by kernel_rfl) ?_
              rotate_left
              · (intro w' hSw; (try dsimp only at hSw); go_simp; (try with_reducible rfl))
              try simp only [Act.put, List.setIfInBounds_toArray, List.set_cons_zero, List.set_cons_succ]
              refine anyG_take2 (i := 11) (dd := 187) (v := ?_) rfl rfl (by kernel_rfl) (by kernel_rfl) (by kernel_rfl) (by kernel_rfl) (by kernel_rfl) (fun _ _ _ h => h) (Or.inl ⟨by rfl, ?_⟩) hS (by kernel_rfl) ?_
              rotate_left
              · (intro w' hSw; have q0 := cell_below hSw p0; have q1 := cell_below hSw p1; have q2 := cell_below hSw p2; have q3 := cell_below hSw p3; (try dsimp only at hSw); go_simp; (try with_reducible rfl))
              try simp only [Act.put, List.setIfInBounds_toArray, List.set_cons_zero, List.set_cons_succ]
              refine anyG_take2 (i := 13) (dd := 189) (v := ?_) rfl rfl (by kernel_rfl) (by kernel_rfl) (by kernel_rfl) (by kernel_rfl) (by kernel_rfl) (fun _ _ _ h => h) (Or.inl ⟨by rfl, ?_⟩) hS (by kernel_rfl) ?_
              rotate_left
              · (intro w' hSw; (try dsimp only at hSw); go_simp; (try with_reducible rfl))
              try simp only [Act.put, List.setIfInBounds_toArray, List.set_cons_zero, List.set_cons_succ]
              refine anyG_take2 (i := 14) (dd := 190) (v := ?_) rfl rfl (by kernel_rfl) (by kernel_rfl) (by kernel_rfl) (by kernel_rfl) (by kernel_rfl) (fun _ _ _ h => h) (Or.inl ⟨by rfl, ?_⟩) hS (by kernel_rfl) ?_
              rotate_left
              · (intro w' hSw; (try dsimp only at hSw); go_simp; (try with_reducible rfl))
              try simp only [Act.put, List.setIfInBounds_toArray, List.set_cons_zero, List.set_cons_succ]
              refine anyG_take2 (i := 15) (dd := 191) (v := ?_) rfl rfl (by kernel_rfl) (by kernel_rfl) (by kernel_rfl) (by kernel_rfl) (by kernel_rfl) (fun _ _ _ h => h) (Or.inl ⟨by rfl, ?_⟩) hS (by kernel_rfl) ?_
              rotate_left
              · (intro w' hSw; (try dsimp only at hSw); go_simp; (try with_reducible rfl))
              try simp only [Act.put, List.setIfInBounds_toArray, List.set_cons_zero, List.set_cons_succ]
              refine anyG_all (rs := [12]) (by kernel_rfl) (by simp) (List.forall_mem_singleton.2 ?_)
              refine wpOp_step rfl (fun K' hK => ?_)
              have HK := Lib.hid hK
              clear hK
              rw [if_pos (by rfl)]
              go_simp
              refine HK.out _ _ ⟨fun _ => hS.alloc hS.size _, ?_⟩
              clear HK
              have hS2 := hS.alloc hS.size (.cells #[.string ⟨#[110, 49, 59]⟩, .string ⟨#[110, 50, 59]⟩] 28)
              clear hS
              have hS := hS2
              clear hS2
              have hA2 : Cells (V3.drew.alloc (.cells #[.string ⟨#[110, 49, 59]⟩, .string ⟨#[110, 50, 59]⟩] 28)) (some ⟨V3.drew.heap.size, 0, none⟩) (strs twoS) := cells_row (Go.heap_alloc_new V3.drew _)
              try simp only [Act.put, List.setIfInBounds_toArray, List.set_cons_zero, List.set_cons_succ]
              refine anyG_all (rs := [16]) (by kernel_rfl) (by simp) (List.forall_mem_singleton.2 ?_)
              refine wpOp_step rfl (fun K' hK => ?_)
              have HK := Lib.hid hK
              clear hK
              rw [if_pos (by rfl)]
              go_simp
              refine Calls.mono (HF_two.out _ _ hS hA2) ?_
              rintro e w16 ⟨rfl, hb⟩
              have hS2 := hS.trans (hb.mono hS.size)
              clear hS
              have hS := hS2
              clear hS2
              clear hb
              go_wp2_with fail
              refine HK.out _ _ ⟨fun _ => hS, ?_⟩
              clear HK
              try simp only [Act.put, List.setIfInBounds_toArray, List.set_cons_zero, List.set_cons_succ]
              refine anyG_take2 (i := 17) (dd := 193) (v := ?_) rfl rfl (by kernel_rfl) (by kernel_rfl) (by kernel_rfl) (by kernel_rfl) (by kernel_rfl) (fun _ _ _ h => h) (Or.inl ⟨by rfl, ?_⟩) hS (by kernel_rfl) ?_
              rotate_left
              · (intro w' hSw; (try dsimp only at hSw); go_simp; (try with_reducible rfl))
              try simp only [Act.put, List.setIfInBounds_toArray, List.set_cons_zero, List.set_cons_succ]
              refine anyG_take2 (i := 18) (dd := 194) (v := ?_) rfl rfl (by kernel_rfl) (by kernel_rfl) (by kernel_rfl) (by kernel_rfl) (by kernel_rfl) (fun _ _ _ h => h) (Or.inl ⟨by rfl, ?_⟩) hS (by kernel_rfl) ?_
              rotate_left
              · (intro w' hSw; (try dsimp only at hSw); go_simp; (try with_reducible rfl))
              try simp only [Act.put, List.setIfInBounds_toArray, List.set_cons_zero, List.set_cons_succ]
              refine anyG_take2 (i := 19) (dd := 195) (v := ?_) rfl rfl (by kernel_rfl) (by kernel_rfl) (by kernel_rfl) (by kernel_rfl) (by kernel_rfl) (fun _ _ _ h => h) (Or.inl ⟨by rfl, ?_⟩) hS (by kernel_rfl) ?_
              rotate_left
              · (intro w' hSw; have q0 := cell_below hSw p0; have q1 := cell_below hSw p1; have q2 := cell_below hSw p2; have q3 := cell_below hSw p3; (try dsimp only at hSw); go_simp; (try with_reducible rfl))
              try simp only [Act.put, List.setIfInBounds_toArray, List.set_cons_zero, List.set_cons_succ]
              refine anyG_take2 (i := 20) (dd := 196) (v := ?_) rfl rfl (by kernel_rfl) (by kernel_rfl) (by kernel_rfl) (by kernel_rfl) (by kernel_rfl) (fun _ _ _ h => h) (Or.inl ⟨by rfl, ?_⟩) hS (by kernel_rfl) ?_
              rotate_left
              · (intro w' hSw; (try dsimp only at hSw); go_simp; (try with_reducible rfl))
              try simp only [Act.put, List.setIfInBounds_toArray, List.set_cons_zero, List.set_cons_succ]
              refine anyG_take2 (i := 21) (dd := 197) (v := ?_) rfl rfl (by kernel_rfl) (by kernel_rfl) (by kernel_rfl) (by kernel_rfl) (by kernel_rfl) (fun _ _ _ h => h) (Or.inl ⟨by rfl, ?_⟩) hS (by kernel_rfl) ?_
              rotate_left
              · (intro w' hSw; (try dsimp only at hSw); go_simp; (try with_reducible rfl))
              try simp only [Act.put, List.setIfInBounds_toArray, List.set_cons_zero, List.set_cons_succ]
              refine anyG_take2 (i := 22) (dd := 198) (v := ?_) rfl rfl (by kernel_rfl) (by kernel_rfl) (by kernel_rfl) (by kernel_rfl) (by kernel_rfl) (fun _ _ _ h => h) (Or.inl ⟨by rfl, ?_⟩) hS (by kernel_rfl) ?_
              rotate_left
              · (intro w' hSw; (try dsimp only at hSw); go_simp; (try with_reducible rfl))
              try simp only [Act.put, List.setIfInBounds_toArray, List.set_cons_zero, List.set_cons_succ]
              refine anyG_take2 (i := 23) (dd := 199) (v := ?_) rfl rfl (by kernel_rfl) (by kernel_rfl) (by kernel_rfl) (by kernel_rfl) (by kernel_rfl) (fun _ _ _ h => h) (Or.inl ⟨by rfl, ?_⟩) hS (by kernel_rfl) ?_
              rotate_left
              · (intro w' hSw; (try dsimp only at hSw); go_simp; (try with_reducible rfl))
              try simp only [Act.put, List.setIfInBounds_toArray, List.set_cons_zero, List.set_cons_succ]
              refine anyG_all (rs := [24]) (by kernel_rfl) (by simp) (List.forall_mem_singleton.2 ?_)
              refine wpOp_step rfl (fun K' hK => ?_)
              have HK := Lib.hid hK
              clear hK
              rw [if_pos (by rfl)]
              go_simp
              refine Calls.mono (HF_owner.out _ _ hS (Cells.below (Cells.below HC_owner.out HW31.out) hS)) ?_
              rintro e w24 ⟨rfl, hb⟩
              have hS2 := hS.trans (hb.mono hS.size)
              clear hS
              have hS := hS2
              clear hS2
              clear hb
              go_wp2_with fail
              refine HK.out _ _ ⟨fun _ => hS, ?_⟩
              clear HK
              try simp only [Act.put, List.setIfInBounds_toArray, List.set_cons_zero, List.set_cons_succ]
              refine anyG_take2 (i := 25) (dd := 201) (v := ?_) rfl rfl (by kernel_rfl) (by kernel_rfl) (by kernel_rfl) (by kernel_rfl) (by kernel_rfl) (fun _ _ _ h => h) (Or.inl ⟨by rfl, ?_⟩) hS (by kernel_rfl) ?_
              rotate_left
              · (intro w' hSw; (try dsimp only at hSw); go_simp; (try with_reducible rfl))
              try simp only [Act.put, List.setIfInBounds_toArray, List.set_cons_zero, List.set_cons_succ]
              refine anyG_take2 (i := 26) (dd := 202) (v := ?_) rfl rfl (by kernel_rfl) (by kernel_rfl) (by kernel_rfl) (by kernel_rfl) (by kernel_rfl) (fun _ _ _ h => h) (Or.inl ⟨by rfl, ?_⟩) hS (by kernel_rfl) ?_
              rotate_left
              · (intro w' hSw; (try dsimp only at hSw); go_simp; (try with_reducible rfl))
              try simp only [Act.put, List.setIfInBounds_toArray, List.set_cons_zero, List.set_cons_succ]
              refine anyG_take2 (i := 27) (dd := 203) (v := ?_) rfl rfl (by kernel_rfl) (by kernel_rfl) (by kernel_rfl) (by kernel_rfl) (by kernel_rfl) (fun _ _ _ h => h) (Or.inl ⟨by rfl, ?_⟩) hS (by kernel_rfl) ?_
              rotate_left
              · (intro w' hSw; (try dsimp only at hSw); go_simp; (try with_reducible rfl))
              try simp only [Act.put, List.setIfInBounds_toArray, List.set_cons_zero, List.set_cons_succ]
              refine anyG_take2 (i := 28) (dd := 204) (v := ?_) rfl rfl (by kernel_rfl) (by kernel_rfl) (by kernel_rfl) (by kernel_rfl) (by kernel_rfl) (fun _ _ _ h => h) (Or.inl ⟨by rfl, ?_⟩) hS (by kernel_rfl) ?_
              rotate_left
              · (intro w' hSw; have q0 := cell_below hSw p0; have q1 := cell_below hSw p1; have q2 := cell_below hSw p2; have q3 := cell_below hSw p3; (try dsimp only at hSw); go_simp; (try with_reducible rfl))
              try simp only [Act.put, List.setIfInBounds_toArray, List.set_cons_zero, List.set_cons_succ]
              refine anyG_take2 (i := 30) (dd := 206) (v := ?_) rfl rfl (by kernel_rfl) (by kernel_rfl) (by kernel_rfl) (by kernel_rfl) (by kernel_rfl) (fun _ _ _ h => h) (Or.inl ⟨by rfl, ?_⟩) hS (by kernel_rfl) ?_
              rotate_left
              · (intro w' hSw; (try dsimp only at hSw); go_simp; (try with_reducible rfl))
              try simp only [Act.put, List.setIfInBounds_toArray, List.set_cons_zero, List.set_cons_succ]
              refine anyG_take2 (i := 31) (dd := 207) (v := ?_) rfl rfl (by kernel_rfl) (by kernel_rfl) (by kernel_rfl) (by kernel_rfl) (by kernel_rfl) (fun _ _ _ h => h) (Or.inl ⟨by rfl, ?_⟩) hS (by kernel_rfl) ?_
              rotate_left
              · (intro w' hSw; (try dsimp only at hSw); go_simp; (try with_reducible rfl))
              try simp only [Act.put, List.setIfInBounds_toArray, List.set_cons_zero, List.set_cons_succ]
              refine anyG_take2 (i := 32) (dd := 208) (v := ?_) rfl rfl (by kernel_rfl) (by kernel_rfl) (by kernel_rfl) (by kernel_rfl) (by kernel_rfl) (fun _ _ _ h => h) (Or.inl ⟨by rfl, ?_⟩) hS (by kernel_rfl) ?_
              rotate_left
              · (intro w' hSw; (try dsimp only at hSw); go_simp; (try with_reducible rfl))
              try simp only [Act.put, List.setIfInBounds_toArray, List.set_cons_zero, List.set_cons_succ]
              refine anyG_all (rs := [29]) (by kernel_rfl) (by simp) (List.forall_mem_singleton.2 ?_)
              refine wpOp_step rfl (fun K' hK => ?_)
              have HK := Lib.hid hK
              clear hK
              rw [if_pos (by rfl)]
              go_simp
              refine HK.out _ _ ⟨fun _ => hS.alloc hS.size _, ?_⟩
              clear HK
              have hS2 := hS.alloc hS.size (.cells #[.string ⟨#[110, 49, 59]⟩] 28)
              clear hS
              have hS := hS2
              clear hS2
              have hA1 : Cells (w24.alloc (.cells #[.string ⟨#[110, 49, 59]⟩] 28)) (some ⟨w24.heap.size, 0, none⟩) (strs oneS) := cells_row (Go.heap_alloc_new w24 _)
              try simp only [Act.put, List.setIfInBounds_toArray, List.set_cons_zero, List.set_cons_succ]
              refine anyG_all (rs := [33]) (by kernel_rfl) (by simp) (List.forall_mem_singleton.2 ?_)
              refine wpOp_step rfl (fun K' hK => ?_)
              have HK := Lib.hid hK
              clear hK
              rw [if_pos (by rfl)]
              go_simp
              refine Calls.mono (HF_one.out _ _ hS hA1) ?_
              rintro e w33 ⟨rfl, hb⟩
              have hS2 := hS.trans (hb.mono hS.size)
              clear hS
              have hS := hS2
              clear hS2
              clear hb
              go_wp2_with fail
              refine HK.out _ _ ⟨fun _ => hS, ?_⟩
              clear HK
              try simp only [Act.put, List.setIfInBounds_toArray, List.set_cons_zero, List.set_cons_succ]
              refine anyG_take2 (i := 34) (dd := 210) (v := ?_) rfl rfl (by kernel_rfl) (by kernel_rfl) (by kernel_rfl) (by kernel_rfl) (by kernel_rfl) (fun _ _ _ h => h) (Or.inl ⟨by rfl, ?_⟩) hS (by kernel_rfl) ?_
              rotate_left
              · (intro w' hSw; (try dsimp only at hSw); go_simp; (try with_reducible rfl))
              try simp only [Act.put, List.setIfInBounds_toArray, List.set_cons_zero, List.set_cons_succ]
              refine anyG_take2 (i := 35) (dd := 211) (v := ?_) rfl rfl (by kernel_rfl) (by kernel_rfl) (by kernel_rfl) (by kernel_rfl) (by kernel_rfl) (fun _ _ _ h => h) (Or.inl ⟨by rfl, ?_⟩) hS (by kernel_rfl) ?_
              rotate_left
              · (intro w' hSw; (try dsimp only at hSw); go_simp; (try with_reducible rfl))
              try simp only [Act.put, List.setIfInBounds_toArray, List.set_cons_zero, List.set_cons_succ]
              refine anyG_take2 (i := 36) (dd := 212) (v := ?_) rfl rfl (by kernel_rfl) (by kernel_rfl) (by kernel_rfl) (by kernel_rfl) (by kernel_rfl) (fun _ _ _ h => h) (Or.inl ⟨by rfl, ?_⟩) hS (by kernel_rfl) ?_
              rotate_left
              · (intro w' hSw; (try dsimp only at hSw); go_simp; (try with_reducible rfl))
              try simp only [Act.put, List.setIfInBounds_toArray, List.set_cons_zero, List.set_cons_succ]
              refine anyG_take2 (i := 37) (dd := 213) (v := ?_) rfl rfl (by kernel_rfl) (by kernel_rfl) (by kernel_rfl) (by kernel_rfl) (by kernel_rfl) (fun _ _ _ h => h) (Or.inl ⟨by rfl, ?_⟩) hS (by kernel_rfl) ?_
              rotate_left
              · (intro w' hSw; have q0 := cell_below hSw p0; have q1 := cell_below hSw p1; have q2 := cell_below hSw p2; have q3 := cell_below hSw p3; (try dsimp only at hSw); go_simp; (try with_reducible rfl))
              try simp only [Act.put, List.setIfInBounds_toArray, List.set_cons_zero, List.set_cons_succ]
              refine anyG_all (rs := [38]) (by kernel_rfl) (by simp) (List.forall_mem_singleton.2 ?_)
              refine wpOp_step rfl (fun K' hK => ?_)
              have HK := Lib.hid hK
              clear hK
              rw [if_pos (by rfl)]
              go_simp
              refine Calls.mono (HX6.out _) ?_
              rintro e w38 ⟨A6, c6, rfl, hl6, hb⟩
              have hS2 := hS.trans (hb.mono hS.size)
              clear hS
              have hS := hS2
              clear hS2
              have HL6 := Lib.hid hl6
              clear hl6 hb
              go_wp2_with fail
              refine HK.out _ _ ⟨fun _ => hS, ?_⟩
              clear HK
              try simp only [Act.put, List.setIfInBounds_toArray, List.set_cons_zero, List.set_cons_succ]
              refine anyG_all (rs := [39]) (by kernel_rfl) (by simp) (List.forall_mem_singleton.2 ?_)
              refine wpOp_step rfl (fun K' hK => ?_)
              have HK := Lib.hid hK
              clear hK
              rw [if_pos (by rfl)]
              go_simp
              refine Calls.mono (sameLock_eq x5 [.int .u8 x5.kind, .string x5.term, .int .i64 x5.n, .slice A5 x5.kids.length c5] [.int .u8 x5.kind, .string x5.term, .int .i64 x5.n, .slice A6 x5.kids.length c6] _ HS5.out ((LK5.out.mono (DepEq.below hS)).at) HL6.out.at ) ?_
              rintro e w39 ⟨rfl, hb⟩
              have hS2 := hS.trans (hb.mono hS.size)
              clear hS
              have hS := hS2
              clear hS2
              clear hb
              go_wp2_with fail
              refine HK.out _ _ ⟨fun _ => hS, ?_⟩
              clear HK
              try simp only [Act.put, List.setIfInBounds_toArray, List.set_cons_zero, List.set_cons_succ]
              refine anyG_take2 (i := 40) (dd := 216) (v := ?_) rfl rfl (by kernel_rfl) (by kernel_rfl) (by kernel_rfl) (by kernel_rfl) (by kernel_rfl) (fun _ _ _ h => h) (Or.inl ⟨by rfl, ?_⟩) hS (by kernel_rfl) ?_
              rotate_left
              · (intro w' hSw; (try dsimp only at hSw); go_simp; (try with_reducible rfl))
              try simp only [Act.put, List.setIfInBounds_toArray, List.set_cons_zero, List.set_cons_succ]
              refine anyG_take2 (i := 41) (dd := 217) (v := ?_) rfl rfl (by kernel_rfl) (by kernel_rfl) (by kernel_rfl) (by kernel_rfl) (by kernel_rfl) (fun _ _ _ h => h) (Or.inl ⟨by rfl, ?_⟩) hS (by kernel_rfl) ?_
              rotate_left
              · (intro w' hSw; (try dsimp only at hSw); go_simp; (try with_reducible rfl))
              try simp only [Act.put, List.setIfInBounds_toArray, List.set_cons_zero, List.set_cons_succ]
              refine anyG_all (rs := [42]) (by kernel_rfl) (by simp) (List.forall_mem_singleton.2 ?_)
              refine wpOp_step rfl (fun K' hK => ?_)
              have HK := Lib.hid hK
              clear hK
              rw [if_pos (by rfl)]
              go_simp
              refine Calls.mono (works_any _ ((HV2'.out.below HW31.out).below hS) ((HT2'.out.below HW31.out).below hS)) ?_
              rintro e w42 ⟨rfl, hb⟩
              have hS2 := hS.trans (hb.mono hS.size)
              clear hS
              have hS := hS2
              clear hS2
              clear hb
              go_wp2_with fail
              refine HK.out _ _ ⟨fun _ => hS, ?_⟩
              clear HK
              try simp only [Act.put, List.setIfInBounds_toArray, List.set_cons_zero, List.set_cons_succ]
              refine anyG_take2 (i := 43) (dd := 219) (v := ?_) rfl rfl (by kernel_rfl) (by kernel_rfl) (by kernel_rfl) (by kernel_rfl) (by kernel_rfl) (fun _ _ _ h => h) (Or.inl ⟨by rfl, ?_⟩) hS (by kernel_rfl) ?_
              rotate_left
              · (intro w' hSw; (try dsimp only at hSw); go_simp; (try with_reducible rfl))
              try simp only [Act.put, List.setIfInBounds_toArray, List.set_cons_zero, List.set_cons_succ]
              refine anyG_all (rs := [44]) (by kernel_rfl) (by simp) (List.forall_mem_singleton.2 ?_)
              refine wpOp_step rfl (fun K' hK => ?_)
              have HK := Lib.hid hK
              clear hK
              rw [if_pos (by rfl)]
              go_simp
              refine HK.out _ _ ⟨fun h => absurd rfl h, anyG_done (by kernel_rfl) ?_⟩
              clear HK
              refine NoPanic.normal ?_
              go_wp2_with fail
              go_ret
              exact ⟨rfl, HBC.out.trans ((HW31.out.trans (hS.mono HW31.out.size)).mono HBC.out.size)⟩
  
  · by_cases h0 : de = 0
    · subst h0
      by_cases h1 : 0 ≤ after
      · have hx1 : decide (after < 0) = false := decide_eq_false (by omega)
        have hx2 : decide (age < 0) = true := decide_eq_true (by omega)
        clear hok
        go_wp2_with fail
        refine (works_any w1 HV1.out HT1.out).mono ?_
        rintro e w2 ⟨rfl, hb2⟩
        have HB2 := Lib.hid (HB1.out.trans (hb2.mono HB1.out.size)); clear hb2
        go_wp2_with fail
        go_ret
        exact ⟨rfl, HB2.out⟩
      · have hx1 : decide (after < 0) = true := decide_eq_true (by omega)
        clear hok
        go_wp2_with fail
        refine (works_any w1 HV1.out HT1.out).mono ?_
        rintro e w2 ⟨rfl, hb2⟩
        have HB2 := Lib.hid (HB1.out.trans (hb2.mono HB1.out.size)); clear hb2
        go_wp2_with fail
        go_ret
        exact ⟨rfl, HB2.out⟩
    · have hx0 : (de == 0) = false := beq_false_of_ne h0
      clear hok
      go_wp2_with fail
      refine (works_any w1 HV1.out HT1.out).mono ?_
      rintro e w2 ⟨rfl, hb2⟩
      have HB2 := Lib.hid (HB1.out.trans (hb2.mono HB1.out.size)); clear hb2
      go_wp2_with fail
      go_ret
      exact ⟨rfl, HB2.out⟩
end Go.Proofs.YtbiioifpeebjaaaGreatDoor
