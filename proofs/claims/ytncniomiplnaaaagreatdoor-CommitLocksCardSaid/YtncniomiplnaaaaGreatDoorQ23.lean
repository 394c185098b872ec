/- The lock of a payment that is offered. · The lock of a payment that is taken. -/
import Derived.Test.YtncniomiplnaaaaGreatDoorQ22
import Derived.Test.YtncniomiplnaaaaGreatDoorQ18
namespace Go.Proofs.YtncniomiplnaaaaGreatDoor
open Go.RowKit

set_option maxRecDepth 100000 in
set_option maxHeartbeats 16000000 in
theorem htlc_mine (d : DealR) (k : KeysR) (hid amt : Int) (hash : ByteArray) (exp : Int) (w : World) : Calls Tryz.prog 27 #[dealV d, keysV k, .agg #[.bool true, .int .i64 hid, .int .i64 amt, .string hash, .int .i64 exp]] w fun e w' => ∃ v, e = .returned v ∧ LockV w' (htlcL d.delay k true hash exp) v ∧ Below w.heap.size w w' := by
  unfold dealV keysV
  have HB := Lib.hid (((((Below.refl w.heap.size w).alloc (Nat.le_refl _) (.cells #[.int .i64 d.cap, .int .i64 d.push, .int .i64 d.dust, .int .i64 d.res, .int .i64 d.rate, .int .i64 d.delay, .int .i64 d.maxH, .int .i64 d.flight, .int .i64 d.minH] 23)).alloc (by simp) (.cells #[.string k.rev, .string k.later, .string k.mine, .string k.theirs, .string k.pay] 40)).alloc (by simp; try omega) (.cells #[.bool true, .int .i64 hid, .int .i64 amt, .string hash, .int .i64 exp] 26)).alloc (by simp; try omega) (.cells #[.int .u8 0, .string ⟨#[]⟩, .int .i64 0, .slice none 0 0] 55))
  have HZ := Lib.hid (show LBox ((((w.alloc (.cells #[.int .i64 d.cap, .int .i64 d.push, .int .i64 d.dust, .int .i64 d.res, .int .i64 d.rate, .int .i64 d.delay, .int .i64 d.maxH, .int .i64 d.flight, .int .i64 d.minH] 23)).alloc (.cells #[.string k.rev, .string k.later, .string k.mine, .string k.theirs, .string k.pay] 40)).alloc (.cells #[.bool true, .int .i64 hid, .int .i64 amt, .string hash, .int .i64 exp] 26)).alloc (.cells #[.int .u8 0, .string ⟨#[]⟩, .int .i64 0, .slice none 0 0] 55)) (w.heap.size + 1 + 1 + 1) 0 ⟨#[]⟩ 0 (.slice none 0 0) from allocs_at [(.cells #[.int .i64 d.cap, .int .i64 d.push, .int .i64 d.dust, .int .i64 d.res, .int .i64 d.rate, .int .i64 d.delay, .int .i64 d.maxH, .int .i64 d.flight, .int .i64 d.minH] 23), (.cells #[.string k.rev, .string k.later, .string k.mine, .string k.theirs, .string k.pay] 40), (.cells #[.bool true, .int .i64 hid, .int .i64 amt, .string hash, .int .i64 exp] 26), (.cells #[.int .u8 0, .string ⟨#[]⟩, .int .i64 0, .slice none 0 0] 55)] w 3 _ rfl)
  have HD := Lib.hid (show ((((w.alloc (.cells #[.int .i64 d.cap, .int .i64 d.push, .int .i64 d.dust, .int .i64 d.res, .int .i64 d.rate, .int .i64 d.delay, .int .i64 d.maxH, .int .i64 d.flight, .int .i64 d.minH] 23)).alloc (.cells #[.string k.rev, .string k.later, .string k.mine, .string k.theirs, .string k.pay] 40)).alloc (.cells #[.bool true, .int .i64 hid, .int .i64 amt, .string hash, .int .i64 exp] 26)).alloc (.cells #[.int .u8 0, .string ⟨#[]⟩, .int .i64 0, .slice none 0 0] 55)).cell? ⟨w.heap.size, 5, none⟩ = some (.int .i64 d.delay) from cell_of (j := 5) (allocs_at [(.cells #[.int .i64 d.cap, .int .i64 d.push, .int .i64 d.dust, .int .i64 d.res, .int .i64 d.rate, .int .i64 d.delay, .int .i64 d.maxH, .int .i64 d.flight, .int .i64 d.minH] 23), (.cells #[.string k.rev, .string k.later, .string k.mine, .string k.theirs, .string k.pay] 40), (.cells #[.bool true, .int .i64 hid, .int .i64 amt, .string hash, .int .i64 exp] 26), (.cells #[.int .u8 0, .string ⟨#[]⟩, .int .i64 0, .slice none 0 0] 55)] w 0 _ rfl) rfl)
  have HK0 := Lib.hid (show ((((w.alloc (.cells #[.int .i64 d.cap, .int .i64 d.push, .int .i64 d.dust, .int .i64 d.res, .int .i64 d.rate, .int .i64 d.delay, .int .i64 d.maxH, .int .i64 d.flight, .int .i64 d.minH] 23)).alloc (.cells #[.string k.rev, .string k.later, .string k.mine, .string k.theirs, .string k.pay] 40)).alloc (.cells #[.bool true, .int .i64 hid, .int .i64 amt, .string hash, .int .i64 exp] 26)).alloc (.cells #[.int .u8 0, .string ⟨#[]⟩, .int .i64 0, .slice none 0 0] 55)).cell? ⟨w.heap.size + 1, 0, none⟩ = some (.string k.rev) from cell_of (j := 0) (allocs_at [(.cells #[.int .i64 d.cap, .int .i64 d.push, .int .i64 d.dust, .int .i64 d.res, .int .i64 d.rate, .int .i64 d.delay, .int .i64 d.maxH, .int .i64 d.flight, .int .i64 d.minH] 23), (.cells #[.string k.rev, .string k.later, .string k.mine, .string k.theirs, .string k.pay] 40), (.cells #[.bool true, .int .i64 hid, .int .i64 amt, .string hash, .int .i64 exp] 26), (.cells #[.int .u8 0, .string ⟨#[]⟩, .int .i64 0, .slice none 0 0] 55)] w 1 _ rfl) rfl)
  have HK2 := Lib.hid (show ((((w.alloc (.cells #[.int .i64 d.cap, .int .i64 d.push, .int .i64 d.dust, .int .i64 d.res, .int .i64 d.rate, .int .i64 d.delay, .int .i64 d.maxH, .int .i64 d.flight, .int .i64 d.minH] 23)).alloc (.cells #[.string k.rev, .string k.later, .string k.mine, .string k.theirs, .string k.pay] 40)).alloc (.cells #[.bool true, .int .i64 hid, .int .i64 amt, .string hash, .int .i64 exp] 26)).alloc (.cells #[.int .u8 0, .string ⟨#[]⟩, .int .i64 0, .slice none 0 0] 55)).cell? ⟨w.heap.size + 1, 2, none⟩ = some (.string k.mine) from cell_of (j := 2) (allocs_at [(.cells #[.int .i64 d.cap, .int .i64 d.push, .int .i64 d.dust, .int .i64 d.res, .int .i64 d.rate, .int .i64 d.delay, .int .i64 d.maxH, .int .i64 d.flight, .int .i64 d.minH] 23), (.cells #[.string k.rev, .string k.later, .string k.mine, .string k.theirs, .string k.pay] 40), (.cells #[.bool true, .int .i64 hid, .int .i64 amt, .string hash, .int .i64 exp] 26), (.cells #[.int .u8 0, .string ⟨#[]⟩, .int .i64 0, .slice none 0 0] 55)] w 1 _ rfl) rfl)
  have HK3 := Lib.hid (show ((((w.alloc (.cells #[.int .i64 d.cap, .int .i64 d.push, .int .i64 d.dust, .int .i64 d.res, .int .i64 d.rate, .int .i64 d.delay, .int .i64 d.maxH, .int .i64 d.flight, .int .i64 d.minH] 23)).alloc (.cells #[.string k.rev, .string k.later, .string k.mine, .string k.theirs, .string k.pay] 40)).alloc (.cells #[.bool true, .int .i64 hid, .int .i64 amt, .string hash, .int .i64 exp] 26)).alloc (.cells #[.int .u8 0, .string ⟨#[]⟩, .int .i64 0, .slice none 0 0] 55)).cell? ⟨w.heap.size + 1, 3, none⟩ = some (.string k.theirs) from cell_of (j := 3) (allocs_at [(.cells #[.int .i64 d.cap, .int .i64 d.push, .int .i64 d.dust, .int .i64 d.res, .int .i64 d.rate, .int .i64 d.delay, .int .i64 d.maxH, .int .i64 d.flight, .int .i64 d.minH] 23), (.cells #[.string k.rev, .string k.later, .string k.mine, .string k.theirs, .string k.pay] 40), (.cells #[.bool true, .int .i64 hid, .int .i64 amt, .string hash, .int .i64 exp] 26), (.cells #[.int .u8 0, .string ⟨#[]⟩, .int .i64 0, .slice none 0 0] 55)] w 1 _ rfl) rfl)
  have HH0 := Lib.hid (show ((((w.alloc (.cells #[.int .i64 d.cap, .int .i64 d.push, .int .i64 d.dust, .int .i64 d.res, .int .i64 d.rate, .int .i64 d.delay, .int .i64 d.maxH, .int .i64 d.flight, .int .i64 d.minH] 23)).alloc (.cells #[.string k.rev, .string k.later, .string k.mine, .string k.theirs, .string k.pay] 40)).alloc (.cells #[.bool true, .int .i64 hid, .int .i64 amt, .string hash, .int .i64 exp] 26)).alloc (.cells #[.int .u8 0, .string ⟨#[]⟩, .int .i64 0, .slice none 0 0] 55)).cell? ⟨w.heap.size + 1 + 1, 0, none⟩ = some (.bool true) from cell_of (j := 0) (allocs_at [(.cells #[.int .i64 d.cap, .int .i64 d.push, .int .i64 d.dust, .int .i64 d.res, .int .i64 d.rate, .int .i64 d.delay, .int .i64 d.maxH, .int .i64 d.flight, .int .i64 d.minH] 23), (.cells #[.string k.rev, .string k.later, .string k.mine, .string k.theirs, .string k.pay] 40), (.cells #[.bool true, .int .i64 hid, .int .i64 amt, .string hash, .int .i64 exp] 26), (.cells #[.int .u8 0, .string ⟨#[]⟩, .int .i64 0, .slice none 0 0] 55)] w 2 _ rfl) rfl)
  have HH3 := Lib.hid (show ((((w.alloc (.cells #[.int .i64 d.cap, .int .i64 d.push, .int .i64 d.dust, .int .i64 d.res, .int .i64 d.rate, .int .i64 d.delay, .int .i64 d.maxH, .int .i64 d.flight, .int .i64 d.minH] 23)).alloc (.cells #[.string k.rev, .string k.later, .string k.mine, .string k.theirs, .string k.pay] 40)).alloc (.cells #[.bool true, .int .i64 hid, .int .i64 amt, .string hash, .int .i64 exp] 26)).alloc (.cells #[.int .u8 0, .string ⟨#[]⟩, .int .i64 0, .slice none 0 0] 55)).cell? ⟨w.heap.size + 1 + 1, 3, none⟩ = some (.string hash) from cell_of (j := 3) (allocs_at [(.cells #[.int .i64 d.cap, .int .i64 d.push, .int .i64 d.dust, .int .i64 d.res, .int .i64 d.rate, .int .i64 d.delay, .int .i64 d.maxH, .int .i64 d.flight, .int .i64 d.minH] 23), (.cells #[.string k.rev, .string k.later, .string k.mine, .string k.theirs, .string k.pay] 40), (.cells #[.bool true, .int .i64 hid, .int .i64 amt, .string hash, .int .i64 exp] 26), (.cells #[.int .u8 0, .string ⟨#[]⟩, .int .i64 0, .slice none 0 0] 55)] w 2 _ rfl) rfl)
  have HH4 := Lib.hid (show ((((w.alloc (.cells #[.int .i64 d.cap, .int .i64 d.push, .int .i64 d.dust, .int .i64 d.res, .int .i64 d.rate, .int .i64 d.delay, .int .i64 d.maxH, .int .i64 d.flight, .int .i64 d.minH] 23)).alloc (.cells #[.string k.rev, .string k.later, .string k.mine, .string k.theirs, .string k.pay] 40)).alloc (.cells #[.bool true, .int .i64 hid, .int .i64 amt, .string hash, .int .i64 exp] 26)).alloc (.cells #[.int .u8 0, .string ⟨#[]⟩, .int .i64 0, .slice none 0 0] 55)).cell? ⟨w.heap.size + 1 + 1, 4, none⟩ = some (.int .i64 exp) from cell_of (j := 4) (allocs_at [(.cells #[.int .i64 d.cap, .int .i64 d.push, .int .i64 d.dust, .int .i64 d.res, .int .i64 d.rate, .int .i64 d.delay, .int .i64 d.maxH, .int .i64 d.flight, .int .i64 d.minH] 23), (.cells #[.string k.rev, .string k.later, .string k.mine, .string k.theirs, .string k.pay] 40), (.cells #[.bool true, .int .i64 hid, .int .i64 amt, .string hash, .int .i64 exp] 26), (.cells #[.int .u8 0, .string ⟨#[]⟩, .int .i64 0, .slice none 0 0] 55)] w 2 _ rfl) rfl)
  have SS := Lib.hid (fun t W => show Calls Tryz.prog _ _ W (fun e w' => e = .returned (.agg #[.int .u8 1, .string t, .int .i64 0, .slice none 0 0]) ∧ Below W.heap.size W w') from sig_any t W)
  have SP := Lib.hid (fun t W => show Calls Tryz.prog _ _ W (fun e w' => e = .returned (.agg #[.int .u8 2, .string t, .int .i64 0, .slice none 0 0]) ∧ Below W.heap.size W w') from pre_any t W)
  have SA := Lib.hid (fun n W => show Calls Tryz.prog _ _ W (fun e w' => e = .returned (.agg #[.int .u8 3, .string ⟨#[]⟩, .int .i64 n, .slice none 0 0]) ∧ Below W.heap.size W w') from after_any n W)
  have SO := Lib.hid (fun n W => show Calls Tryz.prog _ _ W (fun e w' => e = .returned (.agg #[.int .u8 4, .string ⟨#[]⟩, .int .i64 n, .slice none 0 0]) ∧ Below W.heap.size W w') from older_any n W)
  go_enter Tryz.func27, Tryz.ntmps27
  go_upto_region 1 with fail
  generalize ((((w.alloc (.cells #[.int .i64 d.cap, .int .i64 d.push, .int .i64 d.dust, .int .i64 d.res, .int .i64 d.rate, .int .i64 d.delay, .int .i64 d.maxH, .int .i64 d.flight, .int .i64 d.minH] 23)).alloc (.cells #[.string k.rev, .string k.later, .string k.mine, .string k.theirs, .string k.pay] 40)).alloc (.cells #[.bool true, .int .i64 hid, .int .i64 amt, .string hash, .int .i64 exp] 26)).alloc (.cells #[.int .u8 0, .string ⟨#[]⟩, .int .i64 0, .slice none 0 0] 55)) = W at HB HZ HD HK0 HK2 HK3 HH0 HH3 HH4 ⊢
  refine wp_region_noPanic ?_
  refine wp_region_any (by kernel_rfl) ?_
  have hS : Below W.heap.size W W.drew := (Below.refl _ _).drew
  change wpAny _ _ _ _ 10 (Array.replicate 10 false) _ W.drew
  refine float_all (F := [(6, 7), (7, 8)]) (o := (.cells #[.int .u8 0, .string ⟨#[]⟩, .int .i64 0, .slice none 0 0] 55)) (base := W.heap.size) (g := 2) (f := 6) (stop := #[true, true, true, true, true, true, true, true, false, false]) (R := fun a u => a = (⟨#[.agg #[.int .i64 d.cap, .int .i64 d.push, .int .i64 d.dust, .int .i64 d.res, .int .i64 d.rate, .int .i64 d.delay, .int .i64 d.maxH, .int .i64 d.flight, .int .i64 d.minH], .agg #[.string k.rev, .string k.later, .string k.mine, .string k.theirs, .string k.pay], .agg #[.bool true, .int .i64 hid, .int .i64 amt, .string hash, .int .i64 exp], .pointer (some ⟨w.heap.size, 0, none⟩), .pointer (some ⟨w.heap.size + 1, 0, none⟩), .pointer (some ⟨w.heap.size + 1 + 1, 0, none⟩), .pointer (some ⟨w.heap.size + 1 + 1 + 1, 0, none⟩), undef, undef, undef, undef, .pointer (some ⟨w.heap.size + 1 + 1, 3, none⟩), .string hash, .agg #[.int .u8 2, .string hash, .int .i64 0, .slice none 0 0], .pointer (some ⟨w.heap.size + 1 + 1, 4, none⟩), .int .i64 exp, .agg #[.int .u8 3, .string ⟨#[]⟩, .int .i64 exp, .slice none 0 0], undef, undef, undef, undef, undef, undef, undef, undef, undef, undef, undef, undef, undef, undef, undef, undef, undef, undef, undef, undef, undef, undef, undef, undef, undef, undef, undef, undef, undef, undef, undef, undef, undef, undef, undef, undef, undef, undef, undef, undef], []⟩ : Act) ∧ Below W.heap.size W u) rfl (by kernel_rfl) (by kernel_rfl) (by decide) (by decide) (by kernel_rfl) (fun _ _ _ _ _ h => h) ?hal ?hfin hS.size ?chain
  case hal =>
    intro p hp K a w hK
    simp only [List.mem_cons, List.not_mem_nil, or_false] at hp
    rcases hp with rfl | rfl
    all_goals
      refine wpOp_step rfl (fun K' hK' => ?_)
      rw [if_pos (by simp [Region.wanted])]
      go_simp
      exact hK' _ _ hK
  case chain =>
    refine anyB_take (S := fun U => Below W.heap.size W U) (i := 0) (v := ?_) (fun _ _ h hb => below_step h hb) rfl (by kernel_rfl) (by kernel_rfl) (by kernel_rfl) (by kernel_rfl) (by kernel_rfl) (by kernel_rfl) (fun _ _ _ h => h) (Or.inl ⟨by rfl, ?_⟩) hS ?_
    rotate_left
    · (intro w' hSw; (try dsimp only at hSw); go_simp; (try with_reducible rfl))
    try simp only [Act.put, List.setIfInBounds_toArray]
    refine anyB_take (S := fun U => Below W.heap.size W U) (i := 1) (v := ?_) (fun _ _ h hb => below_step h hb) rfl (by kernel_rfl) (by kernel_rfl) (by kernel_rfl) (by kernel_rfl) (by kernel_rfl) (by kernel_rfl) (fun _ _ _ h => h) (Or.inl ⟨by rfl, ?_⟩) hS ?_
    rotate_left
    · (intro w' hSw; have hc0 := cell_below hSw HH3.out; (try dsimp only at hSw); go_simp; (try with_reducible rfl))
    try simp only [Act.put]
    refine anyB_take (S := fun U => Below W.heap.size W U) (i := 3) (v := ?_) (fun _ _ h hb => below_step h hb) rfl (by kernel_rfl) (by kernel_rfl) (by kernel_rfl) (by kernel_rfl) (by kernel_rfl) (by kernel_rfl) (fun _ _ _ h => h) (Or.inl ⟨by rfl, ?_⟩) hS ?_
    rotate_left
    · (intro w' hSw; (try dsimp only at hSw); go_simp; (try with_reducible rfl))
    try simp only [Act.put]
    refine anyB_take (S := fun U => Below W.heap.size W U) (i := 4) (v := ?_) (fun _ _ h hb => below_step h hb) rfl (by kernel_rfl) (by kernel_rfl) (by kernel_rfl) (by kernel_rfl) (by kernel_rfl) (by kernel_rfl) (fun _ _ _ h => h) (Or.inl ⟨by rfl, ?_⟩) hS ?_
    rotate_left
    · (intro w' hSw; have hc0 := cell_below hSw HH4.out; (try dsimp only at hSw); go_simp; (try with_reducible rfl))
    try simp only [Act.put]
    refine anyB_one (k := 2) (by kernel_rfl) (by kernel_rfl) (by kernel_rfl) (fun g1_W hg => ?_)
    have hS := below_step hS hg
    refine wpOp_step rfl (fun K' hK => ?_)
    have HK := Lib.hid hK
    clear hK
    rw [if_pos (by rfl)]
    go_simp
    refine Calls.mono ((Lib.hid (SP.out hash)).out _) ?_
    rintro e w1_W ⟨rfl, hb⟩
    have hS := below_step hS hb
    have HB := Lib.hid hb
    clear hb hg
    go_wp2_with fail
    refine HK.out _ _ ⟨HB.out, ?_⟩
    clear HK HB
    try simp only [Act.put, List.setIfInBounds_toArray, List.set_cons_zero, List.set_cons_succ]
    refine anyB_one (k := 5) (by kernel_rfl) (by kernel_rfl) (by kernel_rfl) (fun g2_W hg => ?_)
    have hS := below_step hS hg
    refine wpOp_step rfl (fun K' hK => ?_)
    have HK := Lib.hid hK
    clear hK
    rw [if_pos (by rfl)]
    go_simp
    refine Calls.mono ((Lib.hid (SA.out exp)).out _) ?_
    rintro e w2_W ⟨rfl, hb⟩
    have hS := below_step hS hb
    have HB := Lib.hid hb
    clear hb hg
    go_wp2_with fail
    refine HK.out _ _ ⟨HB.out, ?_⟩
    clear HK HB
    try simp only [Act.put, List.setIfInBounds_toArray, List.set_cons_zero, List.set_cons_succ]
    exact anyB_stop (by kernel_rfl) (fun u hu => ⟨rfl, below_step hS hu⟩)
  case hfin =>
    rintro a u bs hl ⟨rfl, hS⟩ hbx hnd
    obtain ⟨x0, x1, rfl⟩ : ∃ x0 x1, bs = [x0, x1] := by
      match bs, hl with
      | [x0, x1], _ => exact ⟨_, _, rfl⟩
    obtain ⟨hb0, hz0⟩ := hbx x0 (by simp)
    replace hz0 : LBox u x0 0 ⟨#[]⟩ 0 (.slice none 0 0) := hz0
    obtain ⟨hb1, hz1⟩ := hbx x1 (by simp)
    replace hz1 : LBox u x1 0 ⟨#[]⟩ 0 (.slice none 0 0) := hz1
    change wpAny _ _ _ _ 2 #[true, true, true, true, true, true, true, true, false, false] (⟨#[.agg #[.int .i64 d.cap, .int .i64 d.push, .int .i64 d.dust, .int .i64 d.res, .int .i64 d.rate, .int .i64 d.delay, .int .i64 d.maxH, .int .i64 d.flight, .int .i64 d.minH], .agg #[.string k.rev, .string k.later, .string k.mine, .string k.theirs, .string k.pay], .agg #[.bool true, .int .i64 hid, .int .i64 amt, .string hash, .int .i64 exp], .pointer (some ⟨w.heap.size, 0, none⟩), .pointer (some ⟨w.heap.size + 1, 0, none⟩), .pointer (some ⟨w.heap.size + 1 + 1, 0, none⟩), .pointer (some ⟨w.heap.size + 1 + 1 + 1, 0, none⟩), .pointer (some ⟨x0, 0, none⟩), .pointer (some ⟨x1, 0, none⟩), undef, undef, .pointer (some ⟨w.heap.size + 1 + 1, 3, none⟩), .string hash, .agg #[.int .u8 2, .string hash, .int .i64 0, .slice none 0 0], .pointer (some ⟨w.heap.size + 1 + 1, 4, none⟩), .int .i64 exp, .agg #[.int .u8 3, .string ⟨#[]⟩, .int .i64 exp, .slice none 0 0], undef, undef, undef, undef, undef, undef, undef, undef, undef, undef, undef, undef, undef, undef, undef, undef, undef, undef, undef, undef, undef, undef, undef, undef, undef, undef, undef, undef, undef, undef, undef, undef, undef, undef, undef, undef, undef, undef, undef, undef], []⟩ : Act) u
    have hne : x0 ≠ x1 := by simpa using hnd
    refine wpAny_one (k := 8) (by kernel_rfl) ?_
    refine wpOp_step rfl (fun K' hK => ?_)
    have HK := Lib.hid hK
    clear hK
    rw [if_pos (by rfl)]
    obtain ⟨p0, p1, p2, p3, pf⟩ := hz0.cells
    go_simp
    refine HK.out _ (putL u x0 (.int .u8 2) (.string hash) (.int .i64 0) (.slice none 0 0)) ?_
    clear HK p0 p1 p2 p3 pf
    have hA0 := hz0.put 2 hash 0 (.slice none 0 0)
    have hF0 := putL_fr u x0 (.int .u8 2) (.string hash) (.int .i64 0) (.slice none 0 0) (F := [x0]) (List.mem_singleton.2 rfl)
    generalize (putL u x0 (.int .u8 2) (.string hash) (.int .i64 0) (.slice none 0 0)) = U1 at hA0 hF0 ⊢
    try simp only [List.setIfInBounds_toArray, List.set_cons_zero, List.set_cons_succ]
    have hz1b := hz1.fr hF0 (by simpa using Ne.symm hne)
    refine wpAny_one (k := 9) (by kernel_rfl) ?_
    refine wpOp_step rfl (fun K' hK => ?_)
    have HK := Lib.hid hK
    clear hK
    rw [if_pos (by rfl)]
    obtain ⟨p0, p1, p2, p3, pf⟩ := hz1b.cells
    go_simp
    refine HK.out _ (putL U1 x1 (.int .u8 3) (.string ⟨#[]⟩) (.int .i64 exp) (.slice none 0 0)) ?_
    clear HK p0 p1 p2 p3 pf
    have hA1 := hz1b.put 3 ⟨#[]⟩ exp (.slice none 0 0)
    have hF1 := putL_fr U1 x1 (.int .u8 3) (.string ⟨#[]⟩) (.int .i64 exp) (.slice none 0 0) (F := [x1]) (List.mem_singleton.2 rfl)
    generalize (putL U1 x1 (.int .u8 3) (.string ⟨#[]⟩) (.int .i64 exp) (.slice none 0 0)) = V at hA1 hF1 ⊢
    try simp only [List.setIfInBounds_toArray, List.set_cons_zero, List.set_cons_succ]
    refine wpAny_end (by kernel_rfl) ?_
    refine NoPanic.normal ?_
    have hWU : Below W.heap.size W U1 := hS.trans (hF0.toBelowOf hS.size (fun i hi => by rw [List.mem_singleton.1 hi]; exact hb0))
    have hWV : Below W.heap.size W V := hWU.trans (hF1.toBelowOf hWU.size (fun i hi => by rw [List.mem_singleton.1 hi]; exact hb1))
    have HWV := Lib.hid hWV
    have HZV := Lib.hid (HZ.out.below hWV)
    have HP := Lib.hid (hA0.fr hF1 (by simpa using hne))
    have HA := Lib.hid hA1
    have VD := Lib.hid (cell_below hWV HD.out)
    have VK0 := Lib.hid (cell_below hWV HK0.out)
    have VK2 := Lib.hid (cell_below hWV HK2.out)
    have VK3 := Lib.hid (cell_below hWV HK3.out)
    have VH0 := Lib.hid (cell_below hWV HH0.out)
    have HX := Lib.hid (And.intro hne (And.intro (hA0.lt) (And.intro hA1.lt (And.intro hb0 hb1))))
    have HU1 := Lib.hid (show U1.heap.size ≤ V.heap.size from hF1.size)
    clear hz0 hz1 hz1b hF0 hF1 hWU hWV hA0 hA1 hbx hnd hb0 hb1 hS hne
    go_upto_region 2 with fail
    refine wp_region_noPanic ?_
    refine wp_region_any (by kernel_rfl) ?_
    have hS : Below V.heap.size V V.drew := (Below.refl _ _).drew
    change wpAny _ _ _ _ 19 (Array.replicate 19 false) _ V.drew
    refine float_all (F := [(15, 9), (16, 10)]) (o := (.cells #[.int .u8 0, .string ⟨#[]⟩, .int .i64 0, .slice none 0 0] 55)) (base := V.heap.size) (g := 2) (f := 15) (stop := #[true, true, true, true, true, true, true, true, true, true, true, true, true, true, true, true, true, false, false]) (R := fun a u => ∃ (R1 R2 Ap Aq : Option Addr) (cp cq : Nat), a = (⟨#[.agg #[.int .i64 d.cap, .int .i64 d.push, .int .i64 d.dust, .int .i64 d.res, .int .i64 d.rate, .int .i64 d.delay, .int .i64 d.maxH, .int .i64 d.flight, .int .i64 d.minH], .agg #[.string k.rev, .string k.later, .string k.mine, .string k.theirs, .string k.pay], .agg #[.bool true, .int .i64 hid, .int .i64 amt, .string hash, .int .i64 exp], .pointer (some ⟨w.heap.size, 0, none⟩), .pointer (some ⟨w.heap.size + 1, 0, none⟩), .pointer (some ⟨w.heap.size + 1 + 1, 0, none⟩), .pointer (some ⟨w.heap.size + 1 + 1 + 1, 0, none⟩), .pointer (some ⟨x0, 0, none⟩), .pointer (some ⟨x1, 0, none⟩), undef, undef, .pointer (some ⟨w.heap.size + 1 + 1, 3, none⟩), .string hash, .agg #[.int .u8 2, .string hash, .int .i64 0, .slice none 0 0], .pointer (some ⟨w.heap.size + 1 + 1, 4, none⟩), .int .i64 exp, .agg #[.int .u8 3, .string ⟨#[]⟩, .int .i64 exp, .slice none 0 0], .pointer (some ⟨w.heap.size + 1, 3, none⟩), .string k.theirs, .agg #[.int .u8 1, .string k.theirs, .int .i64 0, .slice none 0 0], .agg #[.int .u8 2, .string hash, .int .i64 0, .slice none 0 0], .slice R1 2 2, .agg #[.int .u8 5, .string ⟨#[]⟩, .int .i64 0, .slice Ap 2 cp], .agg #[.int .u8 3, .string ⟨#[]⟩, .int .i64 exp, .slice none 0 0], .pointer (some ⟨w.heap.size, 5, none⟩), .int .i64 d.delay, .agg #[.int .u8 4, .string ⟨#[]⟩, .int .i64 d.delay, .slice none 0 0], .pointer (some ⟨w.heap.size + 1, 2, none⟩), .string k.mine, .agg #[.int .u8 1, .string k.mine, .int .i64 0, .slice none 0 0], .slice R2 3 3, .agg #[.int .u8 5, .string ⟨#[]⟩, .int .i64 0, .slice Aq 3 cq], undef, undef, undef, undef, undef, undef, undef, undef, undef, undef, undef, undef, undef, undef, undef, undef, undef, undef, undef, undef, undef, undef, undef, undef, undef], []⟩ : Act) ∧ LockH u (allL [sigL k.theirs, preL hash]) [.int .u8 5, .string ⟨#[]⟩, .int .i64 0, .slice Ap 2 cp] ∧ LockH u (allL [afterL exp, olderL d.delay, sigL k.mine]) [.int .u8 5, .string ⟨#[]⟩, .int .i64 0, .slice Aq 3 cq] ∧ Below V.heap.size V u) rfl (by kernel_rfl) (by kernel_rfl) (by decide) (by decide) (by kernel_rfl) (fun _ _ _ _ _ h => h) ?hal ?hfin hS.size ?chain
    case hal =>
      intro p hp K a w hK
      simp only [List.mem_cons, List.not_mem_nil, or_false] at hp
      rcases hp with rfl | rfl
      all_goals
        refine wpOp_step rfl (fun K' hK' => ?_)
        rw [if_pos (by simp [Region.wanted])]
        go_simp
        exact hK' _ _ hK
    case chain =>
      refine anyB_take (S := fun U => Below V.heap.size V U) (i := 0) (v := ?_) (fun _ _ h hb => below_step h hb) rfl (by kernel_rfl) (by kernel_rfl) (by kernel_rfl) (by kernel_rfl) (by kernel_rfl) (by kernel_rfl) (fun _ _ _ h => h) (Or.inl ⟨by rfl, ?_⟩) hS ?_
      rotate_left
      · (intro w' hSw; (try dsimp only at hSw); go_simp; (try with_reducible rfl))
      try simp only [Act.put, List.setIfInBounds_toArray]
      refine anyB_take (S := fun U => Below V.heap.size V U) (i := 1) (v := ?_) (fun _ _ h hb => below_step h hb) rfl (by kernel_rfl) (by kernel_rfl) (by kernel_rfl) (by kernel_rfl) (by kernel_rfl) (by kernel_rfl) (fun _ _ _ h => h) (Or.inl ⟨by rfl, ?_⟩) hS ?_
      rotate_left
      · (intro w' hSw; have hc0 := cell_below hSw VK3.out; (try dsimp only at hSw); go_simp; (try with_reducible rfl))
      try simp only [Act.put]
      refine anyB_take (S := fun U => Below V.heap.size V U) (i := 3) (v := ?_) (fun _ _ h hb => below_step h hb) rfl (by kernel_rfl) (by kernel_rfl) (by kernel_rfl) (by kernel_rfl) (by kernel_rfl) (by kernel_rfl) (fun _ _ _ h => h) (Or.inl ⟨by rfl, ?_⟩) hS ?_
      rotate_left
      · (intro w' hSw; have hc0 := cell_below hSw HP.out.cells.1; have hc1 := cell_below hSw HP.out.cells.2.1; have hc2 := cell_below hSw HP.out.cells.2.2.1; have hc3 := cell_below hSw HP.out.cells.2.2.2.1; (try dsimp only at hSw); go_simp; (try with_reducible rfl))
      try simp only [Act.put]
      refine anyB_take (S := fun U => Below V.heap.size V U) (i := 6) (v := ?_) (fun _ _ h hb => below_step h hb) rfl (by kernel_rfl) (by kernel_rfl) (by kernel_rfl) (by kernel_rfl) (by kernel_rfl) (by kernel_rfl) (fun _ _ _ h => h) (Or.inl ⟨by rfl, ?_⟩) hS ?_
      rotate_left
      · (intro w' hSw; have hc0 := cell_below hSw HA.out.cells.1; have hc1 := cell_below hSw HA.out.cells.2.1; have hc2 := cell_below hSw HA.out.cells.2.2.1; have hc3 := cell_below hSw HA.out.cells.2.2.2.1; (try dsimp only at hSw); go_simp; (try with_reducible rfl))
      try simp only [Act.put]
      refine anyB_take (S := fun U => Below V.heap.size V U) (i := 7) (v := ?_) (fun _ _ h hb => below_step h hb) rfl (by kernel_rfl) (by kernel_rfl) (by kernel_rfl) (by kernel_rfl) (by kernel_rfl) (by kernel_rfl) (fun _ _ _ h => h) (Or.inl ⟨by rfl, ?_⟩) hS ?_
      rotate_left
      · (intro w' hSw; (try dsimp only at hSw); go_simp; (try with_reducible rfl))
      try simp only [Act.put]
      refine anyB_take (S := fun U => Below V.heap.size V U) (i := 8) (v := ?_) (fun _ _ h hb => below_step h hb) rfl (by kernel_rfl) (by kernel_rfl) (by kernel_rfl) (by kernel_rfl) (by kernel_rfl) (by kernel_rfl) (fun _ _ _ h => h) (Or.inl ⟨by rfl, ?_⟩) hS ?_
      rotate_left
      · (intro w' hSw; have hc0 := cell_below hSw VD.out; (try dsimp only at hSw); go_simp; (try with_reducible rfl))
      try simp only [Act.put]
      refine anyB_take (S := fun U => Below V.heap.size V U) (i := 10) (v := ?_) (fun _ _ h hb => below_step h hb) rfl (by kernel_rfl) (by kernel_rfl) (by kernel_rfl) (by kernel_rfl) (by kernel_rfl) (by kernel_rfl) (fun _ _ _ h => h) (Or.inl ⟨by rfl, ?_⟩) hS ?_
      rotate_left
      · (intro w' hSw; (try dsimp only at hSw); go_simp; (try with_reducible rfl))
      try simp only [Act.put]
      refine anyB_take (S := fun U => Below V.heap.size V U) (i := 11) (v := ?_) (fun _ _ h hb => below_step h hb) rfl (by kernel_rfl) (by kernel_rfl) (by kernel_rfl) (by kernel_rfl) (by kernel_rfl) (by kernel_rfl) (fun _ _ _ h => h) (Or.inl ⟨by rfl, ?_⟩) hS ?_
      rotate_left
      · (intro w' hSw; have hc0 := cell_below hSw VK2.out; (try dsimp only at hSw); go_simp; (try with_reducible rfl))
      try simp only [Act.put]
      refine anyB_one (k := 2) (by kernel_rfl) (by kernel_rfl) (by kernel_rfl) (fun g1_V hg => ?_)
      have hS := below_step hS hg
      refine wpOp_step rfl (fun K' hK => ?_)
      have HK := Lib.hid hK
      clear hK
      rw [if_pos (by rfl)]
      go_simp
      refine Calls.mono ((Lib.hid (SS.out k.theirs)).out _) ?_
      rintro e w1_V ⟨rfl, hb⟩
      have hS := below_step hS hb
      have HB := Lib.hid hb
      clear hb hg
      go_wp2_with fail
      refine HK.out _ _ ⟨HB.out, ?_⟩
      clear HK HB
      try simp only [Act.put, List.setIfInBounds_toArray, List.set_cons_zero, List.set_cons_succ]
      refine anyB_one (k := 4) (by kernel_rfl) (by kernel_rfl) (by kernel_rfl) (fun g2_V hg => ?_)
      have hS := below_step hS hg
      refine wpOp_step rfl (fun K' hK => ?_)
      have HK := Lib.hid hK
      clear hK
      rw [if_pos (by rfl)]
      go_simp
      have X2_V := Lib.hid (show LocksH (g2_V.alloc (.cells #[.int .u8 1, .string k.theirs, .int .i64 0, .slice none 0 0, .int .u8 2, .string hash, .int .i64 0, .slice none 0 0] 55)) (some ⟨g2_V.heap.size, 0, none⟩) [sigL k.theirs, preL hash] [.int .u8 1, .string k.theirs, .int .i64 0, .slice none 0 0, .int .u8 2, .string hash, .int .i64 0, .slice none 0 0] from rowH (cs := #[.int .u8 1, .string k.theirs, .int .i64 0, .slice none 0 0, .int .u8 2, .string hash, .int .i64 0, .slice none 0 0]) (by simp) (fun W hW => LocksC.cons (LockC.leaf 1 _ _) (LocksC.cons (LockC.leaf 2 _ _) LocksC.nil)))
      have hS := below_step hS ((Below.refl _ _).alloc (Nat.le_refl _) (.cells #[.int .u8 1, .string k.theirs, .int .i64 0, .slice none 0 0, .int .u8 2, .string hash, .int .i64 0, .slice none 0 0] 55))
      clear hg
      refine HK.out _ _ ⟨(Below.refl _ _).alloc (Nat.le_refl _) _, ?_⟩
      clear HK
      try simp only [Act.put, List.setIfInBounds_toArray, List.set_cons_zero, List.set_cons_succ]
      refine anyB_one (k := 5) (by kernel_rfl) (by kernel_rfl) (by kernel_rfl) (fun g3_V hg => ?_)
      have hS := below_step hS hg
      replace X2_V := Lib.hid (X2_V.out.mono (DepEq.below hg))
      refine wpOp_step rfl (fun K' hK => ?_)
      have HK := Lib.hid hK
      clear hK
      rw [if_pos (by rfl)]
      go_simp
      refine Calls.mono (all_n [sigL k.theirs, preL hash] 2 rfl ⟨g2_V.heap.size, 0, none⟩ 2 _ (by simp) (by simp) X2_V.out) ?_
      rintro e w3_V ⟨Ap, cp, rfl, hl, hb⟩
      have hS := below_step hS hb
      have HB := Lib.hid hb
      have Lp := Lib.hid hl
      clear hb hg hl X2_V
      go_wp2_with fail
      refine HK.out _ _ ⟨HB.out, ?_⟩
      clear HK HB
      try simp only [Act.put, List.setIfInBounds_toArray, List.set_cons_zero, List.set_cons_succ]
      refine anyB_one (k := 9) (by kernel_rfl) (by kernel_rfl) (by kernel_rfl) (fun g4_V hg => ?_)
      have hS := below_step hS hg
      replace Lp := Lib.hid (Lp.out.mono (DepEq.below hg))
      refine wpOp_step rfl (fun K' hK => ?_)
      have HK := Lib.hid hK
      clear hK
      rw [if_pos (by rfl)]
      go_simp
      refine Calls.mono ((Lib.hid (SO.out d.delay)).out _) ?_
      rintro e w4_V ⟨rfl, hb⟩
      have hS := below_step hS hb
      replace Lp := Lib.hid (Lp.out.mono (DepEq.below hb))
      have HB := Lib.hid hb
      clear hb hg
      go_wp2_with fail
      refine HK.out _ _ ⟨HB.out, ?_⟩
      clear HK HB
      try simp only [Act.put, List.setIfInBounds_toArray, List.set_cons_zero, List.set_cons_succ]
      refine anyB_one (k := 12) (by kernel_rfl) (by kernel_rfl) (by kernel_rfl) (fun g5_V hg => ?_)
      have hS := below_step hS hg
      replace Lp := Lib.hid (Lp.out.mono (DepEq.below hg))
      refine wpOp_step rfl (fun K' hK => ?_)
      have HK := Lib.hid hK
      clear hK
      rw [if_pos (by rfl)]
      go_simp
      refine Calls.mono ((Lib.hid (SS.out k.mine)).out _) ?_
      rintro e w5_V ⟨rfl, hb⟩
      have hS := below_step hS hb
      replace Lp := Lib.hid (Lp.out.mono (DepEq.below hb))
      have HB := Lib.hid hb
      clear hb hg
      go_wp2_with fail
      refine HK.out _ _ ⟨HB.out, ?_⟩
      clear HK HB
      try simp only [Act.put, List.setIfInBounds_toArray, List.set_cons_zero, List.set_cons_succ]
      refine anyB_one (k := 13) (by kernel_rfl) (by kernel_rfl) (by kernel_rfl) (fun g6_V hg => ?_)
      have hS := below_step hS hg
      replace Lp := Lib.hid (Lp.out.mono (DepEq.below hg))
      refine wpOp_step rfl (fun K' hK => ?_)
      have HK := Lib.hid hK
      clear hK
      rw [if_pos (by rfl)]
      go_simp
      have X6_V := Lib.hid (show LocksH (g6_V.alloc (.cells #[.int .u8 3, .string ⟨#[]⟩, .int .i64 exp, .slice none 0 0, .int .u8 4, .string ⟨#[]⟩, .int .i64 d.delay, .slice none 0 0, .int .u8 1, .string k.mine, .int .i64 0, .slice none 0 0] 55)) (some ⟨g6_V.heap.size, 0, none⟩) [afterL exp, olderL d.delay, sigL k.mine] [.int .u8 3, .string ⟨#[]⟩, .int .i64 exp, .slice none 0 0, .int .u8 4, .string ⟨#[]⟩, .int .i64 d.delay, .slice none 0 0, .int .u8 1, .string k.mine, .int .i64 0, .slice none 0 0] from rowH (cs := #[.int .u8 3, .string ⟨#[]⟩, .int .i64 exp, .slice none 0 0, .int .u8 4, .string ⟨#[]⟩, .int .i64 d.delay, .slice none 0 0, .int .u8 1, .string k.mine, .int .i64 0, .slice none 0 0]) (by simp) (fun W hW => LocksC.cons (LockC.leaf 3 _ _) (LocksC.cons (LockC.leaf 4 _ _) (LocksC.cons (LockC.leaf 1 _ _) LocksC.nil))))
      have hS := below_step hS ((Below.refl _ _).alloc (Nat.le_refl _) (.cells #[.int .u8 3, .string ⟨#[]⟩, .int .i64 exp, .slice none 0 0, .int .u8 4, .string ⟨#[]⟩, .int .i64 d.delay, .slice none 0 0, .int .u8 1, .string k.mine, .int .i64 0, .slice none 0 0] 55))
      replace Lp := Lib.hid (Lp.out.mono (DepEq.below ((Below.refl _ _).alloc (Nat.le_refl _) (.cells #[.int .u8 3, .string ⟨#[]⟩, .int .i64 exp, .slice none 0 0, .int .u8 4, .string ⟨#[]⟩, .int .i64 d.delay, .slice none 0 0, .int .u8 1, .string k.mine, .int .i64 0, .slice none 0 0] 55))))
      clear hg
      refine HK.out _ _ ⟨(Below.refl _ _).alloc (Nat.le_refl _) _, ?_⟩
      clear HK
      try simp only [Act.put, List.setIfInBounds_toArray, List.set_cons_zero, List.set_cons_succ]
      refine anyB_one (k := 14) (by kernel_rfl) (by kernel_rfl) (by kernel_rfl) (fun g7_V hg => ?_)
      have hS := below_step hS hg
      replace Lp := Lib.hid (Lp.out.mono (DepEq.below hg))
      replace X6_V := Lib.hid (X6_V.out.mono (DepEq.below hg))
      refine wpOp_step rfl (fun K' hK => ?_)
      have HK := Lib.hid hK
      clear hK
      rw [if_pos (by rfl)]
      go_simp
      refine Calls.mono (all_n [afterL exp, olderL d.delay, sigL k.mine] 3 rfl ⟨g6_V.heap.size, 0, none⟩ 3 _ (by simp) (by simp) X6_V.out) ?_
      rintro e w7_V ⟨Aq, cq, rfl, hl, hb⟩
      have hS := below_step hS hb
      replace Lp := Lib.hid (Lp.out.mono (DepEq.below hb))
      have HB := Lib.hid hb
      have Lq := Lib.hid hl
      clear hb hg hl X6_V
      go_wp2_with fail
      refine HK.out _ _ ⟨HB.out, ?_⟩
      clear HK HB
      try simp only [Act.put, List.setIfInBounds_toArray, List.set_cons_zero, List.set_cons_succ]
      exact anyB_stop (by kernel_rfl) (fun u hu => ⟨_, _, Ap, Aq, cp, cq, rfl, Lp.out.mono (DepEq.below hu), Lq.out.mono (DepEq.below hu), below_step hS hu⟩)
    case hfin =>
      rintro a u bs hl ⟨R1, R2, Ap, Aq, cp, cq, rfl, hlp, hlq, hS⟩ hbx hnd
      obtain ⟨y0, y1, rfl⟩ : ∃ y0 y1, bs = [y0, y1] := by
        match bs, hl with
        | [y0, y1], _ => exact ⟨_, _, rfl⟩
      obtain ⟨hb0, hz0⟩ := hbx y0 (by simp)
      replace hz0 : LBox u y0 0 ⟨#[]⟩ 0 (.slice none 0 0) := hz0
      obtain ⟨hb1, hz1⟩ := hbx y1 (by simp)
      replace hz1 : LBox u y1 0 ⟨#[]⟩ 0 (.slice none 0 0) := hz1
      change wpAny _ _ _ _ 2 #[true, true, true, true, true, true, true, true, true, true, true, true, true, true, true, true, true, false, false] (⟨#[.agg #[.int .i64 d.cap, .int .i64 d.push, .int .i64 d.dust, .int .i64 d.res, .int .i64 d.rate, .int .i64 d.delay, .int .i64 d.maxH, .int .i64 d.flight, .int .i64 d.minH], .agg #[.string k.rev, .string k.later, .string k.mine, .string k.theirs, .string k.pay], .agg #[.bool true, .int .i64 hid, .int .i64 amt, .string hash, .int .i64 exp], .pointer (some ⟨w.heap.size, 0, none⟩), .pointer (some ⟨w.heap.size + 1, 0, none⟩), .pointer (some ⟨w.heap.size + 1 + 1, 0, none⟩), .pointer (some ⟨w.heap.size + 1 + 1 + 1, 0, none⟩), .pointer (some ⟨x0, 0, none⟩), .pointer (some ⟨x1, 0, none⟩), .pointer (some ⟨y0, 0, none⟩), .pointer (some ⟨y1, 0, none⟩), .pointer (some ⟨w.heap.size + 1 + 1, 3, none⟩), .string hash, .agg #[.int .u8 2, .string hash, .int .i64 0, .slice none 0 0], .pointer (some ⟨w.heap.size + 1 + 1, 4, none⟩), .int .i64 exp, .agg #[.int .u8 3, .string ⟨#[]⟩, .int .i64 exp, .slice none 0 0], .pointer (some ⟨w.heap.size + 1, 3, none⟩), .string k.theirs, .agg #[.int .u8 1, .string k.theirs, .int .i64 0, .slice none 0 0], .agg #[.int .u8 2, .string hash, .int .i64 0, .slice none 0 0], .slice R1 2 2, .agg #[.int .u8 5, .string ⟨#[]⟩, .int .i64 0, .slice Ap 2 cp], .agg #[.int .u8 3, .string ⟨#[]⟩, .int .i64 exp, .slice none 0 0], .pointer (some ⟨w.heap.size, 5, none⟩), .int .i64 d.delay, .agg #[.int .u8 4, .string ⟨#[]⟩, .int .i64 d.delay, .slice none 0 0], .pointer (some ⟨w.heap.size + 1, 2, none⟩), .string k.mine, .agg #[.int .u8 1, .string k.mine, .int .i64 0, .slice none 0 0], .slice R2 3 3, .agg #[.int .u8 5, .string ⟨#[]⟩, .int .i64 0, .slice Aq 3 cq], undef, undef, undef, undef, undef, undef, undef, undef, undef, undef, undef, undef, undef, undef, undef, undef, undef, undef, undef, undef, undef, undef, undef, undef, undef], []⟩ : Act) u
      have hne : y0 ≠ y1 := by simpa using hnd
      refine wpAny_one (k := 17) (by kernel_rfl) ?_
      refine wpOp_step rfl (fun K' hK => ?_)
      have HK := Lib.hid hK
      clear hK
      rw [if_pos (by rfl)]
      obtain ⟨p0, p1, p2, p3, pf⟩ := hz0.cells
      go_simp
      refine HK.out _ (putL u y0 (.int .u8 5) (.string ⟨#[]⟩) (.int .i64 0) (.slice Ap 2 cp)) ?_
      clear HK p0 p1 p2 p3 pf
      have hA0 := hz0.put 5 ⟨#[]⟩ 0 (.slice Ap 2 cp)
      have hF0 := putL_fr u y0 (.int .u8 5) (.string ⟨#[]⟩) (.int .i64 0) (.slice Ap 2 cp) (F := [y0]) (List.mem_singleton.2 rfl)
      generalize (putL u y0 (.int .u8 5) (.string ⟨#[]⟩) (.int .i64 0) (.slice Ap 2 cp)) = U2 at hA0 hF0 ⊢
      try simp only [List.setIfInBounds_toArray, List.set_cons_zero, List.set_cons_succ]
      have hz1b := hz1.fr hF0 (by simpa using Ne.symm hne)
      refine wpAny_one (k := 18) (by kernel_rfl) ?_
      refine wpOp_step rfl (fun K' hK => ?_)
      have HK := Lib.hid hK
      clear hK
      rw [if_pos (by rfl)]
      obtain ⟨p0, p1, p2, p3, pf⟩ := hz1b.cells
      go_simp
      refine HK.out _ (putL U2 y1 (.int .u8 5) (.string ⟨#[]⟩) (.int .i64 0) (.slice Aq 3 cq)) ?_
      clear HK p0 p1 p2 p3 pf
      have hA1 := hz1b.put 5 ⟨#[]⟩ 0 (.slice Aq 3 cq)
      have hF1 := putL_fr U2 y1 (.int .u8 5) (.string ⟨#[]⟩) (.int .i64 0) (.slice Aq 3 cq) (F := [y1]) (List.mem_singleton.2 rfl)
      generalize (putL U2 y1 (.int .u8 5) (.string ⟨#[]⟩) (.int .i64 0) (.slice Aq 3 cq)) = V2 at hA1 hF1 ⊢
      try simp only [List.setIfInBounds_toArray, List.set_cons_zero, List.set_cons_succ]
      refine wpAny_end (by kernel_rfl) ?_
      refine NoPanic.normal ?_
      have hWU : Below V.heap.size V U2 := hS.trans (hF0.toBelowOf hS.size (fun i hi => by rw [List.mem_singleton.1 hi]; exact hb0))
      have hWV : Below V.heap.size V V2 := hWU.trans (hF1.toBelowOf hWU.size (fun i hi => by rw [List.mem_singleton.1 hi]; exact hb1))
      have HWV2 := Lib.hid hWV
      have HZV2 := Lib.hid (HZV.out.below hWV)
      have HS9 := Lib.hid (hA0.fr hF1 (by simpa using hne))
      have HS10 := Lib.hid hA1
      have hdd : DepEq u V2 := (DepEq.box hz0 hF0).trans (DepEq.box hz1b hF1)
      have HLp := Lib.hid (hlp.mono hdd)
      have HLq := Lib.hid (hlq.mono hdd)
      have ZD := Lib.hid (cell_below hWV VD.out)
      have ZK0 := Lib.hid (cell_below hWV VK0.out)
      have ZK2 := Lib.hid (cell_below hWV VK2.out)
      have ZK3 := Lib.hid (cell_below hWV VK3.out)
      have zh0 := cell_below hWV VH0.out
      have HP2 := Lib.hid (HP.out.below hWV)
      have HA2 := Lib.hid (HA.out.below hWV)
      have HY := Lib.hid (And.intro hne (And.intro hb0 hb1))
      clear hz0 hz1 hz1b hF0 hF1 hWU hWV hA0 hA1 hbx hnd hb0 hb1 hS hne hlp hlq hdd
      have HBB := Lib.hid (HB.out.trans ((HWV.out.mono HB.out.size).trans (HWV2.out.mono (Nat.le_trans HB.out.size HWV.out.size))))
      go_upto_region 5 with fail
      refine wp_region_noPanic ?_
      refine wp_region_any (by kernel_rfl) ?_
      have hS : Below V2.heap.size V2 V2.drew := (Below.refl _ _).drew
      change wpAny _ _ _ _ 8 (Array.replicate 8 false) _ V2.drew
      refine float_all (F := []) (o := (.cells #[.int .u8 0, .string ⟨#[]⟩, .int .i64 0, .slice none 0 0] 55)) (base := V2.heap.size) (g := 1) (f := 7) (stop := #[true, true, true, true, true, true, true, false]) (R := fun a u => ∃ (R3 Az : Option Addr) (cz : Nat), a = (⟨#[.agg #[.int .i64 d.cap, .int .i64 d.push, .int .i64 d.dust, .int .i64 d.res, .int .i64 d.rate, .int .i64 d.delay, .int .i64 d.maxH, .int .i64 d.flight, .int .i64 d.minH], .agg #[.string k.rev, .string k.later, .string k.mine, .string k.theirs, .string k.pay], .agg #[.bool true, .int .i64 hid, .int .i64 amt, .string hash, .int .i64 exp], .pointer (some ⟨w.heap.size, 0, none⟩), .pointer (some ⟨w.heap.size + 1, 0, none⟩), .pointer (some ⟨w.heap.size + 1 + 1, 0, none⟩), .pointer (some ⟨w.heap.size + 1 + 1 + 1, 0, none⟩), .pointer (some ⟨x0, 0, none⟩), .pointer (some ⟨x1, 0, none⟩), .pointer (some ⟨y0, 0, none⟩), .pointer (some ⟨y1, 0, none⟩), .pointer (some ⟨w.heap.size + 1 + 1, 3, none⟩), .string hash, .agg #[.int .u8 2, .string hash, .int .i64 0, .slice none 0 0], .pointer (some ⟨w.heap.size + 1 + 1, 4, none⟩), .int .i64 exp, .agg #[.int .u8 3, .string ⟨#[]⟩, .int .i64 exp, .slice none 0 0], .pointer (some ⟨w.heap.size + 1, 3, none⟩), .string k.theirs, .agg #[.int .u8 1, .string k.theirs, .int .i64 0, .slice none 0 0], .agg #[.int .u8 2, .string hash, .int .i64 0, .slice none 0 0], .slice R1 2 2, .agg #[.int .u8 5, .string ⟨#[]⟩, .int .i64 0, .slice Ap 2 cp], .agg #[.int .u8 3, .string ⟨#[]⟩, .int .i64 exp, .slice none 0 0], .pointer (some ⟨w.heap.size, 5, none⟩), .int .i64 d.delay, .agg #[.int .u8 4, .string ⟨#[]⟩, .int .i64 d.delay, .slice none 0 0], .pointer (some ⟨w.heap.size + 1, 2, none⟩), .string k.mine, .agg #[.int .u8 1, .string k.mine, .int .i64 0, .slice none 0 0], .slice R2 3 3, .agg #[.int .u8 5, .string ⟨#[]⟩, .int .i64 0, .slice Aq 3 cq], .pointer (some ⟨w.heap.size + 1 + 1, 0, none⟩), .bool true, .bool false, undef, undef, undef, undef, undef, undef, undef, undef, undef, undef, undef, undef, undef, undef, undef, .pointer (some ⟨w.heap.size + 1, 0, none⟩), .string k.rev, .agg #[.int .u8 1, .string k.rev, .int .i64 0, .slice none 0 0], .agg #[.int .u8 5, .string ⟨#[]⟩, .int .i64 0, .slice Ap 2 cp], .agg #[.int .u8 5, .string ⟨#[]⟩, .int .i64 0, .slice Aq 3 cq], .slice R3 3 3, .agg #[.int .u8 6, .string ⟨#[]⟩, .int .i64 0, .slice Az 3 cz]], []⟩ : Act) ∧ LockH u (anyL [sigL k.rev, (allL [sigL k.theirs, preL hash]), (allL [afterL exp, olderL d.delay, sigL k.mine])]) [.int .u8 6, .string ⟨#[]⟩, .int .i64 0, .slice Az 3 cz] ∧ Below V2.heap.size V2 u) rfl (by kernel_rfl) (by kernel_rfl) (by decide) (by decide) (by kernel_rfl) (fun _ _ _ _ _ h => h) ?hal ?hfin hS.size ?chain
      case hal => intro p hp; cases hp
      case chain =>
        refine anyB_take (S := fun U => Below V2.heap.size V2 U) (i := 0) (v := ?_) (fun _ _ h hb => below_step h hb) rfl (by kernel_rfl) (by kernel_rfl) (by kernel_rfl) (by kernel_rfl) (by kernel_rfl) (by kernel_rfl) (fun _ _ _ h => h) (Or.inl ⟨by rfl, ?_⟩) hS ?_
        rotate_left
        · (intro w' hSw; (try dsimp only at hSw); go_simp; (try with_reducible rfl))
        try simp only [Act.put, List.setIfInBounds_toArray]
        refine anyB_take (S := fun U => Below V2.heap.size V2 U) (i := 1) (v := ?_) (fun _ _ h hb => below_step h hb) rfl (by kernel_rfl) (by kernel_rfl) (by kernel_rfl) (by kernel_rfl) (by kernel_rfl) (by kernel_rfl) (fun _ _ _ h => h) (Or.inl ⟨by rfl, ?_⟩) hS ?_
        rotate_left
        · (intro w' hSw; have hc0 := cell_below hSw ZK0.out; (try dsimp only at hSw); go_simp; (try with_reducible rfl))
        try simp only [Act.put]
        refine anyB_take (S := fun U => Below V2.heap.size V2 U) (i := 3) (v := ?_) (fun _ _ h hb => below_step h hb) rfl (by kernel_rfl) (by kernel_rfl) (by kernel_rfl) (by kernel_rfl) (by kernel_rfl) (by kernel_rfl) (fun _ _ _ h => h) (Or.inl ⟨by rfl, ?_⟩) hS ?_
        rotate_left
        · (intro w' hSw; have hc0 := cell_below hSw HS9.out.cells.1; have hc1 := cell_below hSw HS9.out.cells.2.1; have hc2 := cell_below hSw HS9.out.cells.2.2.1; have hc3 := cell_below hSw HS9.out.cells.2.2.2.1; (try dsimp only at hSw); go_simp; (try with_reducible rfl))
        try simp only [Act.put]
        refine anyB_take (S := fun U => Below V2.heap.size V2 U) (i := 4) (v := ?_) (fun _ _ h hb => below_step h hb) rfl (by kernel_rfl) (by kernel_rfl) (by kernel_rfl) (by kernel_rfl) (by kernel_rfl) (by kernel_rfl) (fun _ _ _ h => h) (Or.inl ⟨by rfl, ?_⟩) hS ?_
        rotate_left
        · (intro w' hSw; have hc0 := cell_below hSw HS10.out.cells.1; have hc1 := cell_below hSw HS10.out.cells.2.1; have hc2 := cell_below hSw HS10.out.cells.2.2.1; have hc3 := cell_below hSw HS10.out.cells.2.2.2.1; (try dsimp only at hSw); go_simp; (try with_reducible rfl))
        try simp only [Act.put]
        refine anyB_one (k := 2) (by kernel_rfl) (by kernel_rfl) (by kernel_rfl) (fun g1_V2 hg => ?_)
        have hS := below_step hS hg
        refine wpOp_step rfl (fun K' hK => ?_)
        have HK := Lib.hid hK
        clear hK
        rw [if_pos (by rfl)]
        go_simp
        refine Calls.mono ((Lib.hid (SS.out k.rev)).out _) ?_
        rintro e w1_V2 ⟨rfl, hb⟩
        have hS := below_step hS hb
        have HB := Lib.hid hb
        clear hb hg
        go_wp2_with fail
        refine HK.out _ _ ⟨HB.out, ?_⟩
        clear HK HB
        try simp only [Act.put, List.setIfInBounds_toArray, List.set_cons_zero, List.set_cons_succ]
        refine anyB_one (k := 5) (by kernel_rfl) (by kernel_rfl) (by kernel_rfl) (fun g2_V2 hg => ?_)
        have hS := below_step hS hg
        refine wpOp_step rfl (fun K' hK => ?_)
        have HK := Lib.hid hK
        clear hK
        rw [if_pos (by rfl)]
        go_simp
        have X2_V2 := Lib.hid (show LocksH (g2_V2.alloc (.cells #[.int .u8 1, .string k.rev, .int .i64 0, .slice none 0 0, .int .u8 5, .string ⟨#[]⟩, .int .i64 0, .slice Ap 2 cp, .int .u8 5, .string ⟨#[]⟩, .int .i64 0, .slice Aq 3 cq] 55)) (some ⟨g2_V2.heap.size, 0, none⟩) [sigL k.rev, (allL [sigL k.theirs, preL hash]), (allL [afterL exp, olderL d.delay, sigL k.mine])] [.int .u8 1, .string k.rev, .int .i64 0, .slice none 0 0, .int .u8 5, .string ⟨#[]⟩, .int .i64 0, .slice Ap 2 cp, .int .u8 5, .string ⟨#[]⟩, .int .i64 0, .slice Aq 3 cq] from rowH (cs := #[.int .u8 1, .string k.rev, .int .i64 0, .slice none 0 0, .int .u8 5, .string ⟨#[]⟩, .int .i64 0, .slice Ap 2 cp, .int .u8 5, .string ⟨#[]⟩, .int .i64 0, .slice Aq 3 cq]) (by simp) (fun W hW => LocksC.cons (LockC.leaf 1 _ _) (LocksC.cons (HLp.out W ((DepEq.below hS).trans hW)) (LocksC.cons (HLq.out W ((DepEq.below hS).trans hW)) LocksC.nil))))
        have hS := below_step hS ((Below.refl _ _).alloc (Nat.le_refl _) (.cells #[.int .u8 1, .string k.rev, .int .i64 0, .slice none 0 0, .int .u8 5, .string ⟨#[]⟩, .int .i64 0, .slice Ap 2 cp, .int .u8 5, .string ⟨#[]⟩, .int .i64 0, .slice Aq 3 cq] 55))
        clear hg
        refine HK.out _ _ ⟨(Below.refl _ _).alloc (Nat.le_refl _) _, ?_⟩
        clear HK
        try simp only [Act.put, List.setIfInBounds_toArray, List.set_cons_zero, List.set_cons_succ]
        refine anyB_one (k := 6) (by kernel_rfl) (by kernel_rfl) (by kernel_rfl) (fun g3_V2 hg => ?_)
        have hS := below_step hS hg
        replace X2_V2 := Lib.hid (X2_V2.out.mono (DepEq.below hg))
        refine wpOp_step rfl (fun K' hK => ?_)
        have HK := Lib.hid hK
        clear hK
        rw [if_pos (by rfl)]
        go_simp
        refine Calls.mono (any_n [sigL k.rev, (allL [sigL k.theirs, preL hash]), (allL [afterL exp, olderL d.delay, sigL k.mine])] 3 rfl ⟨g2_V2.heap.size, 0, none⟩ 3 _ (by simp) (by simp) X2_V2.out) ?_
        rintro e w3_V2 ⟨Az, cz, rfl, hl, hb⟩
        have hS := below_step hS hb
        have HB := Lib.hid hb
        have Lz := Lib.hid hl
        clear hb hg hl X2_V2
        go_wp2_with fail
        refine HK.out _ _ ⟨HB.out, ?_⟩
        clear HK HB
        try simp only [Act.put, List.setIfInBounds_toArray, List.set_cons_zero, List.set_cons_succ]
        exact anyB_stop (by kernel_rfl) (fun u hu => ⟨_, Az, cz, rfl, Lz.out.mono (DepEq.below hu), below_step hS hu⟩)
      case hfin =>
        rintro a u bs hl ⟨R3, Az, cz, rfl, hlk, hS⟩ hbx hnd
        obtain rfl : bs = [] := List.length_eq_zero_iff.1 (by simpa using hl)
        change wpAny _ _ _ _ 1 #[true, true, true, true, true, true, true, false] (⟨#[.agg #[.int .i64 d.cap, .int .i64 d.push, .int .i64 d.dust, .int .i64 d.res, .int .i64 d.rate, .int .i64 d.delay, .int .i64 d.maxH, .int .i64 d.flight, .int .i64 d.minH], .agg #[.string k.rev, .string k.later, .string k.mine, .string k.theirs, .string k.pay], .agg #[.bool true, .int .i64 hid, .int .i64 amt, .string hash, .int .i64 exp], .pointer (some ⟨w.heap.size, 0, none⟩), .pointer (some ⟨w.heap.size + 1, 0, none⟩), .pointer (some ⟨w.heap.size + 1 + 1, 0, none⟩), .pointer (some ⟨w.heap.size + 1 + 1 + 1, 0, none⟩), .pointer (some ⟨x0, 0, none⟩), .pointer (some ⟨x1, 0, none⟩), .pointer (some ⟨y0, 0, none⟩), .pointer (some ⟨y1, 0, none⟩), .pointer (some ⟨w.heap.size + 1 + 1, 3, none⟩), .string hash, .agg #[.int .u8 2, .string hash, .int .i64 0, .slice none 0 0], .pointer (some ⟨w.heap.size + 1 + 1, 4, none⟩), .int .i64 exp, .agg #[.int .u8 3, .string ⟨#[]⟩, .int .i64 exp, .slice none 0 0], .pointer (some ⟨w.heap.size + 1, 3, none⟩), .string k.theirs, .agg #[.int .u8 1, .string k.theirs, .int .i64 0, .slice none 0 0], .agg #[.int .u8 2, .string hash, .int .i64 0, .slice none 0 0], .slice R1 2 2, .agg #[.int .u8 5, .string ⟨#[]⟩, .int .i64 0, .slice Ap 2 cp], .agg #[.int .u8 3, .string ⟨#[]⟩, .int .i64 exp, .slice none 0 0], .pointer (some ⟨w.heap.size, 5, none⟩), .int .i64 d.delay, .agg #[.int .u8 4, .string ⟨#[]⟩, .int .i64 d.delay, .slice none 0 0], .pointer (some ⟨w.heap.size + 1, 2, none⟩), .string k.mine, .agg #[.int .u8 1, .string k.mine, .int .i64 0, .slice none 0 0], .slice R2 3 3, .agg #[.int .u8 5, .string ⟨#[]⟩, .int .i64 0, .slice Aq 3 cq], .pointer (some ⟨w.heap.size + 1 + 1, 0, none⟩), .bool true, .bool false, undef, undef, undef, undef, undef, undef, undef, undef, undef, undef, undef, undef, undef, undef, undef, .pointer (some ⟨w.heap.size + 1, 0, none⟩), .string k.rev, .agg #[.int .u8 1, .string k.rev, .int .i64 0, .slice none 0 0], .agg #[.int .u8 5, .string ⟨#[]⟩, .int .i64 0, .slice Ap 2 cp], .agg #[.int .u8 5, .string ⟨#[]⟩, .int .i64 0, .slice Aq 3 cq], .slice R3 3 3, .agg #[.int .u8 6, .string ⟨#[]⟩, .int .i64 0, .slice Az 3 cz]], []⟩ : Act) u
        have hzr := HZV2.out.below hS
        refine wpAny_one (k := 7) (by kernel_rfl) ?_
        refine wpOp_step rfl (fun K' hK => ?_)
        have HK := Lib.hid hK
        clear hK
        rw [if_pos (by rfl)]
        obtain ⟨p0, p1, p2, p3, pf⟩ := hzr.cells
        go_simp
        refine HK.out _ (putL u (w.heap.size + 1 + 1 + 1) (.int .u8 6) (.string ⟨#[]⟩) (.int .i64 0) (.slice Az 3 cz)) ?_
        clear HK p0 p1 p2 p3 pf
        have hAr := hzr.put 6 ⟨#[]⟩ 0 (.slice Az 3 cz)
        have hFr := putL_fr u (w.heap.size + 1 + 1 + 1) (.int .u8 6) (.string ⟨#[]⟩) (.int .i64 0) (.slice Az 3 cz) (F := [(w.heap.size + 1 + 1 + 1)]) (List.mem_singleton.2 rfl)
        generalize (putL u (w.heap.size + 1 + 1 + 1) (.int .u8 6) (.string ⟨#[]⟩) (.int .i64 0) (.slice Az 3 cz)) = Wf at hAr hFr ⊢
        try simp only [List.setIfInBounds_toArray, List.set_cons_zero, List.set_cons_succ]
        refine wpAny_end (by kernel_rfl) ?_
        refine NoPanic.normal ?_
        obtain ⟨r0, r1, r2, r3, -⟩ := hAr.cells
        have HLF := Lib.hid (hlk.mono (DepEq.box hzr hFr))
        have hu1 : Below w.heap.size w u := HBB.out.trans (hS.mono HBB.out.size)
        have HFF := Lib.hid (hu1.trans (hFr.toBelowOf (B := w.heap.size) hu1.size (fun i hi => by rw [List.mem_singleton.1 hi]; omega)))
        clear hlk hzr hFr hAr hS hu1
        go_wp2_with fail
        exact bodyPost_ret (v := lockV 6 ⟨#[]⟩ 0 Az 3 cz) (by simp [results, Tryz.results27, go_sem, r0, r1, r2, r3, lockV]) rfl ⟨_, rfl, ⟨Az, cz, rfl, HLF.out⟩, HFF.out⟩
end Go.Proofs.YtncniomiplnaaaaGreatDoor

namespace Go.Proofs.YtncniomiplnaaaaGreatDoor
open Go.RowKit

set_option maxRecDepth 100000 in
set_option maxHeartbeats 16000000 in
theorem htlc_their (d : DealR) (k : KeysR) (hid amt : Int) (hash : ByteArray) (exp : Int) (w : World) : Calls Tryz.prog 27 #[dealV d, keysV k, .agg #[.bool false, .int .i64 hid, .int .i64 amt, .string hash, .int .i64 exp]] w fun e w' => ∃ v, e = .returned v ∧ LockV w' (htlcL d.delay k false hash exp) v ∧ Below w.heap.size w w' := by
  unfold dealV keysV
  have HB := Lib.hid (((((Below.refl w.heap.size w).alloc (Nat.le_refl _) (.cells #[.int .i64 d.cap, .int .i64 d.push, .int .i64 d.dust, .int .i64 d.res, .int .i64 d.rate, .int .i64 d.delay, .int .i64 d.maxH, .int .i64 d.flight, .int .i64 d.minH] 23)).alloc (by simp) (.cells #[.string k.rev, .string k.later, .string k.mine, .string k.theirs, .string k.pay] 40)).alloc (by simp; try omega) (.cells #[.bool false, .int .i64 hid, .int .i64 amt, .string hash, .int .i64 exp] 26)).alloc (by simp; try omega) (.cells #[.int .u8 0, .string ⟨#[]⟩, .int .i64 0, .slice none 0 0] 55))
  have HZ := Lib.hid (show LBox ((((w.alloc (.cells #[.int .i64 d.cap, .int .i64 d.push, .int .i64 d.dust, .int .i64 d.res, .int .i64 d.rate, .int .i64 d.delay, .int .i64 d.maxH, .int .i64 d.flight, .int .i64 d.minH] 23)).alloc (.cells #[.string k.rev, .string k.later, .string k.mine, .string k.theirs, .string k.pay] 40)).alloc (.cells #[.bool false, .int .i64 hid, .int .i64 amt, .string hash, .int .i64 exp] 26)).alloc (.cells #[.int .u8 0, .string ⟨#[]⟩, .int .i64 0, .slice none 0 0] 55)) (w.heap.size + 1 + 1 + 1) 0 ⟨#[]⟩ 0 (.slice none 0 0) from allocs_at [(.cells #[.int .i64 d.cap, .int .i64 d.push, .int .i64 d.dust, .int .i64 d.res, .int .i64 d.rate, .int .i64 d.delay, .int .i64 d.maxH, .int .i64 d.flight, .int .i64 d.minH] 23), (.cells #[.string k.rev, .string k.later, .string k.mine, .string k.theirs, .string k.pay] 40), (.cells #[.bool false, .int .i64 hid, .int .i64 amt, .string hash, .int .i64 exp] 26), (.cells #[.int .u8 0, .string ⟨#[]⟩, .int .i64 0, .slice none 0 0] 55)] w 3 _ rfl)
  have HD := Lib.hid (show ((((w.alloc (.cells #[.int .i64 d.cap, .int .i64 d.push, .int .i64 d.dust, .int .i64 d.res, .int .i64 d.rate, .int .i64 d.delay, .int .i64 d.maxH, .int .i64 d.flight, .int .i64 d.minH] 23)).alloc (.cells #[.string k.rev, .string k.later, .string k.mine, .string k.theirs, .string k.pay] 40)).alloc (.cells #[.bool false, .int .i64 hid, .int .i64 amt, .string hash, .int .i64 exp] 26)).alloc (.cells #[.int .u8 0, .string ⟨#[]⟩, .int .i64 0, .slice none 0 0] 55)).cell? ⟨w.heap.size, 5, none⟩ = some (.int .i64 d.delay) from cell_of (j := 5) (allocs_at [(.cells #[.int .i64 d.cap, .int .i64 d.push, .int .i64 d.dust, .int .i64 d.res, .int .i64 d.rate, .int .i64 d.delay, .int .i64 d.maxH, .int .i64 d.flight, .int .i64 d.minH] 23), (.cells #[.string k.rev, .string k.later, .string k.mine, .string k.theirs, .string k.pay] 40), (.cells #[.bool false, .int .i64 hid, .int .i64 amt, .string hash, .int .i64 exp] 26), (.cells #[.int .u8 0, .string ⟨#[]⟩, .int .i64 0, .slice none 0 0] 55)] w 0 _ rfl) rfl)
  have HK0 := Lib.hid (show ((((w.alloc (.cells #[.int .i64 d.cap, .int .i64 d.push, .int .i64 d.dust, .int .i64 d.res, .int .i64 d.rate, .int .i64 d.delay, .int .i64 d.maxH, .int .i64 d.flight, .int .i64 d.minH] 23)).alloc (.cells #[.string k.rev, .string k.later, .string k.mine, .string k.theirs, .string k.pay] 40)).alloc (.cells #[.bool false, .int .i64 hid, .int .i64 amt, .string hash, .int .i64 exp] 26)).alloc (.cells #[.int .u8 0, .string ⟨#[]⟩, .int .i64 0, .slice none 0 0] 55)).cell? ⟨w.heap.size + 1, 0, none⟩ = some (.string k.rev) from cell_of (j := 0) (allocs_at [(.cells #[.int .i64 d.cap, .int .i64 d.push, .int .i64 d.dust, .int .i64 d.res, .int .i64 d.rate, .int .i64 d.delay, .int .i64 d.maxH, .int .i64 d.flight, .int .i64 d.minH] 23), (.cells #[.string k.rev, .string k.later, .string k.mine, .string k.theirs, .string k.pay] 40), (.cells #[.bool false, .int .i64 hid, .int .i64 amt, .string hash, .int .i64 exp] 26), (.cells #[.int .u8 0, .string ⟨#[]⟩, .int .i64 0, .slice none 0 0] 55)] w 1 _ rfl) rfl)
  have HK2 := Lib.hid (show ((((w.alloc (.cells #[.int .i64 d.cap, .int .i64 d.push, .int .i64 d.dust, .int .i64 d.res, .int .i64 d.rate, .int .i64 d.delay, .int .i64 d.maxH, .int .i64 d.flight, .int .i64 d.minH] 23)).alloc (.cells #[.string k.rev, .string k.later, .string k.mine, .string k.theirs, .string k.pay] 40)).alloc (.cells #[.bool false, .int .i64 hid, .int .i64 amt, .string hash, .int .i64 exp] 26)).alloc (.cells #[.int .u8 0, .string ⟨#[]⟩, .int .i64 0, .slice none 0 0] 55)).cell? ⟨w.heap.size + 1, 2, none⟩ = some (.string k.mine) from cell_of (j := 2) (allocs_at [(.cells #[.int .i64 d.cap, .int .i64 d.push, .int .i64 d.dust, .int .i64 d.res, .int .i64 d.rate, .int .i64 d.delay, .int .i64 d.maxH, .int .i64 d.flight, .int .i64 d.minH] 23), (.cells #[.string k.rev, .string k.later, .string k.mine, .string k.theirs, .string k.pay] 40), (.cells #[.bool false, .int .i64 hid, .int .i64 amt, .string hash, .int .i64 exp] 26), (.cells #[.int .u8 0, .string ⟨#[]⟩, .int .i64 0, .slice none 0 0] 55)] w 1 _ rfl) rfl)
  have HK3 := Lib.hid (show ((((w.alloc (.cells #[.int .i64 d.cap, .int .i64 d.push, .int .i64 d.dust, .int .i64 d.res, .int .i64 d.rate, .int .i64 d.delay, .int .i64 d.maxH, .int .i64 d.flight, .int .i64 d.minH] 23)).alloc (.cells #[.string k.rev, .string k.later, .string k.mine, .string k.theirs, .string k.pay] 40)).alloc (.cells #[.bool false, .int .i64 hid, .int .i64 amt, .string hash, .int .i64 exp] 26)).alloc (.cells #[.int .u8 0, .string ⟨#[]⟩, .int .i64 0, .slice none 0 0] 55)).cell? ⟨w.heap.size + 1, 3, none⟩ = some (.string k.theirs) from cell_of (j := 3) (allocs_at [(.cells #[.int .i64 d.cap, .int .i64 d.push, .int .i64 d.dust, .int .i64 d.res, .int .i64 d.rate, .int .i64 d.delay, .int .i64 d.maxH, .int .i64 d.flight, .int .i64 d.minH] 23), (.cells #[.string k.rev, .string k.later, .string k.mine, .string k.theirs, .string k.pay] 40), (.cells #[.bool false, .int .i64 hid, .int .i64 amt, .string hash, .int .i64 exp] 26), (.cells #[.int .u8 0, .string ⟨#[]⟩, .int .i64 0, .slice none 0 0] 55)] w 1 _ rfl) rfl)
  have HH0 := Lib.hid (show ((((w.alloc (.cells #[.int .i64 d.cap, .int .i64 d.push, .int .i64 d.dust, .int .i64 d.res, .int .i64 d.rate, .int .i64 d.delay, .int .i64 d.maxH, .int .i64 d.flight, .int .i64 d.minH] 23)).alloc (.cells #[.string k.rev, .string k.later, .string k.mine, .string k.theirs, .string k.pay] 40)).alloc (.cells #[.bool false, .int .i64 hid, .int .i64 amt, .string hash, .int .i64 exp] 26)).alloc (.cells #[.int .u8 0, .string ⟨#[]⟩, .int .i64 0, .slice none 0 0] 55)).cell? ⟨w.heap.size + 1 + 1, 0, none⟩ = some (.bool false) from cell_of (j := 0) (allocs_at [(.cells #[.int .i64 d.cap, .int .i64 d.push, .int .i64 d.dust, .int .i64 d.res, .int .i64 d.rate, .int .i64 d.delay, .int .i64 d.maxH, .int .i64 d.flight, .int .i64 d.minH] 23), (.cells #[.string k.rev, .string k.later, .string k.mine, .string k.theirs, .string k.pay] 40), (.cells #[.bool false, .int .i64 hid, .int .i64 amt, .string hash, .int .i64 exp] 26), (.cells #[.int .u8 0, .string ⟨#[]⟩, .int .i64 0, .slice none 0 0] 55)] w 2 _ rfl) rfl)
  have HH3 := Lib.hid (show ((((w.alloc (.cells #[.int .i64 d.cap, .int .i64 d.push, .int .i64 d.dust, .int .i64 d.res, .int .i64 d.rate, .int .i64 d.delay, .int .i64 d.maxH, .int .i64 d.flight, .int .i64 d.minH] 23)).alloc (.cells #[.string k.rev, .string k.later, .string k.mine, .string k.theirs, .string k.pay] 40)).alloc (.cells #[.bool false, .int .i64 hid, .int .i64 amt, .string hash, .int .i64 exp] 26)).alloc (.cells #[.int .u8 0, .string ⟨#[]⟩, .int .i64 0, .slice none 0 0] 55)).cell? ⟨w.heap.size + 1 + 1, 3, none⟩ = some (.string hash) from cell_of (j := 3) (allocs_at [(.cells #[.int .i64 d.cap, .int .i64 d.push, .int .i64 d.dust, .int .i64 d.res, .int .i64 d.rate, .int .i64 d.delay, .int .i64 d.maxH, .int .i64 d.flight, .int .i64 d.minH] 23), (.cells #[.string k.rev, .string k.later, .string k.mine, .string k.theirs, .string k.pay] 40), (.cells #[.bool false, .int .i64 hid, .int .i64 amt, .string hash, .int .i64 exp] 26), (.cells #[.int .u8 0, .string ⟨#[]⟩, .int .i64 0, .slice none 0 0] 55)] w 2 _ rfl) rfl)
  have HH4 := Lib.hid (show ((((w.alloc (.cells #[.int .i64 d.cap, .int .i64 d.push, .int .i64 d.dust, .int .i64 d.res, .int .i64 d.rate, .int .i64 d.delay, .int .i64 d.maxH, .int .i64 d.flight, .int .i64 d.minH] 23)).alloc (.cells #[.string k.rev, .string k.later, .string k.mine, .string k.theirs, .string k.pay] 40)).alloc (.cells #[.bool false, .int .i64 hid, .int .i64 amt, .string hash, .int .i64 exp] 26)).alloc (.cells #[.int .u8 0, .string ⟨#[]⟩, .int .i64 0, .slice none 0 0] 55)).cell? ⟨w.heap.size + 1 + 1, 4, none⟩ = some (.int .i64 exp) from cell_of (j := 4) (allocs_at [(.cells #[.int .i64 d.cap, .int .i64 d.push, .int .i64 d.dust, .int .i64 d.res, .int .i64 d.rate, .int .i64 d.delay, .int .i64 d.maxH, .int .i64 d.flight, .int .i64 d.minH] 23), (.cells #[.string k.rev, .string k.later, .string k.mine, .string k.theirs, .string k.pay] 40), (.cells #[.bool false, .int .i64 hid, .int .i64 amt, .string hash, .int .i64 exp] 26), (.cells #[.int .u8 0, .string ⟨#[]⟩, .int .i64 0, .slice none 0 0] 55)] w 2 _ rfl) rfl)
  have SS := Lib.hid (fun t W => show Calls Tryz.prog _ _ W (fun e w' => e = .returned (.agg #[.int .u8 1, .string t, .int .i64 0, .slice none 0 0]) ∧ Below W.heap.size W w') from sig_any t W)
  have SP := Lib.hid (fun t W => show Calls Tryz.prog _ _ W (fun e w' => e = .returned (.agg #[.int .u8 2, .string t, .int .i64 0, .slice none 0 0]) ∧ Below W.heap.size W w') from pre_any t W)
  have SA := Lib.hid (fun n W => show Calls Tryz.prog _ _ W (fun e w' => e = .returned (.agg #[.int .u8 3, .string ⟨#[]⟩, .int .i64 n, .slice none 0 0]) ∧ Below W.heap.size W w') from after_any n W)
  have SO := Lib.hid (fun n W => show Calls Tryz.prog _ _ W (fun e w' => e = .returned (.agg #[.int .u8 4, .string ⟨#[]⟩, .int .i64 n, .slice none 0 0]) ∧ Below W.heap.size W w') from older_any n W)
  go_enter Tryz.func27, Tryz.ntmps27
  go_upto_region 1 with fail
  generalize ((((w.alloc (.cells #[.int .i64 d.cap, .int .i64 d.push, .int .i64 d.dust, .int .i64 d.res, .int .i64 d.rate, .int .i64 d.delay, .int .i64 d.maxH, .int .i64 d.flight, .int .i64 d.minH] 23)).alloc (.cells #[.string k.rev, .string k.later, .string k.mine, .string k.theirs, .string k.pay] 40)).alloc (.cells #[.bool false, .int .i64 hid, .int .i64 amt, .string hash, .int .i64 exp] 26)).alloc (.cells #[.int .u8 0, .string ⟨#[]⟩, .int .i64 0, .slice none 0 0] 55)) = W at HB HZ HD HK0 HK2 HK3 HH0 HH3 HH4 ⊢
  refine wp_region_noPanic ?_
  refine wp_region_any (by kernel_rfl) ?_
  have hS : Below W.heap.size W W.drew := (Below.refl _ _).drew
  change wpAny _ _ _ _ 10 (Array.replicate 10 false) _ W.drew
  refine float_all (F := [(6, 7), (7, 8)]) (o := (.cells #[.int .u8 0, .string ⟨#[]⟩, .int .i64 0, .slice none 0 0] 55)) (base := W.heap.size) (g := 2) (f := 6) (stop := #[true, true, true, true, true, true, true, true, false, false]) (R := fun a u => a = (⟨#[.agg #[.int .i64 d.cap, .int .i64 d.push, .int .i64 d.dust, .int .i64 d.res, .int .i64 d.rate, .int .i64 d.delay, .int .i64 d.maxH, .int .i64 d.flight, .int .i64 d.minH], .agg #[.string k.rev, .string k.later, .string k.mine, .string k.theirs, .string k.pay], .agg #[.bool false, .int .i64 hid, .int .i64 amt, .string hash, .int .i64 exp], .pointer (some ⟨w.heap.size, 0, none⟩), .pointer (some ⟨w.heap.size + 1, 0, none⟩), .pointer (some ⟨w.heap.size + 1 + 1, 0, none⟩), .pointer (some ⟨w.heap.size + 1 + 1 + 1, 0, none⟩), undef, undef, undef, undef, .pointer (some ⟨w.heap.size + 1 + 1, 3, none⟩), .string hash, .agg #[.int .u8 2, .string hash, .int .i64 0, .slice none 0 0], .pointer (some ⟨w.heap.size + 1 + 1, 4, none⟩), .int .i64 exp, .agg #[.int .u8 3, .string ⟨#[]⟩, .int .i64 exp, .slice none 0 0], undef, undef, undef, undef, undef, undef, undef, undef, undef, undef, undef, undef, undef, undef, undef, undef, undef, undef, undef, undef, undef, undef, undef, undef, undef, undef, undef, undef, undef, undef, undef, undef, undef, undef, undef, undef, undef, undef, undef, undef], []⟩ : Act) ∧ Below W.heap.size W u) rfl (by kernel_rfl) (by kernel_rfl) (by decide) (by decide) (by kernel_rfl) (fun _ _ _ _ _ h => h) ?hal ?hfin hS.size ?chain
  case hal =>
    intro p hp K a w hK
    simp only [List.mem_cons, List.not_mem_nil, or_false] at hp
    rcases hp with rfl | rfl
    all_goals
      refine wpOp_step rfl (fun K' hK' => ?_)
      rw [if_pos (by simp [Region.wanted])]
      go_simp
      exact hK' _ _ hK
  case chain =>
    refine anyB_take (S := fun U => Below W.heap.size W U) (i := 0) (v := ?_) (fun _ _ h hb => below_step h hb) rfl (by kernel_rfl) (by kernel_rfl) (by kernel_rfl) (by kernel_rfl) (by kernel_rfl) (by kernel_rfl) (fun _ _ _ h => h) (Or.inl ⟨by rfl, ?_⟩) hS ?_
    rotate_left
    · (intro w' hSw; (try dsimp only at hSw); go_simp; (try with_reducible rfl))
    try simp only [Act.put, List.setIfInBounds_toArray]
    refine anyB_take (S := fun U => Below W.heap.size W U) (i := 1) (v := ?_) (fun _ _ h hb => below_step h hb) rfl (by kernel_rfl) (by kernel_rfl) (by kernel_rfl) (by kernel_rfl) (by kernel_rfl) (by kernel_rfl) (fun _ _ _ h => h) (Or.inl ⟨by rfl, ?_⟩) hS ?_
    rotate_left
    · (intro w' hSw; have hc0 := cell_below hSw HH3.out; (try dsimp only at hSw); go_simp; (try with_reducible rfl))
    try simp only [Act.put]
    refine anyB_take (S := fun U => Below W.heap.size W U) (i := 3) (v := ?_) (fun _ _ h hb => below_step h hb) rfl (by kernel_rfl) (by kernel_rfl) (by kernel_rfl) (by kernel_rfl) (by kernel_rfl) (by kernel_rfl) (fun _ _ _ h => h) (Or.inl ⟨by rfl, ?_⟩) hS ?_
    rotate_left
    · (intro w' hSw; (try dsimp only at hSw); go_simp; (try with_reducible rfl))
    try simp only [Act.put]
    refine anyB_take (S := fun U => Below W.heap.size W U) (i := 4) (v := ?_) (fun _ _ h hb => below_step h hb) rfl (by kernel_rfl) (by kernel_rfl) (by kernel_rfl) (by kernel_rfl) (by kernel_rfl) (by kernel_rfl) (fun _ _ _ h => h) (Or.inl ⟨by rfl, ?_⟩) hS ?_
    rotate_left
    · (intro w' hSw; have hc0 := cell_below hSw HH4.out; (try dsimp only at hSw); go_simp; (try with_reducible rfl))
    try simp only [Act.put]
    refine anyB_one (k := 2) (by kernel_rfl) (by kernel_rfl) (by kernel_rfl) (fun g1_W hg => ?_)
    have hS := below_step hS hg
    refine wpOp_step rfl (fun K' hK => ?_)
    have HK := Lib.hid hK
    clear hK
    rw [if_pos (by rfl)]
    go_simp
    refine Calls.mono ((Lib.hid (SP.out hash)).out _) ?_
    rintro e w1_W ⟨rfl, hb⟩
    have hS := below_step hS hb
    have HB := Lib.hid hb
    clear hb hg
    go_wp2_with fail
    refine HK.out _ _ ⟨HB.out, ?_⟩
    clear HK HB
    try simp only [Act.put, List.setIfInBounds_toArray, List.set_cons_zero, List.set_cons_succ]
    refine anyB_one (k := 5) (by kernel_rfl) (by kernel_rfl) (by kernel_rfl) (fun g2_W hg => ?_)
    have hS := below_step hS hg
    refine wpOp_step rfl (fun K' hK => ?_)
    have HK := Lib.hid hK
    clear hK
    rw [if_pos (by rfl)]
    go_simp
    refine Calls.mono ((Lib.hid (SA.out exp)).out _) ?_
    rintro e w2_W ⟨rfl, hb⟩
    have hS := below_step hS hb
    have HB := Lib.hid hb
    clear hb hg
    go_wp2_with fail
    refine HK.out _ _ ⟨HB.out, ?_⟩
    clear HK HB
    try simp only [Act.put, List.setIfInBounds_toArray, List.set_cons_zero, List.set_cons_succ]
    exact anyB_stop (by kernel_rfl) (fun u hu => ⟨rfl, below_step hS hu⟩)
  case hfin =>
    rintro a u bs hl ⟨rfl, hS⟩ hbx hnd
    obtain ⟨x0, x1, rfl⟩ : ∃ x0 x1, bs = [x0, x1] := by
      match bs, hl with
      | [x0, x1], _ => exact ⟨_, _, rfl⟩
    obtain ⟨hb0, hz0⟩ := hbx x0 (by simp)
    replace hz0 : LBox u x0 0 ⟨#[]⟩ 0 (.slice none 0 0) := hz0
    obtain ⟨hb1, hz1⟩ := hbx x1 (by simp)
    replace hz1 : LBox u x1 0 ⟨#[]⟩ 0 (.slice none 0 0) := hz1
    change wpAny _ _ _ _ 2 #[true, true, true, true, true, true, true, true, false, false] (⟨#[.agg #[.int .i64 d.cap, .int .i64 d.push, .int .i64 d.dust, .int .i64 d.res, .int .i64 d.rate, .int .i64 d.delay, .int .i64 d.maxH, .int .i64 d.flight, .int .i64 d.minH], .agg #[.string k.rev, .string k.later, .string k.mine, .string k.theirs, .string k.pay], .agg #[.bool false, .int .i64 hid, .int .i64 amt, .string hash, .int .i64 exp], .pointer (some ⟨w.heap.size, 0, none⟩), .pointer (some ⟨w.heap.size + 1, 0, none⟩), .pointer (some ⟨w.heap.size + 1 + 1, 0, none⟩), .pointer (some ⟨w.heap.size + 1 + 1 + 1, 0, none⟩), .pointer (some ⟨x0, 0, none⟩), .pointer (some ⟨x1, 0, none⟩), undef, undef, .pointer (some ⟨w.heap.size + 1 + 1, 3, none⟩), .string hash, .agg #[.int .u8 2, .string hash, .int .i64 0, .slice none 0 0], .pointer (some ⟨w.heap.size + 1 + 1, 4, none⟩), .int .i64 exp, .agg #[.int .u8 3, .string ⟨#[]⟩, .int .i64 exp, .slice none 0 0], undef, undef, undef, undef, undef, undef, undef, undef, undef, undef, undef, undef, undef, undef, undef, undef, undef, undef, undef, undef, undef, undef, undef, undef, undef, undef, undef, undef, undef, undef, undef, undef, undef, undef, undef, undef, undef, undef, undef, undef], []⟩ : Act) u
    have hne : x0 ≠ x1 := by simpa using hnd
    refine wpAny_one (k := 8) (by kernel_rfl) ?_
    refine wpOp_step rfl (fun K' hK => ?_)
    have HK := Lib.hid hK
    clear hK
    rw [if_pos (by rfl)]
    obtain ⟨p0, p1, p2, p3, pf⟩ := hz0.cells
    go_simp
    refine HK.out _ (putL u x0 (.int .u8 2) (.string hash) (.int .i64 0) (.slice none 0 0)) ?_
    clear HK p0 p1 p2 p3 pf
    have hA0 := hz0.put 2 hash 0 (.slice none 0 0)
    have hF0 := putL_fr u x0 (.int .u8 2) (.string hash) (.int .i64 0) (.slice none 0 0) (F := [x0]) (List.mem_singleton.2 rfl)
    generalize (putL u x0 (.int .u8 2) (.string hash) (.int .i64 0) (.slice none 0 0)) = U1 at hA0 hF0 ⊢
    try simp only [List.setIfInBounds_toArray, List.set_cons_zero, List.set_cons_succ]
    have hz1b := hz1.fr hF0 (by simpa using Ne.symm hne)
    refine wpAny_one (k := 9) (by kernel_rfl) ?_
    refine wpOp_step rfl (fun K' hK => ?_)
    have HK := Lib.hid hK
    clear hK
    rw [if_pos (by rfl)]
    obtain ⟨p0, p1, p2, p3, pf⟩ := hz1b.cells
    go_simp
    refine HK.out _ (putL U1 x1 (.int .u8 3) (.string ⟨#[]⟩) (.int .i64 exp) (.slice none 0 0)) ?_
    clear HK p0 p1 p2 p3 pf
    have hA1 := hz1b.put 3 ⟨#[]⟩ exp (.slice none 0 0)
    have hF1 := putL_fr U1 x1 (.int .u8 3) (.string ⟨#[]⟩) (.int .i64 exp) (.slice none 0 0) (F := [x1]) (List.mem_singleton.2 rfl)
    generalize (putL U1 x1 (.int .u8 3) (.string ⟨#[]⟩) (.int .i64 exp) (.slice none 0 0)) = V at hA1 hF1 ⊢
    try simp only [List.setIfInBounds_toArray, List.set_cons_zero, List.set_cons_succ]
    refine wpAny_end (by kernel_rfl) ?_
    refine NoPanic.normal ?_
    have hWU : Below W.heap.size W U1 := hS.trans (hF0.toBelowOf hS.size (fun i hi => by rw [List.mem_singleton.1 hi]; exact hb0))
    have hWV : Below W.heap.size W V := hWU.trans (hF1.toBelowOf hWU.size (fun i hi => by rw [List.mem_singleton.1 hi]; exact hb1))
    have HWV := Lib.hid hWV
    have HZV := Lib.hid (HZ.out.below hWV)
    have HP := Lib.hid (hA0.fr hF1 (by simpa using hne))
    have HA := Lib.hid hA1
    have VD := Lib.hid (cell_below hWV HD.out)
    have VK0 := Lib.hid (cell_below hWV HK0.out)
    have VK2 := Lib.hid (cell_below hWV HK2.out)
    have VK3 := Lib.hid (cell_below hWV HK3.out)
    have VH0 := Lib.hid (cell_below hWV HH0.out)
    have HX := Lib.hid (And.intro hne (And.intro (hA0.lt) (And.intro hA1.lt (And.intro hb0 hb1))))
    have HU1 := Lib.hid (show U1.heap.size ≤ V.heap.size from hF1.size)
    clear hz0 hz1 hz1b hF0 hF1 hWU hWV hA0 hA1 hbx hnd hb0 hb1 hS hne
    go_upto_region 2 with fail
    refine wp_region_noPanic ?_
    refine wp_region_any (by kernel_rfl) ?_
    have hS : Below V.heap.size V V.drew := (Below.refl _ _).drew
    change wpAny _ _ _ _ 19 (Array.replicate 19 false) _ V.drew
    refine float_all (F := [(15, 9), (16, 10)]) (o := (.cells #[.int .u8 0, .string ⟨#[]⟩, .int .i64 0, .slice none 0 0] 55)) (base := V.heap.size) (g := 2) (f := 15) (stop := #[true, true, true, true, true, true, true, true, true, true, true, true, true, true, true, true, true, false, false]) (R := fun a u => ∃ (R1 R2 Ap Aq : Option Addr) (cp cq : Nat), a = (⟨#[.agg #[.int .i64 d.cap, .int .i64 d.push, .int .i64 d.dust, .int .i64 d.res, .int .i64 d.rate, .int .i64 d.delay, .int .i64 d.maxH, .int .i64 d.flight, .int .i64 d.minH], .agg #[.string k.rev, .string k.later, .string k.mine, .string k.theirs, .string k.pay], .agg #[.bool false, .int .i64 hid, .int .i64 amt, .string hash, .int .i64 exp], .pointer (some ⟨w.heap.size, 0, none⟩), .pointer (some ⟨w.heap.size + 1, 0, none⟩), .pointer (some ⟨w.heap.size + 1 + 1, 0, none⟩), .pointer (some ⟨w.heap.size + 1 + 1 + 1, 0, none⟩), .pointer (some ⟨x0, 0, none⟩), .pointer (some ⟨x1, 0, none⟩), undef, undef, .pointer (some ⟨w.heap.size + 1 + 1, 3, none⟩), .string hash, .agg #[.int .u8 2, .string hash, .int .i64 0, .slice none 0 0], .pointer (some ⟨w.heap.size + 1 + 1, 4, none⟩), .int .i64 exp, .agg #[.int .u8 3, .string ⟨#[]⟩, .int .i64 exp, .slice none 0 0], .pointer (some ⟨w.heap.size + 1, 3, none⟩), .string k.theirs, .agg #[.int .u8 1, .string k.theirs, .int .i64 0, .slice none 0 0], .agg #[.int .u8 2, .string hash, .int .i64 0, .slice none 0 0], .slice R1 2 2, .agg #[.int .u8 5, .string ⟨#[]⟩, .int .i64 0, .slice Ap 2 cp], .agg #[.int .u8 3, .string ⟨#[]⟩, .int .i64 exp, .slice none 0 0], .pointer (some ⟨w.heap.size, 5, none⟩), .int .i64 d.delay, .agg #[.int .u8 4, .string ⟨#[]⟩, .int .i64 d.delay, .slice none 0 0], .pointer (some ⟨w.heap.size + 1, 2, none⟩), .string k.mine, .agg #[.int .u8 1, .string k.mine, .int .i64 0, .slice none 0 0], .slice R2 3 3, .agg #[.int .u8 5, .string ⟨#[]⟩, .int .i64 0, .slice Aq 3 cq], undef, undef, undef, undef, undef, undef, undef, undef, undef, undef, undef, undef, undef, undef, undef, undef, undef, undef, undef, undef, undef, undef, undef, undef, undef], []⟩ : Act) ∧ LockH u (allL [sigL k.theirs, preL hash]) [.int .u8 5, .string ⟨#[]⟩, .int .i64 0, .slice Ap 2 cp] ∧ LockH u (allL [afterL exp, olderL d.delay, sigL k.mine]) [.int .u8 5, .string ⟨#[]⟩, .int .i64 0, .slice Aq 3 cq] ∧ Below V.heap.size V u) rfl (by kernel_rfl) (by kernel_rfl) (by decide) (by decide) (by kernel_rfl) (fun _ _ _ _ _ h => h) ?hal ?hfin hS.size ?chain
    case hal =>
      intro p hp K a w hK
      simp only [List.mem_cons, List.not_mem_nil, or_false] at hp
      rcases hp with rfl | rfl
      all_goals
        refine wpOp_step rfl (fun K' hK' => ?_)
        rw [if_pos (by simp [Region.wanted])]
        go_simp
        exact hK' _ _ hK
    case chain =>
      refine anyB_take (S := fun U => Below V.heap.size V U) (i := 0) (v := ?_) (fun _ _ h hb => below_step h hb) rfl (by kernel_rfl) (by kernel_rfl) (by kernel_rfl) (by kernel_rfl) (by kernel_rfl) (by kernel_rfl) (fun _ _ _ h => h) (Or.inl ⟨by rfl, ?_⟩) hS ?_
      rotate_left
      · (intro w' hSw; (try dsimp only at hSw); go_simp; (try with_reducible rfl))
      try simp only [Act.put, List.setIfInBounds_toArray]
      refine anyB_take (S := fun U => Below V.heap.size V U) (i := 1) (v := ?_) (fun _ _ h hb => below_step h hb) rfl (by kernel_rfl) (by kernel_rfl) (by kernel_rfl) (by kernel_rfl) (by kernel_rfl) (by kernel_rfl) (fun _ _ _ h => h) (Or.inl ⟨by rfl, ?_⟩) hS ?_
      rotate_left
      · (intro w' hSw; have hc0 := cell_below hSw VK3.out; (try dsimp only at hSw); go_simp; (try with_reducible rfl))
      try simp only [Act.put]
      refine anyB_take (S := fun U => Below V.heap.size V U) (i := 3) (v := ?_) (fun _ _ h hb => below_step h hb) rfl (by kernel_rfl) (by kernel_rfl) (by kernel_rfl) (by kernel_rfl) (by kernel_rfl) (by kernel_rfl) (fun _ _ _ h => h) (Or.inl ⟨by rfl, ?_⟩) hS ?_
      rotate_left
      · (intro w' hSw; have hc0 := cell_below hSw HP.out.cells.1; have hc1 := cell_below hSw HP.out.cells.2.1; have hc2 := cell_below hSw HP.out.cells.2.2.1; have hc3 := cell_below hSw HP.out.cells.2.2.2.1; (try dsimp only at hSw); go_simp; (try with_reducible rfl))
      try simp only [Act.put]
      refine anyB_take (S := fun U => Below V.heap.size V U) (i := 6) (v := ?_) (fun _ _ h hb => below_step h hb) rfl (by kernel_rfl) (by kernel_rfl) (by kernel_rfl) (by kernel_rfl) (by kernel_rfl) (by kernel_rfl) (fun _ _ _ h => h) (Or.inl ⟨by rfl, ?_⟩) hS ?_
      rotate_left
      · (intro w' hSw; have hc0 := cell_below hSw HA.out.cells.1; have hc1 := cell_below hSw HA.out.cells.2.1; have hc2 := cell_below hSw HA.out.cells.2.2.1; have hc3 := cell_below hSw HA.out.cells.2.2.2.1; (try dsimp only at hSw); go_simp; (try with_reducible rfl))
      try simp only [Act.put]
      refine anyB_take (S := fun U => Below V.heap.size V U) (i := 7) (v := ?_) (fun _ _ h hb => below_step h hb) rfl (by kernel_rfl) (by kernel_rfl) (by kernel_rfl) (by kernel_rfl) (by kernel_rfl) (by kernel_rfl) (fun _ _ _ h => h) (Or.inl ⟨by rfl, ?_⟩) hS ?_
      rotate_left
      · (intro w' hSw; (try dsimp only at hSw); go_simp; (try with_reducible rfl))
      try simp only [Act.put]
      refine anyB_take (S := fun U => Below V.heap.size V U) (i := 8) (v := ?_) (fun _ _ h hb => below_step h hb) rfl (by kernel_rfl) (by kernel_rfl) (by kernel_rfl) (by kernel_rfl) (by kernel_rfl) (by kernel_rfl) (fun _ _ _ h => h) (Or.inl ⟨by rfl, ?_⟩) hS ?_
      rotate_left
      · (intro w' hSw; have hc0 := cell_below hSw VD.out; (try dsimp only at hSw); go_simp; (try with_reducible rfl))
      try simp only [Act.put]
      refine anyB_take (S := fun U => Below V.heap.size V U) (i := 10) (v := ?_) (fun _ _ h hb => below_step h hb) rfl (by kernel_rfl) (by kernel_rfl) (by kernel_rfl) (by kernel_rfl) (by kernel_rfl) (by kernel_rfl) (fun _ _ _ h => h) (Or.inl ⟨by rfl, ?_⟩) hS ?_
      rotate_left
      · (intro w' hSw; (try dsimp only at hSw); go_simp; (try with_reducible rfl))
      try simp only [Act.put]
      refine anyB_take (S := fun U => Below V.heap.size V U) (i := 11) (v := ?_) (fun _ _ h hb => below_step h hb) rfl (by kernel_rfl) (by kernel_rfl) (by kernel_rfl) (by kernel_rfl) (by kernel_rfl) (by kernel_rfl) (fun _ _ _ h => h) (Or.inl ⟨by rfl, ?_⟩) hS ?_
      rotate_left
      · (intro w' hSw; have hc0 := cell_below hSw VK2.out; (try dsimp only at hSw); go_simp; (try with_reducible rfl))
      try simp only [Act.put]
      refine anyB_one (k := 2) (by kernel_rfl) (by kernel_rfl) (by kernel_rfl) (fun g1_V hg => ?_)
      have hS := below_step hS hg
      refine wpOp_step rfl (fun K' hK => ?_)
      have HK := Lib.hid hK
      clear hK
      rw [if_pos (by rfl)]
      go_simp
      refine Calls.mono ((Lib.hid (SS.out k.theirs)).out _) ?_
      rintro e w1_V ⟨rfl, hb⟩
      have hS := below_step hS hb
      have HB := Lib.hid hb
      clear hb hg
      go_wp2_with fail
      refine HK.out _ _ ⟨HB.out, ?_⟩
      clear HK HB
      try simp only [Act.put, List.setIfInBounds_toArray, List.set_cons_zero, List.set_cons_succ]
      refine anyB_one (k := 4) (by kernel_rfl) (by kernel_rfl) (by kernel_rfl) (fun g2_V hg => ?_)
      have hS := below_step hS hg
      refine wpOp_step rfl (fun K' hK => ?_)
      have HK := Lib.hid hK
      clear hK
      rw [if_pos (by rfl)]
      go_simp
      have X2_V := Lib.hid (show LocksH (g2_V.alloc (.cells #[.int .u8 1, .string k.theirs, .int .i64 0, .slice none 0 0, .int .u8 2, .string hash, .int .i64 0, .slice none 0 0] 55)) (some ⟨g2_V.heap.size, 0, none⟩) [sigL k.theirs, preL hash] [.int .u8 1, .string k.theirs, .int .i64 0, .slice none 0 0, .int .u8 2, .string hash, .int .i64 0, .slice none 0 0] from rowH (cs := #[.int .u8 1, .string k.theirs, .int .i64 0, .slice none 0 0, .int .u8 2, .string hash, .int .i64 0, .slice none 0 0]) (by simp) (fun W hW => LocksC.cons (LockC.leaf 1 _ _) (LocksC.cons (LockC.leaf 2 _ _) LocksC.nil)))
      have hS := below_step hS ((Below.refl _ _).alloc (Nat.le_refl _) (.cells #[.int .u8 1, .string k.theirs, .int .i64 0, .slice none 0 0, .int .u8 2, .string hash, .int .i64 0, .slice none 0 0] 55))
      clear hg
      refine HK.out _ _ ⟨(Below.refl _ _).alloc (Nat.le_refl _) _, ?_⟩
      clear HK
      try simp only [Act.put, List.setIfInBounds_toArray, List.set_cons_zero, List.set_cons_succ]
      refine anyB_one (k := 5) (by kernel_rfl) (by kernel_rfl) (by kernel_rfl) (fun g3_V hg => ?_)
      have hS := below_step hS hg
      replace X2_V := Lib.hid (X2_V.out.mono (DepEq.below hg))
      refine wpOp_step rfl (fun K' hK => ?_)
      have HK := Lib.hid hK
      clear hK
      rw [if_pos (by rfl)]
      go_simp
      refine Calls.mono (all_n [sigL k.theirs, preL hash] 2 rfl ⟨g2_V.heap.size, 0, none⟩ 2 _ (by simp) (by simp) X2_V.out) ?_
      rintro e w3_V ⟨Ap, cp, rfl, hl, hb⟩
      have hS := below_step hS hb
      have HB := Lib.hid hb
      have Lp := Lib.hid hl
      clear hb hg hl X2_V
      go_wp2_with fail
      refine HK.out _ _ ⟨HB.out, ?_⟩
      clear HK HB
      try simp only [Act.put, List.setIfInBounds_toArray, List.set_cons_zero, List.set_cons_succ]
      refine anyB_one (k := 9) (by kernel_rfl) (by kernel_rfl) (by kernel_rfl) (fun g4_V hg => ?_)
      have hS := below_step hS hg
      replace Lp := Lib.hid (Lp.out.mono (DepEq.below hg))
      refine wpOp_step rfl (fun K' hK => ?_)
      have HK := Lib.hid hK
      clear hK
      rw [if_pos (by rfl)]
      go_simp
      refine Calls.mono ((Lib.hid (SO.out d.delay)).out _) ?_
      rintro e w4_V ⟨rfl, hb⟩
      have hS := below_step hS hb
      replace Lp := Lib.hid (Lp.out.mono (DepEq.below hb))
      have HB := Lib.hid hb
      clear hb hg
      go_wp2_with fail
      refine HK.out _ _ ⟨HB.out, ?_⟩
      clear HK HB
      try simp only [Act.put, List.setIfInBounds_toArray, List.set_cons_zero, List.set_cons_succ]
      refine anyB_one (k := 12) (by kernel_rfl) (by kernel_rfl) (by kernel_rfl) (fun g5_V hg => ?_)
      have hS := below_step hS hg
      replace Lp := Lib.hid (Lp.out.mono (DepEq.below hg))
      refine wpOp_step rfl (fun K' hK => ?_)
      have HK := Lib.hid hK
      clear hK
      rw [if_pos (by rfl)]
      go_simp
      refine Calls.mono ((Lib.hid (SS.out k.mine)).out _) ?_
      rintro e w5_V ⟨rfl, hb⟩
      have hS := below_step hS hb
      replace Lp := Lib.hid (Lp.out.mono (DepEq.below hb))
      have HB := Lib.hid hb
      clear hb hg
      go_wp2_with fail
      refine HK.out _ _ ⟨HB.out, ?_⟩
      clear HK HB
      try simp only [Act.put, List.setIfInBounds_toArray, List.set_cons_zero, List.set_cons_succ]
      refine anyB_one (k := 13) (by kernel_rfl) (by kernel_rfl) (by kernel_rfl) (fun g6_V hg => ?_)
      have hS := below_step hS hg
      replace Lp := Lib.hid (Lp.out.mono (DepEq.below hg))
      refine wpOp_step rfl (fun K' hK => ?_)
      have HK := Lib.hid hK
      clear hK
      rw [if_pos (by rfl)]
      go_simp
      have X6_V := Lib.hid (show LocksH (g6_V.alloc (.cells #[.int .u8 3, .string ⟨#[]⟩, .int .i64 exp, .slice none 0 0, .int .u8 4, .string ⟨#[]⟩, .int .i64 d.delay, .slice none 0 0, .int .u8 1, .string k.mine, .int .i64 0, .slice none 0 0] 55)) (some ⟨g6_V.heap.size, 0, none⟩) [afterL exp, olderL d.delay, sigL k.mine] [.int .u8 3, .string ⟨#[]⟩, .int .i64 exp, .slice none 0 0, .int .u8 4, .string ⟨#[]⟩, .int .i64 d.delay, .slice none 0 0, .int .u8 1, .string k.mine, .int .i64 0, .slice none 0 0] from rowH (cs := #[.int .u8 3, .string ⟨#[]⟩, .int .i64 exp, .slice none 0 0, .int .u8 4, .string ⟨#[]⟩, .int .i64 d.delay, .slice none 0 0, .int .u8 1, .string k.mine, .int .i64 0, .slice none 0 0]) (by simp) (fun W hW => LocksC.cons (LockC.leaf 3 _ _) (LocksC.cons (LockC.leaf 4 _ _) (LocksC.cons (LockC.leaf 1 _ _) LocksC.nil))))
      have hS := below_step hS ((Below.refl _ _).alloc (Nat.le_refl _) (.cells #[.int .u8 3, .string ⟨#[]⟩, .int .i64 exp, .slice none 0 0, .int .u8 4, .string ⟨#[]⟩, .int .i64 d.delay, .slice none 0 0, .int .u8 1, .string k.mine, .int .i64 0, .slice none 0 0] 55))
      replace Lp := Lib.hid (Lp.out.mono (DepEq.below ((Below.refl _ _).alloc (Nat.le_refl _) (.cells #[.int .u8 3, .string ⟨#[]⟩, .int .i64 exp, .slice none 0 0, .int .u8 4, .string ⟨#[]⟩, .int .i64 d.delay, .slice none 0 0, .int .u8 1, .string k.mine, .int .i64 0, .slice none 0 0] 55))))
      clear hg
      refine HK.out _ _ ⟨(Below.refl _ _).alloc (Nat.le_refl _) _, ?_⟩
      clear HK
      try simp only [Act.put, List.setIfInBounds_toArray, List.set_cons_zero, List.set_cons_succ]
      refine anyB_one (k := 14) (by kernel_rfl) (by kernel_rfl) (by kernel_rfl) (fun g7_V hg => ?_)
      have hS := below_step hS hg
      replace Lp := Lib.hid (Lp.out.mono (DepEq.below hg))
      replace X6_V := Lib.hid (X6_V.out.mono (DepEq.below hg))
      refine wpOp_step rfl (fun K' hK => ?_)
      have HK := Lib.hid hK
      clear hK
      rw [if_pos (by rfl)]
      go_simp
      refine Calls.mono (all_n [afterL exp, olderL d.delay, sigL k.mine] 3 rfl ⟨g6_V.heap.size, 0, none⟩ 3 _ (by simp) (by simp) X6_V.out) ?_
      rintro e w7_V ⟨Aq, cq, rfl, hl, hb⟩
      have hS := below_step hS hb
      replace Lp := Lib.hid (Lp.out.mono (DepEq.below hb))
      have HB := Lib.hid hb
      have Lq := Lib.hid hl
      clear hb hg hl X6_V
      go_wp2_with fail
      refine HK.out _ _ ⟨HB.out, ?_⟩
      clear HK HB
      try simp only [Act.put, List.setIfInBounds_toArray, List.set_cons_zero, List.set_cons_succ]
      exact anyB_stop (by kernel_rfl) (fun u hu => ⟨_, _, Ap, Aq, cp, cq, rfl, Lp.out.mono (DepEq.below hu), Lq.out.mono (DepEq.below hu), below_step hS hu⟩)
    case hfin =>
      rintro a u bs hl ⟨R1, R2, Ap, Aq, cp, cq, rfl, hlp, hlq, hS⟩ hbx hnd
      obtain ⟨y0, y1, rfl⟩ : ∃ y0 y1, bs = [y0, y1] := by
        match bs, hl with
        | [y0, y1], _ => exact ⟨_, _, rfl⟩
      obtain ⟨hb0, hz0⟩ := hbx y0 (by simp)
      replace hz0 : LBox u y0 0 ⟨#[]⟩ 0 (.slice none 0 0) := hz0
      obtain ⟨hb1, hz1⟩ := hbx y1 (by simp)
      replace hz1 : LBox u y1 0 ⟨#[]⟩ 0 (.slice none 0 0) := hz1
      change wpAny _ _ _ _ 2 #[true, true, true, true, true, true, true, true, true, true, true, true, true, true, true, true, true, false, false] (⟨#[.agg #[.int .i64 d.cap, .int .i64 d.push, .int .i64 d.dust, .int .i64 d.res, .int .i64 d.rate, .int .i64 d.delay, .int .i64 d.maxH, .int .i64 d.flight, .int .i64 d.minH], .agg #[.string k.rev, .string k.later, .string k.mine, .string k.theirs, .string k.pay], .agg #[.bool false, .int .i64 hid, .int .i64 amt, .string hash, .int .i64 exp], .pointer (some ⟨w.heap.size, 0, none⟩), .pointer (some ⟨w.heap.size + 1, 0, none⟩), .pointer (some ⟨w.heap.size + 1 + 1, 0, none⟩), .pointer (some ⟨w.heap.size + 1 + 1 + 1, 0, none⟩), .pointer (some ⟨x0, 0, none⟩), .pointer (some ⟨x1, 0, none⟩), .pointer (some ⟨y0, 0, none⟩), .pointer (some ⟨y1, 0, none⟩), .pointer (some ⟨w.heap.size + 1 + 1, 3, none⟩), .string hash, .agg #[.int .u8 2, .string hash, .int .i64 0, .slice none 0 0], .pointer (some ⟨w.heap.size + 1 + 1, 4, none⟩), .int .i64 exp, .agg #[.int .u8 3, .string ⟨#[]⟩, .int .i64 exp, .slice none 0 0], .pointer (some ⟨w.heap.size + 1, 3, none⟩), .string k.theirs, .agg #[.int .u8 1, .string k.theirs, .int .i64 0, .slice none 0 0], .agg #[.int .u8 2, .string hash, .int .i64 0, .slice none 0 0], .slice R1 2 2, .agg #[.int .u8 5, .string ⟨#[]⟩, .int .i64 0, .slice Ap 2 cp], .agg #[.int .u8 3, .string ⟨#[]⟩, .int .i64 exp, .slice none 0 0], .pointer (some ⟨w.heap.size, 5, none⟩), .int .i64 d.delay, .agg #[.int .u8 4, .string ⟨#[]⟩, .int .i64 d.delay, .slice none 0 0], .pointer (some ⟨w.heap.size + 1, 2, none⟩), .string k.mine, .agg #[.int .u8 1, .string k.mine, .int .i64 0, .slice none 0 0], .slice R2 3 3, .agg #[.int .u8 5, .string ⟨#[]⟩, .int .i64 0, .slice Aq 3 cq], undef, undef, undef, undef, undef, undef, undef, undef, undef, undef, undef, undef, undef, undef, undef, undef, undef, undef, undef, undef, undef, undef, undef, undef, undef], []⟩ : Act) u
      have hne : y0 ≠ y1 := by simpa using hnd
      refine wpAny_one (k := 17) (by kernel_rfl) ?_
      refine wpOp_step rfl (fun K' hK => ?_)
      have HK := Lib.hid hK
      clear hK
      rw [if_pos (by rfl)]
      obtain ⟨p0, p1, p2, p3, pf⟩ := hz0.cells
      go_simp
      refine HK.out _ (putL u y0 (.int .u8 5) (.string ⟨#[]⟩) (.int .i64 0) (.slice Ap 2 cp)) ?_
      clear HK p0 p1 p2 p3 pf
      have hA0 := hz0.put 5 ⟨#[]⟩ 0 (.slice Ap 2 cp)
      have hF0 := putL_fr u y0 (.int .u8 5) (.string ⟨#[]⟩) (.int .i64 0) (.slice Ap 2 cp) (F := [y0]) (List.mem_singleton.2 rfl)
      generalize (putL u y0 (.int .u8 5) (.string ⟨#[]⟩) (.int .i64 0) (.slice Ap 2 cp)) = U2 at hA0 hF0 ⊢
      try simp only [List.setIfInBounds_toArray, List.set_cons_zero, List.set_cons_succ]
      have hz1b := hz1.fr hF0 (by simpa using Ne.symm hne)
      refine wpAny_one (k := 18) (by kernel_rfl) ?_
      refine wpOp_step rfl (fun K' hK => ?_)
      have HK := Lib.hid hK
      clear hK
      rw [if_pos (by rfl)]
      obtain ⟨p0, p1, p2, p3, pf⟩ := hz1b.cells
      go_simp
      refine HK.out _ (putL U2 y1 (.int .u8 5) (.string ⟨#[]⟩) (.int .i64 0) (.slice Aq 3 cq)) ?_
      clear HK p0 p1 p2 p3 pf
      have hA1 := hz1b.put 5 ⟨#[]⟩ 0 (.slice Aq 3 cq)
      have hF1 := putL_fr U2 y1 (.int .u8 5) (.string ⟨#[]⟩) (.int .i64 0) (.slice Aq 3 cq) (F := [y1]) (List.mem_singleton.2 rfl)
      generalize (putL U2 y1 (.int .u8 5) (.string ⟨#[]⟩) (.int .i64 0) (.slice Aq 3 cq)) = V2 at hA1 hF1 ⊢
      try simp only [List.setIfInBounds_toArray, List.set_cons_zero, List.set_cons_succ]
      refine wpAny_end (by kernel_rfl) ?_
      refine NoPanic.normal ?_
      have hWU : Below V.heap.size V U2 := hS.trans (hF0.toBelowOf hS.size (fun i hi => by rw [List.mem_singleton.1 hi]; exact hb0))
      have hWV : Below V.heap.size V V2 := hWU.trans (hF1.toBelowOf hWU.size (fun i hi => by rw [List.mem_singleton.1 hi]; exact hb1))
      have HWV2 := Lib.hid hWV
      have HZV2 := Lib.hid (HZV.out.below hWV)
      have HS9 := Lib.hid (hA0.fr hF1 (by simpa using hne))
      have HS10 := Lib.hid hA1
      have hdd : DepEq u V2 := (DepEq.box hz0 hF0).trans (DepEq.box hz1b hF1)
      have HLp := Lib.hid (hlp.mono hdd)
      have HLq := Lib.hid (hlq.mono hdd)
      have ZD := Lib.hid (cell_below hWV VD.out)
      have ZK0 := Lib.hid (cell_below hWV VK0.out)
      have ZK2 := Lib.hid (cell_below hWV VK2.out)
      have ZK3 := Lib.hid (cell_below hWV VK3.out)
      have zh0 := cell_below hWV VH0.out
      have HP2 := Lib.hid (HP.out.below hWV)
      have HA2 := Lib.hid (HA.out.below hWV)
      have HY := Lib.hid (And.intro hne (And.intro hb0 hb1))
      clear hz0 hz1 hz1b hF0 hF1 hWU hWV hA0 hA1 hbx hnd hb0 hb1 hS hne hlp hlq hdd
      go_upto_region 4 with fail
      refine wp_region_noPanic ?_
      refine wp_region_any (by kernel_rfl) ?_
      have hS : Below V2.heap.size V2 V2.drew := (Below.refl _ _).drew
      change wpAny _ _ _ _ 17 (Array.replicate 17 false) _ V2.drew
      refine float_all (F := []) (o := (.cells #[.int .u8 0, .string ⟨#[]⟩, .int .i64 0, .slice none 0 0] 55)) (base := V2.heap.size) (g := 2) (f := 15) (stop := #[true, true, true, true, true, true, true, true, true, true, true, true, true, true, true, false, false]) (R := fun a u => ∃ (R4 R5 Ar As : Option Addr) (cr cs : Nat), a = (⟨#[.agg #[.int .i64 d.cap, .int .i64 d.push, .int .i64 d.dust, .int .i64 d.res, .int .i64 d.rate, .int .i64 d.delay, .int .i64 d.maxH, .int .i64 d.flight, .int .i64 d.minH], .agg #[.string k.rev, .string k.later, .string k.mine, .string k.theirs, .string k.pay], .agg #[.bool false, .int .i64 hid, .int .i64 amt, .string hash, .int .i64 exp], .pointer (some ⟨w.heap.size, 0, none⟩), .pointer (some ⟨w.heap.size + 1, 0, none⟩), .pointer (some ⟨w.heap.size + 1 + 1, 0, none⟩), .pointer (some ⟨w.heap.size + 1 + 1 + 1, 0, none⟩), .pointer (some ⟨x0, 0, none⟩), .pointer (some ⟨x1, 0, none⟩), .pointer (some ⟨y0, 0, none⟩), .pointer (some ⟨y1, 0, none⟩), .pointer (some ⟨w.heap.size + 1 + 1, 3, none⟩), .string hash, .agg #[.int .u8 2, .string hash, .int .i64 0, .slice none 0 0], .pointer (some ⟨w.heap.size + 1 + 1, 4, none⟩), .int .i64 exp, .agg #[.int .u8 3, .string ⟨#[]⟩, .int .i64 exp, .slice none 0 0], .pointer (some ⟨w.heap.size + 1, 3, none⟩), .string k.theirs, .agg #[.int .u8 1, .string k.theirs, .int .i64 0, .slice none 0 0], .agg #[.int .u8 2, .string hash, .int .i64 0, .slice none 0 0], .slice R1 2 2, .agg #[.int .u8 5, .string ⟨#[]⟩, .int .i64 0, .slice Ap 2 cp], .agg #[.int .u8 3, .string ⟨#[]⟩, .int .i64 exp, .slice none 0 0], .pointer (some ⟨w.heap.size, 5, none⟩), .int .i64 d.delay, .agg #[.int .u8 4, .string ⟨#[]⟩, .int .i64 d.delay, .slice none 0 0], .pointer (some ⟨w.heap.size + 1, 2, none⟩), .string k.mine, .agg #[.int .u8 1, .string k.mine, .int .i64 0, .slice none 0 0], .slice R2 3 3, .agg #[.int .u8 5, .string ⟨#[]⟩, .int .i64 0, .slice Aq 3 cq], .pointer (some ⟨w.heap.size + 1 + 1, 0, none⟩), .bool false, .bool true, .pointer (some ⟨w.heap.size, 5, none⟩), .int .i64 d.delay, .agg #[.int .u8 4, .string ⟨#[]⟩, .int .i64 d.delay, .slice none 0 0], .agg #[.int .u8 2, .string hash, .int .i64 0, .slice none 0 0], .pointer (some ⟨w.heap.size + 1, 2, none⟩), .string k.mine, .agg #[.int .u8 1, .string k.mine, .int .i64 0, .slice none 0 0], .slice R4 3 3, .agg #[.int .u8 5, .string ⟨#[]⟩, .int .i64 0, .slice Ar 3 cr], .agg #[.int .u8 3, .string ⟨#[]⟩, .int .i64 exp, .slice none 0 0], .pointer (some ⟨w.heap.size + 1, 3, none⟩), .string k.theirs, .agg #[.int .u8 1, .string k.theirs, .int .i64 0, .slice none 0 0], .slice R5 2 2, .agg #[.int .u8 5, .string ⟨#[]⟩, .int .i64 0, .slice As 2 cs], undef, undef, undef, undef, undef, undef, undef], []⟩ : Act) ∧ LockH u (allL [olderL d.delay, preL hash, sigL k.mine]) [.int .u8 5, .string ⟨#[]⟩, .int .i64 0, .slice Ar 3 cr] ∧ LockH u (allL [afterL exp, sigL k.theirs]) [.int .u8 5, .string ⟨#[]⟩, .int .i64 0, .slice As 2 cs] ∧ Below V2.heap.size V2 u) rfl (by kernel_rfl) (by kernel_rfl) (by decide) (by decide) (by kernel_rfl) (fun _ _ _ _ _ h => h) ?hal ?hfin hS.size ?chain
      case hal => intro p hp; cases hp
      case chain =>
        refine anyB_take (S := fun U => Below V2.heap.size V2 U) (i := 0) (v := ?_) (fun _ _ h hb => below_step h hb) rfl (by kernel_rfl) (by kernel_rfl) (by kernel_rfl) (by kernel_rfl) (by kernel_rfl) (by kernel_rfl) (fun _ _ _ h => h) (Or.inl ⟨by rfl, ?_⟩) hS ?_
        rotate_left
        · (intro w' hSw; (try dsimp only at hSw); go_simp; (try with_reducible rfl))
        try simp only [Act.put, List.setIfInBounds_toArray]
        refine anyB_take (S := fun U => Below V2.heap.size V2 U) (i := 1) (v := ?_) (fun _ _ h hb => below_step h hb) rfl (by kernel_rfl) (by kernel_rfl) (by kernel_rfl) (by kernel_rfl) (by kernel_rfl) (by kernel_rfl) (fun _ _ _ h => h) (Or.inl ⟨by rfl, ?_⟩) hS ?_
        rotate_left
        · (intro w' hSw; have hc0 := cell_below hSw ZD.out; (try dsimp only at hSw); go_simp; (try with_reducible rfl))
        try simp only [Act.put]
        refine anyB_take (S := fun U => Below V2.heap.size V2 U) (i := 3) (v := ?_) (fun _ _ h hb => below_step h hb) rfl (by kernel_rfl) (by kernel_rfl) (by kernel_rfl) (by kernel_rfl) (by kernel_rfl) (by kernel_rfl) (fun _ _ _ h => h) (Or.inl ⟨by rfl, ?_⟩) hS ?_
        rotate_left
        · (intro w' hSw; have hc0 := cell_below hSw HP2.out.cells.1; have hc1 := cell_below hSw HP2.out.cells.2.1; have hc2 := cell_below hSw HP2.out.cells.2.2.1; have hc3 := cell_below hSw HP2.out.cells.2.2.2.1; (try dsimp only at hSw); go_simp; (try with_reducible rfl))
        try simp only [Act.put]
        refine anyB_take (S := fun U => Below V2.heap.size V2 U) (i := 4) (v := ?_) (fun _ _ h hb => below_step h hb) rfl (by kernel_rfl) (by kernel_rfl) (by kernel_rfl) (by kernel_rfl) (by kernel_rfl) (by kernel_rfl) (fun _ _ _ h => h) (Or.inl ⟨by rfl, ?_⟩) hS ?_
        rotate_left
        · (intro w' hSw; (try dsimp only at hSw); go_simp; (try with_reducible rfl))
        try simp only [Act.put]
        refine anyB_take (S := fun U => Below V2.heap.size V2 U) (i := 5) (v := ?_) (fun _ _ h hb => below_step h hb) rfl (by kernel_rfl) (by kernel_rfl) (by kernel_rfl) (by kernel_rfl) (by kernel_rfl) (by kernel_rfl) (fun _ _ _ h => h) (Or.inl ⟨by rfl, ?_⟩) hS ?_
        rotate_left
        · (intro w' hSw; have hc0 := cell_below hSw ZK2.out; (try dsimp only at hSw); go_simp; (try with_reducible rfl))
        try simp only [Act.put]
        refine anyB_take (S := fun U => Below V2.heap.size V2 U) (i := 9) (v := ?_) (fun _ _ h hb => below_step h hb) rfl (by kernel_rfl) (by kernel_rfl) (by kernel_rfl) (by kernel_rfl) (by kernel_rfl) (by kernel_rfl) (fun _ _ _ h => h) (Or.inl ⟨by rfl, ?_⟩) hS ?_
        rotate_left
        · (intro w' hSw; have hc0 := cell_below hSw HA2.out.cells.1; have hc1 := cell_below hSw HA2.out.cells.2.1; have hc2 := cell_below hSw HA2.out.cells.2.2.1; have hc3 := cell_below hSw HA2.out.cells.2.2.2.1; (try dsimp only at hSw); go_simp; (try with_reducible rfl))
        try simp only [Act.put]
        refine anyB_take (S := fun U => Below V2.heap.size V2 U) (i := 10) (v := ?_) (fun _ _ h hb => below_step h hb) rfl (by kernel_rfl) (by kernel_rfl) (by kernel_rfl) (by kernel_rfl) (by kernel_rfl) (by kernel_rfl) (fun _ _ _ h => h) (Or.inl ⟨by rfl, ?_⟩) hS ?_
        rotate_left
        · (intro w' hSw; (try dsimp only at hSw); go_simp; (try with_reducible rfl))
        try simp only [Act.put]
        refine anyB_take (S := fun U => Below V2.heap.size V2 U) (i := 11) (v := ?_) (fun _ _ h hb => below_step h hb) rfl (by kernel_rfl) (by kernel_rfl) (by kernel_rfl) (by kernel_rfl) (by kernel_rfl) (by kernel_rfl) (fun _ _ _ h => h) (Or.inl ⟨by rfl, ?_⟩) hS ?_
        rotate_left
        · (intro w' hSw; have hc0 := cell_below hSw ZK3.out; (try dsimp only at hSw); go_simp; (try with_reducible rfl))
        try simp only [Act.put]
        refine anyB_one (k := 2) (by kernel_rfl) (by kernel_rfl) (by kernel_rfl) (fun g1_V2 hg => ?_)
        have hS := below_step hS hg
        refine wpOp_step rfl (fun K' hK => ?_)
        have HK := Lib.hid hK
        clear hK
        rw [if_pos (by rfl)]
        go_simp
        refine Calls.mono ((Lib.hid (SO.out d.delay)).out _) ?_
        rintro e w1_V2 ⟨rfl, hb⟩
        have hS := below_step hS hb
        have HB := Lib.hid hb
        clear hb hg
        go_wp2_with fail
        refine HK.out _ _ ⟨HB.out, ?_⟩
        clear HK HB
        try simp only [Act.put, List.setIfInBounds_toArray, List.set_cons_zero, List.set_cons_succ]
        refine anyB_one (k := 6) (by kernel_rfl) (by kernel_rfl) (by kernel_rfl) (fun g2_V2 hg => ?_)
        have hS := below_step hS hg
        refine wpOp_step rfl (fun K' hK => ?_)
        have HK := Lib.hid hK
        clear hK
        rw [if_pos (by rfl)]
        go_simp
        refine Calls.mono ((Lib.hid (SS.out k.mine)).out _) ?_
        rintro e w2_V2 ⟨rfl, hb⟩
        have hS := below_step hS hb
        have HB := Lib.hid hb
        clear hb hg
        go_wp2_with fail
        refine HK.out _ _ ⟨HB.out, ?_⟩
        clear HK HB
        try simp only [Act.put, List.setIfInBounds_toArray, List.set_cons_zero, List.set_cons_succ]
        refine anyB_one (k := 7) (by kernel_rfl) (by kernel_rfl) (by kernel_rfl) (fun g3_V2 hg => ?_)
        have hS := below_step hS hg
        refine wpOp_step rfl (fun K' hK => ?_)
        have HK := Lib.hid hK
        clear hK
        rw [if_pos (by rfl)]
        go_simp
        have X3_V2 := Lib.hid (show LocksH (g3_V2.alloc (.cells #[.int .u8 4, .string ⟨#[]⟩, .int .i64 d.delay, .slice none 0 0, .int .u8 2, .string hash, .int .i64 0, .slice none 0 0, .int .u8 1, .string k.mine, .int .i64 0, .slice none 0 0] 55)) (some ⟨g3_V2.heap.size, 0, none⟩) [olderL d.delay, preL hash, sigL k.mine] [.int .u8 4, .string ⟨#[]⟩, .int .i64 d.delay, .slice none 0 0, .int .u8 2, .string hash, .int .i64 0, .slice none 0 0, .int .u8 1, .string k.mine, .int .i64 0, .slice none 0 0] from rowH (cs := #[.int .u8 4, .string ⟨#[]⟩, .int .i64 d.delay, .slice none 0 0, .int .u8 2, .string hash, .int .i64 0, .slice none 0 0, .int .u8 1, .string k.mine, .int .i64 0, .slice none 0 0]) (by simp) (fun W hW => LocksC.cons (LockC.leaf 4 _ _) (LocksC.cons (LockC.leaf 2 _ _) (LocksC.cons (LockC.leaf 1 _ _) LocksC.nil))))
        have hS := below_step hS ((Below.refl _ _).alloc (Nat.le_refl _) (.cells #[.int .u8 4, .string ⟨#[]⟩, .int .i64 d.delay, .slice none 0 0, .int .u8 2, .string hash, .int .i64 0, .slice none 0 0, .int .u8 1, .string k.mine, .int .i64 0, .slice none 0 0] 55))
        clear hg
        refine HK.out _ _ ⟨(Below.refl _ _).alloc (Nat.le_refl _) _, ?_⟩
        clear HK
        try simp only [Act.put, List.setIfInBounds_toArray, List.set_cons_zero, List.set_cons_succ]
        refine anyB_one (k := 8) (by kernel_rfl) (by kernel_rfl) (by kernel_rfl) (fun g4_V2 hg => ?_)
        have hS := below_step hS hg
        replace X3_V2 := Lib.hid (X3_V2.out.mono (DepEq.below hg))
        refine wpOp_step rfl (fun K' hK => ?_)
        have HK := Lib.hid hK
        clear hK
        rw [if_pos (by rfl)]
        go_simp
        refine Calls.mono (all_n [olderL d.delay, preL hash, sigL k.mine] 3 rfl ⟨g3_V2.heap.size, 0, none⟩ 3 _ (by simp) (by simp) X3_V2.out) ?_
        rintro e w4_V2 ⟨Ar, cr, rfl, hl, hb⟩
        have hS := below_step hS hb
        have HB := Lib.hid hb
        have Lr := Lib.hid hl
        clear hb hg hl X3_V2
        go_wp2_with fail
        refine HK.out _ _ ⟨HB.out, ?_⟩
        clear HK HB
        try simp only [Act.put, List.setIfInBounds_toArray, List.set_cons_zero, List.set_cons_succ]
        refine anyB_one (k := 12) (by kernel_rfl) (by kernel_rfl) (by kernel_rfl) (fun g5_V2 hg => ?_)
        have hS := below_step hS hg
        replace Lr := Lib.hid (Lr.out.mono (DepEq.below hg))
        refine wpOp_step rfl (fun K' hK => ?_)
        have HK := Lib.hid hK
        clear hK
        rw [if_pos (by rfl)]
        go_simp
        refine Calls.mono ((Lib.hid (SS.out k.theirs)).out _) ?_
        rintro e w5_V2 ⟨rfl, hb⟩
        have hS := below_step hS hb
        replace Lr := Lib.hid (Lr.out.mono (DepEq.below hb))
        have HB := Lib.hid hb
        clear hb hg
        go_wp2_with fail
        refine HK.out _ _ ⟨HB.out, ?_⟩
        clear HK HB
        try simp only [Act.put, List.setIfInBounds_toArray, List.set_cons_zero, List.set_cons_succ]
        refine anyB_one (k := 13) (by kernel_rfl) (by kernel_rfl) (by kernel_rfl) (fun g6_V2 hg => ?_)
        have hS := below_step hS hg
        replace Lr := Lib.hid (Lr.out.mono (DepEq.below hg))
        refine wpOp_step rfl (fun K' hK => ?_)
        have HK := Lib.hid hK
        clear hK
        rw [if_pos (by rfl)]
        go_simp
        have X6_V2 := Lib.hid (show LocksH (g6_V2.alloc (.cells #[.int .u8 3, .string ⟨#[]⟩, .int .i64 exp, .slice none 0 0, .int .u8 1, .string k.theirs, .int .i64 0, .slice none 0 0] 55)) (some ⟨g6_V2.heap.size, 0, none⟩) [afterL exp, sigL k.theirs] [.int .u8 3, .string ⟨#[]⟩, .int .i64 exp, .slice none 0 0, .int .u8 1, .string k.theirs, .int .i64 0, .slice none 0 0] from rowH (cs := #[.int .u8 3, .string ⟨#[]⟩, .int .i64 exp, .slice none 0 0, .int .u8 1, .string k.theirs, .int .i64 0, .slice none 0 0]) (by simp) (fun W hW => LocksC.cons (LockC.leaf 3 _ _) (LocksC.cons (LockC.leaf 1 _ _) LocksC.nil)))
        have hS := below_step hS ((Below.refl _ _).alloc (Nat.le_refl _) (.cells #[.int .u8 3, .string ⟨#[]⟩, .int .i64 exp, .slice none 0 0, .int .u8 1, .string k.theirs, .int .i64 0, .slice none 0 0] 55))
        replace Lr := Lib.hid (Lr.out.mono (DepEq.below ((Below.refl _ _).alloc (Nat.le_refl _) (.cells #[.int .u8 3, .string ⟨#[]⟩, .int .i64 exp, .slice none 0 0, .int .u8 1, .string k.theirs, .int .i64 0, .slice none 0 0] 55))))
        clear hg
        refine HK.out _ _ ⟨(Below.refl _ _).alloc (Nat.le_refl _) _, ?_⟩
        clear HK
        try simp only [Act.put, List.setIfInBounds_toArray, List.set_cons_zero, List.set_cons_succ]
        refine anyB_one (k := 14) (by kernel_rfl) (by kernel_rfl) (by kernel_rfl) (fun g7_V2 hg => ?_)
        have hS := below_step hS hg
        replace Lr := Lib.hid (Lr.out.mono (DepEq.below hg))
        replace X6_V2 := Lib.hid (X6_V2.out.mono (DepEq.below hg))
        refine wpOp_step rfl (fun K' hK => ?_)
        have HK := Lib.hid hK
        clear hK
        rw [if_pos (by rfl)]
        go_simp
        refine Calls.mono (all_n [afterL exp, sigL k.theirs] 2 rfl ⟨g6_V2.heap.size, 0, none⟩ 2 _ (by simp) (by simp) X6_V2.out) ?_
        rintro e w7_V2 ⟨As, cs, rfl, hl, hb⟩
        have hS := below_step hS hb
        replace Lr := Lib.hid (Lr.out.mono (DepEq.below hb))
        have HB := Lib.hid hb
        have Ls := Lib.hid hl
        clear hb hg hl X6_V2
        go_wp2_with fail
        refine HK.out _ _ ⟨HB.out, ?_⟩
        clear HK HB
        try simp only [Act.put, List.setIfInBounds_toArray, List.set_cons_zero, List.set_cons_succ]
        exact anyB_stop (by kernel_rfl) (fun u hu => ⟨_, _, Ar, As, cr, cs, rfl, Lr.out.mono (DepEq.below hu), Ls.out.mono (DepEq.below hu), below_step hS hu⟩)
      case hfin =>
        rintro a u bs hl ⟨R4, R5, Ar, As, cr, cs, rfl, hlr, hls, hS⟩ hbx hnd
        obtain rfl : bs = [] := List.length_eq_zero_iff.1 (by simpa using hl)
        change wpAny _ _ _ _ 2 #[true, true, true, true, true, true, true, true, true, true, true, true, true, true, true, false, false] (⟨#[.agg #[.int .i64 d.cap, .int .i64 d.push, .int .i64 d.dust, .int .i64 d.res, .int .i64 d.rate, .int .i64 d.delay, .int .i64 d.maxH, .int .i64 d.flight, .int .i64 d.minH], .agg #[.string k.rev, .string k.later, .string k.mine, .string k.theirs, .string k.pay], .agg #[.bool false, .int .i64 hid, .int .i64 amt, .string hash, .int .i64 exp], .pointer (some ⟨w.heap.size, 0, none⟩), .pointer (some ⟨w.heap.size + 1, 0, none⟩), .pointer (some ⟨w.heap.size + 1 + 1, 0, none⟩), .pointer (some ⟨w.heap.size + 1 + 1 + 1, 0, none⟩), .pointer (some ⟨x0, 0, none⟩), .pointer (some ⟨x1, 0, none⟩), .pointer (some ⟨y0, 0, none⟩), .pointer (some ⟨y1, 0, none⟩), .pointer (some ⟨w.heap.size + 1 + 1, 3, none⟩), .string hash, .agg #[.int .u8 2, .string hash, .int .i64 0, .slice none 0 0], .pointer (some ⟨w.heap.size + 1 + 1, 4, none⟩), .int .i64 exp, .agg #[.int .u8 3, .string ⟨#[]⟩, .int .i64 exp, .slice none 0 0], .pointer (some ⟨w.heap.size + 1, 3, none⟩), .string k.theirs, .agg #[.int .u8 1, .string k.theirs, .int .i64 0, .slice none 0 0], .agg #[.int .u8 2, .string hash, .int .i64 0, .slice none 0 0], .slice R1 2 2, .agg #[.int .u8 5, .string ⟨#[]⟩, .int .i64 0, .slice Ap 2 cp], .agg #[.int .u8 3, .string ⟨#[]⟩, .int .i64 exp, .slice none 0 0], .pointer (some ⟨w.heap.size, 5, none⟩), .int .i64 d.delay, .agg #[.int .u8 4, .string ⟨#[]⟩, .int .i64 d.delay, .slice none 0 0], .pointer (some ⟨w.heap.size + 1, 2, none⟩), .string k.mine, .agg #[.int .u8 1, .string k.mine, .int .i64 0, .slice none 0 0], .slice R2 3 3, .agg #[.int .u8 5, .string ⟨#[]⟩, .int .i64 0, .slice Aq 3 cq], .pointer (some ⟨w.heap.size + 1 + 1, 0, none⟩), .bool false, .bool true, .pointer (some ⟨w.heap.size, 5, none⟩), .int .i64 d.delay, .agg #[.int .u8 4, .string ⟨#[]⟩, .int .i64 d.delay, .slice none 0 0], .agg #[.int .u8 2, .string hash, .int .i64 0, .slice none 0 0], .pointer (some ⟨w.heap.size + 1, 2, none⟩), .string k.mine, .agg #[.int .u8 1, .string k.mine, .int .i64 0, .slice none 0 0], .slice R4 3 3, .agg #[.int .u8 5, .string ⟨#[]⟩, .int .i64 0, .slice Ar 3 cr], .agg #[.int .u8 3, .string ⟨#[]⟩, .int .i64 exp, .slice none 0 0], .pointer (some ⟨w.heap.size + 1, 3, none⟩), .string k.theirs, .agg #[.int .u8 1, .string k.theirs, .int .i64 0, .slice none 0 0], .slice R5 2 2, .agg #[.int .u8 5, .string ⟨#[]⟩, .int .i64 0, .slice As 2 cs], undef, undef, undef, undef, undef, undef, undef], []⟩ : Act) u
        have hz9 := HS9.out.below hS
        have hz10 := HS10.out.below hS
        refine wpAny_one (k := 15) (by kernel_rfl) ?_
        refine wpOp_step rfl (fun K' hK => ?_)
        have HK := Lib.hid hK
        clear hK
        rw [if_pos (by rfl)]
        obtain ⟨p0, p1, p2, p3, pf⟩ := hz9.cells
        go_simp
        refine HK.out _ (putL u y0 (.int .u8 5) (.string ⟨#[]⟩) (.int .i64 0) (.slice Ar 3 cr)) ?_
        clear HK p0 p1 p2 p3 pf
        have hA0 := hz9.put 5 ⟨#[]⟩ 0 (.slice Ar 3 cr)
        have hF0 := putL_fr u y0 (.int .u8 5) (.string ⟨#[]⟩) (.int .i64 0) (.slice Ar 3 cr) (F := [y0]) (List.mem_singleton.2 rfl)
        generalize (putL u y0 (.int .u8 5) (.string ⟨#[]⟩) (.int .i64 0) (.slice Ar 3 cr)) = U3 at hA0 hF0 ⊢
        try simp only [List.setIfInBounds_toArray, List.set_cons_zero, List.set_cons_succ]
        have hz10b := hz10.fr hF0 (by simpa using Ne.symm HY.out.1)
        refine wpAny_one (k := 16) (by kernel_rfl) ?_
        refine wpOp_step rfl (fun K' hK => ?_)
        have HK := Lib.hid hK
        clear hK
        rw [if_pos (by rfl)]
        obtain ⟨p0, p1, p2, p3, pf⟩ := hz10b.cells
        go_simp
        refine HK.out _ (putL U3 y1 (.int .u8 5) (.string ⟨#[]⟩) (.int .i64 0) (.slice As 2 cs)) ?_
        clear HK p0 p1 p2 p3 pf
        have hA1 := hz10b.put 5 ⟨#[]⟩ 0 (.slice As 2 cs)
        have hF1 := putL_fr U3 y1 (.int .u8 5) (.string ⟨#[]⟩) (.int .i64 0) (.slice As 2 cs) (F := [y1]) (List.mem_singleton.2 rfl)
        generalize (putL U3 y1 (.int .u8 5) (.string ⟨#[]⟩) (.int .i64 0) (.slice As 2 cs)) = V3 at hA1 hF1 ⊢
        try simp only [List.setIfInBounds_toArray, List.set_cons_zero, List.set_cons_succ]
        refine wpAny_end (by kernel_rfl) ?_
        refine NoPanic.normal ?_
        have hbw2 : V.heap.size ≤ u.heap.size := Nat.le_trans HWV2.out.size hS.size
        have hvu : Below V.heap.size V u := HWV2.out.trans (hS.mono HWV2.out.size)
        have hWU : Below V.heap.size V U3 := hvu.trans (hF0.toBelowOf hvu.size (fun i hi => by rw [List.mem_singleton.1 hi]; exact HY.out.2.1))
        have hWV : Below V.heap.size V V3 := hWU.trans (hF1.toBelowOf hWU.size (fun i hi => by rw [List.mem_singleton.1 hi]; exact HY.out.2.2))
        have HBB := Lib.hid (HB.out.trans ((HWV.out.mono HB.out.size).trans (hWV.mono (Nat.le_trans HB.out.size HWV.out.size))))
        have HZV3 := Lib.hid (HZV.out.below hWV)
        have HT9 := Lib.hid (hA0.fr hF1 (by simpa using HY.out.1))
        have HT10 := Lib.hid hA1
        have hdd : DepEq u V3 := (DepEq.box hz9 hF0).trans (DepEq.box hz10b hF1)
        have HLr := Lib.hid (hlr.mono hdd)
        have HLs := Lib.hid (hls.mono hdd)
        have ZK0 := Lib.hid (cell_below hWV VK0.out)
        clear hz9 hz10 hz10b hF0 hF1 hWU hWV hvu hbw2 hA0 hA1 hbx hnd hS hlr hls hdd
        go_upto_region 5 with fail
        refine wp_region_noPanic ?_
        refine wp_region_any (by kernel_rfl) ?_
        have hS : Below V3.heap.size V3 V3.drew := (Below.refl _ _).drew
        change wpAny _ _ _ _ 8 (Array.replicate 8 false) _ V3.drew
        refine float_all (F := []) (o := (.cells #[.int .u8 0, .string ⟨#[]⟩, .int .i64 0, .slice none 0 0] 55)) (base := V3.heap.size) (g := 1) (f := 7) (stop := #[true, true, true, true, true, true, true, false]) (R := fun a u => ∃ (R3 Az : Option Addr) (cz : Nat), a = (⟨#[.agg #[.int .i64 d.cap, .int .i64 d.push, .int .i64 d.dust, .int .i64 d.res, .int .i64 d.rate, .int .i64 d.delay, .int .i64 d.maxH, .int .i64 d.flight, .int .i64 d.minH], .agg #[.string k.rev, .string k.later, .string k.mine, .string k.theirs, .string k.pay], .agg #[.bool false, .int .i64 hid, .int .i64 amt, .string hash, .int .i64 exp], .pointer (some ⟨w.heap.size, 0, none⟩), .pointer (some ⟨w.heap.size + 1, 0, none⟩), .pointer (some ⟨w.heap.size + 1 + 1, 0, none⟩), .pointer (some ⟨w.heap.size + 1 + 1 + 1, 0, none⟩), .pointer (some ⟨x0, 0, none⟩), .pointer (some ⟨x1, 0, none⟩), .pointer (some ⟨y0, 0, none⟩), .pointer (some ⟨y1, 0, none⟩), .pointer (some ⟨w.heap.size + 1 + 1, 3, none⟩), .string hash, .agg #[.int .u8 2, .string hash, .int .i64 0, .slice none 0 0], .pointer (some ⟨w.heap.size + 1 + 1, 4, none⟩), .int .i64 exp, .agg #[.int .u8 3, .string ⟨#[]⟩, .int .i64 exp, .slice none 0 0], .pointer (some ⟨w.heap.size + 1, 3, none⟩), .string k.theirs, .agg #[.int .u8 1, .string k.theirs, .int .i64 0, .slice none 0 0], .agg #[.int .u8 2, .string hash, .int .i64 0, .slice none 0 0], .slice R1 2 2, .agg #[.int .u8 5, .string ⟨#[]⟩, .int .i64 0, .slice Ap 2 cp], .agg #[.int .u8 3, .string ⟨#[]⟩, .int .i64 exp, .slice none 0 0], .pointer (some ⟨w.heap.size, 5, none⟩), .int .i64 d.delay, .agg #[.int .u8 4, .string ⟨#[]⟩, .int .i64 d.delay, .slice none 0 0], .pointer (some ⟨w.heap.size + 1, 2, none⟩), .string k.mine, .agg #[.int .u8 1, .string k.mine, .int .i64 0, .slice none 0 0], .slice R2 3 3, .agg #[.int .u8 5, .string ⟨#[]⟩, .int .i64 0, .slice Aq 3 cq], .pointer (some ⟨w.heap.size + 1 + 1, 0, none⟩), .bool false, .bool true, .pointer (some ⟨w.heap.size, 5, none⟩), .int .i64 d.delay, .agg #[.int .u8 4, .string ⟨#[]⟩, .int .i64 d.delay, .slice none 0 0], .agg #[.int .u8 2, .string hash, .int .i64 0, .slice none 0 0], .pointer (some ⟨w.heap.size + 1, 2, none⟩), .string k.mine, .agg #[.int .u8 1, .string k.mine, .int .i64 0, .slice none 0 0], .slice R4 3 3, .agg #[.int .u8 5, .string ⟨#[]⟩, .int .i64 0, .slice Ar 3 cr], .agg #[.int .u8 3, .string ⟨#[]⟩, .int .i64 exp, .slice none 0 0], .pointer (some ⟨w.heap.size + 1, 3, none⟩), .string k.theirs, .agg #[.int .u8 1, .string k.theirs, .int .i64 0, .slice none 0 0], .slice R5 2 2, .agg #[.int .u8 5, .string ⟨#[]⟩, .int .i64 0, .slice As 2 cs], .pointer (some ⟨w.heap.size + 1, 0, none⟩), .string k.rev, .agg #[.int .u8 1, .string k.rev, .int .i64 0, .slice none 0 0], .agg #[.int .u8 5, .string ⟨#[]⟩, .int .i64 0, .slice Ar 3 cr], .agg #[.int .u8 5, .string ⟨#[]⟩, .int .i64 0, .slice As 2 cs], .slice R3 3 3, .agg #[.int .u8 6, .string ⟨#[]⟩, .int .i64 0, .slice Az 3 cz]], []⟩ : Act) ∧ LockH u (anyL [sigL k.rev, (allL [olderL d.delay, preL hash, sigL k.mine]), (allL [afterL exp, sigL k.theirs])]) [.int .u8 6, .string ⟨#[]⟩, .int .i64 0, .slice Az 3 cz] ∧ Below V3.heap.size V3 u) rfl (by kernel_rfl) (by kernel_rfl) (by decide) (by decide) (by kernel_rfl) (fun _ _ _ _ _ h => h) ?hal ?hfin hS.size ?chain
        case hal => intro p hp; cases hp
        case chain =>
          refine anyB_take (S := fun U => Below V3.heap.size V3 U) (i := 0) (v := ?_) (fun _ _ h hb => below_step h hb) rfl (by kernel_rfl) (by kernel_rfl) (by kernel_rfl) (by kernel_rfl) (by kernel_rfl) (by kernel_rfl) (fun _ _ _ h => h) (Or.inl ⟨by rfl, ?_⟩) hS ?_
          rotate_left
          · (intro w' hSw; (try dsimp only at hSw); go_simp; (try with_reducible rfl))
          try simp only [Act.put, List.setIfInBounds_toArray]
          refine anyB_take (S := fun U => Below V3.heap.size V3 U) (i := 1) (v := ?_) (fun _ _ h hb => below_step h hb) rfl (by kernel_rfl) (by kernel_rfl) (by kernel_rfl) (by kernel_rfl) (by kernel_rfl) (by kernel_rfl) (fun _ _ _ h => h) (Or.inl ⟨by rfl, ?_⟩) hS ?_
          rotate_left
          · (intro w' hSw; have hc0 := cell_below hSw ZK0.out; (try dsimp only at hSw); go_simp; (try with_reducible rfl))
          try simp only [Act.put]
          refine anyB_take (S := fun U => Below V3.heap.size V3 U) (i := 3) (v := ?_) (fun _ _ h hb => below_step h hb) rfl (by kernel_rfl) (by kernel_rfl) (by kernel_rfl) (by kernel_rfl) (by kernel_rfl) (by kernel_rfl) (fun _ _ _ h => h) (Or.inl ⟨by rfl, ?_⟩) hS ?_
          rotate_left
          · (intro w' hSw; have hc0 := cell_below hSw HT9.out.cells.1; have hc1 := cell_below hSw HT9.out.cells.2.1; have hc2 := cell_below hSw HT9.out.cells.2.2.1; have hc3 := cell_below hSw HT9.out.cells.2.2.2.1; (try dsimp only at hSw); go_simp; (try with_reducible rfl))
          try simp only [Act.put]
          refine anyB_take (S := fun U => Below V3.heap.size V3 U) (i := 4) (v := ?_) (fun _ _ h hb => below_step h hb) rfl (by kernel_rfl) (by kernel_rfl) (by kernel_rfl) (by kernel_rfl) (by kernel_rfl) (by kernel_rfl) (fun _ _ _ h => h) (Or.inl ⟨by rfl, ?_⟩) hS ?_
          rotate_left
          · (intro w' hSw; have hc0 := cell_below hSw HT10.out.cells.1; have hc1 := cell_below hSw HT10.out.cells.2.1; have hc2 := cell_below hSw HT10.out.cells.2.2.1; have hc3 := cell_below hSw HT10.out.cells.2.2.2.1; (try dsimp only at hSw); go_simp; (try with_reducible rfl))
          try simp only [Act.put]
          refine anyB_one (k := 2) (by kernel_rfl) (by kernel_rfl) (by kernel_rfl) (fun g1_V3 hg => ?_)
          have hS := below_step hS hg
          refine wpOp_step rfl (fun K' hK => ?_)
          have HK := Lib.hid hK
          clear hK
          rw [if_pos (by rfl)]
          go_simp
          refine Calls.mono ((Lib.hid (SS.out k.rev)).out _) ?_
          rintro e w1_V3 ⟨rfl, hb⟩
          have hS := below_step hS hb
          have HB := Lib.hid hb
          clear hb hg
          go_wp2_with fail
          refine HK.out _ _ ⟨HB.out, ?_⟩
          clear HK HB
          try simp only [Act.put, List.setIfInBounds_toArray, List.set_cons_zero, List.set_cons_succ]
          refine anyB_one (k := 5) (by kernel_rfl) (by kernel_rfl) (by kernel_rfl) (fun g2_V3 hg => ?_)
          have hS := below_step hS hg
          refine wpOp_step rfl (fun K' hK => ?_)
          have HK := Lib.hid hK
          clear hK
          rw [if_pos (by rfl)]
          go_simp
          have X2_V3 := Lib.hid (show LocksH (g2_V3.alloc (.cells #[.int .u8 1, .string k.rev, .int .i64 0, .slice none 0 0, .int .u8 5, .string ⟨#[]⟩, .int .i64 0, .slice Ar 3 cr, .int .u8 5, .string ⟨#[]⟩, .int .i64 0, .slice As 2 cs] 55)) (some ⟨g2_V3.heap.size, 0, none⟩) [sigL k.rev, (allL [olderL d.delay, preL hash, sigL k.mine]), (allL [afterL exp, sigL k.theirs])] [.int .u8 1, .string k.rev, .int .i64 0, .slice none 0 0, .int .u8 5, .string ⟨#[]⟩, .int .i64 0, .slice Ar 3 cr, .int .u8 5, .string ⟨#[]⟩, .int .i64 0, .slice As 2 cs] from rowH (cs := #[.int .u8 1, .string k.rev, .int .i64 0, .slice none 0 0, .int .u8 5, .string ⟨#[]⟩, .int .i64 0, .slice Ar 3 cr, .int .u8 5, .string ⟨#[]⟩, .int .i64 0, .slice As 2 cs]) (by simp) (fun W hW => LocksC.cons (LockC.leaf 1 _ _) (LocksC.cons (HLr.out W ((DepEq.below hS).trans hW)) (LocksC.cons (HLs.out W ((DepEq.below hS).trans hW)) LocksC.nil))))
          have hS := below_step hS ((Below.refl _ _).alloc (Nat.le_refl _) (.cells #[.int .u8 1, .string k.rev, .int .i64 0, .slice none 0 0, .int .u8 5, .string ⟨#[]⟩, .int .i64 0, .slice Ar 3 cr, .int .u8 5, .string ⟨#[]⟩, .int .i64 0, .slice As 2 cs] 55))
          clear hg
          refine HK.out _ _ ⟨(Below.refl _ _).alloc (Nat.le_refl _) _, ?_⟩
          clear HK
          try simp only [Act.put, List.setIfInBounds_toArray, List.set_cons_zero, List.set_cons_succ]
          refine anyB_one (k := 6) (by kernel_rfl) (by kernel_rfl) (by kernel_rfl) (fun g3_V3 hg => ?_)
          have hS := below_step hS hg
          replace X2_V3 := Lib.hid (X2_V3.out.mono (DepEq.below hg))
          refine wpOp_step rfl (fun K' hK => ?_)
          have HK := Lib.hid hK
          clear hK
          rw [if_pos (by rfl)]
          go_simp
          refine Calls.mono (any_n [sigL k.rev, (allL [olderL d.delay, preL hash, sigL k.mine]), (allL [afterL exp, sigL k.theirs])] 3 rfl ⟨g2_V3.heap.size, 0, none⟩ 3 _ (by simp) (by simp) X2_V3.out) ?_
          rintro e w3_V3 ⟨Az, cz, rfl, hl, hb⟩
          have hS := below_step hS hb
          have HB := Lib.hid hb
          have Lz := Lib.hid hl
          clear hb hg hl X2_V3
          go_wp2_with fail
          refine HK.out _ _ ⟨HB.out, ?_⟩
          clear HK HB
          try simp only [Act.put, List.setIfInBounds_toArray, List.set_cons_zero, List.set_cons_succ]
          exact anyB_stop (by kernel_rfl) (fun u hu => ⟨_, Az, cz, rfl, Lz.out.mono (DepEq.below hu), below_step hS hu⟩)
        case hfin =>
          rintro a u bs hl ⟨R3, Az, cz, rfl, hlk, hS⟩ hbx hnd
          obtain rfl : bs = [] := List.length_eq_zero_iff.1 (by simpa using hl)
          change wpAny _ _ _ _ 1 #[true, true, true, true, true, true, true, false] (⟨#[.agg #[.int .i64 d.cap, .int .i64 d.push, .int .i64 d.dust, .int .i64 d.res, .int .i64 d.rate, .int .i64 d.delay, .int .i64 d.maxH, .int .i64 d.flight, .int .i64 d.minH], .agg #[.string k.rev, .string k.later, .string k.mine, .string k.theirs, .string k.pay], .agg #[.bool false, .int .i64 hid, .int .i64 amt, .string hash, .int .i64 exp], .pointer (some ⟨w.heap.size, 0, none⟩), .pointer (some ⟨w.heap.size + 1, 0, none⟩), .pointer (some ⟨w.heap.size + 1 + 1, 0, none⟩), .pointer (some ⟨w.heap.size + 1 + 1 + 1, 0, none⟩), .pointer (some ⟨x0, 0, none⟩), .pointer (some ⟨x1, 0, none⟩), .pointer (some ⟨y0, 0, none⟩), .pointer (some ⟨y1, 0, none⟩), .pointer (some ⟨w.heap.size + 1 + 1, 3, none⟩), .string hash, .agg #[.int .u8 2, .string hash, .int .i64 0, .slice none 0 0], .pointer (some ⟨w.heap.size + 1 + 1, 4, none⟩), .int .i64 exp, .agg #[.int .u8 3, .string ⟨#[]⟩, .int .i64 exp, .slice none 0 0], .pointer (some ⟨w.heap.size + 1, 3, none⟩), .string k.theirs, .agg #[.int .u8 1, .string k.theirs, .int .i64 0, .slice none 0 0], .agg #[.int .u8 2, .string hash, .int .i64 0, .slice none 0 0], .slice R1 2 2, .agg #[.int .u8 5, .string ⟨#[]⟩, .int .i64 0, .slice Ap 2 cp], .agg #[.int .u8 3, .string ⟨#[]⟩, .int .i64 exp, .slice none 0 0], .pointer (some ⟨w.heap.size, 5, none⟩), .int .i64 d.delay, .agg #[.int .u8 4, .string ⟨#[]⟩, .int .i64 d.delay, .slice none 0 0], .pointer (some ⟨w.heap.size + 1, 2, none⟩), .string k.mine, .agg #[.int .u8 1, .string k.mine, .int .i64 0, .slice none 0 0], .slice R2 3 3, .agg #[.int .u8 5, .string ⟨#[]⟩, .int .i64 0, .slice Aq 3 cq], .pointer (some ⟨w.heap.size + 1 + 1, 0, none⟩), .bool false, .bool true, .pointer (some ⟨w.heap.size, 5, none⟩), .int .i64 d.delay, .agg #[.int .u8 4, .string ⟨#[]⟩, .int .i64 d.delay, .slice none 0 0], .agg #[.int .u8 2, .string hash, .int .i64 0, .slice none 0 0], .pointer (some ⟨w.heap.size + 1, 2, none⟩), .string k.mine, .agg #[.int .u8 1, .string k.mine, .int .i64 0, .slice none 0 0], .slice R4 3 3, .agg #[.int .u8 5, .string ⟨#[]⟩, .int .i64 0, .slice Ar 3 cr], .agg #[.int .u8 3, .string ⟨#[]⟩, .int .i64 exp, .slice none 0 0], .pointer (some ⟨w.heap.size + 1, 3, none⟩), .string k.theirs, .agg #[.int .u8 1, .string k.theirs, .int .i64 0, .slice none 0 0], .slice R5 2 2, .agg #[.int .u8 5, .string ⟨#[]⟩, .int .i64 0, .slice As 2 cs], .pointer (some ⟨w.heap.size + 1, 0, none⟩), .string k.rev, .agg #[.int .u8 1, .string k.rev, .int .i64 0, .slice none 0 0], .agg #[.int .u8 5, .string ⟨#[]⟩, .int .i64 0, .slice Ar 3 cr], .agg #[.int .u8 5, .string ⟨#[]⟩, .int .i64 0, .slice As 2 cs], .slice R3 3 3, .agg #[.int .u8 6, .string ⟨#[]⟩, .int .i64 0, .slice Az 3 cz]], []⟩ : Act) u
          have hzr := HZV3.out.below hS
          refine wpAny_one (k := 7) (by kernel_rfl) ?_
          refine wpOp_step rfl (fun K' hK => ?_)
          have HK := Lib.hid hK
          clear hK
          rw [if_pos (by rfl)]
          obtain ⟨p0, p1, p2, p3, pf⟩ := hzr.cells
          go_simp
          refine HK.out _ (putL u (w.heap.size + 1 + 1 + 1) (.int .u8 6) (.string ⟨#[]⟩) (.int .i64 0) (.slice Az 3 cz)) ?_
          clear HK p0 p1 p2 p3 pf
          have hAr := hzr.put 6 ⟨#[]⟩ 0 (.slice Az 3 cz)
          have hFr := putL_fr u (w.heap.size + 1 + 1 + 1) (.int .u8 6) (.string ⟨#[]⟩) (.int .i64 0) (.slice Az 3 cz) (F := [(w.heap.size + 1 + 1 + 1)]) (List.mem_singleton.2 rfl)
          generalize (putL u (w.heap.size + 1 + 1 + 1) (.int .u8 6) (.string ⟨#[]⟩) (.int .i64 0) (.slice Az 3 cz)) = Wf at hAr hFr ⊢
          try simp only [List.setIfInBounds_toArray, List.set_cons_zero, List.set_cons_succ]
          refine wpAny_end (by kernel_rfl) ?_
          refine NoPanic.normal ?_
          obtain ⟨r0, r1, r2, r3, -⟩ := hAr.cells
          have HLF := Lib.hid (hlk.mono (DepEq.box hzr hFr))
          have hu1 : Below w.heap.size w u := HBB.out.trans (hS.mono HBB.out.size)
          have HFF := Lib.hid (hu1.trans (hFr.toBelowOf (B := w.heap.size) hu1.size (fun i hi => by rw [List.mem_singleton.1 hi]; omega)))
          clear hlk hzr hFr hAr hS hu1
          go_wp2_with fail
          exact bodyPost_ret (v := lockV 6 ⟨#[]⟩ 0 Az 3 cz) (by simp [results, Tryz.results27, go_sem, r0, r1, r2, r3, lockV]) rfl ⟨_, rfl, ⟨Az, cz, rfl, HLF.out⟩, HFF.out⟩
end Go.Proofs.YtncniomiplnaaaaGreatDoor
