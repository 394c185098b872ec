/- The lock of a payment that is offered, as the document says. · The lock of a payment that is taken, as the document says. -/
import Derived.Test.YtncniomiplnaaaaGreatDoorQ22
import Derived.Test.YtncniomiplnaaaaGreatDoorQ18
namespace Go.Proofs.YtncniomiplnaaaaGreatDoor
open Go.RowKit

set_option maxRecDepth 100000 in
set_option maxHeartbeats 16000000 in
theorem rhtlc_mine (d : DealR) (k : KeysR) (hid amt : Int) (hash : ByteArray) (exp : Int) (w : World) : Calls Tryz.prog 28 #[dealV d, keysV k, .agg #[.bool true, .int .i64 hid, .int .i64 amt, .string hash, .int .i64 exp]] w fun e w' => ∃ v, e = .returned v ∧ LockV w' (htlcL d.delay k true hash exp) v ∧ Below w.heap.size w w' := by
  unfold dealV keysV
  have HB := Lib.hid (((((Below.refl w.heap.size w).alloc (Nat.le_refl _) (.cells #[.int .i64 d.cap, .int .i64 d.push, .int .i64 d.dust, .int .i64 d.res, .int .i64 d.rate, .int .i64 d.delay, .int .i64 d.maxH, .int .i64 d.flight, .int .i64 d.minH] 23)).alloc (by simp) (.cells #[.string k.rev, .string k.later, .string k.mine, .string k.theirs, .string k.pay] 40)).alloc (by simp; try omega) (.cells #[.bool true, .int .i64 hid, .int .i64 amt, .string hash, .int .i64 exp] 26)).alloc (by simp; try omega) (.cells #[.int .u8 0, .string ⟨#[]⟩, .int .i64 0, .slice none 0 0] 55))
  have HZ := Lib.hid (show LBox ((((w.alloc (.cells #[.int .i64 d.cap, .int .i64 d.push, .int .i64 d.dust, .int .i64 d.res, .int .i64 d.rate, .int .i64 d.delay, .int .i64 d.maxH, .int .i64 d.flight, .int .i64 d.minH] 23)).alloc (.cells #[.string k.rev, .string k.later, .string k.mine, .string k.theirs, .string k.pay] 40)).alloc (.cells #[.bool true, .int .i64 hid, .int .i64 amt, .string hash, .int .i64 exp] 26)).alloc (.cells #[.int .u8 0, .string ⟨#[]⟩, .int .i64 0, .slice none 0 0] 55)) (w.heap.size + 1 + 1 + 1) 0 ⟨#[]⟩ 0 (.slice none 0 0) from allocs_at [(.cells #[.int .i64 d.cap, .int .i64 d.push, .int .i64 d.dust, .int .i64 d.res, .int .i64 d.rate, .int .i64 d.delay, .int .i64 d.maxH, .int .i64 d.flight, .int .i64 d.minH] 23), (.cells #[.string k.rev, .string k.later, .string k.mine, .string k.theirs, .string k.pay] 40), (.cells #[.bool true, .int .i64 hid, .int .i64 amt, .string hash, .int .i64 exp] 26), (.cells #[.int .u8 0, .string ⟨#[]⟩, .int .i64 0, .slice none 0 0] 55)] w 3 _ rfl)
  have HD := Lib.hid (show ((((w.alloc (.cells #[.int .i64 d.cap, .int .i64 d.push, .int .i64 d.dust, .int .i64 d.res, .int .i64 d.rate, .int .i64 d.delay, .int .i64 d.maxH, .int .i64 d.flight, .int .i64 d.minH] 23)).alloc (.cells #[.string k.rev, .string k.later, .string k.mine, .string k.theirs, .string k.pay] 40)).alloc (.cells #[.bool true, .int .i64 hid, .int .i64 amt, .string hash, .int .i64 exp] 26)).alloc (.cells #[.int .u8 0, .string ⟨#[]⟩, .int .i64 0, .slice none 0 0] 55)).cell? ⟨w.heap.size, 5, none⟩ = some (.int .i64 d.delay) from cell_of (j := 5) (allocs_at [(.cells #[.int .i64 d.cap, .int .i64 d.push, .int .i64 d.dust, .int .i64 d.res, .int .i64 d.rate, .int .i64 d.delay, .int .i64 d.maxH, .int .i64 d.flight, .int .i64 d.minH] 23), (.cells #[.string k.rev, .string k.later, .string k.mine, .string k.theirs, .string k.pay] 40), (.cells #[.bool true, .int .i64 hid, .int .i64 amt, .string hash, .int .i64 exp] 26), (.cells #[.int .u8 0, .string ⟨#[]⟩, .int .i64 0, .slice none 0 0] 55)] w 0 _ rfl) rfl)
  have HK0 := Lib.hid (show ((((w.alloc (.cells #[.int .i64 d.cap, .int .i64 d.push, .int .i64 d.dust, .int .i64 d.res, .int .i64 d.rate, .int .i64 d.delay, .int .i64 d.maxH, .int .i64 d.flight, .int .i64 d.minH] 23)).alloc (.cells #[.string k.rev, .string k.later, .string k.mine, .string k.theirs, .string k.pay] 40)).alloc (.cells #[.bool true, .int .i64 hid, .int .i64 amt, .string hash, .int .i64 exp] 26)).alloc (.cells #[.int .u8 0, .string ⟨#[]⟩, .int .i64 0, .slice none 0 0] 55)).cell? ⟨w.heap.size + 1, 0, none⟩ = some (.string k.rev) from cell_of (j := 0) (allocs_at [(.cells #[.int .i64 d.cap, .int .i64 d.push, .int .i64 d.dust, .int .i64 d.res, .int .i64 d.rate, .int .i64 d.delay, .int .i64 d.maxH, .int .i64 d.flight, .int .i64 d.minH] 23), (.cells #[.string k.rev, .string k.later, .string k.mine, .string k.theirs, .string k.pay] 40), (.cells #[.bool true, .int .i64 hid, .int .i64 amt, .string hash, .int .i64 exp] 26), (.cells #[.int .u8 0, .string ⟨#[]⟩, .int .i64 0, .slice none 0 0] 55)] w 1 _ rfl) rfl)
  have HK2 := Lib.hid (show ((((w.alloc (.cells #[.int .i64 d.cap, .int .i64 d.push, .int .i64 d.dust, .int .i64 d.res, .int .i64 d.rate, .int .i64 d.delay, .int .i64 d.maxH, .int .i64 d.flight, .int .i64 d.minH] 23)).alloc (.cells #[.string k.rev, .string k.later, .string k.mine, .string k.theirs, .string k.pay] 40)).alloc (.cells #[.bool true, .int .i64 hid, .int .i64 amt, .string hash, .int .i64 exp] 26)).alloc (.cells #[.int .u8 0, .string ⟨#[]⟩, .int .i64 0, .slice none 0 0] 55)).cell? ⟨w.heap.size + 1, 2, none⟩ = some (.string k.mine) from cell_of (j := 2) (allocs_at [(.cells #[.int .i64 d.cap, .int .i64 d.push, .int .i64 d.dust, .int .i64 d.res, .int .i64 d.rate, .int .i64 d.delay, .int .i64 d.maxH, .int .i64 d.flight, .int .i64 d.minH] 23), (.cells #[.string k.rev, .string k.later, .string k.mine, .string k.theirs, .string k.pay] 40), (.cells #[.bool true, .int .i64 hid, .int .i64 amt, .string hash, .int .i64 exp] 26), (.cells #[.int .u8 0, .string ⟨#[]⟩, .int .i64 0, .slice none 0 0] 55)] w 1 _ rfl) rfl)
  have HK3 := Lib.hid (show ((((w.alloc (.cells #[.int .i64 d.cap, .int .i64 d.push, .int .i64 d.dust, .int .i64 d.res, .int .i64 d.rate, .int .i64 d.delay, .int .i64 d.maxH, .int .i64 d.flight, .int .i64 d.minH] 23)).alloc (.cells #[.string k.rev, .string k.later, .string k.mine, .string k.theirs, .string k.pay] 40)).alloc (.cells #[.bool true, .int .i64 hid, .int .i64 amt, .string hash, .int .i64 exp] 26)).alloc (.cells #[.int .u8 0, .string ⟨#[]⟩, .int .i64 0, .slice none 0 0] 55)).cell? ⟨w.heap.size + 1, 3, none⟩ = some (.string k.theirs) from cell_of (j := 3) (allocs_at [(.cells #[.int .i64 d.cap, .int .i64 d.push, .int .i64 d.dust, .int .i64 d.res, .int .i64 d.rate, .int .i64 d.delay, .int .i64 d.maxH, .int .i64 d.flight, .int .i64 d.minH] 23), (.cells #[.string k.rev, .string k.later, .string k.mine, .string k.theirs, .string k.pay] 40), (.cells #[.bool true, .int .i64 hid, .int .i64 amt, .string hash, .int .i64 exp] 26), (.cells #[.int .u8 0, .string ⟨#[]⟩, .int .i64 0, .slice none 0 0] 55)] w 1 _ rfl) rfl)
  have HH0 := Lib.hid (show ((((w.alloc (.cells #[.int .i64 d.cap, .int .i64 d.push, .int .i64 d.dust, .int .i64 d.res, .int .i64 d.rate, .int .i64 d.delay, .int .i64 d.maxH, .int .i64 d.flight, .int .i64 d.minH] 23)).alloc (.cells #[.string k.rev, .string k.later, .string k.mine, .string k.theirs, .string k.pay] 40)).alloc (.cells #[.bool true, .int .i64 hid, .int .i64 amt, .string hash, .int .i64 exp] 26)).alloc (.cells #[.int .u8 0, .string ⟨#[]⟩, .int .i64 0, .slice none 0 0] 55)).cell? ⟨w.heap.size + 1 + 1, 0, none⟩ = some (.bool true) from cell_of (j := 0) (allocs_at [(.cells #[.int .i64 d.cap, .int .i64 d.push, .int .i64 d.dust, .int .i64 d.res, .int .i64 d.rate, .int .i64 d.delay, .int .i64 d.maxH, .int .i64 d.flight, .int .i64 d.minH] 23), (.cells #[.string k.rev, .string k.later, .string k.mine, .string k.theirs, .string k.pay] 40), (.cells #[.bool true, .int .i64 hid, .int .i64 amt, .string hash, .int .i64 exp] 26), (.cells #[.int .u8 0, .string ⟨#[]⟩, .int .i64 0, .slice none 0 0] 55)] w 2 _ rfl) rfl)
  have HH3 := Lib.hid (show ((((w.alloc (.cells #[.int .i64 d.cap, .int .i64 d.push, .int .i64 d.dust, .int .i64 d.res, .int .i64 d.rate, .int .i64 d.delay, .int .i64 d.maxH, .int .i64 d.flight, .int .i64 d.minH] 23)).alloc (.cells #[.string k.rev, .string k.later, .string k.mine, .string k.theirs, .string k.pay] 40)).alloc (.cells #[.bool true, .int .i64 hid, .int .i64 amt, .string hash, .int .i64 exp] 26)).alloc (.cells #[.int .u8 0, .string ⟨#[]⟩, .int .i64 0, .slice none 0 0] 55)).cell? ⟨w.heap.size + 1 + 1, 3, none⟩ = some (.string hash) from cell_of (j := 3) (allocs_at [(.cells #[.int .i64 d.cap, .int .i64 d.push, .int .i64 d.dust, .int .i64 d.res, .int .i64 d.rate, .int .i64 d.delay, .int .i64 d.maxH, .int .i64 d.flight, .int .i64 d.minH] 23), (.cells #[.string k.rev, .string k.later, .string k.mine, .string k.theirs, .string k.pay] 40), (.cells #[.bool true, .int .i64 hid, .int .i64 amt, .string hash, .int .i64 exp] 26), (.cells #[.int .u8 0, .string ⟨#[]⟩, .int .i64 0, .slice none 0 0] 55)] w 2 _ rfl) rfl)
  have HH4 := Lib.hid (show ((((w.alloc (.cells #[.int .i64 d.cap, .int .i64 d.push, .int .i64 d.dust, .int .i64 d.res, .int .i64 d.rate, .int .i64 d.delay, .int .i64 d.maxH, .int .i64 d.flight, .int .i64 d.minH] 23)).alloc (.cells #[.string k.rev, .string k.later, .string k.mine, .string k.theirs, .string k.pay] 40)).alloc (.cells #[.bool true, .int .i64 hid, .int .i64 amt, .string hash, .int .i64 exp] 26)).alloc (.cells #[.int .u8 0, .string ⟨#[]⟩, .int .i64 0, .slice none 0 0] 55)).cell? ⟨w.heap.size + 1 + 1, 4, none⟩ = some (.int .i64 exp) from cell_of (j := 4) (allocs_at [(.cells #[.int .i64 d.cap, .int .i64 d.push, .int .i64 d.dust, .int .i64 d.res, .int .i64 d.rate, .int .i64 d.delay, .int .i64 d.maxH, .int .i64 d.flight, .int .i64 d.minH] 23), (.cells #[.string k.rev, .string k.later, .string k.mine, .string k.theirs, .string k.pay] 40), (.cells #[.bool true, .int .i64 hid, .int .i64 amt, .string hash, .int .i64 exp] 26), (.cells #[.int .u8 0, .string ⟨#[]⟩, .int .i64 0, .slice none 0 0] 55)] w 2 _ rfl) rfl)
  have SS := Lib.hid (fun t W => show Calls Tryz.prog _ _ W (fun e w' => e = .returned (.agg #[.int .u8 1, .string t, .int .i64 0, .slice none 0 0]) ∧ Below W.heap.size W w') from rsig_any t W)
  have SP := Lib.hid (fun t W => show Calls Tryz.prog _ _ W (fun e w' => e = .returned (.agg #[.int .u8 2, .string t, .int .i64 0, .slice none 0 0]) ∧ Below W.heap.size W w') from rpre_any t W)
  have SA := Lib.hid (fun n W => show Calls Tryz.prog _ _ W (fun e w' => e = .returned (.agg #[.int .u8 3, .string ⟨#[]⟩, .int .i64 n, .slice none 0 0]) ∧ Below W.heap.size W w') from rafter_any n W)
  have SO := Lib.hid (fun n W => show Calls Tryz.prog _ _ W (fun e w' => e = .returned (.agg #[.int .u8 4, .string ⟨#[]⟩, .int .i64 n, .slice none 0 0]) ∧ Below W.heap.size W w') from rolder_any n W)
  go_enter Tryz.func28, Tryz.ntmps28
  go_upto_region 1 with fail
  generalize ((((w.alloc (.cells #[.int .i64 d.cap, .int .i64 d.push, .int .i64 d.dust, .int .i64 d.res, .int .i64 d.rate, .int .i64 d.delay, .int .i64 d.maxH, .int .i64 d.flight, .int .i64 d.minH] 23)).alloc (.cells #[.string k.rev, .string k.later, .string k.mine, .string k.theirs, .string k.pay] 40)).alloc (.cells #[.bool true, .int .i64 hid, .int .i64 amt, .string hash, .int .i64 exp] 26)).alloc (.cells #[.int .u8 0, .string ⟨#[]⟩, .int .i64 0, .slice none 0 0] 55)) = W at HB HZ HD HK0 HK2 HK3 HH0 HH3 HH4 ⊢
  refine wp_region_noPanic ?_
  refine wp_region_any (by kernel_rfl) ?_
  have hS : Below W.heap.size W W.drew := (Below.refl _ _).drew
  change wpAny _ _ _ _ 20 (Array.replicate 20 false) _ W.drew
  refine float_all (F := [(12, 7), (13, 8), (14, 9), (15, 10)]) (o := (.cells #[.int .u8 0, .string ⟨#[]⟩, .int .i64 0, .slice none 0 0] 55)) (base := W.heap.size) (g := 4) (f := 12) (stop := #[true, true, true, true, true, true, true, true, true, true, true, true, true, true, true, true, false, false, false, false]) (R := fun a u => a = (⟨#[.agg #[.int .i64 d.cap, .int .i64 d.push, .int .i64 d.dust, .int .i64 d.res, .int .i64 d.rate, .int .i64 d.delay, .int .i64 d.maxH, .int .i64 d.flight, .int .i64 d.minH], .agg #[.string k.rev, .string k.later, .string k.mine, .string k.theirs, .string k.pay], .agg #[.bool true, .int .i64 hid, .int .i64 amt, .string hash, .int .i64 exp], .pointer (some ⟨w.heap.size, 0, none⟩), .pointer (some ⟨w.heap.size + 1, 0, none⟩), .pointer (some ⟨w.heap.size + 1 + 1, 0, none⟩), .pointer (some ⟨w.heap.size + 1 + 1 + 1, 0, none⟩), undef, undef, undef, undef, undef, undef, .pointer (some ⟨w.heap.size + 1, 0, none⟩), .string k.rev, .agg #[.int .u8 1, .string k.rev, .int .i64 0, .slice none 0 0], .pointer (some ⟨w.heap.size + 1 + 1, 3, none⟩), .string hash, .agg #[.int .u8 2, .string hash, .int .i64 0, .slice none 0 0], .pointer (some ⟨w.heap.size + 1 + 1, 4, none⟩), .int .i64 exp, .agg #[.int .u8 3, .string ⟨#[]⟩, .int .i64 exp, .slice none 0 0], .pointer (some ⟨w.heap.size, 5, none⟩), .int .i64 d.delay, .agg #[.int .u8 4, .string ⟨#[]⟩, .int .i64 d.delay, .slice none 0 0], undef, undef, undef, undef, undef, undef, undef, undef, undef, undef, undef, undef, undef, undef, undef, undef, undef, undef, undef, undef, undef, undef, undef, undef, undef, undef, undef, undef, undef, undef, undef, undef], []⟩ : Act) ∧ Below W.heap.size W u) rfl (by kernel_rfl) (by kernel_rfl) (by decide) (by decide) (by kernel_rfl) (fun _ _ _ _ _ h => h) ?hal ?hfin hS.size ?chain
  case hal =>
    intro p hp K a w hK
    simp only [List.mem_cons, List.not_mem_nil, or_false] at hp
    rcases hp with rfl | rfl | rfl | rfl
    all_goals
      refine wpOp_step rfl (fun K' hK' => ?_)
      rw [if_pos (by simp [Region.wanted])]
      go_simp
      exact hK' _ _ hK
  case chain =>
    refine anyB_take (S := fun U => Below W.heap.size W U) (i := 0) (v := ?_) (fun _ _ h hb => below_step h hb) rfl (by kernel_rfl) (by kernel_rfl) (by kernel_rfl) (by kernel_rfl) (by kernel_rfl) (by kernel_rfl) (fun _ _ _ h => h) (Or.inl ⟨by rfl, ?_⟩) hS ?_
    rotate_left
    · (intro w' hSw; (try dsimp only at hSw); go_simp; (try with_reducible rfl))
    try simp only [Act.put, List.setIfInBounds_toArray]
    refine anyB_take (S := fun U => Below W.heap.size W U) (i := 1) (v := ?_) (fun _ _ h hb => below_step h hb) rfl (by kernel_rfl) (by kernel_rfl) (by kernel_rfl) (by kernel_rfl) (by kernel_rfl) (by kernel_rfl) (fun _ _ _ h => h) (Or.inl ⟨by rfl, ?_⟩) hS ?_
    rotate_left
    · (intro w' hSw; have hc0 := cell_below hSw HK0.out; (try dsimp only at hSw); go_simp; (try with_reducible rfl))
    try simp only [Act.put]
    refine anyB_take (S := fun U => Below W.heap.size W U) (i := 3) (v := ?_) (fun _ _ h hb => below_step h hb) rfl (by kernel_rfl) (by kernel_rfl) (by kernel_rfl) (by kernel_rfl) (by kernel_rfl) (by kernel_rfl) (fun _ _ _ h => h) (Or.inl ⟨by rfl, ?_⟩) hS ?_
    rotate_left
    · (intro w' hSw; (try dsimp only at hSw); go_simp; (try with_reducible rfl))
    try simp only [Act.put]
    refine anyB_take (S := fun U => Below W.heap.size W U) (i := 4) (v := ?_) (fun _ _ h hb => below_step h hb) rfl (by kernel_rfl) (by kernel_rfl) (by kernel_rfl) (by kernel_rfl) (by kernel_rfl) (by kernel_rfl) (fun _ _ _ h => h) (Or.inl ⟨by rfl, ?_⟩) hS ?_
    rotate_left
    · (intro w' hSw; have hc0 := cell_below hSw HH3.out; (try dsimp only at hSw); go_simp; (try with_reducible rfl))
    try simp only [Act.put]
    refine anyB_take (S := fun U => Below W.heap.size W U) (i := 6) (v := ?_) (fun _ _ h hb => below_step h hb) rfl (by kernel_rfl) (by kernel_rfl) (by kernel_rfl) (by kernel_rfl) (by kernel_rfl) (by kernel_rfl) (fun _ _ _ h => h) (Or.inl ⟨by rfl, ?_⟩) hS ?_
    rotate_left
    · (intro w' hSw; (try dsimp only at hSw); go_simp; (try with_reducible rfl))
    try simp only [Act.put]
    refine anyB_take (S := fun U => Below W.heap.size W U) (i := 7) (v := ?_) (fun _ _ h hb => below_step h hb) rfl (by kernel_rfl) (by kernel_rfl) (by kernel_rfl) (by kernel_rfl) (by kernel_rfl) (by kernel_rfl) (fun _ _ _ h => h) (Or.inl ⟨by rfl, ?_⟩) hS ?_
    rotate_left
    · (intro w' hSw; have hc0 := cell_below hSw HH4.out; (try dsimp only at hSw); go_simp; (try with_reducible rfl))
    try simp only [Act.put]
    refine anyB_take (S := fun U => Below W.heap.size W U) (i := 9) (v := ?_) (fun _ _ h hb => below_step h hb) rfl (by kernel_rfl) (by kernel_rfl) (by kernel_rfl) (by kernel_rfl) (by kernel_rfl) (by kernel_rfl) (fun _ _ _ h => h) (Or.inl ⟨by rfl, ?_⟩) hS ?_
    rotate_left
    · (intro w' hSw; (try dsimp only at hSw); go_simp; (try with_reducible rfl))
    try simp only [Act.put]
    refine anyB_take (S := fun U => Below W.heap.size W U) (i := 10) (v := ?_) (fun _ _ h hb => below_step h hb) rfl (by kernel_rfl) (by kernel_rfl) (by kernel_rfl) (by kernel_rfl) (by kernel_rfl) (by kernel_rfl) (fun _ _ _ h => h) (Or.inl ⟨by rfl, ?_⟩) hS ?_
    rotate_left
    · (intro w' hSw; have hc0 := cell_below hSw HD.out; (try dsimp only at hSw); go_simp; (try with_reducible rfl))
    try simp only [Act.put]
    refine anyB_one (k := 2) (by kernel_rfl) (by kernel_rfl) (by kernel_rfl) (fun g1_W hg => ?_)
    have hS := below_step hS hg
    refine wpOp_step rfl (fun K' hK => ?_)
    have HK := Lib.hid hK
    clear hK
    rw [if_pos (by rfl)]
    go_simp
    refine Calls.mono ((Lib.hid (SS.out k.rev)).out _) ?_
    rintro e w1_W ⟨rfl, hb⟩
    have hS := below_step hS hb
    have HB := Lib.hid hb
    clear hb hg
    go_wp2_with fail
    refine HK.out _ _ ⟨HB.out, ?_⟩
    clear HK HB
    try simp only [Act.put, List.setIfInBounds_toArray, List.set_cons_zero, List.set_cons_succ]
    refine anyB_one (k := 5) (by kernel_rfl) (by kernel_rfl) (by kernel_rfl) (fun g2_W hg => ?_)
    have hS := below_step hS hg
    refine wpOp_step rfl (fun K' hK => ?_)
    have HK := Lib.hid hK
    clear hK
    rw [if_pos (by rfl)]
    go_simp
    refine Calls.mono ((Lib.hid (SP.out hash)).out _) ?_
    rintro e w2_W ⟨rfl, hb⟩
    have hS := below_step hS hb
    have HB := Lib.hid hb
    clear hb hg
    go_wp2_with fail
    refine HK.out _ _ ⟨HB.out, ?_⟩
    clear HK HB
    try simp only [Act.put, List.setIfInBounds_toArray, List.set_cons_zero, List.set_cons_succ]
    refine anyB_one (k := 8) (by kernel_rfl) (by kernel_rfl) (by kernel_rfl) (fun g3_W hg => ?_)
    have hS := below_step hS hg
    refine wpOp_step rfl (fun K' hK => ?_)
    have HK := Lib.hid hK
    clear hK
    rw [if_pos (by rfl)]
    go_simp
    refine Calls.mono ((Lib.hid (SA.out exp)).out _) ?_
    rintro e w3_W ⟨rfl, hb⟩
    have hS := below_step hS hb
    have HB := Lib.hid hb
    clear hb hg
    go_wp2_with fail
    refine HK.out _ _ ⟨HB.out, ?_⟩
    clear HK HB
    try simp only [Act.put, List.setIfInBounds_toArray, List.set_cons_zero, List.set_cons_succ]
    refine anyB_one (k := 11) (by kernel_rfl) (by kernel_rfl) (by kernel_rfl) (fun g4_W hg => ?_)
    have hS := below_step hS hg
    refine wpOp_step rfl (fun K' hK => ?_)
    have HK := Lib.hid hK
    clear hK
    rw [if_pos (by rfl)]
    go_simp
    refine Calls.mono ((Lib.hid (SO.out d.delay)).out _) ?_
    rintro e w4_W ⟨rfl, hb⟩
    have hS := below_step hS hb
    have HB := Lib.hid hb
    clear hb hg
    go_wp2_with fail
    refine HK.out _ _ ⟨HB.out, ?_⟩
    clear HK HB
    try simp only [Act.put, List.setIfInBounds_toArray, List.set_cons_zero, List.set_cons_succ]
    exact anyB_stop (by kernel_rfl) (fun u hu => ⟨rfl, below_step hS hu⟩)
  case hfin =>
    rintro a u bs hl ⟨rfl, hS⟩ hbx hnd
    obtain ⟨x0, x1, x2, x3, rfl⟩ : ∃ x0 x1 x2 x3, bs = [x0, x1, x2, x3] := by
      match bs, hl with
      | [x0, x1, x2, x3], _ => exact ⟨_, _, _, _, rfl⟩
    obtain ⟨hb0, hz0⟩ := hbx x0 (by simp)
    replace hz0 : LBox u x0 0 ⟨#[]⟩ 0 (.slice none 0 0) := hz0
    obtain ⟨hb1, hz1⟩ := hbx x1 (by simp)
    replace hz1 : LBox u x1 0 ⟨#[]⟩ 0 (.slice none 0 0) := hz1
    obtain ⟨hb2, hz2⟩ := hbx x2 (by simp)
    replace hz2 : LBox u x2 0 ⟨#[]⟩ 0 (.slice none 0 0) := hz2
    obtain ⟨hb3, hz3⟩ := hbx x3 (by simp)
    replace hz3 : LBox u x3 0 ⟨#[]⟩ 0 (.slice none 0 0) := hz3
    change wpAny _ _ _ _ 4 #[true, true, true, true, true, true, true, true, true, true, true, true, true, true, true, true, false, false, false, false] (⟨#[.agg #[.int .i64 d.cap, .int .i64 d.push, .int .i64 d.dust, .int .i64 d.res, .int .i64 d.rate, .int .i64 d.delay, .int .i64 d.maxH, .int .i64 d.flight, .int .i64 d.minH], .agg #[.string k.rev, .string k.later, .string k.mine, .string k.theirs, .string k.pay], .agg #[.bool true, .int .i64 hid, .int .i64 amt, .string hash, .int .i64 exp], .pointer (some ⟨w.heap.size, 0, none⟩), .pointer (some ⟨w.heap.size + 1, 0, none⟩), .pointer (some ⟨w.heap.size + 1 + 1, 0, none⟩), .pointer (some ⟨w.heap.size + 1 + 1 + 1, 0, none⟩), .pointer (some ⟨x0, 0, none⟩), .pointer (some ⟨x1, 0, none⟩), .pointer (some ⟨x2, 0, none⟩), .pointer (some ⟨x3, 0, none⟩), undef, undef, .pointer (some ⟨w.heap.size + 1, 0, none⟩), .string k.rev, .agg #[.int .u8 1, .string k.rev, .int .i64 0, .slice none 0 0], .pointer (some ⟨w.heap.size + 1 + 1, 3, none⟩), .string hash, .agg #[.int .u8 2, .string hash, .int .i64 0, .slice none 0 0], .pointer (some ⟨w.heap.size + 1 + 1, 4, none⟩), .int .i64 exp, .agg #[.int .u8 3, .string ⟨#[]⟩, .int .i64 exp, .slice none 0 0], .pointer (some ⟨w.heap.size, 5, none⟩), .int .i64 d.delay, .agg #[.int .u8 4, .string ⟨#[]⟩, .int .i64 d.delay, .slice none 0 0], undef, undef, undef, undef, undef, undef, undef, undef, undef, undef, undef, undef, undef, undef, undef, undef, undef, undef, undef, undef, undef, undef, undef, undef, undef, undef, undef, undef, undef, undef, undef, undef], []⟩ : Act) u
    simp only [List.nodup_cons, List.mem_cons, List.not_mem_nil, or_false, not_or, not_false_eq_true, List.nodup_nil, and_true] at hnd
    obtain ⟨⟨n01, n02, n03⟩, ⟨n12, n13⟩, n23⟩ := hnd
    refine wpAny_one (k := 16) (by kernel_rfl) ?_
    refine wpOp_step rfl (fun K' hK => ?_)
    have HK := Lib.hid hK
    clear hK
    rw [if_pos (by rfl)]
    obtain ⟨p0, p1, p2, p3, pf⟩ := hz0.cells
    go_simp
    refine HK.out _ (putL u x0 (.int .u8 1) (.string k.rev) (.int .i64 0) (.slice none 0 0)) ?_
    clear HK p0 p1 p2 p3 pf
    have hA0 := hz0.put 1 k.rev 0 (.slice none 0 0)
    have hF0 := putL_fr u x0 (.int .u8 1) (.string k.rev) (.int .i64 0) (.slice none 0 0) (F := [x0]) (List.mem_singleton.2 rfl)
    generalize (putL u x0 (.int .u8 1) (.string k.rev) (.int .i64 0) (.slice none 0 0)) = pU1 at hA0 hF0 ⊢
    try simp only [List.setIfInBounds_toArray, List.set_cons_zero, List.set_cons_succ]
    have hz1b := hz1.fr hF0 (by simp; omega)
    have hz2b := hz2.fr hF0 (by simp; omega)
    have hz3b := hz3.fr hF0 (by simp; omega)
    refine wpAny_one (k := 17) (by kernel_rfl) ?_
    refine wpOp_step rfl (fun K' hK => ?_)
    have HK := Lib.hid hK
    clear hK
    rw [if_pos (by rfl)]
    obtain ⟨p0, p1, p2, p3, pf⟩ := hz1b.cells
    go_simp
    refine HK.out _ (putL pU1 x1 (.int .u8 2) (.string hash) (.int .i64 0) (.slice none 0 0)) ?_
    clear HK p0 p1 p2 p3 pf
    have hA1 := hz1b.put 2 hash 0 (.slice none 0 0)
    have hF1 := putL_fr pU1 x1 (.int .u8 2) (.string hash) (.int .i64 0) (.slice none 0 0) (F := [x1]) (List.mem_singleton.2 rfl)
    generalize (putL pU1 x1 (.int .u8 2) (.string hash) (.int .i64 0) (.slice none 0 0)) = pU2 at hA1 hF1 ⊢
    try simp only [List.setIfInBounds_toArray, List.set_cons_zero, List.set_cons_succ]
    have hz2bb := hz2b.fr hF1 (by simp; omega)
    have hz3bb := hz3b.fr hF1 (by simp; omega)
    refine wpAny_one (k := 18) (by kernel_rfl) ?_
    refine wpOp_step rfl (fun K' hK => ?_)
    have HK := Lib.hid hK
    clear hK
    rw [if_pos (by rfl)]
    obtain ⟨p0, p1, p2, p3, pf⟩ := hz2bb.cells
    go_simp
    refine HK.out _ (putL pU2 x2 (.int .u8 3) (.string ⟨#[]⟩) (.int .i64 exp) (.slice none 0 0)) ?_
    clear HK p0 p1 p2 p3 pf
    have hA2 := hz2bb.put 3 ⟨#[]⟩ exp (.slice none 0 0)
    have hF2 := putL_fr pU2 x2 (.int .u8 3) (.string ⟨#[]⟩) (.int .i64 exp) (.slice none 0 0) (F := [x2]) (List.mem_singleton.2 rfl)
    generalize (putL pU2 x2 (.int .u8 3) (.string ⟨#[]⟩) (.int .i64 exp) (.slice none 0 0)) = pU3 at hA2 hF2 ⊢
    try simp only [List.setIfInBounds_toArray, List.set_cons_zero, List.set_cons_succ]
    have hz3bbb := hz3bb.fr hF2 (by simp; omega)
    refine wpAny_one (k := 19) (by kernel_rfl) ?_
    refine wpOp_step rfl (fun K' hK => ?_)
    have HK := Lib.hid hK
    clear hK
    rw [if_pos (by rfl)]
    obtain ⟨p0, p1, p2, p3, pf⟩ := hz3bbb.cells
    go_simp
    refine HK.out _ (putL pU3 x3 (.int .u8 4) (.string ⟨#[]⟩) (.int .i64 d.delay) (.slice none 0 0)) ?_
    clear HK p0 p1 p2 p3 pf
    have hA3 := hz3bbb.put 4 ⟨#[]⟩ d.delay (.slice none 0 0)
    have hF3 := putL_fr pU3 x3 (.int .u8 4) (.string ⟨#[]⟩) (.int .i64 d.delay) (.slice none 0 0) (F := [x3]) (List.mem_singleton.2 rfl)
    generalize (putL pU3 x3 (.int .u8 4) (.string ⟨#[]⟩) (.int .i64 d.delay) (.slice none 0 0)) = V at hA3 hF3 ⊢
    try simp only [List.setIfInBounds_toArray, List.set_cons_zero, List.set_cons_succ]
    have hC0 := (((hA0.fr hF1 (by simp; omega)).fr hF2 (by simp; omega)).fr hF3 (by simp; omega))
    have hC1 := ((hA1.fr hF2 (by simp; omega)).fr hF3 (by simp; omega))
    have hC2 := (hA2.fr hF3 (by simp; omega))
    have hC3 := hA3
    refine wpAny_end (by kernel_rfl) ?_
    refine NoPanic.normal ?_
    have hW0 : Below W.heap.size W u := hS
    have hW1 : Below W.heap.size W pU1 := hW0.trans (hF0.toBelowOf hW0.size (fun i hi => by rw [List.mem_singleton.1 hi]; exact hb0))
    have hW2 : Below W.heap.size W pU2 := hW1.trans (hF1.toBelowOf hW1.size (fun i hi => by rw [List.mem_singleton.1 hi]; exact hb1))
    have hW3 : Below W.heap.size W pU3 := hW2.trans (hF2.toBelowOf hW2.size (fun i hi => by rw [List.mem_singleton.1 hi]; exact hb2))
    have hW4 : Below W.heap.size W V := hW3.trans (hF3.toBelowOf hW3.size (fun i hi => by rw [List.mem_singleton.1 hi]; exact hb3))
    have HWV := Lib.hid hW4
    have HZV := Lib.hid (HZ.out.below hW4)
    have B0 := Lib.hid hC0
    have B1 := Lib.hid hC1
    have B2 := Lib.hid hC2
    have B3 := Lib.hid hC3
    have VHK0 := Lib.hid (cell_below hW4 HK0.out)
    have VHK2 := Lib.hid (cell_below hW4 HK2.out)
    have VHK3 := Lib.hid (cell_below hW4 HK3.out)
    have VHH0 := Lib.hid (cell_below hW4 HH0.out)
    clear hA0 hF0 hC0 hW0 hb0 hA1 hF1 hC1 hW1 hb1 hA2 hF2 hC2 hW2 hb2 hA3 hF3 hC3 hW3 hb3 hW4 hbx hS hz0 hz1 hz1b hz2 hz2b hz2bb hz3 hz3b hz3bb hz3bbb
    go_upto_region 2 with fail
    refine wp_region_noPanic ?_
    refine wp_region_any (by kernel_rfl) ?_
    have hS : Below V.heap.size V V.drew := (Below.refl _ _).drew
    change wpAny _ _ _ _ 10 (Array.replicate 10 false) _ V.drew
    refine float_all (F := [(6, 11), (7, 12)]) (o := (.cells #[.int .u8 0, .string ⟨#[]⟩, .int .i64 0, .slice none 0 0] 55)) (base := V.heap.size) (g := 2) (f := 6) (stop := #[true, true, true, true, true, true, true, true, false, false]) (R := fun a u => a = (⟨#[.agg #[.int .i64 d.cap, .int .i64 d.push, .int .i64 d.dust, .int .i64 d.res, .int .i64 d.rate, .int .i64 d.delay, .int .i64 d.maxH, .int .i64 d.flight, .int .i64 d.minH], .agg #[.string k.rev, .string k.later, .string k.mine, .string k.theirs, .string k.pay], .agg #[.bool true, .int .i64 hid, .int .i64 amt, .string hash, .int .i64 exp], .pointer (some ⟨w.heap.size, 0, none⟩), .pointer (some ⟨w.heap.size + 1, 0, none⟩), .pointer (some ⟨w.heap.size + 1 + 1, 0, none⟩), .pointer (some ⟨w.heap.size + 1 + 1 + 1, 0, none⟩), .pointer (some ⟨x0, 0, none⟩), .pointer (some ⟨x1, 0, none⟩), .pointer (some ⟨x2, 0, none⟩), .pointer (some ⟨x3, 0, none⟩), undef, undef, .pointer (some ⟨w.heap.size + 1, 0, none⟩), .string k.rev, .agg #[.int .u8 1, .string k.rev, .int .i64 0, .slice none 0 0], .pointer (some ⟨w.heap.size + 1 + 1, 3, none⟩), .string hash, .agg #[.int .u8 2, .string hash, .int .i64 0, .slice none 0 0], .pointer (some ⟨w.heap.size + 1 + 1, 4, none⟩), .int .i64 exp, .agg #[.int .u8 3, .string ⟨#[]⟩, .int .i64 exp, .slice none 0 0], .pointer (some ⟨w.heap.size, 5, none⟩), .int .i64 d.delay, .agg #[.int .u8 4, .string ⟨#[]⟩, .int .i64 d.delay, .slice none 0 0], .pointer (some ⟨w.heap.size + 1, 2, none⟩), .string k.mine, .agg #[.int .u8 1, .string k.mine, .int .i64 0, .slice none 0 0], .pointer (some ⟨w.heap.size + 1, 3, none⟩), .string k.theirs, .agg #[.int .u8 1, .string k.theirs, .int .i64 0, .slice none 0 0], undef, undef, undef, undef, undef, undef, undef, undef, undef, undef, undef, undef, undef, undef, undef, undef, undef, undef, undef, undef, undef, undef, undef, undef, undef, undef], []⟩ : Act) ∧ Below V.heap.size V u) rfl (by kernel_rfl) (by kernel_rfl) (by decide) (by decide) (by kernel_rfl) (fun _ _ _ _ _ h => h) ?hal ?hfin hS.size ?chain
    case hal =>
      intro p hp K a w hK
      simp only [List.mem_cons, List.not_mem_nil, or_false] at hp
      rcases hp with rfl | rfl
      all_goals
        refine wpOp_step rfl (fun K' hK' => ?_)
        rw [if_pos (by simp [Region.wanted])]
        go_simp
        exact hK' _ _ hK
    case chain =>
      refine anyB_take (S := fun U => Below V.heap.size V U) (i := 0) (v := ?_) (fun _ _ h hb => below_step h hb) rfl (by kernel_rfl) (by kernel_rfl) (by kernel_rfl) (by kernel_rfl) (by kernel_rfl) (by kernel_rfl) (fun _ _ _ h => h) (Or.inl ⟨by rfl, ?_⟩) hS ?_
      rotate_left
      · (intro w' hSw; (try dsimp only at hSw); go_simp; (try with_reducible rfl))
      try simp only [Act.put, List.setIfInBounds_toArray]
      refine anyB_take (S := fun U => Below V.heap.size V U) (i := 1) (v := ?_) (fun _ _ h hb => below_step h hb) rfl (by kernel_rfl) (by kernel_rfl) (by kernel_rfl) (by kernel_rfl) (by kernel_rfl) (by kernel_rfl) (fun _ _ _ h => h) (Or.inl ⟨by rfl, ?_⟩) hS ?_
      rotate_left
      · (intro w' hSw; have hc0 := cell_below hSw VHK2.out; (try dsimp only at hSw); go_simp; (try with_reducible rfl))
      try simp only [Act.put]
      refine anyB_take (S := fun U => Below V.heap.size V U) (i := 3) (v := ?_) (fun _ _ h hb => below_step h hb) rfl (by kernel_rfl) (by kernel_rfl) (by kernel_rfl) (by kernel_rfl) (by kernel_rfl) (by kernel_rfl) (fun _ _ _ h => h) (Or.inl ⟨by rfl, ?_⟩) hS ?_
      rotate_left
      · (intro w' hSw; (try dsimp only at hSw); go_simp; (try with_reducible rfl))
      try simp only [Act.put]
      refine anyB_take (S := fun U => Below V.heap.size V U) (i := 4) (v := ?_) (fun _ _ h hb => below_step h hb) rfl (by kernel_rfl) (by kernel_rfl) (by kernel_rfl) (by kernel_rfl) (by kernel_rfl) (by kernel_rfl) (fun _ _ _ h => h) (Or.inl ⟨by rfl, ?_⟩) hS ?_
      rotate_left
      · (intro w' hSw; have hc0 := cell_below hSw VHK3.out; (try dsimp only at hSw); go_simp; (try with_reducible rfl))
      try simp only [Act.put]
      refine anyB_one (k := 2) (by kernel_rfl) (by kernel_rfl) (by kernel_rfl) (fun g1_V hg => ?_)
      have hS := below_step hS hg
      refine wpOp_step rfl (fun K' hK => ?_)
      have HK := Lib.hid hK
      clear hK
      rw [if_pos (by rfl)]
      go_simp
      refine Calls.mono ((Lib.hid (SS.out k.mine)).out _) ?_
      rintro e w1_V ⟨rfl, hb⟩
      have hS := below_step hS hb
      have HB := Lib.hid hb
      clear hb hg
      go_wp2_with fail
      refine HK.out _ _ ⟨HB.out, ?_⟩
      clear HK HB
      try simp only [Act.put, List.setIfInBounds_toArray, List.set_cons_zero, List.set_cons_succ]
      refine anyB_one (k := 5) (by kernel_rfl) (by kernel_rfl) (by kernel_rfl) (fun g2_V hg => ?_)
      have hS := below_step hS hg
      refine wpOp_step rfl (fun K' hK => ?_)
      have HK := Lib.hid hK
      clear hK
      rw [if_pos (by rfl)]
      go_simp
      refine Calls.mono ((Lib.hid (SS.out k.theirs)).out _) ?_
      rintro e w2_V ⟨rfl, hb⟩
      have hS := below_step hS hb
      have HB := Lib.hid hb
      clear hb hg
      go_wp2_with fail
      refine HK.out _ _ ⟨HB.out, ?_⟩
      clear HK HB
      try simp only [Act.put, List.setIfInBounds_toArray, List.set_cons_zero, List.set_cons_succ]
      exact anyB_stop (by kernel_rfl) (fun u hu => ⟨rfl, below_step hS hu⟩)
    case hfin =>
      rintro a u bs hl ⟨rfl, hS⟩ hbx hnd
      obtain ⟨y0, y1, rfl⟩ : ∃ y0 y1, bs = [y0, y1] := by
        match bs, hl with
        | [y0, y1], _ => exact ⟨_, _, rfl⟩
      obtain ⟨hb0, hz0⟩ := hbx y0 (by simp)
      replace hz0 : LBox u y0 0 ⟨#[]⟩ 0 (.slice none 0 0) := hz0
      obtain ⟨hb1, hz1⟩ := hbx y1 (by simp)
      replace hz1 : LBox u y1 0 ⟨#[]⟩ 0 (.slice none 0 0) := hz1
      have hne : y0 ≠ y1 := by simpa using hnd
      change wpAny _ _ _ _ 2 #[true, true, true, true, true, true, true, true, false, false] (⟨#[.agg #[.int .i64 d.cap, .int .i64 d.push, .int .i64 d.dust, .int .i64 d.res, .int .i64 d.rate, .int .i64 d.delay, .int .i64 d.maxH, .int .i64 d.flight, .int .i64 d.minH], .agg #[.string k.rev, .string k.later, .string k.mine, .string k.theirs, .string k.pay], .agg #[.bool true, .int .i64 hid, .int .i64 amt, .string hash, .int .i64 exp], .pointer (some ⟨w.heap.size, 0, none⟩), .pointer (some ⟨w.heap.size + 1, 0, none⟩), .pointer (some ⟨w.heap.size + 1 + 1, 0, none⟩), .pointer (some ⟨w.heap.size + 1 + 1 + 1, 0, none⟩), .pointer (some ⟨x0, 0, none⟩), .pointer (some ⟨x1, 0, none⟩), .pointer (some ⟨x2, 0, none⟩), .pointer (some ⟨x3, 0, none⟩), .pointer (some ⟨y0, 0, none⟩), .pointer (some ⟨y1, 0, none⟩), .pointer (some ⟨w.heap.size + 1, 0, none⟩), .string k.rev, .agg #[.int .u8 1, .string k.rev, .int .i64 0, .slice none 0 0], .pointer (some ⟨w.heap.size + 1 + 1, 3, none⟩), .string hash, .agg #[.int .u8 2, .string hash, .int .i64 0, .slice none 0 0], .pointer (some ⟨w.heap.size + 1 + 1, 4, none⟩), .int .i64 exp, .agg #[.int .u8 3, .string ⟨#[]⟩, .int .i64 exp, .slice none 0 0], .pointer (some ⟨w.heap.size, 5, none⟩), .int .i64 d.delay, .agg #[.int .u8 4, .string ⟨#[]⟩, .int .i64 d.delay, .slice none 0 0], .pointer (some ⟨w.heap.size + 1, 2, none⟩), .string k.mine, .agg #[.int .u8 1, .string k.mine, .int .i64 0, .slice none 0 0], .pointer (some ⟨w.heap.size + 1, 3, none⟩), .string k.theirs, .agg #[.int .u8 1, .string k.theirs, .int .i64 0, .slice none 0 0], undef, undef, undef, undef, undef, undef, undef, undef, undef, undef, undef, undef, undef, undef, undef, undef, undef, undef, undef, undef, undef, undef, undef, undef, undef, undef], []⟩ : Act) u
      refine wpAny_one (k := 8) (by kernel_rfl) ?_
      refine wpOp_step rfl (fun K' hK => ?_)
      have HK := Lib.hid hK
      clear hK
      rw [if_pos (by rfl)]
      obtain ⟨p0, p1, p2, p3, pf⟩ := hz0.cells
      go_simp
      refine HK.out _ (putL u y0 (.int .u8 1) (.string k.mine) (.int .i64 0) (.slice none 0 0)) ?_
      clear HK p0 p1 p2 p3 pf
      have hA0 := hz0.put 1 k.mine 0 (.slice none 0 0)
      have hF0 := putL_fr u y0 (.int .u8 1) (.string k.mine) (.int .i64 0) (.slice none 0 0) (F := [y0]) (List.mem_singleton.2 rfl)
      generalize (putL u y0 (.int .u8 1) (.string k.mine) (.int .i64 0) (.slice none 0 0)) = qU1 at hA0 hF0 ⊢
      try simp only [List.setIfInBounds_toArray, List.set_cons_zero, List.set_cons_succ]
      have hz1b := hz1.fr hF0 (by simp; omega)
      refine wpAny_one (k := 9) (by kernel_rfl) ?_
      refine wpOp_step rfl (fun K' hK => ?_)
      have HK := Lib.hid hK
      clear hK
      rw [if_pos (by rfl)]
      obtain ⟨p0, p1, p2, p3, pf⟩ := hz1b.cells
      go_simp
      refine HK.out _ (putL qU1 y1 (.int .u8 1) (.string k.theirs) (.int .i64 0) (.slice none 0 0)) ?_
      clear HK p0 p1 p2 p3 pf
      have hA1 := hz1b.put 1 k.theirs 0 (.slice none 0 0)
      have hF1 := putL_fr qU1 y1 (.int .u8 1) (.string k.theirs) (.int .i64 0) (.slice none 0 0) (F := [y1]) (List.mem_singleton.2 rfl)
      generalize (putL qU1 y1 (.int .u8 1) (.string k.theirs) (.int .i64 0) (.slice none 0 0)) = V2 at hA1 hF1 ⊢
      try simp only [List.setIfInBounds_toArray, List.set_cons_zero, List.set_cons_succ]
      have hC0 := (hA0.fr hF1 (by simp; omega))
      have hC1 := hA1
      refine wpAny_end (by kernel_rfl) ?_
      refine NoPanic.normal ?_
      have hW0 : Below V.heap.size V u := hS
      have hW1 : Below V.heap.size V qU1 := hW0.trans (hF0.toBelowOf hW0.size (fun i hi => by rw [List.mem_singleton.1 hi]; exact hb0))
      have hW2 : Below V.heap.size V V2 := hW1.trans (hF1.toBelowOf hW1.size (fun i hi => by rw [List.mem_singleton.1 hi]; exact hb1))
      have HW2 := Lib.hid hW2
      have HZV2 := Lib.hid (HZV.out.below hW2)
      have D0 := Lib.hid (B0.out.below hW2)
      have D1 := Lib.hid (B1.out.below hW2)
      have D2 := Lib.hid (B2.out.below hW2)
      have D3 := Lib.hid (B3.out.below hW2)
      have D4 := Lib.hid hC0
      have D5 := Lib.hid hC1
      have zh0 := cell_below hW2 VHH0.out
      have HBB := Lib.hid (HB.out.trans ((HWV.out.mono HB.out.size).trans (hW2.mono (Nat.le_trans HB.out.size HWV.out.size))))
      clear hA0 hA1 hF0 hF1 hC0 hC1 hW0 hW1 hW2 hbx hnd hb0 hb1 hS hne hz0 hz1 hz1b
      go_upto_region 4 with fail
      refine wp_region_noPanic ?_
      refine wp_region_any (by kernel_rfl) ?_
      have hS : Below V2.heap.size V2 V2.drew := (Below.refl _ _).drew
      change wpAny _ _ _ _ 13 (Array.replicate 13 false) _ V2.drew
      refine float_all (F := []) (o := (.cells #[.int .u8 0, .string ⟨#[]⟩, .int .i64 0, .slice none 0 0] 55)) (base := V2.heap.size) (g := 1) (f := 12) (stop := #[true, true, true, true, true, true, true, true, true, true, true, true, false]) (R := fun a u => ∃ (RA RB RC Aa Ab Az : Option Addr) (ca cb cz : Nat), a = (⟨#[.agg #[.int .i64 d.cap, .int .i64 d.push, .int .i64 d.dust, .int .i64 d.res, .int .i64 d.rate, .int .i64 d.delay, .int .i64 d.maxH, .int .i64 d.flight, .int .i64 d.minH], .agg #[.string k.rev, .string k.later, .string k.mine, .string k.theirs, .string k.pay], .agg #[.bool true, .int .i64 hid, .int .i64 amt, .string hash, .int .i64 exp], .pointer (some ⟨w.heap.size, 0, none⟩), .pointer (some ⟨w.heap.size + 1, 0, none⟩), .pointer (some ⟨w.heap.size + 1 + 1, 0, none⟩), .pointer (some ⟨w.heap.size + 1 + 1 + 1, 0, none⟩), .pointer (some ⟨x0, 0, none⟩), .pointer (some ⟨x1, 0, none⟩), .pointer (some ⟨x2, 0, none⟩), .pointer (some ⟨x3, 0, none⟩), .pointer (some ⟨y0, 0, none⟩), .pointer (some ⟨y1, 0, none⟩), .pointer (some ⟨w.heap.size + 1, 0, none⟩), .string k.rev, .agg #[.int .u8 1, .string k.rev, .int .i64 0, .slice none 0 0], .pointer (some ⟨w.heap.size + 1 + 1, 3, none⟩), .string hash, .agg #[.int .u8 2, .string hash, .int .i64 0, .slice none 0 0], .pointer (some ⟨w.heap.size + 1 + 1, 4, none⟩), .int .i64 exp, .agg #[.int .u8 3, .string ⟨#[]⟩, .int .i64 exp, .slice none 0 0], .pointer (some ⟨w.heap.size, 5, none⟩), .int .i64 d.delay, .agg #[.int .u8 4, .string ⟨#[]⟩, .int .i64 d.delay, .slice none 0 0], .pointer (some ⟨w.heap.size + 1, 2, none⟩), .string k.mine, .agg #[.int .u8 1, .string k.mine, .int .i64 0, .slice none 0 0], .pointer (some ⟨w.heap.size + 1, 3, none⟩), .string k.theirs, .agg #[.int .u8 1, .string k.theirs, .int .i64 0, .slice none 0 0], .pointer (some ⟨w.heap.size + 1 + 1, 0, none⟩), .bool true, .agg #[.int .u8 1, .string k.rev, .int .i64 0, .slice none 0 0], .agg #[.int .u8 1, .string k.theirs, .int .i64 0, .slice none 0 0], .agg #[.int .u8 2, .string hash, .int .i64 0, .slice none 0 0], .slice RA 2 2, .agg #[.int .u8 5, .string ⟨#[]⟩, .int .i64 0, .slice Aa 2 ca], .agg #[.int .u8 3, .string ⟨#[]⟩, .int .i64 exp, .slice none 0 0], .agg #[.int .u8 4, .string ⟨#[]⟩, .int .i64 d.delay, .slice none 0 0], .agg #[.int .u8 1, .string k.mine, .int .i64 0, .slice none 0 0], .slice RB 3 3, .agg #[.int .u8 5, .string ⟨#[]⟩, .int .i64 0, .slice Ab 3 cb], .slice RC 3 3, .agg #[.int .u8 6, .string ⟨#[]⟩, .int .i64 0, .slice Az 3 cz], undef, undef, undef, undef, undef, undef, undef, undef, undef, undef, undef, undef], []⟩ : Act) ∧ LockH u (anyL [sigL k.rev, (allL [sigL k.theirs, preL hash]), (allL [afterL exp, olderL d.delay, sigL k.mine])]) [.int .u8 6, .string ⟨#[]⟩, .int .i64 0, .slice Az 3 cz] ∧ Below V2.heap.size V2 u) rfl (by kernel_rfl) (by kernel_rfl) (by decide) (by decide) (by kernel_rfl) (fun _ _ _ _ _ h => h) ?hal ?hfin hS.size ?chain
      case hal => intro p hp; cases hp
      case chain =>
        refine anyB_take (S := fun U => Below V2.heap.size V2 U) (i := 0) (v := ?_) (fun _ _ h hb => below_step h hb) rfl (by kernel_rfl) (by kernel_rfl) (by kernel_rfl) (by kernel_rfl) (by kernel_rfl) (by kernel_rfl) (fun _ _ _ h => h) (Or.inl ⟨by rfl, ?_⟩) hS ?_
        rotate_left
        · (intro w' hSw; have hc0 := cell_below hSw D0.out.cells.1; have hc1 := cell_below hSw D0.out.cells.2.1; have hc2 := cell_below hSw D0.out.cells.2.2.1; have hc3 := cell_below hSw D0.out.cells.2.2.2.1; (try dsimp only at hSw); go_simp; (try with_reducible rfl))
        try simp only [Act.put, List.setIfInBounds_toArray]
        refine anyB_take (S := fun U => Below V2.heap.size V2 U) (i := 1) (v := ?_) (fun _ _ h hb => below_step h hb) rfl (by kernel_rfl) (by kernel_rfl) (by kernel_rfl) (by kernel_rfl) (by kernel_rfl) (by kernel_rfl) (fun _ _ _ h => h) (Or.inl ⟨by rfl, ?_⟩) hS ?_
        rotate_left
        · (intro w' hSw; have hc0 := cell_below hSw D5.out.cells.1; have hc1 := cell_below hSw D5.out.cells.2.1; have hc2 := cell_below hSw D5.out.cells.2.2.1; have hc3 := cell_below hSw D5.out.cells.2.2.2.1; (try dsimp only at hSw); go_simp; (try with_reducible rfl))
        try simp only [Act.put]
        refine anyB_take (S := fun U => Below V2.heap.size V2 U) (i := 2) (v := ?_) (fun _ _ h hb => below_step h hb) rfl (by kernel_rfl) (by kernel_rfl) (by kernel_rfl) (by kernel_rfl) (by kernel_rfl) (by kernel_rfl) (fun _ _ _ h => h) (Or.inl ⟨by rfl, ?_⟩) hS ?_
        rotate_left
        · (intro w' hSw; have hc0 := cell_below hSw D1.out.cells.1; have hc1 := cell_below hSw D1.out.cells.2.1; have hc2 := cell_below hSw D1.out.cells.2.2.1; have hc3 := cell_below hSw D1.out.cells.2.2.2.1; (try dsimp only at hSw); go_simp; (try with_reducible rfl))
        try simp only [Act.put]
        refine anyB_take (S := fun U => Below V2.heap.size V2 U) (i := 5) (v := ?_) (fun _ _ h hb => below_step h hb) rfl (by kernel_rfl) (by kernel_rfl) (by kernel_rfl) (by kernel_rfl) (by kernel_rfl) (by kernel_rfl) (fun _ _ _ h => h) (Or.inl ⟨by rfl, ?_⟩) hS ?_
        rotate_left
        · (intro w' hSw; have hc0 := cell_below hSw D2.out.cells.1; have hc1 := cell_below hSw D2.out.cells.2.1; have hc2 := cell_below hSw D2.out.cells.2.2.1; have hc3 := cell_below hSw D2.out.cells.2.2.2.1; (try dsimp only at hSw); go_simp; (try with_reducible rfl))
        try simp only [Act.put]
        refine anyB_take (S := fun U => Below V2.heap.size V2 U) (i := 6) (v := ?_) (fun _ _ h hb => below_step h hb) rfl (by kernel_rfl) (by kernel_rfl) (by kernel_rfl) (by kernel_rfl) (by kernel_rfl) (by kernel_rfl) (fun _ _ _ h => h) (Or.inl ⟨by rfl, ?_⟩) hS ?_
        rotate_left
        · (intro w' hSw; have hc0 := cell_below hSw D3.out.cells.1; have hc1 := cell_below hSw D3.out.cells.2.1; have hc2 := cell_below hSw D3.out.cells.2.2.1; have hc3 := cell_below hSw D3.out.cells.2.2.2.1; (try dsimp only at hSw); go_simp; (try with_reducible rfl))
        try simp only [Act.put]
        refine anyB_take (S := fun U => Below V2.heap.size V2 U) (i := 7) (v := ?_) (fun _ _ h hb => below_step h hb) rfl (by kernel_rfl) (by kernel_rfl) (by kernel_rfl) (by kernel_rfl) (by kernel_rfl) (by kernel_rfl) (fun _ _ _ h => h) (Or.inl ⟨by rfl, ?_⟩) hS ?_
        rotate_left
        · (intro w' hSw; have hc0 := cell_below hSw D4.out.cells.1; have hc1 := cell_below hSw D4.out.cells.2.1; have hc2 := cell_below hSw D4.out.cells.2.2.1; have hc3 := cell_below hSw D4.out.cells.2.2.2.1; (try dsimp only at hSw); go_simp; (try with_reducible rfl))
        try simp only [Act.put]
        refine anyB_two (k1 := 3) (k2 := 8) (by kernel_rfl) (by kernel_rfl) (by kernel_rfl) (by kernel_rfl) ?_ ?_
        · intro g1_V2 hg
          have hS := below_step hS hg
          refine wpOp_step rfl (fun K' hK => ?_)
          have HK := Lib.hid hK
          clear hK
          rw [if_pos (by rfl)]
          go_simp
          have X1_V2 := Lib.hid (show LocksH (g1_V2.alloc (.cells #[.int .u8 1, .string k.theirs, .int .i64 0, .slice none 0 0, .int .u8 2, .string hash, .int .i64 0, .slice none 0 0] 55)) (some ⟨g1_V2.heap.size, 0, none⟩) [sigL k.theirs, preL hash] [.int .u8 1, .string k.theirs, .int .i64 0, .slice none 0 0, .int .u8 2, .string hash, .int .i64 0, .slice none 0 0] from rowH (cs := #[.int .u8 1, .string k.theirs, .int .i64 0, .slice none 0 0, .int .u8 2, .string hash, .int .i64 0, .slice none 0 0]) (by simp) (fun W hW => LocksC.cons (LockC.leaf 1 _ _) (LocksC.cons (LockC.leaf 2 _ _) LocksC.nil)))
          have hS := below_step hS ((Below.refl _ _).alloc (Nat.le_refl _) (.cells #[.int .u8 1, .string k.theirs, .int .i64 0, .slice none 0 0, .int .u8 2, .string hash, .int .i64 0, .slice none 0 0] 55))
          clear hg
          refine HK.out _ _ ⟨(Below.refl _ _).alloc (Nat.le_refl _) _, ?_⟩
          clear HK
          try simp only [Act.put, List.setIfInBounds_toArray, List.set_cons_zero, List.set_cons_succ]
          refine anyB_two (k1 := 4) (k2 := 8) (by kernel_rfl) (by kernel_rfl) (by kernel_rfl) (by kernel_rfl) ?_ ?_
          · intro g2_V2 hg
            have hS := below_step hS hg
            replace X1_V2 := Lib.hid (X1_V2.out.mono (DepEq.below hg))
            refine wpOp_step rfl (fun K' hK => ?_)
            have HK := Lib.hid hK
            clear hK
            rw [if_pos (by rfl)]
            go_simp
            refine Calls.mono (rall_n [sigL k.theirs, preL hash] 2 rfl ⟨g1_V2.heap.size, 0, none⟩ 2 _ X1_V2.out) ?_
            rintro e w2_V2 ⟨Aa, ca, rfl, hl, hb⟩
            have hS := below_step hS hb
            have HB := Lib.hid hb
            have La := Lib.hid hl
            clear hb hg hl X1_V2
            go_wp2_with fail
            refine HK.out _ _ ⟨HB.out, ?_⟩
            clear HK HB
            try simp only [Act.put, List.setIfInBounds_toArray, List.set_cons_zero, List.set_cons_succ]
            refine anyB_one (k := 8) (by kernel_rfl) (by kernel_rfl) (by kernel_rfl) (fun g3_V2 hg => ?_)
            have hS := below_step hS hg
            replace La := Lib.hid (La.out.mono (DepEq.below hg))
            refine wpOp_step rfl (fun K' hK => ?_)
            have HK := Lib.hid hK
            clear hK
            rw [if_pos (by rfl)]
            go_simp
            have X3_V2 := Lib.hid (show LocksH (g3_V2.alloc (.cells #[.int .u8 3, .string ⟨#[]⟩, .int .i64 exp, .slice none 0 0, .int .u8 4, .string ⟨#[]⟩, .int .i64 d.delay, .slice none 0 0, .int .u8 1, .string k.mine, .int .i64 0, .slice none 0 0] 55)) (some ⟨g3_V2.heap.size, 0, none⟩) [afterL exp, olderL d.delay, sigL k.mine] [.int .u8 3, .string ⟨#[]⟩, .int .i64 exp, .slice none 0 0, .int .u8 4, .string ⟨#[]⟩, .int .i64 d.delay, .slice none 0 0, .int .u8 1, .string k.mine, .int .i64 0, .slice none 0 0] from rowH (cs := #[.int .u8 3, .string ⟨#[]⟩, .int .i64 exp, .slice none 0 0, .int .u8 4, .string ⟨#[]⟩, .int .i64 d.delay, .slice none 0 0, .int .u8 1, .string k.mine, .int .i64 0, .slice none 0 0]) (by simp) (fun W hW => LocksC.cons (LockC.leaf 3 _ _) (LocksC.cons (LockC.leaf 4 _ _) (LocksC.cons (LockC.leaf 1 _ _) LocksC.nil))))
            have hS := below_step hS ((Below.refl _ _).alloc (Nat.le_refl _) (.cells #[.int .u8 3, .string ⟨#[]⟩, .int .i64 exp, .slice none 0 0, .int .u8 4, .string ⟨#[]⟩, .int .i64 d.delay, .slice none 0 0, .int .u8 1, .string k.mine, .int .i64 0, .slice none 0 0] 55))
            replace La := Lib.hid (La.out.mono (DepEq.below ((Below.refl _ _).alloc (Nat.le_refl _) (.cells #[.int .u8 3, .string ⟨#[]⟩, .int .i64 exp, .slice none 0 0, .int .u8 4, .string ⟨#[]⟩, .int .i64 d.delay, .slice none 0 0, .int .u8 1, .string k.mine, .int .i64 0, .slice none 0 0] 55))))
            clear hg
            refine HK.out _ _ ⟨(Below.refl _ _).alloc (Nat.le_refl _) _, ?_⟩
            clear HK
            try simp only [Act.put, List.setIfInBounds_toArray, List.set_cons_zero, List.set_cons_succ]
            refine anyB_one (k := 9) (by kernel_rfl) (by kernel_rfl) (by kernel_rfl) (fun g4_V2 hg => ?_)
            have hS := below_step hS hg
            replace La := Lib.hid (La.out.mono (DepEq.below hg))
            replace X3_V2 := Lib.hid (X3_V2.out.mono (DepEq.below hg))
            refine wpOp_step rfl (fun K' hK => ?_)
            have HK := Lib.hid hK
            clear hK
            rw [if_pos (by rfl)]
            go_simp
            refine Calls.mono (rall_n [afterL exp, olderL d.delay, sigL k.mine] 3 rfl ⟨g3_V2.heap.size, 0, none⟩ 3 _ X3_V2.out) ?_
            rintro e w4_V2 ⟨Ab, cb, rfl, hl, hb⟩
            have hS := below_step hS hb
            replace La := Lib.hid (La.out.mono (DepEq.below hb))
            have HB := Lib.hid hb
            have Lb := Lib.hid hl
            clear hb hg hl X3_V2
            go_wp2_with fail
            refine HK.out _ _ ⟨HB.out, ?_⟩
            clear HK HB
            try simp only [Act.put, List.setIfInBounds_toArray, List.set_cons_zero, List.set_cons_succ]
            refine anyB_one (k := 10) (by kernel_rfl) (by kernel_rfl) (by kernel_rfl) (fun g5_V2 hg => ?_)
            have hS := below_step hS hg
            replace La := Lib.hid (La.out.mono (DepEq.below hg))
            replace Lb := Lib.hid (Lb.out.mono (DepEq.below hg))
            refine wpOp_step rfl (fun K' hK => ?_)
            have HK := Lib.hid hK
            clear hK
            rw [if_pos (by rfl)]
            go_simp
            have X5_V2 := Lib.hid (show LocksH (g5_V2.alloc (.cells #[.int .u8 1, .string k.rev, .int .i64 0, .slice none 0 0, .int .u8 5, .string ⟨#[]⟩, .int .i64 0, .slice Aa 2 ca, .int .u8 5, .string ⟨#[]⟩, .int .i64 0, .slice Ab 3 cb] 55)) (some ⟨g5_V2.heap.size, 0, none⟩) [sigL k.rev, (allL [sigL k.theirs, preL hash]), (allL [afterL exp, olderL d.delay, sigL k.mine])] [.int .u8 1, .string k.rev, .int .i64 0, .slice none 0 0, .int .u8 5, .string ⟨#[]⟩, .int .i64 0, .slice Aa 2 ca, .int .u8 5, .string ⟨#[]⟩, .int .i64 0, .slice Ab 3 cb] from rowH (cs := #[.int .u8 1, .string k.rev, .int .i64 0, .slice none 0 0, .int .u8 5, .string ⟨#[]⟩, .int .i64 0, .slice Aa 2 ca, .int .u8 5, .string ⟨#[]⟩, .int .i64 0, .slice Ab 3 cb]) (by simp) (fun W hW => LocksC.cons (LockC.leaf 1 _ _) (LocksC.cons (La.out W hW) (LocksC.cons (Lb.out W hW) LocksC.nil))))
            have hS := below_step hS ((Below.refl _ _).alloc (Nat.le_refl _) (.cells #[.int .u8 1, .string k.rev, .int .i64 0, .slice none 0 0, .int .u8 5, .string ⟨#[]⟩, .int .i64 0, .slice Aa 2 ca, .int .u8 5, .string ⟨#[]⟩, .int .i64 0, .slice Ab 3 cb] 55))
            replace La := Lib.hid (La.out.mono (DepEq.below ((Below.refl _ _).alloc (Nat.le_refl _) (.cells #[.int .u8 1, .string k.rev, .int .i64 0, .slice none 0 0, .int .u8 5, .string ⟨#[]⟩, .int .i64 0, .slice Aa 2 ca, .int .u8 5, .string ⟨#[]⟩, .int .i64 0, .slice Ab 3 cb] 55))))
            replace Lb := Lib.hid (Lb.out.mono (DepEq.below ((Below.refl _ _).alloc (Nat.le_refl _) (.cells #[.int .u8 1, .string k.rev, .int .i64 0, .slice none 0 0, .int .u8 5, .string ⟨#[]⟩, .int .i64 0, .slice Aa 2 ca, .int .u8 5, .string ⟨#[]⟩, .int .i64 0, .slice Ab 3 cb] 55))))
            clear hg
            refine HK.out _ _ ⟨(Below.refl _ _).alloc (Nat.le_refl _) _, ?_⟩
            clear HK
            try simp only [Act.put, List.setIfInBounds_toArray, List.set_cons_zero, List.set_cons_succ]
            refine anyB_one (k := 11) (by kernel_rfl) (by kernel_rfl) (by kernel_rfl) (fun g6_V2 hg => ?_)
            have hS := below_step hS hg
            replace La := Lib.hid (La.out.mono (DepEq.below hg))
            replace Lb := Lib.hid (Lb.out.mono (DepEq.below hg))
            replace X5_V2 := Lib.hid (X5_V2.out.mono (DepEq.below hg))
            refine wpOp_step rfl (fun K' hK => ?_)
            have HK := Lib.hid hK
            clear hK
            rw [if_pos (by rfl)]
            go_simp
            refine Calls.mono (rany_n [sigL k.rev, (allL [sigL k.theirs, preL hash]), (allL [afterL exp, olderL d.delay, sigL k.mine])] 3 rfl ⟨g5_V2.heap.size, 0, none⟩ 3 _ X5_V2.out) ?_
            rintro e w6_V2 ⟨Az, cz, rfl, hl, hb⟩
            have hS := below_step hS hb
            replace La := Lib.hid (La.out.mono (DepEq.below hb))
            replace Lb := Lib.hid (Lb.out.mono (DepEq.below hb))
            have HB := Lib.hid hb
            have Lz := Lib.hid hl
            clear hb hg hl X5_V2
            go_wp2_with fail
            refine HK.out _ _ ⟨HB.out, ?_⟩
            clear HK HB
            try simp only [Act.put, List.setIfInBounds_toArray, List.set_cons_zero, List.set_cons_succ]
            exact anyB_stop (by kernel_rfl) (fun u hu => ⟨_, _, _, Aa, Ab, Az, ca, cb, cz, rfl, Lz.out.mono (DepEq.below hu), below_step hS hu⟩)
          · intro g2_V2 hg
            have hS := below_step hS hg
            replace X1_V2 := Lib.hid (X1_V2.out.mono (DepEq.below hg))
            refine wpOp_step rfl (fun K' hK => ?_)
            have HK := Lib.hid hK
            clear hK
            rw [if_pos (by rfl)]
            go_simp
            have X2_V2 := Lib.hid (show LocksH (g2_V2.alloc (.cells #[.int .u8 3, .string ⟨#[]⟩, .int .i64 exp, .slice none 0 0, .int .u8 4, .string ⟨#[]⟩, .int .i64 d.delay, .slice none 0 0, .int .u8 1, .string k.mine, .int .i64 0, .slice none 0 0] 55)) (some ⟨g2_V2.heap.size, 0, none⟩) [afterL exp, olderL d.delay, sigL k.mine] [.int .u8 3, .string ⟨#[]⟩, .int .i64 exp, .slice none 0 0, .int .u8 4, .string ⟨#[]⟩, .int .i64 d.delay, .slice none 0 0, .int .u8 1, .string k.mine, .int .i64 0, .slice none 0 0] from rowH (cs := #[.int .u8 3, .string ⟨#[]⟩, .int .i64 exp, .slice none 0 0, .int .u8 4, .string ⟨#[]⟩, .int .i64 d.delay, .slice none 0 0, .int .u8 1, .string k.mine, .int .i64 0, .slice none 0 0]) (by simp) (fun W hW => LocksC.cons (LockC.leaf 3 _ _) (LocksC.cons (LockC.leaf 4 _ _) (LocksC.cons (LockC.leaf 1 _ _) LocksC.nil))))
            have hS := below_step hS ((Below.refl _ _).alloc (Nat.le_refl _) (.cells #[.int .u8 3, .string ⟨#[]⟩, .int .i64 exp, .slice none 0 0, .int .u8 4, .string ⟨#[]⟩, .int .i64 d.delay, .slice none 0 0, .int .u8 1, .string k.mine, .int .i64 0, .slice none 0 0] 55))
            replace X1_V2 := Lib.hid (X1_V2.out.mono (DepEq.below ((Below.refl _ _).alloc (Nat.le_refl _) (.cells #[.int .u8 3, .string ⟨#[]⟩, .int .i64 exp, .slice none 0 0, .int .u8 4, .string ⟨#[]⟩, .int .i64 d.delay, .slice none 0 0, .int .u8 1, .string k.mine, .int .i64 0, .slice none 0 0] 55))))
            clear hg
            refine HK.out _ _ ⟨(Below.refl _ _).alloc (Nat.le_refl _) _, ?_⟩
            clear HK
            try simp only [Act.put, List.setIfInBounds_toArray, List.set_cons_zero, List.set_cons_succ]
            refine anyB_one (k := 4) (by kernel_rfl) (by kernel_rfl) (by kernel_rfl) (fun g3_V2 hg => ?_)
            have hS := below_step hS hg
            replace X1_V2 := Lib.hid (X1_V2.out.mono (DepEq.below hg))
            replace X2_V2 := Lib.hid (X2_V2.out.mono (DepEq.below hg))
            refine wpOp_step rfl (fun K' hK => ?_)
            have HK := Lib.hid hK
            clear hK
            rw [if_pos (by rfl)]
            go_simp
            refine Calls.mono (rall_n [sigL k.theirs, preL hash] 2 rfl ⟨g1_V2.heap.size, 0, none⟩ 2 _ X1_V2.out) ?_
            rintro e w3_V2 ⟨Aa, ca, rfl, hl, hb⟩
            have hS := below_step hS hb
            replace X2_V2 := Lib.hid (X2_V2.out.mono (DepEq.below hb))
            have HB := Lib.hid hb
            have La := Lib.hid hl
            clear hb hg hl X1_V2
            go_wp2_with fail
            refine HK.out _ _ ⟨HB.out, ?_⟩
            clear HK HB
            try simp only [Act.put, List.setIfInBounds_toArray, List.set_cons_zero, List.set_cons_succ]
            refine anyB_one (k := 9) (by kernel_rfl) (by kernel_rfl) (by kernel_rfl) (fun g4_V2 hg => ?_)
            have hS := below_step hS hg
            replace X2_V2 := Lib.hid (X2_V2.out.mono (DepEq.below hg))
            replace La := Lib.hid (La.out.mono (DepEq.below hg))
            refine wpOp_step rfl (fun K' hK => ?_)
            have HK := Lib.hid hK
            clear hK
            rw [if_pos (by rfl)]
            go_simp
            refine Calls.mono (rall_n [afterL exp, olderL d.delay, sigL k.mine] 3 rfl ⟨g2_V2.heap.size, 0, none⟩ 3 _ X2_V2.out) ?_
            rintro e w4_V2 ⟨Ab, cb, rfl, hl, hb⟩
            have hS := below_step hS hb
            replace La := Lib.hid (La.out.mono (DepEq.below hb))
            have HB := Lib.hid hb
            have Lb := Lib.hid hl
            clear hb hg hl X2_V2
            go_wp2_with fail
            refine HK.out _ _ ⟨HB.out, ?_⟩
            clear HK HB
            try simp only [Act.put, List.setIfInBounds_toArray, List.set_cons_zero, List.set_cons_succ]
            refine anyB_one (k := 10) (by kernel_rfl) (by kernel_rfl) (by kernel_rfl) (fun g5_V2 hg => ?_)
            have hS := below_step hS hg
            replace La := Lib.hid (La.out.mono (DepEq.below hg))
            replace Lb := Lib.hid (Lb.out.mono (DepEq.below hg))
            refine wpOp_step rfl (fun K' hK => ?_)
            have HK := Lib.hid hK
            clear hK
            rw [if_pos (by rfl)]
            go_simp
            have X5_V2 := Lib.hid (show LocksH (g5_V2.alloc (.cells #[.int .u8 1, .string k.rev, .int .i64 0, .slice none 0 0, .int .u8 5, .string ⟨#[]⟩, .int .i64 0, .slice Aa 2 ca, .int .u8 5, .string ⟨#[]⟩, .int .i64 0, .slice Ab 3 cb] 55)) (some ⟨g5_V2.heap.size, 0, none⟩) [sigL k.rev, (allL [sigL k.theirs, preL hash]), (allL [afterL exp, olderL d.delay, sigL k.mine])] [.int .u8 1, .string k.rev, .int .i64 0, .slice none 0 0, .int .u8 5, .string ⟨#[]⟩, .int .i64 0, .slice Aa 2 ca, .int .u8 5, .string ⟨#[]⟩, .int .i64 0, .slice Ab 3 cb] from rowH (cs := #[.int .u8 1, .string k.rev, .int .i64 0, .slice none 0 0, .int .u8 5, .string ⟨#[]⟩, .int .i64 0, .slice Aa 2 ca, .int .u8 5, .string ⟨#[]⟩, .int .i64 0, .slice Ab 3 cb]) (by simp) (fun W hW => LocksC.cons (LockC.leaf 1 _ _) (LocksC.cons (La.out W hW) (LocksC.cons (Lb.out W hW) LocksC.nil))))
            have hS := below_step hS ((Below.refl _ _).alloc (Nat.le_refl _) (.cells #[.int .u8 1, .string k.rev, .int .i64 0, .slice none 0 0, .int .u8 5, .string ⟨#[]⟩, .int .i64 0, .slice Aa 2 ca, .int .u8 5, .string ⟨#[]⟩, .int .i64 0, .slice Ab 3 cb] 55))
            replace La := Lib.hid (La.out.mono (DepEq.below ((Below.refl _ _).alloc (Nat.le_refl _) (.cells #[.int .u8 1, .string k.rev, .int .i64 0, .slice none 0 0, .int .u8 5, .string ⟨#[]⟩, .int .i64 0, .slice Aa 2 ca, .int .u8 5, .string ⟨#[]⟩, .int .i64 0, .slice Ab 3 cb] 55))))
            replace Lb := Lib.hid (Lb.out.mono (DepEq.below ((Below.refl _ _).alloc (Nat.le_refl _) (.cells #[.int .u8 1, .string k.rev, .int .i64 0, .slice none 0 0, .int .u8 5, .string ⟨#[]⟩, .int .i64 0, .slice Aa 2 ca, .int .u8 5, .string ⟨#[]⟩, .int .i64 0, .slice Ab 3 cb] 55))))
            clear hg
            refine HK.out _ _ ⟨(Below.refl _ _).alloc (Nat.le_refl _) _, ?_⟩
            clear HK
            try simp only [Act.put, List.setIfInBounds_toArray, List.set_cons_zero, List.set_cons_succ]
            refine anyB_one (k := 11) (by kernel_rfl) (by kernel_rfl) (by kernel_rfl) (fun g6_V2 hg => ?_)
            have hS := below_step hS hg
            replace La := Lib.hid (La.out.mono (DepEq.below hg))
            replace Lb := Lib.hid (Lb.out.mono (DepEq.below hg))
            replace X5_V2 := Lib.hid (X5_V2.out.mono (DepEq.below hg))
            refine wpOp_step rfl (fun K' hK => ?_)
            have HK := Lib.hid hK
            clear hK
            rw [if_pos (by rfl)]
            go_simp
            refine Calls.mono (rany_n [sigL k.rev, (allL [sigL k.theirs, preL hash]), (allL [afterL exp, olderL d.delay, sigL k.mine])] 3 rfl ⟨g5_V2.heap.size, 0, none⟩ 3 _ X5_V2.out) ?_
            rintro e w6_V2 ⟨Az, cz, rfl, hl, hb⟩
            have hS := below_step hS hb
            replace La := Lib.hid (La.out.mono (DepEq.below hb))
            replace Lb := Lib.hid (Lb.out.mono (DepEq.below hb))
            have HB := Lib.hid hb
            have Lz := Lib.hid hl
            clear hb hg hl X5_V2
            go_wp2_with fail
            refine HK.out _ _ ⟨HB.out, ?_⟩
            clear HK HB
            try simp only [Act.put, List.setIfInBounds_toArray, List.set_cons_zero, List.set_cons_succ]
            exact anyB_stop (by kernel_rfl) (fun u hu => ⟨_, _, _, Aa, Ab, Az, ca, cb, cz, rfl, Lz.out.mono (DepEq.below hu), below_step hS hu⟩)
        · intro g1_V2 hg
          have hS := below_step hS hg
          refine wpOp_step rfl (fun K' hK => ?_)
          have HK := Lib.hid hK
          clear hK
          rw [if_pos (by rfl)]
          go_simp
          have X1_V2 := Lib.hid (show LocksH (g1_V2.alloc (.cells #[.int .u8 3, .string ⟨#[]⟩, .int .i64 exp, .slice none 0 0, .int .u8 4, .string ⟨#[]⟩, .int .i64 d.delay, .slice none 0 0, .int .u8 1, .string k.mine, .int .i64 0, .slice none 0 0] 55)) (some ⟨g1_V2.heap.size, 0, none⟩) [afterL exp, olderL d.delay, sigL k.mine] [.int .u8 3, .string ⟨#[]⟩, .int .i64 exp, .slice none 0 0, .int .u8 4, .string ⟨#[]⟩, .int .i64 d.delay, .slice none 0 0, .int .u8 1, .string k.mine, .int .i64 0, .slice none 0 0] from rowH (cs := #[.int .u8 3, .string ⟨#[]⟩, .int .i64 exp, .slice none 0 0, .int .u8 4, .string ⟨#[]⟩, .int .i64 d.delay, .slice none 0 0, .int .u8 1, .string k.mine, .int .i64 0, .slice none 0 0]) (by simp) (fun W hW => LocksC.cons (LockC.leaf 3 _ _) (LocksC.cons (LockC.leaf 4 _ _) (LocksC.cons (LockC.leaf 1 _ _) LocksC.nil))))
          have hS := below_step hS ((Below.refl _ _).alloc (Nat.le_refl _) (.cells #[.int .u8 3, .string ⟨#[]⟩, .int .i64 exp, .slice none 0 0, .int .u8 4, .string ⟨#[]⟩, .int .i64 d.delay, .slice none 0 0, .int .u8 1, .string k.mine, .int .i64 0, .slice none 0 0] 55))
          clear hg
          refine HK.out _ _ ⟨(Below.refl _ _).alloc (Nat.le_refl _) _, ?_⟩
          clear HK
          try simp only [Act.put, List.setIfInBounds_toArray, List.set_cons_zero, List.set_cons_succ]
          refine anyB_one (k := 3) (by kernel_rfl) (by kernel_rfl) (by kernel_rfl) (fun g2_V2 hg => ?_)
          have hS := below_step hS hg
          replace X1_V2 := Lib.hid (X1_V2.out.mono (DepEq.below hg))
          refine wpOp_step rfl (fun K' hK => ?_)
          have HK := Lib.hid hK
          clear hK
          rw [if_pos (by rfl)]
          go_simp
          have X2_V2 := Lib.hid (show LocksH (g2_V2.alloc (.cells #[.int .u8 1, .string k.theirs, .int .i64 0, .slice none 0 0, .int .u8 2, .string hash, .int .i64 0, .slice none 0 0] 55)) (some ⟨g2_V2.heap.size, 0, none⟩) [sigL k.theirs, preL hash] [.int .u8 1, .string k.theirs, .int .i64 0, .slice none 0 0, .int .u8 2, .string hash, .int .i64 0, .slice none 0 0] from rowH (cs := #[.int .u8 1, .string k.theirs, .int .i64 0, .slice none 0 0, .int .u8 2, .string hash, .int .i64 0, .slice none 0 0]) (by simp) (fun W hW => LocksC.cons (LockC.leaf 1 _ _) (LocksC.cons (LockC.leaf 2 _ _) LocksC.nil)))
          have hS := below_step hS ((Below.refl _ _).alloc (Nat.le_refl _) (.cells #[.int .u8 1, .string k.theirs, .int .i64 0, .slice none 0 0, .int .u8 2, .string hash, .int .i64 0, .slice none 0 0] 55))
          replace X1_V2 := Lib.hid (X1_V2.out.mono (DepEq.below ((Below.refl _ _).alloc (Nat.le_refl _) (.cells #[.int .u8 1, .string k.theirs, .int .i64 0, .slice none 0 0, .int .u8 2, .string hash, .int .i64 0, .slice none 0 0] 55))))
          clear hg
          refine HK.out _ _ ⟨(Below.refl _ _).alloc (Nat.le_refl _) _, ?_⟩
          clear HK
          try simp only [Act.put, List.setIfInBounds_toArray, List.set_cons_zero, List.set_cons_succ]
          refine anyB_one (k := 4) (by kernel_rfl) (by kernel_rfl) (by kernel_rfl) (fun g3_V2 hg => ?_)
          have hS := below_step hS hg
          replace X1_V2 := Lib.hid (X1_V2.out.mono (DepEq.below hg))
          replace X2_V2 := Lib.hid (X2_V2.out.mono (DepEq.below hg))
          refine wpOp_step rfl (fun K' hK => ?_)
          have HK := Lib.hid hK
          clear hK
          rw [if_pos (by rfl)]
          go_simp
          refine Calls.mono (rall_n [sigL k.theirs, preL hash] 2 rfl ⟨g2_V2.heap.size, 0, none⟩ 2 _ X2_V2.out) ?_
          rintro e w3_V2 ⟨Aa, ca, rfl, hl, hb⟩
          have hS := below_step hS hb
          replace X1_V2 := Lib.hid (X1_V2.out.mono (DepEq.below hb))
          have HB := Lib.hid hb
          have La := Lib.hid hl
          clear hb hg hl X2_V2
          go_wp2_with fail
          refine HK.out _ _ ⟨HB.out, ?_⟩
          clear HK HB
          try simp only [Act.put, List.setIfInBounds_toArray, List.set_cons_zero, List.set_cons_succ]
          refine anyB_one (k := 9) (by kernel_rfl) (by kernel_rfl) (by kernel_rfl) (fun g4_V2 hg => ?_)
          have hS := below_step hS hg
          replace X1_V2 := Lib.hid (X1_V2.out.mono (DepEq.below hg))
          replace La := Lib.hid (La.out.mono (DepEq.below hg))
          refine wpOp_step rfl (fun K' hK => ?_)
          have HK := Lib.hid hK
          clear hK
          rw [if_pos (by rfl)]
          go_simp
          refine Calls.mono (rall_n [afterL exp, olderL d.delay, sigL k.mine] 3 rfl ⟨g1_V2.heap.size, 0, none⟩ 3 _ X1_V2.out) ?_
          rintro e w4_V2 ⟨Ab, cb, rfl, hl, hb⟩
          have hS := below_step hS hb
          replace La := Lib.hid (La.out.mono (DepEq.below hb))
          have HB := Lib.hid hb
          have Lb := Lib.hid hl
          clear hb hg hl X1_V2
          go_wp2_with fail
          refine HK.out _ _ ⟨HB.out, ?_⟩
          clear HK HB
          try simp only [Act.put, List.setIfInBounds_toArray, List.set_cons_zero, List.set_cons_succ]
          refine anyB_one (k := 10) (by kernel_rfl) (by kernel_rfl) (by kernel_rfl) (fun g5_V2 hg => ?_)
          have hS := below_step hS hg
          replace La := Lib.hid (La.out.mono (DepEq.below hg))
          replace Lb := Lib.hid (Lb.out.mono (DepEq.below hg))
          refine wpOp_step rfl (fun K' hK => ?_)
          have HK := Lib.hid hK
          clear hK
          rw [if_pos (by rfl)]
          go_simp
          have X5_V2 := Lib.hid (show LocksH (g5_V2.alloc (.cells #[.int .u8 1, .string k.rev, .int .i64 0, .slice none 0 0, .int .u8 5, .string ⟨#[]⟩, .int .i64 0, .slice Aa 2 ca, .int .u8 5, .string ⟨#[]⟩, .int .i64 0, .slice Ab 3 cb] 55)) (some ⟨g5_V2.heap.size, 0, none⟩) [sigL k.rev, (allL [sigL k.theirs, preL hash]), (allL [afterL exp, olderL d.delay, sigL k.mine])] [.int .u8 1, .string k.rev, .int .i64 0, .slice none 0 0, .int .u8 5, .string ⟨#[]⟩, .int .i64 0, .slice Aa 2 ca, .int .u8 5, .string ⟨#[]⟩, .int .i64 0, .slice Ab 3 cb] from rowH (cs := #[.int .u8 1, .string k.rev, .int .i64 0, .slice none 0 0, .int .u8 5, .string ⟨#[]⟩, .int .i64 0, .slice Aa 2 ca, .int .u8 5, .string ⟨#[]⟩, .int .i64 0, .slice Ab 3 cb]) (by simp) (fun W hW => LocksC.cons (LockC.leaf 1 _ _) (LocksC.cons (La.out W hW) (LocksC.cons (Lb.out W hW) LocksC.nil))))
          have hS := below_step hS ((Below.refl _ _).alloc (Nat.le_refl _) (.cells #[.int .u8 1, .string k.rev, .int .i64 0, .slice none 0 0, .int .u8 5, .string ⟨#[]⟩, .int .i64 0, .slice Aa 2 ca, .int .u8 5, .string ⟨#[]⟩, .int .i64 0, .slice Ab 3 cb] 55))
          replace La := Lib.hid (La.out.mono (DepEq.below ((Below.refl _ _).alloc (Nat.le_refl _) (.cells #[.int .u8 1, .string k.rev, .int .i64 0, .slice none 0 0, .int .u8 5, .string ⟨#[]⟩, .int .i64 0, .slice Aa 2 ca, .int .u8 5, .string ⟨#[]⟩, .int .i64 0, .slice Ab 3 cb] 55))))
          replace Lb := Lib.hid (Lb.out.mono (DepEq.below ((Below.refl _ _).alloc (Nat.le_refl _) (.cells #[.int .u8 1, .string k.rev, .int .i64 0, .slice none 0 0, .int .u8 5, .string ⟨#[]⟩, .int .i64 0, .slice Aa 2 ca, .int .u8 5, .string ⟨#[]⟩, .int .i64 0, .slice Ab 3 cb] 55))))
          clear hg
          refine HK.out _ _ ⟨(Below.refl _ _).alloc (Nat.le_refl _) _, ?_⟩
          clear HK
          try simp only [Act.put, List.setIfInBounds_toArray, List.set_cons_zero, List.set_cons_succ]
          refine anyB_one (k := 11) (by kernel_rfl) (by kernel_rfl) (by kernel_rfl) (fun g6_V2 hg => ?_)
          have hS := below_step hS hg
          replace La := Lib.hid (La.out.mono (DepEq.below hg))
          replace Lb := Lib.hid (Lb.out.mono (DepEq.below hg))
          replace X5_V2 := Lib.hid (X5_V2.out.mono (DepEq.below hg))
          refine wpOp_step rfl (fun K' hK => ?_)
          have HK := Lib.hid hK
          clear hK
          rw [if_pos (by rfl)]
          go_simp
          refine Calls.mono (rany_n [sigL k.rev, (allL [sigL k.theirs, preL hash]), (allL [afterL exp, olderL d.delay, sigL k.mine])] 3 rfl ⟨g5_V2.heap.size, 0, none⟩ 3 _ X5_V2.out) ?_
          rintro e w6_V2 ⟨Az, cz, rfl, hl, hb⟩
          have hS := below_step hS hb
          replace La := Lib.hid (La.out.mono (DepEq.below hb))
          replace Lb := Lib.hid (Lb.out.mono (DepEq.below hb))
          have HB := Lib.hid hb
          have Lz := Lib.hid hl
          clear hb hg hl X5_V2
          go_wp2_with fail
          refine HK.out _ _ ⟨HB.out, ?_⟩
          clear HK HB
          try simp only [Act.put, List.setIfInBounds_toArray, List.set_cons_zero, List.set_cons_succ]
          exact anyB_stop (by kernel_rfl) (fun u hu => ⟨_, _, _, Aa, Ab, Az, ca, cb, cz, rfl, Lz.out.mono (DepEq.below hu), below_step hS hu⟩)
      case hfin =>
        rintro a u bs hl ⟨RA, RB, RC, Aa, Ab, Az, ca, cb, cz, rfl, hlk, hS⟩ hbx hnd
        obtain rfl : bs = [] := List.length_eq_zero_iff.1 (by simpa using hl)
        change wpAny _ _ _ _ 1 #[true, true, true, true, true, true, true, true, true, true, true, true, false] (⟨#[.agg #[.int .i64 d.cap, .int .i64 d.push, .int .i64 d.dust, .int .i64 d.res, .int .i64 d.rate, .int .i64 d.delay, .int .i64 d.maxH, .int .i64 d.flight, .int .i64 d.minH], .agg #[.string k.rev, .string k.later, .string k.mine, .string k.theirs, .string k.pay], .agg #[.bool true, .int .i64 hid, .int .i64 amt, .string hash, .int .i64 exp], .pointer (some ⟨w.heap.size, 0, none⟩), .pointer (some ⟨w.heap.size + 1, 0, none⟩), .pointer (some ⟨w.heap.size + 1 + 1, 0, none⟩), .pointer (some ⟨w.heap.size + 1 + 1 + 1, 0, none⟩), .pointer (some ⟨x0, 0, none⟩), .pointer (some ⟨x1, 0, none⟩), .pointer (some ⟨x2, 0, none⟩), .pointer (some ⟨x3, 0, none⟩), .pointer (some ⟨y0, 0, none⟩), .pointer (some ⟨y1, 0, none⟩), .pointer (some ⟨w.heap.size + 1, 0, none⟩), .string k.rev, .agg #[.int .u8 1, .string k.rev, .int .i64 0, .slice none 0 0], .pointer (some ⟨w.heap.size + 1 + 1, 3, none⟩), .string hash, .agg #[.int .u8 2, .string hash, .int .i64 0, .slice none 0 0], .pointer (some ⟨w.heap.size + 1 + 1, 4, none⟩), .int .i64 exp, .agg #[.int .u8 3, .string ⟨#[]⟩, .int .i64 exp, .slice none 0 0], .pointer (some ⟨w.heap.size, 5, none⟩), .int .i64 d.delay, .agg #[.int .u8 4, .string ⟨#[]⟩, .int .i64 d.delay, .slice none 0 0], .pointer (some ⟨w.heap.size + 1, 2, none⟩), .string k.mine, .agg #[.int .u8 1, .string k.mine, .int .i64 0, .slice none 0 0], .pointer (some ⟨w.heap.size + 1, 3, none⟩), .string k.theirs, .agg #[.int .u8 1, .string k.theirs, .int .i64 0, .slice none 0 0], .pointer (some ⟨w.heap.size + 1 + 1, 0, none⟩), .bool true, .agg #[.int .u8 1, .string k.rev, .int .i64 0, .slice none 0 0], .agg #[.int .u8 1, .string k.theirs, .int .i64 0, .slice none 0 0], .agg #[.int .u8 2, .string hash, .int .i64 0, .slice none 0 0], .slice RA 2 2, .agg #[.int .u8 5, .string ⟨#[]⟩, .int .i64 0, .slice Aa 2 ca], .agg #[.int .u8 3, .string ⟨#[]⟩, .int .i64 exp, .slice none 0 0], .agg #[.int .u8 4, .string ⟨#[]⟩, .int .i64 d.delay, .slice none 0 0], .agg #[.int .u8 1, .string k.mine, .int .i64 0, .slice none 0 0], .slice RB 3 3, .agg #[.int .u8 5, .string ⟨#[]⟩, .int .i64 0, .slice Ab 3 cb], .slice RC 3 3, .agg #[.int .u8 6, .string ⟨#[]⟩, .int .i64 0, .slice Az 3 cz], undef, undef, undef, undef, undef, undef, undef, undef, undef, undef, undef, undef], []⟩ : Act) u
        have hzr := HZV2.out.below hS
        refine wpAny_one (k := 12) (by kernel_rfl) ?_
        refine wpOp_step rfl (fun K' hK => ?_)
        have HK := Lib.hid hK
        clear hK
        rw [if_pos (by rfl)]
        obtain ⟨p0, p1, p2, p3, pf⟩ := hzr.cells
        go_simp
        refine HK.out _ (putL u (w.heap.size + 1 + 1 + 1) (.int .u8 6) (.string ⟨#[]⟩) (.int .i64 0) (.slice Az 3 cz)) ?_
        clear HK p0 p1 p2 p3 pf
        have hAr := hzr.put 6 ⟨#[]⟩ 0 (.slice Az 3 cz)
        have hFr := putL_fr u (w.heap.size + 1 + 1 + 1) (.int .u8 6) (.string ⟨#[]⟩) (.int .i64 0) (.slice Az 3 cz) (F := [(w.heap.size + 1 + 1 + 1)]) (List.mem_singleton.2 rfl)
        generalize (putL u (w.heap.size + 1 + 1 + 1) (.int .u8 6) (.string ⟨#[]⟩) (.int .i64 0) (.slice Az 3 cz)) = Wf at hAr hFr ⊢
        try simp only [List.setIfInBounds_toArray, List.set_cons_zero, List.set_cons_succ]
        refine wpAny_end (by kernel_rfl) ?_
        refine NoPanic.normal ?_
        obtain ⟨r0, r1, r2, r3, -⟩ := hAr.cells
        have HLF := Lib.hid (hlk.mono (DepEq.box hzr hFr))
        have hu1 : Below w.heap.size w u := HBB.out.trans (hS.mono HBB.out.size)
        have HFF := Lib.hid (hu1.trans (hFr.toBelowOf (B := w.heap.size) hu1.size (fun i hi => by rw [List.mem_singleton.1 hi]; omega)))
        clear hlk hzr hFr hAr hS hu1
        go_wp2_with fail
        exact bodyPost_ret (v := lockV 6 ⟨#[]⟩ 0 Az 3 cz) (by simp [results, Tryz.results28, go_sem, r0, r1, r2, r3, lockV]) rfl ⟨_, rfl, ⟨Az, cz, rfl, HLF.out⟩, HFF.out⟩
end Go.Proofs.YtncniomiplnaaaaGreatDoor

namespace Go.Proofs.YtncniomiplnaaaaGreatDoor
open Go.RowKit

set_option maxRecDepth 100000 in
set_option maxHeartbeats 16000000 in
theorem rhtlc_their (d : DealR) (k : KeysR) (hid amt : Int) (hash : ByteArray) (exp : Int) (w : World) : Calls Tryz.prog 28 #[dealV d, keysV k, .agg #[.bool false, .int .i64 hid, .int .i64 amt, .string hash, .int .i64 exp]] w fun e w' => ∃ v, e = .returned v ∧ LockV w' (htlcL d.delay k false hash exp) v ∧ Below w.heap.size w w' := by
  unfold dealV keysV
  have HB := Lib.hid (((((Below.refl w.heap.size w).alloc (Nat.le_refl _) (.cells #[.int .i64 d.cap, .int .i64 d.push, .int .i64 d.dust, .int .i64 d.res, .int .i64 d.rate, .int .i64 d.delay, .int .i64 d.maxH, .int .i64 d.flight, .int .i64 d.minH] 23)).alloc (by simp) (.cells #[.string k.rev, .string k.later, .string k.mine, .string k.theirs, .string k.pay] 40)).alloc (by simp; try omega) (.cells #[.bool false, .int .i64 hid, .int .i64 amt, .string hash, .int .i64 exp] 26)).alloc (by simp; try omega) (.cells #[.int .u8 0, .string ⟨#[]⟩, .int .i64 0, .slice none 0 0] 55))
  have HZ := Lib.hid (show LBox ((((w.alloc (.cells #[.int .i64 d.cap, .int .i64 d.push, .int .i64 d.dust, .int .i64 d.res, .int .i64 d.rate, .int .i64 d.delay, .int .i64 d.maxH, .int .i64 d.flight, .int .i64 d.minH] 23)).alloc (.cells #[.string k.rev, .string k.later, .string k.mine, .string k.theirs, .string k.pay] 40)).alloc (.cells #[.bool false, .int .i64 hid, .int .i64 amt, .string hash, .int .i64 exp] 26)).alloc (.cells #[.int .u8 0, .string ⟨#[]⟩, .int .i64 0, .slice none 0 0] 55)) (w.heap.size + 1 + 1 + 1) 0 ⟨#[]⟩ 0 (.slice none 0 0) from allocs_at [(.cells #[.int .i64 d.cap, .int .i64 d.push, .int .i64 d.dust, .int .i64 d.res, .int .i64 d.rate, .int .i64 d.delay, .int .i64 d.maxH, .int .i64 d.flight, .int .i64 d.minH] 23), (.cells #[.string k.rev, .string k.later, .string k.mine, .string k.theirs, .string k.pay] 40), (.cells #[.bool false, .int .i64 hid, .int .i64 amt, .string hash, .int .i64 exp] 26), (.cells #[.int .u8 0, .string ⟨#[]⟩, .int .i64 0, .slice none 0 0] 55)] w 3 _ rfl)
  have HD := Lib.hid (show ((((w.alloc (.cells #[.int .i64 d.cap, .int .i64 d.push, .int .i64 d.dust, .int .i64 d.res, .int .i64 d.rate, .int .i64 d.delay, .int .i64 d.maxH, .int .i64 d.flight, .int .i64 d.minH] 23)).alloc (.cells #[.string k.rev, .string k.later, .string k.mine, .string k.theirs, .string k.pay] 40)).alloc (.cells #[.bool false, .int .i64 hid, .int .i64 amt, .string hash, .int .i64 exp] 26)).alloc (.cells #[.int .u8 0, .string ⟨#[]⟩, .int .i64 0, .slice none 0 0] 55)).cell? ⟨w.heap.size, 5, none⟩ = some (.int .i64 d.delay) from cell_of (j := 5) (allocs_at [(.cells #[.int .i64 d.cap, .int .i64 d.push, .int .i64 d.dust, .int .i64 d.res, .int .i64 d.rate, .int .i64 d.delay, .int .i64 d.maxH, .int .i64 d.flight, .int .i64 d.minH] 23), (.cells #[.string k.rev, .string k.later, .string k.mine, .string k.theirs, .string k.pay] 40), (.cells #[.bool false, .int .i64 hid, .int .i64 amt, .string hash, .int .i64 exp] 26), (.cells #[.int .u8 0, .string ⟨#[]⟩, .int .i64 0, .slice none 0 0] 55)] w 0 _ rfl) rfl)
  have HK0 := Lib.hid (show ((((w.alloc (.cells #[.int .i64 d.cap, .int .i64 d.push, .int .i64 d.dust, .int .i64 d.res, .int .i64 d.rate, .int .i64 d.delay, .int .i64 d.maxH, .int .i64 d.flight, .int .i64 d.minH] 23)).alloc (.cells #[.string k.rev, .string k.later, .string k.mine, .string k.theirs, .string k.pay] 40)).alloc (.cells #[.bool false, .int .i64 hid, .int .i64 amt, .string hash, .int .i64 exp] 26)).alloc (.cells #[.int .u8 0, .string ⟨#[]⟩, .int .i64 0, .slice none 0 0] 55)).cell? ⟨w.heap.size + 1, 0, none⟩ = some (.string k.rev) from cell_of (j := 0) (allocs_at [(.cells #[.int .i64 d.cap, .int .i64 d.push, .int .i64 d.dust, .int .i64 d.res, .int .i64 d.rate, .int .i64 d.delay, .int .i64 d.maxH, .int .i64 d.flight, .int .i64 d.minH] 23), (.cells #[.string k.rev, .string k.later, .string k.mine, .string k.theirs, .string k.pay] 40), (.cells #[.bool false, .int .i64 hid, .int .i64 amt, .string hash, .int .i64 exp] 26), (.cells #[.int .u8 0, .string ⟨#[]⟩, .int .i64 0, .slice none 0 0] 55)] w 1 _ rfl) rfl)
  have HK2 := Lib.hid (show ((((w.alloc (.cells #[.int .i64 d.cap, .int .i64 d.push, .int .i64 d.dust, .int .i64 d.res, .int .i64 d.rate, .int .i64 d.delay, .int .i64 d.maxH, .int .i64 d.flight, .int .i64 d.minH] 23)).alloc (.cells #[.string k.rev, .string k.later, .string k.mine, .string k.theirs, .string k.pay] 40)).alloc (.cells #[.bool false, .int .i64 hid, .int .i64 amt, .string hash, .int .i64 exp] 26)).alloc (.cells #[.int .u8 0, .string ⟨#[]⟩, .int .i64 0, .slice none 0 0] 55)).cell? ⟨w.heap.size + 1, 2, none⟩ = some (.string k.mine) from cell_of (j := 2) (allocs_at [(.cells #[.int .i64 d.cap, .int .i64 d.push, .int .i64 d.dust, .int .i64 d.res, .int .i64 d.rate, .int .i64 d.delay, .int .i64 d.maxH, .int .i64 d.flight, .int .i64 d.minH] 23), (.cells #[.string k.rev, .string k.later, .string k.mine, .string k.theirs, .string k.pay] 40), (.cells #[.bool false, .int .i64 hid, .int .i64 amt, .string hash, .int .i64 exp] 26), (.cells #[.int .u8 0, .string ⟨#[]⟩, .int .i64 0, .slice none 0 0] 55)] w 1 _ rfl) rfl)
  have HK3 := Lib.hid (show ((((w.alloc (.cells #[.int .i64 d.cap, .int .i64 d.push, .int .i64 d.dust, .int .i64 d.res, .int .i64 d.rate, .int .i64 d.delay, .int .i64 d.maxH, .int .i64 d.flight, .int .i64 d.minH] 23)).alloc (.cells #[.string k.rev, .string k.later, .string k.mine, .string k.theirs, .string k.pay] 40)).alloc (.cells #[.bool false, .int .i64 hid, .int .i64 amt, .string hash, .int .i64 exp] 26)).alloc (.cells #[.int .u8 0, .string ⟨#[]⟩, .int .i64 0, .slice none 0 0] 55)).cell? ⟨w.heap.size + 1, 3, none⟩ = some (.string k.theirs) from cell_of (j := 3) (allocs_at [(.cells #[.int .i64 d.cap, .int .i64 d.push, .int .i64 d.dust, .int .i64 d.res, .int .i64 d.rate, .int .i64 d.delay, .int .i64 d.maxH, .int .i64 d.flight, .int .i64 d.minH] 23), (.cells #[.string k.rev, .string k.later, .string k.mine, .string k.theirs, .string k.pay] 40), (.cells #[.bool false, .int .i64 hid, .int .i64 amt, .string hash, .int .i64 exp] 26), (.cells #[.int .u8 0, .string ⟨#[]⟩, .int .i64 0, .slice none 0 0] 55)] w 1 _ rfl) rfl)
  have HH0 := Lib.hid (show ((((w.alloc (.cells #[.int .i64 d.cap, .int .i64 d.push, .int .i64 d.dust, .int .i64 d.res, .int .i64 d.rate, .int .i64 d.delay, .int .i64 d.maxH, .int .i64 d.flight, .int .i64 d.minH] 23)).alloc (.cells #[.string k.rev, .string k.later, .string k.mine, .string k.theirs, .string k.pay] 40)).alloc (.cells #[.bool false, .int .i64 hid, .int .i64 amt, .string hash, .int .i64 exp] 26)).alloc (.cells #[.int .u8 0, .string ⟨#[]⟩, .int .i64 0, .slice none 0 0] 55)).cell? ⟨w.heap.size + 1 + 1, 0, none⟩ = some (.bool false) from cell_of (j := 0) (allocs_at [(.cells #[.int .i64 d.cap, .int .i64 d.push, .int .i64 d.dust, .int .i64 d.res, .int .i64 d.rate, .int .i64 d.delay, .int .i64 d.maxH, .int .i64 d.flight, .int .i64 d.minH] 23), (.cells #[.string k.rev, .string k.later, .string k.mine, .string k.theirs, .string k.pay] 40), (.cells #[.bool false, .int .i64 hid, .int .i64 amt, .string hash, .int .i64 exp] 26), (.cells #[.int .u8 0, .string ⟨#[]⟩, .int .i64 0, .slice none 0 0] 55)] w 2 _ rfl) rfl)
  have HH3 := Lib.hid (show ((((w.alloc (.cells #[.int .i64 d.cap, .int .i64 d.push, .int .i64 d.dust, .int .i64 d.res, .int .i64 d.rate, .int .i64 d.delay, .int .i64 d.maxH, .int .i64 d.flight, .int .i64 d.minH] 23)).alloc (.cells #[.string k.rev, .string k.later, .string k.mine, .string k.theirs, .string k.pay] 40)).alloc (.cells #[.bool false, .int .i64 hid, .int .i64 amt, .string hash, .int .i64 exp] 26)).alloc (.cells #[.int .u8 0, .string ⟨#[]⟩, .int .i64 0, .slice none 0 0] 55)).cell? ⟨w.heap.size + 1 + 1, 3, none⟩ = some (.string hash) from cell_of (j := 3) (allocs_at [(.cells #[.int .i64 d.cap, .int .i64 d.push, .int .i64 d.dust, .int .i64 d.res, .int .i64 d.rate, .int .i64 d.delay, .int .i64 d.maxH, .int .i64 d.flight, .int .i64 d.minH] 23), (.cells #[.string k.rev, .string k.later, .string k.mine, .string k.theirs, .string k.pay] 40), (.cells #[.bool false, .int .i64 hid, .int .i64 amt, .string hash, .int .i64 exp] 26), (.cells #[.int .u8 0, .string ⟨#[]⟩, .int .i64 0, .slice none 0 0] 55)] w 2 _ rfl) rfl)
  have HH4 := Lib.hid (show ((((w.alloc (.cells #[.int .i64 d.cap, .int .i64 d.push, .int .i64 d.dust, .int .i64 d.res, .int .i64 d.rate, .int .i64 d.delay, .int .i64 d.maxH, .int .i64 d.flight, .int .i64 d.minH] 23)).alloc (.cells #[.string k.rev, .string k.later, .string k.mine, .string k.theirs, .string k.pay] 40)).alloc (.cells #[.bool false, .int .i64 hid, .int .i64 amt, .string hash, .int .i64 exp] 26)).alloc (.cells #[.int .u8 0, .string ⟨#[]⟩, .int .i64 0, .slice none 0 0] 55)).cell? ⟨w.heap.size + 1 + 1, 4, none⟩ = some (.int .i64 exp) from cell_of (j := 4) (allocs_at [(.cells #[.int .i64 d.cap, .int .i64 d.push, .int .i64 d.dust, .int .i64 d.res, .int .i64 d.rate, .int .i64 d.delay, .int .i64 d.maxH, .int .i64 d.flight, .int .i64 d.minH] 23), (.cells #[.string k.rev, .string k.later, .string k.mine, .string k.theirs, .string k.pay] 40), (.cells #[.bool false, .int .i64 hid, .int .i64 amt, .string hash, .int .i64 exp] 26), (.cells #[.int .u8 0, .string ⟨#[]⟩, .int .i64 0, .slice none 0 0] 55)] w 2 _ rfl) rfl)
  have SS := Lib.hid (fun t W => show Calls Tryz.prog _ _ W (fun e w' => e = .returned (.agg #[.int .u8 1, .string t, .int .i64 0, .slice none 0 0]) ∧ Below W.heap.size W w') from rsig_any t W)
  have SP := Lib.hid (fun t W => show Calls Tryz.prog _ _ W (fun e w' => e = .returned (.agg #[.int .u8 2, .string t, .int .i64 0, .slice none 0 0]) ∧ Below W.heap.size W w') from rpre_any t W)
  have SA := Lib.hid (fun n W => show Calls Tryz.prog _ _ W (fun e w' => e = .returned (.agg #[.int .u8 3, .string ⟨#[]⟩, .int .i64 n, .slice none 0 0]) ∧ Below W.heap.size W w') from rafter_any n W)
  have SO := Lib.hid (fun n W => show Calls Tryz.prog _ _ W (fun e w' => e = .returned (.agg #[.int .u8 4, .string ⟨#[]⟩, .int .i64 n, .slice none 0 0]) ∧ Below W.heap.size W w') from rolder_any n W)
  go_enter Tryz.func28, Tryz.ntmps28
  go_upto_region 1 with fail
  generalize ((((w.alloc (.cells #[.int .i64 d.cap, .int .i64 d.push, .int .i64 d.dust, .int .i64 d.res, .int .i64 d.rate, .int .i64 d.delay, .int .i64 d.maxH, .int .i64 d.flight, .int .i64 d.minH] 23)).alloc (.cells #[.string k.rev, .string k.later, .string k.mine, .string k.theirs, .string k.pay] 40)).alloc (.cells #[.bool false, .int .i64 hid, .int .i64 amt, .string hash, .int .i64 exp] 26)).alloc (.cells #[.int .u8 0, .string ⟨#[]⟩, .int .i64 0, .slice none 0 0] 55)) = W at HB HZ HD HK0 HK2 HK3 HH0 HH3 HH4 ⊢
  refine wp_region_noPanic ?_
  refine wp_region_any (by kernel_rfl) ?_
  have hS : Below W.heap.size W W.drew := (Below.refl _ _).drew
  change wpAny _ _ _ _ 20 (Array.replicate 20 false) _ W.drew
  refine float_all (F := [(12, 7), (13, 8), (14, 9), (15, 10)]) (o := (.cells #[.int .u8 0, .string ⟨#[]⟩, .int .i64 0, .slice none 0 0] 55)) (base := W.heap.size) (g := 4) (f := 12) (stop := #[true, true, true, true, true, true, true, true, true, true, true, true, true, true, true, true, false, false, false, false]) (R := fun a u => a = (⟨#[.agg #[.int .i64 d.cap, .int .i64 d.push, .int .i64 d.dust, .int .i64 d.res, .int .i64 d.rate, .int .i64 d.delay, .int .i64 d.maxH, .int .i64 d.flight, .int .i64 d.minH], .agg #[.string k.rev, .string k.later, .string k.mine, .string k.theirs, .string k.pay], .agg #[.bool false, .int .i64 hid, .int .i64 amt, .string hash, .int .i64 exp], .pointer (some ⟨w.heap.size, 0, none⟩), .pointer (some ⟨w.heap.size + 1, 0, none⟩), .pointer (some ⟨w.heap.size + 1 + 1, 0, none⟩), .pointer (some ⟨w.heap.size + 1 + 1 + 1, 0, none⟩), undef, undef, undef, undef, undef, undef, .pointer (some ⟨w.heap.size + 1, 0, none⟩), .string k.rev, .agg #[.int .u8 1, .string k.rev, .int .i64 0, .slice none 0 0], .pointer (some ⟨w.heap.size + 1 + 1, 3, none⟩), .string hash, .agg #[.int .u8 2, .string hash, .int .i64 0, .slice none 0 0], .pointer (some ⟨w.heap.size + 1 + 1, 4, none⟩), .int .i64 exp, .agg #[.int .u8 3, .string ⟨#[]⟩, .int .i64 exp, .slice none 0 0], .pointer (some ⟨w.heap.size, 5, none⟩), .int .i64 d.delay, .agg #[.int .u8 4, .string ⟨#[]⟩, .int .i64 d.delay, .slice none 0 0], undef, undef, undef, undef, undef, undef, undef, undef, undef, undef, undef, undef, undef, undef, undef, undef, undef, undef, undef, undef, undef, undef, undef, undef, undef, undef, undef, undef, undef, undef, undef, undef], []⟩ : Act) ∧ Below W.heap.size W u) rfl (by kernel_rfl) (by kernel_rfl) (by decide) (by decide) (by kernel_rfl) (fun _ _ _ _ _ h => h) ?hal ?hfin hS.size ?chain
  case hal =>
    intro p hp K a w hK
    simp only [List.mem_cons, List.not_mem_nil, or_false] at hp
    rcases hp with rfl | rfl | rfl | rfl
    all_goals
      refine wpOp_step rfl (fun K' hK' => ?_)
      rw [if_pos (by simp [Region.wanted])]
      go_simp
      exact hK' _ _ hK
  case chain =>
    refine anyB_take (S := fun U => Below W.heap.size W U) (i := 0) (v := ?_) (fun _ _ h hb => below_step h hb) rfl (by kernel_rfl) (by kernel_rfl) (by kernel_rfl) (by kernel_rfl) (by kernel_rfl) (by kernel_rfl) (fun _ _ _ h => h) (Or.inl ⟨by rfl, ?_⟩) hS ?_
    rotate_left
    · (intro w' hSw; (try dsimp only at hSw); go_simp; (try with_reducible rfl))
    try simp only [Act.put, List.setIfInBounds_toArray]
    refine anyB_take (S := fun U => Below W.heap.size W U) (i := 1) (v := ?_) (fun _ _ h hb => below_step h hb) rfl (by kernel_rfl) (by kernel_rfl) (by kernel_rfl) (by kernel_rfl) (by kernel_rfl) (by kernel_rfl) (fun _ _ _ h => h) (Or.inl ⟨by rfl, ?_⟩) hS ?_
    rotate_left
    · (intro w' hSw; have hc0 := cell_below hSw HK0.out; (try dsimp only at hSw); go_simp; (try with_reducible rfl))
    try simp only [Act.put]
    refine anyB_take (S := fun U => Below W.heap.size W U) (i := 3) (v := ?_) (fun _ _ h hb => below_step h hb) rfl (by kernel_rfl) (by kernel_rfl) (by kernel_rfl) (by kernel_rfl) (by kernel_rfl) (by kernel_rfl) (fun _ _ _ h => h) (Or.inl ⟨by rfl, ?_⟩) hS ?_
    rotate_left
    · (intro w' hSw; (try dsimp only at hSw); go_simp; (try with_reducible rfl))
    try simp only [Act.put]
    refine anyB_take (S := fun U => Below W.heap.size W U) (i := 4) (v := ?_) (fun _ _ h hb => below_step h hb) rfl (by kernel_rfl) (by kernel_rfl) (by kernel_rfl) (by kernel_rfl) (by kernel_rfl) (by kernel_rfl) (fun _ _ _ h => h) (Or.inl ⟨by rfl, ?_⟩) hS ?_
    rotate_left
    · (intro w' hSw; have hc0 := cell_below hSw HH3.out; (try dsimp only at hSw); go_simp; (try with_reducible rfl))
    try simp only [Act.put]
    refine anyB_take (S := fun U => Below W.heap.size W U) (i := 6) (v := ?_) (fun _ _ h hb => below_step h hb) rfl (by kernel_rfl) (by kernel_rfl) (by kernel_rfl) (by kernel_rfl) (by kernel_rfl) (by kernel_rfl) (fun _ _ _ h => h) (Or.inl ⟨by rfl, ?_⟩) hS ?_
    rotate_left
    · (intro w' hSw; (try dsimp only at hSw); go_simp; (try with_reducible rfl))
    try simp only [Act.put]
    refine anyB_take (S := fun U => Below W.heap.size W U) (i := 7) (v := ?_) (fun _ _ h hb => below_step h hb) rfl (by kernel_rfl) (by kernel_rfl) (by kernel_rfl) (by kernel_rfl) (by kernel_rfl) (by kernel_rfl) (fun _ _ _ h => h) (Or.inl ⟨by rfl, ?_⟩) hS ?_
    rotate_left
    · (intro w' hSw; have hc0 := cell_below hSw HH4.out; (try dsimp only at hSw); go_simp; (try with_reducible rfl))
    try simp only [Act.put]
    refine anyB_take (S := fun U => Below W.heap.size W U) (i := 9) (v := ?_) (fun _ _ h hb => below_step h hb) rfl (by kernel_rfl) (by kernel_rfl) (by kernel_rfl) (by kernel_rfl) (by kernel_rfl) (by kernel_rfl) (fun _ _ _ h => h) (Or.inl ⟨by rfl, ?_⟩) hS ?_
    rotate_left
    · (intro w' hSw; (try dsimp only at hSw); go_simp; (try with_reducible rfl))
    try simp only [Act.put]
    refine anyB_take (S := fun U => Below W.heap.size W U) (i := 10) (v := ?_) (fun _ _ h hb => below_step h hb) rfl (by kernel_rfl) (by kernel_rfl) (by kernel_rfl) (by kernel_rfl) (by kernel_rfl) (by kernel_rfl) (fun _ _ _ h => h) (Or.inl ⟨by rfl, ?_⟩) hS ?_
    rotate_left
    · (intro w' hSw; have hc0 := cell_below hSw HD.out; (try dsimp only at hSw); go_simp; (try with_reducible rfl))
    try simp only [Act.put]
    refine anyB_one (k := 2) (by kernel_rfl) (by kernel_rfl) (by kernel_rfl) (fun g1_W hg => ?_)
    have hS := below_step hS hg
    refine wpOp_step rfl (fun K' hK => ?_)
    have HK := Lib.hid hK
    clear hK
    rw [if_pos (by rfl)]
    go_simp
    refine Calls.mono ((Lib.hid (SS.out k.rev)).out _) ?_
    rintro e w1_W ⟨rfl, hb⟩
    have hS := below_step hS hb
    have HB := Lib.hid hb
    clear hb hg
    go_wp2_with fail
    refine HK.out _ _ ⟨HB.out, ?_⟩
    clear HK HB
    try simp only [Act.put, List.setIfInBounds_toArray, List.set_cons_zero, List.set_cons_succ]
    refine anyB_one (k := 5) (by kernel_rfl) (by kernel_rfl) (by kernel_rfl) (fun g2_W hg => ?_)
    have hS := below_step hS hg
    refine wpOp_step rfl (fun K' hK => ?_)
    have HK := Lib.hid hK
    clear hK
    rw [if_pos (by rfl)]
    go_simp
    refine Calls.mono ((Lib.hid (SP.out hash)).out _) ?_
    rintro e w2_W ⟨rfl, hb⟩
    have hS := below_step hS hb
    have HB := Lib.hid hb
    clear hb hg
    go_wp2_with fail
    refine HK.out _ _ ⟨HB.out, ?_⟩
    clear HK HB
    try simp only [Act.put, List.setIfInBounds_toArray, List.set_cons_zero, List.set_cons_succ]
    refine anyB_one (k := 8) (by kernel_rfl) (by kernel_rfl) (by kernel_rfl) (fun g3_W hg => ?_)
    have hS := below_step hS hg
    refine wpOp_step rfl (fun K' hK => ?_)
    have HK := Lib.hid hK
    clear hK
    rw [if_pos (by rfl)]
    go_simp
    refine Calls.mono ((Lib.hid (SA.out exp)).out _) ?_
    rintro e w3_W ⟨rfl, hb⟩
    have hS := below_step hS hb
    have HB := Lib.hid hb
    clear hb hg
    go_wp2_with fail
    refine HK.out _ _ ⟨HB.out, ?_⟩
    clear HK HB
    try simp only [Act.put, List.setIfInBounds_toArray, List.set_cons_zero, List.set_cons_succ]
    refine anyB_one (k := 11) (by kernel_rfl) (by kernel_rfl) (by kernel_rfl) (fun g4_W hg => ?_)
    have hS := below_step hS hg
    refine wpOp_step rfl (fun K' hK => ?_)
    have HK := Lib.hid hK
    clear hK
    rw [if_pos (by rfl)]
    go_simp
    refine Calls.mono ((Lib.hid (SO.out d.delay)).out _) ?_
    rintro e w4_W ⟨rfl, hb⟩
    have hS := below_step hS hb
    have HB := Lib.hid hb
    clear hb hg
    go_wp2_with fail
    refine HK.out _ _ ⟨HB.out, ?_⟩
    clear HK HB
    try simp only [Act.put, List.setIfInBounds_toArray, List.set_cons_zero, List.set_cons_succ]
    exact anyB_stop (by kernel_rfl) (fun u hu => ⟨rfl, below_step hS hu⟩)
  case hfin =>
    rintro a u bs hl ⟨rfl, hS⟩ hbx hnd
    obtain ⟨x0, x1, x2, x3, rfl⟩ : ∃ x0 x1 x2 x3, bs = [x0, x1, x2, x3] := by
      match bs, hl with
      | [x0, x1, x2, x3], _ => exact ⟨_, _, _, _, rfl⟩
    obtain ⟨hb0, hz0⟩ := hbx x0 (by simp)
    replace hz0 : LBox u x0 0 ⟨#[]⟩ 0 (.slice none 0 0) := hz0
    obtain ⟨hb1, hz1⟩ := hbx x1 (by simp)
    replace hz1 : LBox u x1 0 ⟨#[]⟩ 0 (.slice none 0 0) := hz1
    obtain ⟨hb2, hz2⟩ := hbx x2 (by simp)
    replace hz2 : LBox u x2 0 ⟨#[]⟩ 0 (.slice none 0 0) := hz2
    obtain ⟨hb3, hz3⟩ := hbx x3 (by simp)
    replace hz3 : LBox u x3 0 ⟨#[]⟩ 0 (.slice none 0 0) := hz3
    change wpAny _ _ _ _ 4 #[true, true, true, true, true, true, true, true, true, true, true, true, true, true, true, true, false, false, false, false] (⟨#[.agg #[.int .i64 d.cap, .int .i64 d.push, .int .i64 d.dust, .int .i64 d.res, .int .i64 d.rate, .int .i64 d.delay, .int .i64 d.maxH, .int .i64 d.flight, .int .i64 d.minH], .agg #[.string k.rev, .string k.later, .string k.mine, .string k.theirs, .string k.pay], .agg #[.bool false, .int .i64 hid, .int .i64 amt, .string hash, .int .i64 exp], .pointer (some ⟨w.heap.size, 0, none⟩), .pointer (some ⟨w.heap.size + 1, 0, none⟩), .pointer (some ⟨w.heap.size + 1 + 1, 0, none⟩), .pointer (some ⟨w.heap.size + 1 + 1 + 1, 0, none⟩), .pointer (some ⟨x0, 0, none⟩), .pointer (some ⟨x1, 0, none⟩), .pointer (some ⟨x2, 0, none⟩), .pointer (some ⟨x3, 0, none⟩), undef, undef, .pointer (some ⟨w.heap.size + 1, 0, none⟩), .string k.rev, .agg #[.int .u8 1, .string k.rev, .int .i64 0, .slice none 0 0], .pointer (some ⟨w.heap.size + 1 + 1, 3, none⟩), .string hash, .agg #[.int .u8 2, .string hash, .int .i64 0, .slice none 0 0], .pointer (some ⟨w.heap.size + 1 + 1, 4, none⟩), .int .i64 exp, .agg #[.int .u8 3, .string ⟨#[]⟩, .int .i64 exp, .slice none 0 0], .pointer (some ⟨w.heap.size, 5, none⟩), .int .i64 d.delay, .agg #[.int .u8 4, .string ⟨#[]⟩, .int .i64 d.delay, .slice none 0 0], undef, undef, undef, undef, undef, undef, undef, undef, undef, undef, undef, undef, undef, undef, undef, undef, undef, undef, undef, undef, undef, undef, undef, undef, undef, undef, undef, undef, undef, undef, undef, undef], []⟩ : Act) u
    simp only [List.nodup_cons, List.mem_cons, List.not_mem_nil, or_false, not_or, not_false_eq_true, List.nodup_nil, and_true] at hnd
    obtain ⟨⟨n01, n02, n03⟩, ⟨n12, n13⟩, n23⟩ := hnd
    refine wpAny_one (k := 16) (by kernel_rfl) ?_
    refine wpOp_step rfl (fun K' hK => ?_)
    have HK := Lib.hid hK
    clear hK
    rw [if_pos (by rfl)]
    obtain ⟨p0, p1, p2, p3, pf⟩ := hz0.cells
    go_simp
    refine HK.out _ (putL u x0 (.int .u8 1) (.string k.rev) (.int .i64 0) (.slice none 0 0)) ?_
    clear HK p0 p1 p2 p3 pf
    have hA0 := hz0.put 1 k.rev 0 (.slice none 0 0)
    have hF0 := putL_fr u x0 (.int .u8 1) (.string k.rev) (.int .i64 0) (.slice none 0 0) (F := [x0]) (List.mem_singleton.2 rfl)
    generalize (putL u x0 (.int .u8 1) (.string k.rev) (.int .i64 0) (.slice none 0 0)) = pU1 at hA0 hF0 ⊢
    try simp only [List.setIfInBounds_toArray, List.set_cons_zero, List.set_cons_succ]
    have hz1b := hz1.fr hF0 (by simp; omega)
    have hz2b := hz2.fr hF0 (by simp; omega)
    have hz3b := hz3.fr hF0 (by simp; omega)
    refine wpAny_one (k := 17) (by kernel_rfl) ?_
    refine wpOp_step rfl (fun K' hK => ?_)
    have HK := Lib.hid hK
    clear hK
    rw [if_pos (by rfl)]
    obtain ⟨p0, p1, p2, p3, pf⟩ := hz1b.cells
    go_simp
    refine HK.out _ (putL pU1 x1 (.int .u8 2) (.string hash) (.int .i64 0) (.slice none 0 0)) ?_
    clear HK p0 p1 p2 p3 pf
    have hA1 := hz1b.put 2 hash 0 (.slice none 0 0)
    have hF1 := putL_fr pU1 x1 (.int .u8 2) (.string hash) (.int .i64 0) (.slice none 0 0) (F := [x1]) (List.mem_singleton.2 rfl)
    generalize (putL pU1 x1 (.int .u8 2) (.string hash) (.int .i64 0) (.slice none 0 0)) = pU2 at hA1 hF1 ⊢
    try simp only [List.setIfInBounds_toArray, List.set_cons_zero, List.set_cons_succ]
    have hz2bb := hz2b.fr hF1 (by simp; omega)
    have hz3bb := hz3b.fr hF1 (by simp; omega)
    refine wpAny_one (k := 18) (by kernel_rfl) ?_
    refine wpOp_step rfl (fun K' hK => ?_)
    have HK := Lib.hid hK
    clear hK
    rw [if_pos (by rfl)]
    obtain ⟨p0, p1, p2, p3, pf⟩ := hz2bb.cells
    go_simp
    refine HK.out _ (putL pU2 x2 (.int .u8 3) (.string ⟨#[]⟩) (.int .i64 exp) (.slice none 0 0)) ?_
    clear HK p0 p1 p2 p3 pf
    have hA2 := hz2bb.put 3 ⟨#[]⟩ exp (.slice none 0 0)
    have hF2 := putL_fr pU2 x2 (.int .u8 3) (.string ⟨#[]⟩) (.int .i64 exp) (.slice none 0 0) (F := [x2]) (List.mem_singleton.2 rfl)
    generalize (putL pU2 x2 (.int .u8 3) (.string ⟨#[]⟩) (.int .i64 exp) (.slice none 0 0)) = pU3 at hA2 hF2 ⊢
    try simp only [List.setIfInBounds_toArray, List.set_cons_zero, List.set_cons_succ]
    have hz3bbb := hz3bb.fr hF2 (by simp; omega)
    refine wpAny_one (k := 19) (by kernel_rfl) ?_
    refine wpOp_step rfl (fun K' hK => ?_)
    have HK := Lib.hid hK
    clear hK
    rw [if_pos (by rfl)]
    obtain ⟨p0, p1, p2, p3, pf⟩ := hz3bbb.cells
    go_simp
    refine HK.out _ (putL pU3 x3 (.int .u8 4) (.string ⟨#[]⟩) (.int .i64 d.delay) (.slice none 0 0)) ?_
    clear HK p0 p1 p2 p3 pf
    have hA3 := hz3bbb.put 4 ⟨#[]⟩ d.delay (.slice none 0 0)
    have hF3 := putL_fr pU3 x3 (.int .u8 4) (.string ⟨#[]⟩) (.int .i64 d.delay) (.slice none 0 0) (F := [x3]) (List.mem_singleton.2 rfl)
    generalize (putL pU3 x3 (.int .u8 4) (.string ⟨#[]⟩) (.int .i64 d.delay) (.slice none 0 0)) = V at hA3 hF3 ⊢
    try simp only [List.setIfInBounds_toArray, List.set_cons_zero, List.set_cons_succ]
    have hC0 := (((hA0.fr hF1 (by simp; omega)).fr hF2 (by simp; omega)).fr hF3 (by simp; omega))
    have hC1 := ((hA1.fr hF2 (by simp; omega)).fr hF3 (by simp; omega))
    have hC2 := (hA2.fr hF3 (by simp; omega))
    have hC3 := hA3
    refine wpAny_end (by kernel_rfl) ?_
    refine NoPanic.normal ?_
    have hW0 : Below W.heap.size W u := hS
    have hW1 : Below W.heap.size W pU1 := hW0.trans (hF0.toBelowOf hW0.size (fun i hi => by rw [List.mem_singleton.1 hi]; exact hb0))
    have hW2 : Below W.heap.size W pU2 := hW1.trans (hF1.toBelowOf hW1.size (fun i hi => by rw [List.mem_singleton.1 hi]; exact hb1))
    have hW3 : Below W.heap.size W pU3 := hW2.trans (hF2.toBelowOf hW2.size (fun i hi => by rw [List.mem_singleton.1 hi]; exact hb2))
    have hW4 : Below W.heap.size W V := hW3.trans (hF3.toBelowOf hW3.size (fun i hi => by rw [List.mem_singleton.1 hi]; exact hb3))
    have HWV := Lib.hid hW4
    have HZV := Lib.hid (HZ.out.below hW4)
    have B0 := Lib.hid hC0
    have B1 := Lib.hid hC1
    have B2 := Lib.hid hC2
    have B3 := Lib.hid hC3
    have VHK0 := Lib.hid (cell_below hW4 HK0.out)
    have VHK2 := Lib.hid (cell_below hW4 HK2.out)
    have VHK3 := Lib.hid (cell_below hW4 HK3.out)
    have VHH0 := Lib.hid (cell_below hW4 HH0.out)
    clear hA0 hF0 hC0 hW0 hb0 hA1 hF1 hC1 hW1 hb1 hA2 hF2 hC2 hW2 hb2 hA3 hF3 hC3 hW3 hb3 hW4 hbx hS hz0 hz1 hz1b hz2 hz2b hz2bb hz3 hz3b hz3bb hz3bbb
    go_upto_region 2 with fail
    refine wp_region_noPanic ?_
    refine wp_region_any (by kernel_rfl) ?_
    have hS : Below V.heap.size V V.drew := (Below.refl _ _).drew
    change wpAny _ _ _ _ 10 (Array.replicate 10 false) _ V.drew
    refine float_all (F := [(6, 11), (7, 12)]) (o := (.cells #[.int .u8 0, .string ⟨#[]⟩, .int .i64 0, .slice none 0 0] 55)) (base := V.heap.size) (g := 2) (f := 6) (stop := #[true, true, true, true, true, true, true, true, false, false]) (R := fun a u => a = (⟨#[.agg #[.int .i64 d.cap, .int .i64 d.push, .int .i64 d.dust, .int .i64 d.res, .int .i64 d.rate, .int .i64 d.delay, .int .i64 d.maxH, .int .i64 d.flight, .int .i64 d.minH], .agg #[.string k.rev, .string k.later, .string k.mine, .string k.theirs, .string k.pay], .agg #[.bool false, .int .i64 hid, .int .i64 amt, .string hash, .int .i64 exp], .pointer (some ⟨w.heap.size, 0, none⟩), .pointer (some ⟨w.heap.size + 1, 0, none⟩), .pointer (some ⟨w.heap.size + 1 + 1, 0, none⟩), .pointer (some ⟨w.heap.size + 1 + 1 + 1, 0, none⟩), .pointer (some ⟨x0, 0, none⟩), .pointer (some ⟨x1, 0, none⟩), .pointer (some ⟨x2, 0, none⟩), .pointer (some ⟨x3, 0, none⟩), undef, undef, .pointer (some ⟨w.heap.size + 1, 0, none⟩), .string k.rev, .agg #[.int .u8 1, .string k.rev, .int .i64 0, .slice none 0 0], .pointer (some ⟨w.heap.size + 1 + 1, 3, none⟩), .string hash, .agg #[.int .u8 2, .string hash, .int .i64 0, .slice none 0 0], .pointer (some ⟨w.heap.size + 1 + 1, 4, none⟩), .int .i64 exp, .agg #[.int .u8 3, .string ⟨#[]⟩, .int .i64 exp, .slice none 0 0], .pointer (some ⟨w.heap.size, 5, none⟩), .int .i64 d.delay, .agg #[.int .u8 4, .string ⟨#[]⟩, .int .i64 d.delay, .slice none 0 0], .pointer (some ⟨w.heap.size + 1, 2, none⟩), .string k.mine, .agg #[.int .u8 1, .string k.mine, .int .i64 0, .slice none 0 0], .pointer (some ⟨w.heap.size + 1, 3, none⟩), .string k.theirs, .agg #[.int .u8 1, .string k.theirs, .int .i64 0, .slice none 0 0], undef, undef, undef, undef, undef, undef, undef, undef, undef, undef, undef, undef, undef, undef, undef, undef, undef, undef, undef, undef, undef, undef, undef, undef, undef, undef], []⟩ : Act) ∧ Below V.heap.size V u) rfl (by kernel_rfl) (by kernel_rfl) (by decide) (by decide) (by kernel_rfl) (fun _ _ _ _ _ h => h) ?hal ?hfin hS.size ?chain
    case hal =>
      intro p hp K a w hK
      simp only [List.mem_cons, List.not_mem_nil, or_false] at hp
      rcases hp with rfl | rfl
      all_goals
        refine wpOp_step rfl (fun K' hK' => ?_)
        rw [if_pos (by simp [Region.wanted])]
        go_simp
        exact hK' _ _ hK
    case chain =>
      refine anyB_take (S := fun U => Below V.heap.size V U) (i := 0) (v := ?_) (fun _ _ h hb => below_step h hb) rfl (by kernel_rfl) (by kernel_rfl) (by kernel_rfl) (by kernel_rfl) (by kernel_rfl) (by kernel_rfl) (fun _ _ _ h => h) (Or.inl ⟨by rfl, ?_⟩) hS ?_
      rotate_left
      · (intro w' hSw; (try dsimp only at hSw); go_simp; (try with_reducible rfl))
      try simp only [Act.put, List.setIfInBounds_toArray]
      refine anyB_take (S := fun U => Below V.heap.size V U) (i := 1) (v := ?_) (fun _ _ h hb => below_step h hb) rfl (by kernel_rfl) (by kernel_rfl) (by kernel_rfl) (by kernel_rfl) (by kernel_rfl) (by kernel_rfl) (fun _ _ _ h => h) (Or.inl ⟨by rfl, ?_⟩) hS ?_
      rotate_left
      · (intro w' hSw; have hc0 := cell_below hSw VHK2.out; (try dsimp only at hSw); go_simp; (try with_reducible rfl))
      try simp only [Act.put]
      refine anyB_take (S := fun U => Below V.heap.size V U) (i := 3) (v := ?_) (fun _ _ h hb => below_step h hb) rfl (by kernel_rfl) (by kernel_rfl) (by kernel_rfl) (by kernel_rfl) (by kernel_rfl) (by kernel_rfl) (fun _ _ _ h => h) (Or.inl ⟨by rfl, ?_⟩) hS ?_
      rotate_left
      · (intro w' hSw; (try dsimp only at hSw); go_simp; (try with_reducible rfl))
      try simp only [Act.put]
      refine anyB_take (S := fun U => Below V.heap.size V U) (i := 4) (v := ?_) (fun _ _ h hb => below_step h hb) rfl (by kernel_rfl) (by kernel_rfl) (by kernel_rfl) (by kernel_rfl) (by kernel_rfl) (by kernel_rfl) (fun _ _ _ h => h) (Or.inl ⟨by rfl, ?_⟩) hS ?_
      rotate_left
      · (intro w' hSw; have hc0 := cell_below hSw VHK3.out; (try dsimp only at hSw); go_simp; (try with_reducible rfl))
      try simp only [Act.put]
      refine anyB_one (k := 2) (by kernel_rfl) (by kernel_rfl) (by kernel_rfl) (fun g1_V hg => ?_)
      have hS := below_step hS hg
      refine wpOp_step rfl (fun K' hK => ?_)
      have HK := Lib.hid hK
      clear hK
      rw [if_pos (by rfl)]
      go_simp
      refine Calls.mono ((Lib.hid (SS.out k.mine)).out _) ?_
      rintro e w1_V ⟨rfl, hb⟩
      have hS := below_step hS hb
      have HB := Lib.hid hb
      clear hb hg
      go_wp2_with fail
      refine HK.out _ _ ⟨HB.out, ?_⟩
      clear HK HB
      try simp only [Act.put, List.setIfInBounds_toArray, List.set_cons_zero, List.set_cons_succ]
      refine anyB_one (k := 5) (by kernel_rfl) (by kernel_rfl) (by kernel_rfl) (fun g2_V hg => ?_)
      have hS := below_step hS hg
      refine wpOp_step rfl (fun K' hK => ?_)
      have HK := Lib.hid hK
      clear hK
      rw [if_pos (by rfl)]
      go_simp
      refine Calls.mono ((Lib.hid (SS.out k.theirs)).out _) ?_
      rintro e w2_V ⟨rfl, hb⟩
      have hS := below_step hS hb
      have HB := Lib.hid hb
      clear hb hg
      go_wp2_with fail
      refine HK.out _ _ ⟨HB.out, ?_⟩
      clear HK HB
      try simp only [Act.put, List.setIfInBounds_toArray, List.set_cons_zero, List.set_cons_succ]
      exact anyB_stop (by kernel_rfl) (fun u hu => ⟨rfl, below_step hS hu⟩)
    case hfin =>
      rintro a u bs hl ⟨rfl, hS⟩ hbx hnd
      obtain ⟨y0, y1, rfl⟩ : ∃ y0 y1, bs = [y0, y1] := by
        match bs, hl with
        | [y0, y1], _ => exact ⟨_, _, rfl⟩
      obtain ⟨hb0, hz0⟩ := hbx y0 (by simp)
      replace hz0 : LBox u y0 0 ⟨#[]⟩ 0 (.slice none 0 0) := hz0
      obtain ⟨hb1, hz1⟩ := hbx y1 (by simp)
      replace hz1 : LBox u y1 0 ⟨#[]⟩ 0 (.slice none 0 0) := hz1
      have hne : y0 ≠ y1 := by simpa using hnd
      change wpAny _ _ _ _ 2 #[true, true, true, true, true, true, true, true, false, false] (⟨#[.agg #[.int .i64 d.cap, .int .i64 d.push, .int .i64 d.dust, .int .i64 d.res, .int .i64 d.rate, .int .i64 d.delay, .int .i64 d.maxH, .int .i64 d.flight, .int .i64 d.minH], .agg #[.string k.rev, .string k.later, .string k.mine, .string k.theirs, .string k.pay], .agg #[.bool false, .int .i64 hid, .int .i64 amt, .string hash, .int .i64 exp], .pointer (some ⟨w.heap.size, 0, none⟩), .pointer (some ⟨w.heap.size + 1, 0, none⟩), .pointer (some ⟨w.heap.size + 1 + 1, 0, none⟩), .pointer (some ⟨w.heap.size + 1 + 1 + 1, 0, none⟩), .pointer (some ⟨x0, 0, none⟩), .pointer (some ⟨x1, 0, none⟩), .pointer (some ⟨x2, 0, none⟩), .pointer (some ⟨x3, 0, none⟩), .pointer (some ⟨y0, 0, none⟩), .pointer (some ⟨y1, 0, none⟩), .pointer (some ⟨w.heap.size + 1, 0, none⟩), .string k.rev, .agg #[.int .u8 1, .string k.rev, .int .i64 0, .slice none 0 0], .pointer (some ⟨w.heap.size + 1 + 1, 3, none⟩), .string hash, .agg #[.int .u8 2, .string hash, .int .i64 0, .slice none 0 0], .pointer (some ⟨w.heap.size + 1 + 1, 4, none⟩), .int .i64 exp, .agg #[.int .u8 3, .string ⟨#[]⟩, .int .i64 exp, .slice none 0 0], .pointer (some ⟨w.heap.size, 5, none⟩), .int .i64 d.delay, .agg #[.int .u8 4, .string ⟨#[]⟩, .int .i64 d.delay, .slice none 0 0], .pointer (some ⟨w.heap.size + 1, 2, none⟩), .string k.mine, .agg #[.int .u8 1, .string k.mine, .int .i64 0, .slice none 0 0], .pointer (some ⟨w.heap.size + 1, 3, none⟩), .string k.theirs, .agg #[.int .u8 1, .string k.theirs, .int .i64 0, .slice none 0 0], undef, undef, undef, undef, undef, undef, undef, undef, undef, undef, undef, undef, undef, undef, undef, undef, undef, undef, undef, undef, undef, undef, undef, undef, undef, undef], []⟩ : Act) u
      refine wpAny_one (k := 8) (by kernel_rfl) ?_
      refine wpOp_step rfl (fun K' hK => ?_)
      have HK := Lib.hid hK
      clear hK
      rw [if_pos (by rfl)]
      obtain ⟨p0, p1, p2, p3, pf⟩ := hz0.cells
      go_simp
      refine HK.out _ (putL u y0 (.int .u8 1) (.string k.mine) (.int .i64 0) (.slice none 0 0)) ?_
      clear HK p0 p1 p2 p3 pf
      have hA0 := hz0.put 1 k.mine 0 (.slice none 0 0)
      have hF0 := putL_fr u y0 (.int .u8 1) (.string k.mine) (.int .i64 0) (.slice none 0 0) (F := [y0]) (List.mem_singleton.2 rfl)
      generalize (putL u y0 (.int .u8 1) (.string k.mine) (.int .i64 0) (.slice none 0 0)) = qU1 at hA0 hF0 ⊢
      try simp only [List.setIfInBounds_toArray, List.set_cons_zero, List.set_cons_succ]
      have hz1b := hz1.fr hF0 (by simp; omega)
      refine wpAny_one (k := 9) (by kernel_rfl) ?_
      refine wpOp_step rfl (fun K' hK => ?_)
      have HK := Lib.hid hK
      clear hK
      rw [if_pos (by rfl)]
      obtain ⟨p0, p1, p2, p3, pf⟩ := hz1b.cells
      go_simp
      refine HK.out _ (putL qU1 y1 (.int .u8 1) (.string k.theirs) (.int .i64 0) (.slice none 0 0)) ?_
      clear HK p0 p1 p2 p3 pf
      have hA1 := hz1b.put 1 k.theirs 0 (.slice none 0 0)
      have hF1 := putL_fr qU1 y1 (.int .u8 1) (.string k.theirs) (.int .i64 0) (.slice none 0 0) (F := [y1]) (List.mem_singleton.2 rfl)
      generalize (putL qU1 y1 (.int .u8 1) (.string k.theirs) (.int .i64 0) (.slice none 0 0)) = V2 at hA1 hF1 ⊢
      try simp only [List.setIfInBounds_toArray, List.set_cons_zero, List.set_cons_succ]
      have hC0 := (hA0.fr hF1 (by simp; omega))
      have hC1 := hA1
      refine wpAny_end (by kernel_rfl) ?_
      refine NoPanic.normal ?_
      have hW0 : Below V.heap.size V u := hS
      have hW1 : Below V.heap.size V qU1 := hW0.trans (hF0.toBelowOf hW0.size (fun i hi => by rw [List.mem_singleton.1 hi]; exact hb0))
      have hW2 : Below V.heap.size V V2 := hW1.trans (hF1.toBelowOf hW1.size (fun i hi => by rw [List.mem_singleton.1 hi]; exact hb1))
      have HW2 := Lib.hid hW2
      have HZV2 := Lib.hid (HZV.out.below hW2)
      have D0 := Lib.hid (B0.out.below hW2)
      have D1 := Lib.hid (B1.out.below hW2)
      have D2 := Lib.hid (B2.out.below hW2)
      have D3 := Lib.hid (B3.out.below hW2)
      have D4 := Lib.hid hC0
      have D5 := Lib.hid hC1
      have zh0 := cell_below hW2 VHH0.out
      have HBB := Lib.hid (HB.out.trans ((HWV.out.mono HB.out.size).trans (hW2.mono (Nat.le_trans HB.out.size HWV.out.size))))
      clear hA0 hA1 hF0 hF1 hC0 hC1 hW0 hW1 hW2 hbx hnd hb0 hb1 hS hne hz0 hz1 hz1b
      go_upto_region 5 with fail
      refine wp_region_noPanic ?_
      refine wp_region_any (by kernel_rfl) ?_
      have hS : Below V2.heap.size V2 V2.drew := (Below.refl _ _).drew
      change wpAny _ _ _ _ 13 (Array.replicate 13 false) _ V2.drew
      refine float_all (F := []) (o := (.cells #[.int .u8 0, .string ⟨#[]⟩, .int .i64 0, .slice none 0 0] 55)) (base := V2.heap.size) (g := 1) (f := 12) (stop := #[true, true, true, true, true, true, true, true, true, true, true, true, false]) (R := fun a u => ∃ (RA RB RC Aa Ab Az : Option Addr) (ca cb cz : Nat), a = (⟨#[.agg #[.int .i64 d.cap, .int .i64 d.push, .int .i64 d.dust, .int .i64 d.res, .int .i64 d.rate, .int .i64 d.delay, .int .i64 d.maxH, .int .i64 d.flight, .int .i64 d.minH], .agg #[.string k.rev, .string k.later, .string k.mine, .string k.theirs, .string k.pay], .agg #[.bool false, .int .i64 hid, .int .i64 amt, .string hash, .int .i64 exp], .pointer (some ⟨w.heap.size, 0, none⟩), .pointer (some ⟨w.heap.size + 1, 0, none⟩), .pointer (some ⟨w.heap.size + 1 + 1, 0, none⟩), .pointer (some ⟨w.heap.size + 1 + 1 + 1, 0, none⟩), .pointer (some ⟨x0, 0, none⟩), .pointer (some ⟨x1, 0, none⟩), .pointer (some ⟨x2, 0, none⟩), .pointer (some ⟨x3, 0, none⟩), .pointer (some ⟨y0, 0, none⟩), .pointer (some ⟨y1, 0, none⟩), .pointer (some ⟨w.heap.size + 1, 0, none⟩), .string k.rev, .agg #[.int .u8 1, .string k.rev, .int .i64 0, .slice none 0 0], .pointer (some ⟨w.heap.size + 1 + 1, 3, none⟩), .string hash, .agg #[.int .u8 2, .string hash, .int .i64 0, .slice none 0 0], .pointer (some ⟨w.heap.size + 1 + 1, 4, none⟩), .int .i64 exp, .agg #[.int .u8 3, .string ⟨#[]⟩, .int .i64 exp, .slice none 0 0], .pointer (some ⟨w.heap.size, 5, none⟩), .int .i64 d.delay, .agg #[.int .u8 4, .string ⟨#[]⟩, .int .i64 d.delay, .slice none 0 0], .pointer (some ⟨w.heap.size + 1, 2, none⟩), .string k.mine, .agg #[.int .u8 1, .string k.mine, .int .i64 0, .slice none 0 0], .pointer (some ⟨w.heap.size + 1, 3, none⟩), .string k.theirs, .agg #[.int .u8 1, .string k.theirs, .int .i64 0, .slice none 0 0], .pointer (some ⟨w.heap.size + 1 + 1, 0, none⟩), .bool false, undef, undef, undef, undef, undef, undef, undef, undef, undef, undef, undef, undef, .agg #[.int .u8 1, .string k.rev, .int .i64 0, .slice none 0 0], .agg #[.int .u8 4, .string ⟨#[]⟩, .int .i64 d.delay, .slice none 0 0], .agg #[.int .u8 2, .string hash, .int .i64 0, .slice none 0 0], .agg #[.int .u8 1, .string k.mine, .int .i64 0, .slice none 0 0], .slice RA 3 3, .agg #[.int .u8 5, .string ⟨#[]⟩, .int .i64 0, .slice Aa 3 ca], .agg #[.int .u8 3, .string ⟨#[]⟩, .int .i64 exp, .slice none 0 0], .agg #[.int .u8 1, .string k.theirs, .int .i64 0, .slice none 0 0], .slice RB 2 2, .agg #[.int .u8 5, .string ⟨#[]⟩, .int .i64 0, .slice Ab 2 cb], .slice RC 3 3, .agg #[.int .u8 6, .string ⟨#[]⟩, .int .i64 0, .slice Az 3 cz]], []⟩ : Act) ∧ LockH u (anyL [sigL k.rev, (allL [olderL d.delay, preL hash, sigL k.mine]), (allL [afterL exp, sigL k.theirs])]) [.int .u8 6, .string ⟨#[]⟩, .int .i64 0, .slice Az 3 cz] ∧ Below V2.heap.size V2 u) rfl (by kernel_rfl) (by kernel_rfl) (by decide) (by decide) (by kernel_rfl) (fun _ _ _ _ _ h => h) ?hal ?hfin hS.size ?chain
      case hal => intro p hp; cases hp
      case chain =>
        refine anyB_take (S := fun U => Below V2.heap.size V2 U) (i := 0) (v := ?_) (fun _ _ h hb => below_step h hb) rfl (by kernel_rfl) (by kernel_rfl) (by kernel_rfl) (by kernel_rfl) (by kernel_rfl) (by kernel_rfl) (fun _ _ _ h => h) (Or.inl ⟨by rfl, ?_⟩) hS ?_
        rotate_left
        · (intro w' hSw; have hc0 := cell_below hSw D0.out.cells.1; have hc1 := cell_below hSw D0.out.cells.2.1; have hc2 := cell_below hSw D0.out.cells.2.2.1; have hc3 := cell_below hSw D0.out.cells.2.2.2.1; (try dsimp only at hSw); go_simp; (try with_reducible rfl))
        try simp only [Act.put, List.setIfInBounds_toArray]
        refine anyB_take (S := fun U => Below V2.heap.size V2 U) (i := 1) (v := ?_) (fun _ _ h hb => below_step h hb) rfl (by kernel_rfl) (by kernel_rfl) (by kernel_rfl) (by kernel_rfl) (by kernel_rfl) (by kernel_rfl) (fun _ _ _ h => h) (Or.inl ⟨by rfl, ?_⟩) hS ?_
        rotate_left
        · (intro w' hSw; have hc0 := cell_below hSw D3.out.cells.1; have hc1 := cell_below hSw D3.out.cells.2.1; have hc2 := cell_below hSw D3.out.cells.2.2.1; have hc3 := cell_below hSw D3.out.cells.2.2.2.1; (try dsimp only at hSw); go_simp; (try with_reducible rfl))
        try simp only [Act.put]
        refine anyB_take (S := fun U => Below V2.heap.size V2 U) (i := 2) (v := ?_) (fun _ _ h hb => below_step h hb) rfl (by kernel_rfl) (by kernel_rfl) (by kernel_rfl) (by kernel_rfl) (by kernel_rfl) (by kernel_rfl) (fun _ _ _ h => h) (Or.inl ⟨by rfl, ?_⟩) hS ?_
        rotate_left
        · (intro w' hSw; have hc0 := cell_below hSw D1.out.cells.1; have hc1 := cell_below hSw D1.out.cells.2.1; have hc2 := cell_below hSw D1.out.cells.2.2.1; have hc3 := cell_below hSw D1.out.cells.2.2.2.1; (try dsimp only at hSw); go_simp; (try with_reducible rfl))
        try simp only [Act.put]
        refine anyB_take (S := fun U => Below V2.heap.size V2 U) (i := 3) (v := ?_) (fun _ _ h hb => below_step h hb) rfl (by kernel_rfl) (by kernel_rfl) (by kernel_rfl) (by kernel_rfl) (by kernel_rfl) (by kernel_rfl) (fun _ _ _ h => h) (Or.inl ⟨by rfl, ?_⟩) hS ?_
        rotate_left
        · (intro w' hSw; have hc0 := cell_below hSw D4.out.cells.1; have hc1 := cell_below hSw D4.out.cells.2.1; have hc2 := cell_below hSw D4.out.cells.2.2.1; have hc3 := cell_below hSw D4.out.cells.2.2.2.1; (try dsimp only at hSw); go_simp; (try with_reducible rfl))
        try simp only [Act.put]
        refine anyB_take (S := fun U => Below V2.heap.size V2 U) (i := 6) (v := ?_) (fun _ _ h hb => below_step h hb) rfl (by kernel_rfl) (by kernel_rfl) (by kernel_rfl) (by kernel_rfl) (by kernel_rfl) (by kernel_rfl) (fun _ _ _ h => h) (Or.inl ⟨by rfl, ?_⟩) hS ?_
        rotate_left
        · (intro w' hSw; have hc0 := cell_below hSw D2.out.cells.1; have hc1 := cell_below hSw D2.out.cells.2.1; have hc2 := cell_below hSw D2.out.cells.2.2.1; have hc3 := cell_below hSw D2.out.cells.2.2.2.1; (try dsimp only at hSw); go_simp; (try with_reducible rfl))
        try simp only [Act.put]
        refine anyB_take (S := fun U => Below V2.heap.size V2 U) (i := 7) (v := ?_) (fun _ _ h hb => below_step h hb) rfl (by kernel_rfl) (by kernel_rfl) (by kernel_rfl) (by kernel_rfl) (by kernel_rfl) (by kernel_rfl) (fun _ _ _ h => h) (Or.inl ⟨by rfl, ?_⟩) hS ?_
        rotate_left
        · (intro w' hSw; have hc0 := cell_below hSw D5.out.cells.1; have hc1 := cell_below hSw D5.out.cells.2.1; have hc2 := cell_below hSw D5.out.cells.2.2.1; have hc3 := cell_below hSw D5.out.cells.2.2.2.1; (try dsimp only at hSw); go_simp; (try with_reducible rfl))
        try simp only [Act.put]
        refine anyB_two (k1 := 4) (k2 := 8) (by kernel_rfl) (by kernel_rfl) (by kernel_rfl) (by kernel_rfl) ?_ ?_
        · intro g1_V2 hg
          have hS := below_step hS hg
          refine wpOp_step rfl (fun K' hK => ?_)
          have HK := Lib.hid hK
          clear hK
          rw [if_pos (by rfl)]
          go_simp
          have X1_V2 := Lib.hid (show LocksH (g1_V2.alloc (.cells #[.int .u8 4, .string ⟨#[]⟩, .int .i64 d.delay, .slice none 0 0, .int .u8 2, .string hash, .int .i64 0, .slice none 0 0, .int .u8 1, .string k.mine, .int .i64 0, .slice none 0 0] 55)) (some ⟨g1_V2.heap.size, 0, none⟩) [olderL d.delay, preL hash, sigL k.mine] [.int .u8 4, .string ⟨#[]⟩, .int .i64 d.delay, .slice none 0 0, .int .u8 2, .string hash, .int .i64 0, .slice none 0 0, .int .u8 1, .string k.mine, .int .i64 0, .slice none 0 0] from rowH (cs := #[.int .u8 4, .string ⟨#[]⟩, .int .i64 d.delay, .slice none 0 0, .int .u8 2, .string hash, .int .i64 0, .slice none 0 0, .int .u8 1, .string k.mine, .int .i64 0, .slice none 0 0]) (by simp) (fun W hW => LocksC.cons (LockC.leaf 4 _ _) (LocksC.cons (LockC.leaf 2 _ _) (LocksC.cons (LockC.leaf 1 _ _) LocksC.nil))))
          have hS := below_step hS ((Below.refl _ _).alloc (Nat.le_refl _) (.cells #[.int .u8 4, .string ⟨#[]⟩, .int .i64 d.delay, .slice none 0 0, .int .u8 2, .string hash, .int .i64 0, .slice none 0 0, .int .u8 1, .string k.mine, .int .i64 0, .slice none 0 0] 55))
          clear hg
          refine HK.out _ _ ⟨(Below.refl _ _).alloc (Nat.le_refl _) _, ?_⟩
          clear HK
          try simp only [Act.put, List.setIfInBounds_toArray, List.set_cons_zero, List.set_cons_succ]
          refine anyB_two (k1 := 5) (k2 := 8) (by kernel_rfl) (by kernel_rfl) (by kernel_rfl) (by kernel_rfl) ?_ ?_
          · intro g2_V2 hg
            have hS := below_step hS hg
            replace X1_V2 := Lib.hid (X1_V2.out.mono (DepEq.below hg))
            refine wpOp_step rfl (fun K' hK => ?_)
            have HK := Lib.hid hK
            clear hK
            rw [if_pos (by rfl)]
            go_simp
            refine Calls.mono (rall_n [olderL d.delay, preL hash, sigL k.mine] 3 rfl ⟨g1_V2.heap.size, 0, none⟩ 3 _ X1_V2.out) ?_
            rintro e w2_V2 ⟨Aa, ca, rfl, hl, hb⟩
            have hS := below_step hS hb
            have HB := Lib.hid hb
            have La := Lib.hid hl
            clear hb hg hl X1_V2
            go_wp2_with fail
            refine HK.out _ _ ⟨HB.out, ?_⟩
            clear HK HB
            try simp only [Act.put, List.setIfInBounds_toArray, List.set_cons_zero, List.set_cons_succ]
            refine anyB_one (k := 8) (by kernel_rfl) (by kernel_rfl) (by kernel_rfl) (fun g3_V2 hg => ?_)
            have hS := below_step hS hg
            replace La := Lib.hid (La.out.mono (DepEq.below hg))
            refine wpOp_step rfl (fun K' hK => ?_)
            have HK := Lib.hid hK
            clear hK
            rw [if_pos (by rfl)]
            go_simp
            have X3_V2 := Lib.hid (show LocksH (g3_V2.alloc (.cells #[.int .u8 3, .string ⟨#[]⟩, .int .i64 exp, .slice none 0 0, .int .u8 1, .string k.theirs, .int .i64 0, .slice none 0 0] 55)) (some ⟨g3_V2.heap.size, 0, none⟩) [afterL exp, sigL k.theirs] [.int .u8 3, .string ⟨#[]⟩, .int .i64 exp, .slice none 0 0, .int .u8 1, .string k.theirs, .int .i64 0, .slice none 0 0] from rowH (cs := #[.int .u8 3, .string ⟨#[]⟩, .int .i64 exp, .slice none 0 0, .int .u8 1, .string k.theirs, .int .i64 0, .slice none 0 0]) (by simp) (fun W hW => LocksC.cons (LockC.leaf 3 _ _) (LocksC.cons (LockC.leaf 1 _ _) LocksC.nil)))
            have hS := below_step hS ((Below.refl _ _).alloc (Nat.le_refl _) (.cells #[.int .u8 3, .string ⟨#[]⟩, .int .i64 exp, .slice none 0 0, .int .u8 1, .string k.theirs, .int .i64 0, .slice none 0 0] 55))
            replace La := Lib.hid (La.out.mono (DepEq.below ((Below.refl _ _).alloc (Nat.le_refl _) (.cells #[.int .u8 3, .string ⟨#[]⟩, .int .i64 exp, .slice none 0 0, .int .u8 1, .string k.theirs, .int .i64 0, .slice none 0 0] 55))))
            clear hg
            refine HK.out _ _ ⟨(Below.refl _ _).alloc (Nat.le_refl _) _, ?_⟩
            clear HK
            try simp only [Act.put, List.setIfInBounds_toArray, List.set_cons_zero, List.set_cons_succ]
            refine anyB_one (k := 9) (by kernel_rfl) (by kernel_rfl) (by kernel_rfl) (fun g4_V2 hg => ?_)
            have hS := below_step hS hg
            replace La := Lib.hid (La.out.mono (DepEq.below hg))
            replace X3_V2 := Lib.hid (X3_V2.out.mono (DepEq.below hg))
            refine wpOp_step rfl (fun K' hK => ?_)
            have HK := Lib.hid hK
            clear hK
            rw [if_pos (by rfl)]
            go_simp
            refine Calls.mono (rall_n [afterL exp, sigL k.theirs] 2 rfl ⟨g3_V2.heap.size, 0, none⟩ 2 _ X3_V2.out) ?_
            rintro e w4_V2 ⟨Ab, cb, rfl, hl, hb⟩
            have hS := below_step hS hb
            replace La := Lib.hid (La.out.mono (DepEq.below hb))
            have HB := Lib.hid hb
            have Lb := Lib.hid hl
            clear hb hg hl X3_V2
            go_wp2_with fail
            refine HK.out _ _ ⟨HB.out, ?_⟩
            clear HK HB
            try simp only [Act.put, List.setIfInBounds_toArray, List.set_cons_zero, List.set_cons_succ]
            refine anyB_one (k := 10) (by kernel_rfl) (by kernel_rfl) (by kernel_rfl) (fun g5_V2 hg => ?_)
            have hS := below_step hS hg
            replace La := Lib.hid (La.out.mono (DepEq.below hg))
            replace Lb := Lib.hid (Lb.out.mono (DepEq.below hg))
            refine wpOp_step rfl (fun K' hK => ?_)
            have HK := Lib.hid hK
            clear hK
            rw [if_pos (by rfl)]
            go_simp
            have X5_V2 := Lib.hid (show LocksH (g5_V2.alloc (.cells #[.int .u8 1, .string k.rev, .int .i64 0, .slice none 0 0, .int .u8 5, .string ⟨#[]⟩, .int .i64 0, .slice Aa 3 ca, .int .u8 5, .string ⟨#[]⟩, .int .i64 0, .slice Ab 2 cb] 55)) (some ⟨g5_V2.heap.size, 0, none⟩) [sigL k.rev, (allL [olderL d.delay, preL hash, sigL k.mine]), (allL [afterL exp, sigL k.theirs])] [.int .u8 1, .string k.rev, .int .i64 0, .slice none 0 0, .int .u8 5, .string ⟨#[]⟩, .int .i64 0, .slice Aa 3 ca, .int .u8 5, .string ⟨#[]⟩, .int .i64 0, .slice Ab 2 cb] from rowH (cs := #[.int .u8 1, .string k.rev, .int .i64 0, .slice none 0 0, .int .u8 5, .string ⟨#[]⟩, .int .i64 0, .slice Aa 3 ca, .int .u8 5, .string ⟨#[]⟩, .int .i64 0, .slice Ab 2 cb]) (by simp) (fun W hW => LocksC.cons (LockC.leaf 1 _ _) (LocksC.cons (La.out W hW) (LocksC.cons (Lb.out W hW) LocksC.nil))))
            have hS := below_step hS ((Below.refl _ _).alloc (Nat.le_refl _) (.cells #[.int .u8 1, .string k.rev, .int .i64 0, .slice none 0 0, .int .u8 5, .string ⟨#[]⟩, .int .i64 0, .slice Aa 3 ca, .int .u8 5, .string ⟨#[]⟩, .int .i64 0, .slice Ab 2 cb] 55))
            replace La := Lib.hid (La.out.mono (DepEq.below ((Below.refl _ _).alloc (Nat.le_refl _) (.cells #[.int .u8 1, .string k.rev, .int .i64 0, .slice none 0 0, .int .u8 5, .string ⟨#[]⟩, .int .i64 0, .slice Aa 3 ca, .int .u8 5, .string ⟨#[]⟩, .int .i64 0, .slice Ab 2 cb] 55))))
            replace Lb := Lib.hid (Lb.out.mono (DepEq.below ((Below.refl _ _).alloc (Nat.le_refl _) (.cells #[.int .u8 1, .string k.rev, .int .i64 0, .slice none 0 0, .int .u8 5, .string ⟨#[]⟩, .int .i64 0, .slice Aa 3 ca, .int .u8 5, .string ⟨#[]⟩, .int .i64 0, .slice Ab 2 cb] 55))))
            clear hg
            refine HK.out _ _ ⟨(Below.refl _ _).alloc (Nat.le_refl _) _, ?_⟩
            clear HK
            try simp only [Act.put, List.setIfInBounds_toArray, List.set_cons_zero, List.set_cons_succ]
            refine anyB_one (k := 11) (by kernel_rfl) (by kernel_rfl) (by kernel_rfl) (fun g6_V2 hg => ?_)
            have hS := below_step hS hg
            replace La := Lib.hid (La.out.mono (DepEq.below hg))
            replace Lb := Lib.hid (Lb.out.mono (DepEq.below hg))
            replace X5_V2 := Lib.hid (X5_V2.out.mono (DepEq.below hg))
            refine wpOp_step rfl (fun K' hK => ?_)
            have HK := Lib.hid hK
            clear hK
            rw [if_pos (by rfl)]
            go_simp
            refine Calls.mono (rany_n [sigL k.rev, (allL [olderL d.delay, preL hash, sigL k.mine]), (allL [afterL exp, sigL k.theirs])] 3 rfl ⟨g5_V2.heap.size, 0, none⟩ 3 _ X5_V2.out) ?_
            rintro e w6_V2 ⟨Az, cz, rfl, hl, hb⟩
            have hS := below_step hS hb
            replace La := Lib.hid (La.out.mono (DepEq.below hb))
            replace Lb := Lib.hid (Lb.out.mono (DepEq.below hb))
            have HB := Lib.hid hb
            have Lz := Lib.hid hl
            clear hb hg hl X5_V2
            go_wp2_with fail
            refine HK.out _ _ ⟨HB.out, ?_⟩
            clear HK HB
            try simp only [Act.put, List.setIfInBounds_toArray, List.set_cons_zero, List.set_cons_succ]
            exact anyB_stop (by kernel_rfl) (fun u hu => ⟨_, _, _, Aa, Ab, Az, ca, cb, cz, rfl, Lz.out.mono (DepEq.below hu), below_step hS hu⟩)
          · intro g2_V2 hg
            have hS := below_step hS hg
            replace X1_V2 := Lib.hid (X1_V2.out.mono (DepEq.below hg))
            refine wpOp_step rfl (fun K' hK => ?_)
            have HK := Lib.hid hK
            clear hK
            rw [if_pos (by rfl)]
            go_simp
            have X2_V2 := Lib.hid (show LocksH (g2_V2.alloc (.cells #[.int .u8 3, .string ⟨#[]⟩, .int .i64 exp, .slice none 0 0, .int .u8 1, .string k.theirs, .int .i64 0, .slice none 0 0] 55)) (some ⟨g2_V2.heap.size, 0, none⟩) [afterL exp, sigL k.theirs] [.int .u8 3, .string ⟨#[]⟩, .int .i64 exp, .slice none 0 0, .int .u8 1, .string k.theirs, .int .i64 0, .slice none 0 0] from rowH (cs := #[.int .u8 3, .string ⟨#[]⟩, .int .i64 exp, .slice none 0 0, .int .u8 1, .string k.theirs, .int .i64 0, .slice none 0 0]) (by simp) (fun W hW => LocksC.cons (LockC.leaf 3 _ _) (LocksC.cons (LockC.leaf 1 _ _) LocksC.nil)))
            have hS := below_step hS ((Below.refl _ _).alloc (Nat.le_refl _) (.cells #[.int .u8 3, .string ⟨#[]⟩, .int .i64 exp, .slice none 0 0, .int .u8 1, .string k.theirs, .int .i64 0, .slice none 0 0] 55))
            replace X1_V2 := Lib.hid (X1_V2.out.mono (DepEq.below ((Below.refl _ _).alloc (Nat.le_refl _) (.cells #[.int .u8 3, .string ⟨#[]⟩, .int .i64 exp, .slice none 0 0, .int .u8 1, .string k.theirs, .int .i64 0, .slice none 0 0] 55))))
            clear hg
            refine HK.out _ _ ⟨(Below.refl _ _).alloc (Nat.le_refl _) _, ?_⟩
            clear HK
            try simp only [Act.put, List.setIfInBounds_toArray, List.set_cons_zero, List.set_cons_succ]
            refine anyB_one (k := 5) (by kernel_rfl) (by kernel_rfl) (by kernel_rfl) (fun g3_V2 hg => ?_)
            have hS := below_step hS hg
            replace X1_V2 := Lib.hid (X1_V2.out.mono (DepEq.below hg))
            replace X2_V2 := Lib.hid (X2_V2.out.mono (DepEq.below hg))
            refine wpOp_step rfl (fun K' hK => ?_)
            have HK := Lib.hid hK
            clear hK
            rw [if_pos (by rfl)]
            go_simp
            refine Calls.mono (rall_n [olderL d.delay, preL hash, sigL k.mine] 3 rfl ⟨g1_V2.heap.size, 0, none⟩ 3 _ X1_V2.out) ?_
            rintro e w3_V2 ⟨Aa, ca, rfl, hl, hb⟩
            have hS := below_step hS hb
            replace X2_V2 := Lib.hid (X2_V2.out.mono (DepEq.below hb))
            have HB := Lib.hid hb
            have La := Lib.hid hl
            clear hb hg hl X1_V2
            go_wp2_with fail
            refine HK.out _ _ ⟨HB.out, ?_⟩
            clear HK HB
            try simp only [Act.put, List.setIfInBounds_toArray, List.set_cons_zero, List.set_cons_succ]
            refine anyB_one (k := 9) (by kernel_rfl) (by kernel_rfl) (by kernel_rfl) (fun g4_V2 hg => ?_)
            have hS := below_step hS hg
            replace X2_V2 := Lib.hid (X2_V2.out.mono (DepEq.below hg))
            replace La := Lib.hid (La.out.mono (DepEq.below hg))
            refine wpOp_step rfl (fun K' hK => ?_)
            have HK := Lib.hid hK
            clear hK
            rw [if_pos (by rfl)]
            go_simp
            refine Calls.mono (rall_n [afterL exp, sigL k.theirs] 2 rfl ⟨g2_V2.heap.size, 0, none⟩ 2 _ X2_V2.out) ?_
            rintro e w4_V2 ⟨Ab, cb, rfl, hl, hb⟩
            have hS := below_step hS hb
            replace La := Lib.hid (La.out.mono (DepEq.below hb))
            have HB := Lib.hid hb
            have Lb := Lib.hid hl
            clear hb hg hl X2_V2
            go_wp2_with fail
            refine HK.out _ _ ⟨HB.out, ?_⟩
            clear HK HB
            try simp only [Act.put, List.setIfInBounds_toArray, List.set_cons_zero, List.set_cons_succ]
            refine anyB_one (k := 10) (by kernel_rfl) (by kernel_rfl) (by kernel_rfl) (fun g5_V2 hg => ?_)
            have hS := below_step hS hg
            replace La := Lib.hid (La.out.mono (DepEq.below hg))
            replace Lb := Lib.hid (Lb.out.mono (DepEq.below hg))
            refine wpOp_step rfl (fun K' hK => ?_)
            have HK := Lib.hid hK
            clear hK
            rw [if_pos (by rfl)]
            go_simp
            have X5_V2 := Lib.hid (show LocksH (g5_V2.alloc (.cells #[.int .u8 1, .string k.rev, .int .i64 0, .slice none 0 0, .int .u8 5, .string ⟨#[]⟩, .int .i64 0, .slice Aa 3 ca, .int .u8 5, .string ⟨#[]⟩, .int .i64 0, .slice Ab 2 cb] 55)) (some ⟨g5_V2.heap.size, 0, none⟩) [sigL k.rev, (allL [olderL d.delay, preL hash, sigL k.mine]), (allL [afterL exp, sigL k.theirs])] [.int .u8 1, .string k.rev, .int .i64 0, .slice none 0 0, .int .u8 5, .string ⟨#[]⟩, .int .i64 0, .slice Aa 3 ca, .int .u8 5, .string ⟨#[]⟩, .int .i64 0, .slice Ab 2 cb] from rowH (cs := #[.int .u8 1, .string k.rev, .int .i64 0, .slice none 0 0, .int .u8 5, .string ⟨#[]⟩, .int .i64 0, .slice Aa 3 ca, .int .u8 5, .string ⟨#[]⟩, .int .i64 0, .slice Ab 2 cb]) (by simp) (fun W hW => LocksC.cons (LockC.leaf 1 _ _) (LocksC.cons (La.out W hW) (LocksC.cons (Lb.out W hW) LocksC.nil))))
            have hS := below_step hS ((Below.refl _ _).alloc (Nat.le_refl _) (.cells #[.int .u8 1, .string k.rev, .int .i64 0, .slice none 0 0, .int .u8 5, .string ⟨#[]⟩, .int .i64 0, .slice Aa 3 ca, .int .u8 5, .string ⟨#[]⟩, .int .i64 0, .slice Ab 2 cb] 55))
            replace La := Lib.hid (La.out.mono (DepEq.below ((Below.refl _ _).alloc (Nat.le_refl _) (.cells #[.int .u8 1, .string k.rev, .int .i64 0, .slice none 0 0, .int .u8 5, .string ⟨#[]⟩, .int .i64 0, .slice Aa 3 ca, .int .u8 5, .string ⟨#[]⟩, .int .i64 0, .slice Ab 2 cb] 55))))
            replace Lb := Lib.hid (Lb.out.mono (DepEq.below ((Below.refl _ _).alloc (Nat.le_refl _) (.cells #[.int .u8 1, .string k.rev, .int .i64 0, .slice none 0 0, .int .u8 5, .string ⟨#[]⟩, .int .i64 0, .slice Aa 3 ca, .int .u8 5, .string ⟨#[]⟩, .int .i64 0, .slice Ab 2 cb] 55))))
            clear hg
            refine HK.out _ _ ⟨(Below.refl _ _).alloc (Nat.le_refl _) _, ?_⟩
            clear HK
            try simp only [Act.put, List.setIfInBounds_toArray, List.set_cons_zero, List.set_cons_succ]
            refine anyB_one (k := 11) (by kernel_rfl) (by kernel_rfl) (by kernel_rfl) (fun g6_V2 hg => ?_)
            have hS := below_step hS hg
            replace La := Lib.hid (La.out.mono (DepEq.below hg))
            replace Lb := Lib.hid (Lb.out.mono (DepEq.below hg))
            replace X5_V2 := Lib.hid (X5_V2.out.mono (DepEq.below hg))
            refine wpOp_step rfl (fun K' hK => ?_)
            have HK := Lib.hid hK
            clear hK
            rw [if_pos (by rfl)]
            go_simp
            refine Calls.mono (rany_n [sigL k.rev, (allL [olderL d.delay, preL hash, sigL k.mine]), (allL [afterL exp, sigL k.theirs])] 3 rfl ⟨g5_V2.heap.size, 0, none⟩ 3 _ X5_V2.out) ?_
            rintro e w6_V2 ⟨Az, cz, rfl, hl, hb⟩
            have hS := below_step hS hb
            replace La := Lib.hid (La.out.mono (DepEq.below hb))
            replace Lb := Lib.hid (Lb.out.mono (DepEq.below hb))
            have HB := Lib.hid hb
            have Lz := Lib.hid hl
            clear hb hg hl X5_V2
            go_wp2_with fail
            refine HK.out _ _ ⟨HB.out, ?_⟩
            clear HK HB
            try simp only [Act.put, List.setIfInBounds_toArray, List.set_cons_zero, List.set_cons_succ]
            exact anyB_stop (by kernel_rfl) (fun u hu => ⟨_, _, _, Aa, Ab, Az, ca, cb, cz, rfl, Lz.out.mono (DepEq.below hu), below_step hS hu⟩)
        · intro g1_V2 hg
          have hS := below_step hS hg
          refine wpOp_step rfl (fun K' hK => ?_)
          have HK := Lib.hid hK
          clear hK
          rw [if_pos (by rfl)]
          go_simp
          have X1_V2 := Lib.hid (show LocksH (g1_V2.alloc (.cells #[.int .u8 3, .string ⟨#[]⟩, .int .i64 exp, .slice none 0 0, .int .u8 1, .string k.theirs, .int .i64 0, .slice none 0 0] 55)) (some ⟨g1_V2.heap.size, 0, none⟩) [afterL exp, sigL k.theirs] [.int .u8 3, .string ⟨#[]⟩, .int .i64 exp, .slice none 0 0, .int .u8 1, .string k.theirs, .int .i64 0, .slice none 0 0] from rowH (cs := #[.int .u8 3, .string ⟨#[]⟩, .int .i64 exp, .slice none 0 0, .int .u8 1, .string k.theirs, .int .i64 0, .slice none 0 0]) (by simp) (fun W hW => LocksC.cons (LockC.leaf 3 _ _) (LocksC.cons (LockC.leaf 1 _ _) LocksC.nil)))
          have hS := below_step hS ((Below.refl _ _).alloc (Nat.le_refl _) (.cells #[.int .u8 3, .string ⟨#[]⟩, .int .i64 exp, .slice none 0 0, .int .u8 1, .string k.theirs, .int .i64 0, .slice none 0 0] 55))
          clear hg
          refine HK.out _ _ ⟨(Below.refl _ _).alloc (Nat.le_refl _) _, ?_⟩
          clear HK
          try simp only [Act.put, List.setIfInBounds_toArray, List.set_cons_zero, List.set_cons_succ]
          refine anyB_one (k := 4) (by kernel_rfl) (by kernel_rfl) (by kernel_rfl) (fun g2_V2 hg => ?_)
          have hS := below_step hS hg
          replace X1_V2 := Lib.hid (X1_V2.out.mono (DepEq.below hg))
          refine wpOp_step rfl (fun K' hK => ?_)
          have HK := Lib.hid hK
          clear hK
          rw [if_pos (by rfl)]
          go_simp
          have X2_V2 := Lib.hid (show LocksH (g2_V2.alloc (.cells #[.int .u8 4, .string ⟨#[]⟩, .int .i64 d.delay, .slice none 0 0, .int .u8 2, .string hash, .int .i64 0, .slice none 0 0, .int .u8 1, .string k.mine, .int .i64 0, .slice none 0 0] 55)) (some ⟨g2_V2.heap.size, 0, none⟩) [olderL d.delay, preL hash, sigL k.mine] [.int .u8 4, .string ⟨#[]⟩, .int .i64 d.delay, .slice none 0 0, .int .u8 2, .string hash, .int .i64 0, .slice none 0 0, .int .u8 1, .string k.mine, .int .i64 0, .slice none 0 0] from rowH (cs := #[.int .u8 4, .string ⟨#[]⟩, .int .i64 d.delay, .slice none 0 0, .int .u8 2, .string hash, .int .i64 0, .slice none 0 0, .int .u8 1, .string k.mine, .int .i64 0, .slice none 0 0]) (by simp) (fun W hW => LocksC.cons (LockC.leaf 4 _ _) (LocksC.cons (LockC.leaf 2 _ _) (LocksC.cons (LockC.leaf 1 _ _) LocksC.nil))))
          have hS := below_step hS ((Below.refl _ _).alloc (Nat.le_refl _) (.cells #[.int .u8 4, .string ⟨#[]⟩, .int .i64 d.delay, .slice none 0 0, .int .u8 2, .string hash, .int .i64 0, .slice none 0 0, .int .u8 1, .string k.mine, .int .i64 0, .slice none 0 0] 55))
          replace X1_V2 := Lib.hid (X1_V2.out.mono (DepEq.below ((Below.refl _ _).alloc (Nat.le_refl _) (.cells #[.int .u8 4, .string ⟨#[]⟩, .int .i64 d.delay, .slice none 0 0, .int .u8 2, .string hash, .int .i64 0, .slice none 0 0, .int .u8 1, .string k.mine, .int .i64 0, .slice none 0 0] 55))))
          clear hg
          refine HK.out _ _ ⟨(Below.refl _ _).alloc (Nat.le_refl _) _, ?_⟩
          clear HK
          try simp only [Act.put, List.setIfInBounds_toArray, List.set_cons_zero, List.set_cons_succ]
          refine anyB_one (k := 5) (by kernel_rfl) (by kernel_rfl) (by kernel_rfl) (fun g3_V2 hg => ?_)
          have hS := below_step hS hg
          replace X1_V2 := Lib.hid (X1_V2.out.mono (DepEq.below hg))
          replace X2_V2 := Lib.hid (X2_V2.out.mono (DepEq.below hg))
          refine wpOp_step rfl (fun K' hK => ?_)
          have HK := Lib.hid hK
          clear hK
          rw [if_pos (by rfl)]
          go_simp
          refine Calls.mono (rall_n [olderL d.delay, preL hash, sigL k.mine] 3 rfl ⟨g2_V2.heap.size, 0, none⟩ 3 _ X2_V2.out) ?_
          rintro e w3_V2 ⟨Aa, ca, rfl, hl, hb⟩
          have hS := below_step hS hb
          replace X1_V2 := Lib.hid (X1_V2.out.mono (DepEq.below hb))
          have HB := Lib.hid hb
          have La := Lib.hid hl
          clear hb hg hl X2_V2
          go_wp2_with fail
          refine HK.out _ _ ⟨HB.out, ?_⟩
          clear HK HB
          try simp only [Act.put, List.setIfInBounds_toArray, List.set_cons_zero, List.set_cons_succ]
          refine anyB_one (k := 9) (by kernel_rfl) (by kernel_rfl) (by kernel_rfl) (fun g4_V2 hg => ?_)
          have hS := below_step hS hg
          replace X1_V2 := Lib.hid (X1_V2.out.mono (DepEq.below hg))
          replace La := Lib.hid (La.out.mono (DepEq.below hg))
          refine wpOp_step rfl (fun K' hK => ?_)
          have HK := Lib.hid hK
          clear hK
          rw [if_pos (by rfl)]
          go_simp
          refine Calls.mono (rall_n [afterL exp, sigL k.theirs] 2 rfl ⟨g1_V2.heap.size, 0, none⟩ 2 _ X1_V2.out) ?_
          rintro e w4_V2 ⟨Ab, cb, rfl, hl, hb⟩
          have hS := below_step hS hb
          replace La := Lib.hid (La.out.mono (DepEq.below hb))
          have HB := Lib.hid hb
          have Lb := Lib.hid hl
          clear hb hg hl X1_V2
          go_wp2_with fail
          refine HK.out _ _ ⟨HB.out, ?_⟩
          clear HK HB
          try simp only [Act.put, List.setIfInBounds_toArray, List.set_cons_zero, List.set_cons_succ]
          refine anyB_one (k := 10) (by kernel_rfl) (by kernel_rfl) (by kernel_rfl) (fun g5_V2 hg => ?_)
          have hS := below_step hS hg
          replace La := Lib.hid (La.out.mono (DepEq.below hg))
          replace Lb := Lib.hid (Lb.out.mono (DepEq.below hg))
          refine wpOp_step rfl (fun K' hK => ?_)
          have HK := Lib.hid hK
          clear hK
          rw [if_pos (by rfl)]
          go_simp
          have X5_V2 := Lib.hid (show LocksH (g5_V2.alloc (.cells #[.int .u8 1, .string k.rev, .int .i64 0, .slice none 0 0, .int .u8 5, .string ⟨#[]⟩, .int .i64 0, .slice Aa 3 ca, .int .u8 5, .string ⟨#[]⟩, .int .i64 0, .slice Ab 2 cb] 55)) (some ⟨g5_V2.heap.size, 0, none⟩) [sigL k.rev, (allL [olderL d.delay, preL hash, sigL k.mine]), (allL [afterL exp, sigL k.theirs])] [.int .u8 1, .string k.rev, .int .i64 0, .slice none 0 0, .int .u8 5, .string ⟨#[]⟩, .int .i64 0, .slice Aa 3 ca, .int .u8 5, .string ⟨#[]⟩, .int .i64 0, .slice Ab 2 cb] from rowH (cs := #[.int .u8 1, .string k.rev, .int .i64 0, .slice none 0 0, .int .u8 5, .string ⟨#[]⟩, .int .i64 0, .slice Aa 3 ca, .int .u8 5, .string ⟨#[]⟩, .int .i64 0, .slice Ab 2 cb]) (by simp) (fun W hW => LocksC.cons (LockC.leaf 1 _ _) (LocksC.cons (La.out W hW) (LocksC.cons (Lb.out W hW) LocksC.nil))))
          have hS := below_step hS ((Below.refl _ _).alloc (Nat.le_refl _) (.cells #[.int .u8 1, .string k.rev, .int .i64 0, .slice none 0 0, .int .u8 5, .string ⟨#[]⟩, .int .i64 0, .slice Aa 3 ca, .int .u8 5, .string ⟨#[]⟩, .int .i64 0, .slice Ab 2 cb] 55))
          replace La := Lib.hid (La.out.mono (DepEq.below ((Below.refl _ _).alloc (Nat.le_refl _) (.cells #[.int .u8 1, .string k.rev, .int .i64 0, .slice none 0 0, .int .u8 5, .string ⟨#[]⟩, .int .i64 0, .slice Aa 3 ca, .int .u8 5, .string ⟨#[]⟩, .int .i64 0, .slice Ab 2 cb] 55))))
          replace Lb := Lib.hid (Lb.out.mono (DepEq.below ((Below.refl _ _).alloc (Nat.le_refl _) (.cells #[.int .u8 1, .string k.rev, .int .i64 0, .slice none 0 0, .int .u8 5, .string ⟨#[]⟩, .int .i64 0, .slice Aa 3 ca, .int .u8 5, .string ⟨#[]⟩, .int .i64 0, .slice Ab 2 cb] 55))))
          clear hg
          refine HK.out _ _ ⟨(Below.refl _ _).alloc (Nat.le_refl _) _, ?_⟩
          clear HK
          try simp only [Act.put, List.setIfInBounds_toArray, List.set_cons_zero, List.set_cons_succ]
          refine anyB_one (k := 11) (by kernel_rfl) (by kernel_rfl) (by kernel_rfl) (fun g6_V2 hg => ?_)
          have hS := below_step hS hg
          replace La := Lib.hid (La.out.mono (DepEq.below hg))
          replace Lb := Lib.hid (Lb.out.mono (DepEq.below hg))
          replace X5_V2 := Lib.hid (X5_V2.out.mono (DepEq.below hg))
          refine wpOp_step rfl (fun K' hK => ?_)
          have HK := Lib.hid hK
          clear hK
          rw [if_pos (by rfl)]
          go_simp
          refine Calls.mono (rany_n [sigL k.rev, (allL [olderL d.delay, preL hash, sigL k.mine]), (allL [afterL exp, sigL k.theirs])] 3 rfl ⟨g5_V2.heap.size, 0, none⟩ 3 _ X5_V2.out) ?_
          rintro e w6_V2 ⟨Az, cz, rfl, hl, hb⟩
          have hS := below_step hS hb
          replace La := Lib.hid (La.out.mono (DepEq.below hb))
          replace Lb := Lib.hid (Lb.out.mono (DepEq.below hb))
          have HB := Lib.hid hb
          have Lz := Lib.hid hl
          clear hb hg hl X5_V2
          go_wp2_with fail
          refine HK.out _ _ ⟨HB.out, ?_⟩
          clear HK HB
          try simp only [Act.put, List.setIfInBounds_toArray, List.set_cons_zero, List.set_cons_succ]
          exact anyB_stop (by kernel_rfl) (fun u hu => ⟨_, _, _, Aa, Ab, Az, ca, cb, cz, rfl, Lz.out.mono (DepEq.below hu), below_step hS hu⟩)
      case hfin =>
        rintro a u bs hl ⟨RA, RB, RC, Aa, Ab, Az, ca, cb, cz, rfl, hlk, hS⟩ hbx hnd
        obtain rfl : bs = [] := List.length_eq_zero_iff.1 (by simpa using hl)
        change wpAny _ _ _ _ 1 #[true, true, true, true, true, true, true, true, true, true, true, true, false] (⟨#[.agg #[.int .i64 d.cap, .int .i64 d.push, .int .i64 d.dust, .int .i64 d.res, .int .i64 d.rate, .int .i64 d.delay, .int .i64 d.maxH, .int .i64 d.flight, .int .i64 d.minH], .agg #[.string k.rev, .string k.later, .string k.mine, .string k.theirs, .string k.pay], .agg #[.bool false, .int .i64 hid, .int .i64 amt, .string hash, .int .i64 exp], .pointer (some ⟨w.heap.size, 0, none⟩), .pointer (some ⟨w.heap.size + 1, 0, none⟩), .pointer (some ⟨w.heap.size + 1 + 1, 0, none⟩), .pointer (some ⟨w.heap.size + 1 + 1 + 1, 0, none⟩), .pointer (some ⟨x0, 0, none⟩), .pointer (some ⟨x1, 0, none⟩), .pointer (some ⟨x2, 0, none⟩), .pointer (some ⟨x3, 0, none⟩), .pointer (some ⟨y0, 0, none⟩), .pointer (some ⟨y1, 0, none⟩), .pointer (some ⟨w.heap.size + 1, 0, none⟩), .string k.rev, .agg #[.int .u8 1, .string k.rev, .int .i64 0, .slice none 0 0], .pointer (some ⟨w.heap.size + 1 + 1, 3, none⟩), .string hash, .agg #[.int .u8 2, .string hash, .int .i64 0, .slice none 0 0], .pointer (some ⟨w.heap.size + 1 + 1, 4, none⟩), .int .i64 exp, .agg #[.int .u8 3, .string ⟨#[]⟩, .int .i64 exp, .slice none 0 0], .pointer (some ⟨w.heap.size, 5, none⟩), .int .i64 d.delay, .agg #[.int .u8 4, .string ⟨#[]⟩, .int .i64 d.delay, .slice none 0 0], .pointer (some ⟨w.heap.size + 1, 2, none⟩), .string k.mine, .agg #[.int .u8 1, .string k.mine, .int .i64 0, .slice none 0 0], .pointer (some ⟨w.heap.size + 1, 3, none⟩), .string k.theirs, .agg #[.int .u8 1, .string k.theirs, .int .i64 0, .slice none 0 0], .pointer (some ⟨w.heap.size + 1 + 1, 0, none⟩), .bool false, undef, undef, undef, undef, undef, undef, undef, undef, undef, undef, undef, undef, .agg #[.int .u8 1, .string k.rev, .int .i64 0, .slice none 0 0], .agg #[.int .u8 4, .string ⟨#[]⟩, .int .i64 d.delay, .slice none 0 0], .agg #[.int .u8 2, .string hash, .int .i64 0, .slice none 0 0], .agg #[.int .u8 1, .string k.mine, .int .i64 0, .slice none 0 0], .slice RA 3 3, .agg #[.int .u8 5, .string ⟨#[]⟩, .int .i64 0, .slice Aa 3 ca], .agg #[.int .u8 3, .string ⟨#[]⟩, .int .i64 exp, .slice none 0 0], .agg #[.int .u8 1, .string k.theirs, .int .i64 0, .slice none 0 0], .slice RB 2 2, .agg #[.int .u8 5, .string ⟨#[]⟩, .int .i64 0, .slice Ab 2 cb], .slice RC 3 3, .agg #[.int .u8 6, .string ⟨#[]⟩, .int .i64 0, .slice Az 3 cz]], []⟩ : Act) u
        have hzr := HZV2.out.below hS
        refine wpAny_one (k := 12) (by kernel_rfl) ?_
        refine wpOp_step rfl (fun K' hK => ?_)
        have HK := Lib.hid hK
        clear hK
        rw [if_pos (by rfl)]
        obtain ⟨p0, p1, p2, p3, pf⟩ := hzr.cells
        go_simp
        refine HK.out _ (putL u (w.heap.size + 1 + 1 + 1) (.int .u8 6) (.string ⟨#[]⟩) (.int .i64 0) (.slice Az 3 cz)) ?_
        clear HK p0 p1 p2 p3 pf
        have hAr := hzr.put 6 ⟨#[]⟩ 0 (.slice Az 3 cz)
        have hFr := putL_fr u (w.heap.size + 1 + 1 + 1) (.int .u8 6) (.string ⟨#[]⟩) (.int .i64 0) (.slice Az 3 cz) (F := [(w.heap.size + 1 + 1 + 1)]) (List.mem_singleton.2 rfl)
        generalize (putL u (w.heap.size + 1 + 1 + 1) (.int .u8 6) (.string ⟨#[]⟩) (.int .i64 0) (.slice Az 3 cz)) = Wf at hAr hFr ⊢
        try simp only [List.setIfInBounds_toArray, List.set_cons_zero, List.set_cons_succ]
        refine wpAny_end (by kernel_rfl) ?_
        refine NoPanic.normal ?_
        obtain ⟨r0, r1, r2, r3, -⟩ := hAr.cells
        have HLF := Lib.hid (hlk.mono (DepEq.box hzr hFr))
        have hu1 : Below w.heap.size w u := HBB.out.trans (hS.mono HBB.out.size)
        have HFF := Lib.hid (hu1.trans (hFr.toBelowOf (B := w.heap.size) hu1.size (fun i hi => by rw [List.mem_singleton.1 hi]; omega)))
        clear hlk hzr hFr hAr hS hu1
        go_wp2_with fail
        exact bodyPost_ret (v := lockV 6 ⟨#[]⟩ 0 Az 3 cz) (by simp [results, Tryz.results28, go_sem, r0, r1, r2, r3, lockV]) rfl ⟨_, rfl, ⟨Az, cz, rfl, HLF.out⟩, HFF.out⟩
end Go.Proofs.YtncniomiplnaaaaGreatDoor
