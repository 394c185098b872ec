/- Three regions of Append that draw their order. · Append: what it tells, and what it leaves. -/
import Derived.Test.YtladknjmoahdoaaQ4
set_option linter.all false
namespace Go.Proofs.Ytladknjmoahdoaa
open Go.RowKit Go

/-- The region of this number. -/
def regOf (n : Nat) : Code → Option Code
  | .region k ops d => if k = n then some (.region k ops d) else none
  | .loop c => regOf n c
  | .seq a b => (regOf n a).or (regOf n b)
  | .block _ c => regOf n c
  | .scope c => regOf n c
  | .cond _ a b => (regOf n a).or (regOf n b)
  | _ => none
noncomputable def appReg (k : Nat) : Code := (Try.f8.body.bind (regOf k)).getD .skip
set_option maxRecDepth 1000000 in
set_option maxHeartbeats 2000000 in
theorem app_reg18 {B L1 L2 lp dp lg ct long' cn : Nat} {name : ByteArray} {vt : Value} {er : Int} {w9 : World} {Q : Exit → Act → World → Prop} (s0 s1 s3 s4 s5 s6 s7 s10 s11 s12 s13 s14 s15 s16 s17 s18 s19 s20 s21 s22 s23 s24 s25 s26 s27 s28 s29 s30 s31 s32 s33 s34 s35 s36 s37 s38 s39 s40 s41 s42 s43 s44 s45 s46 s47 s48 s49 s50 s51 s52 s53 s54 s55 s56 s57 s58 s59 s60 s61 s62 s63 s64 s65 s66 s67 s68 s69 s70 s71 s72 s73 s74 s75 s76 s77 s78 s79 s80 s81 s82 s83 s84 s85 s86 s87 s88 s89 s90 s91 s92 s93 s94 s95 s96 s97 s98 s99 s100 s101 s102 s103 s104 s105 s106 s107 s108 s109 s110 s111 s112 s113 s114 s115 s116 s117 : Value) (T9 : w9.heap[lp]? = some (.cells (logC dp name lg ct vt er) 54)) (z0 : w9.cell? ⟨B, 0, none⟩ = some (.pointer (some ⟨lp, 0, none⟩)))
    (z1 : w9.cell? ⟨L1, 0, none⟩ = some (.int .i64 (long' : Int))) (z2 : w9.cell? ⟨L2, 0, none⟩ = some (.int .i64 (cn : Int))) (hB : B ≠ lp) (hL1 : L1 ≠ lp) (hL2 : L2 ≠ lp)
    (K : ∀ w', w'.heap[lp]? = some (.cells (logC dp name long' cn vt er) 54) → Fr [lp] w9 w' → Q .normal ⟨List.toArray (s0 :: s1 :: (.pointer (some ⟨B, 0, none⟩)) :: s3 :: s4 :: s5 :: s6 :: s7 :: (.pointer (some ⟨L1, 0, none⟩)) :: (.pointer (some ⟨L2, 0, none⟩)) :: s10 :: s11 :: s12 :: s13 :: s14 :: s15 :: s16 :: s17 :: s18 :: s19 :: s20 :: s21 :: s22 :: s23 :: s24 :: s25 :: s26 :: s27 :: s28 :: s29 :: s30 :: s31 :: s32 :: s33 :: s34 :: s35 :: s36 :: s37 :: s38 :: s39 :: s40 :: s41 :: s42 :: s43 :: s44 :: s45 :: s46 :: s47 :: s48 :: s49 :: s50 :: s51 :: s52 :: s53 :: s54 :: s55 :: s56 :: s57 :: s58 :: s59 :: s60 :: s61 :: s62 :: s63 :: s64 :: s65 :: s66 :: s67 :: s68 :: s69 :: s70 :: s71 :: s72 :: s73 :: s74 :: s75 :: s76 :: s77 :: s78 :: s79 :: s80 :: s81 :: s82 :: s83 :: s84 :: s85 :: s86 :: s87 :: s88 :: s89 :: s90 :: s91 :: s92 :: s93 :: s94 :: (.pointer (some ⟨lp, 0, none⟩)) :: (.pointer (some ⟨lp, 0, none⟩)) :: (.int .i64 (long' : Int)) :: (.int .i64 (cn : Int)) :: (.pointer (some ⟨lp, 0, none⟩)) :: (.pointer (some ⟨lp, 2, none⟩)) :: (.pointer (some ⟨lp, 0, none⟩)) :: (.pointer (some ⟨lp, 3, none⟩)) :: s103 :: s104 :: s105 :: s106 :: s107 :: s108 :: s109 :: s110 :: s111 :: s112 :: s113 :: s114 :: s115 :: s116 :: s117 :: []), []⟩ w') : (appReg 18).wp Try.prog Q ⟨List.toArray (s0 :: s1 :: (.pointer (some ⟨B, 0, none⟩)) :: s3 :: s4 :: s5 :: s6 :: s7 :: (.pointer (some ⟨L1, 0, none⟩)) :: (.pointer (some ⟨L2, 0, none⟩)) :: s10 :: s11 :: s12 :: s13 :: s14 :: s15 :: s16 :: s17 :: s18 :: s19 :: s20 :: s21 :: s22 :: s23 :: s24 :: s25 :: s26 :: s27 :: s28 :: s29 :: s30 :: s31 :: s32 :: s33 :: s34 :: s35 :: s36 :: s37 :: s38 :: s39 :: s40 :: s41 :: s42 :: s43 :: s44 :: s45 :: s46 :: s47 :: s48 :: s49 :: s50 :: s51 :: s52 :: s53 :: s54 :: s55 :: s56 :: s57 :: s58 :: s59 :: s60 :: s61 :: s62 :: s63 :: s64 :: s65 :: s66 :: s67 :: s68 :: s69 :: s70 :: s71 :: s72 :: s73 :: s74 :: s75 :: s76 :: s77 :: s78 :: s79 :: s80 :: s81 :: s82 :: s83 :: s84 :: s85 :: s86 :: s87 :: s88 :: s89 :: s90 :: s91 :: s92 :: s93 :: s94 :: s95 :: s96 :: s97 :: s98 :: s99 :: s100 :: s101 :: s102 :: s103 :: s104 :: s105 :: s106 :: s107 :: s108 :: s109 :: s110 :: s111 :: s112 :: s113 :: s114 :: s115 :: s116 :: s117 :: []), []⟩ w9 := by
  have KH := Lib.hid K
  have q2 : w9.cell? ⟨lp, 2, none⟩ = some (.int .i64 (lg : Int)) := cell_of (j := 2) T9 rfl
  have fq2 : w9.frozen? ⟨lp, 2, none⟩ = false := free_of T9 2
  have TH := Lib.hid T9
  clear K T9
  conv => arg 2; whnf
  refine wp_region_noPanic ?_
  refine wp_region_any (by kernel_rfl) (anyG_any (S := fun V : World => Fr [lp] w9 V) (n := 10) _ _ _ _ ?_)
  have hS : Fr [lp] w9 w9.drew := (Fr.refl _ _).drew
  change AnyG _ _ _ _ _ _ 10 (Array.replicate 10 false) _ w9.drew
  refine anyG_take0 (i := 0) (oi := ⟨_, _, _, _, _, _⟩) (v := ?_) rfl (by kernel_rfl) (by kernel_rfl) (by kernel_rfl) (by kernel_rfl) (fun _ _ _ h => h) (Or.inl ⟨by rfl, ?_⟩) hS ?_
  rotate_left
  · (intro w' hSw; have s0 := hSw.cellKept (show B ∉ [lp] by simpa using hB) z0; have s1 := hSw.cellKept (show L1 ∉ [lp] by simpa using hL1) z1; have s2 := hSw.cellKept (show L2 ∉ [lp] by simpa using hL2) z2; go_simp; (try with_reducible rfl))
  try simp only [Act.put, List.setIfInBounds_toArray, List.set_cons_zero, List.set_cons_succ]
  refine anyG_take0 (i := 1) (oi := ⟨_, _, _, _, _, _⟩) (v := ?_) rfl (by kernel_rfl) (by kernel_rfl) (by kernel_rfl) (by kernel_rfl) (fun _ _ _ h => h) (Or.inl ⟨by rfl, ?_⟩) hS ?_
  rotate_left
  · (intro w' hSw; have s0 := hSw.cellKept (show B ∉ [lp] by simpa using hB) z0; have s1 := hSw.cellKept (show L1 ∉ [lp] by simpa using hL1) z1; have s2 := hSw.cellKept (show L2 ∉ [lp] by simpa using hL2) z2; go_simp; (try with_reducible rfl))
  try simp only [Act.put, List.setIfInBounds_toArray, List.set_cons_zero, List.set_cons_succ]
  refine anyG_take0 (i := 2) (oi := ⟨_, _, _, _, _, _⟩) (v := ?_) rfl (by kernel_rfl) (by kernel_rfl) (by kernel_rfl) (by kernel_rfl) (fun _ _ _ h => h) (Or.inl ⟨by rfl, ?_⟩) hS ?_
  rotate_left
  · (intro w' hSw; have s0 := hSw.cellKept (show B ∉ [lp] by simpa using hB) z0; have s1 := hSw.cellKept (show L1 ∉ [lp] by simpa using hL1) z1; have s2 := hSw.cellKept (show L2 ∉ [lp] by simpa using hL2) z2; go_simp; (try with_reducible rfl))
  try simp only [Act.put, List.setIfInBounds_toArray, List.set_cons_zero, List.set_cons_succ]
  refine anyG_take0 (i := 3) (oi := ⟨_, _, _, _, _, _⟩) (v := ?_) rfl (by kernel_rfl) (by kernel_rfl) (by kernel_rfl) (by kernel_rfl) (fun _ _ _ h => h) (Or.inl ⟨by rfl, ?_⟩) hS ?_
  rotate_left
  · (intro w' hSw; have s0 := hSw.cellKept (show B ∉ [lp] by simpa using hB) z0; have s1 := hSw.cellKept (show L1 ∉ [lp] by simpa using hL1) z1; have s2 := hSw.cellKept (show L2 ∉ [lp] by simpa using hL2) z2; go_simp; (try with_reducible rfl))
  try simp only [Act.put, List.setIfInBounds_toArray, List.set_cons_zero, List.set_cons_succ]
  refine anyG_take0 (i := 4) (oi := ⟨_, _, _, _, _, _⟩) (v := ?_) rfl (by kernel_rfl) (by kernel_rfl) (by kernel_rfl) (by kernel_rfl) (fun _ _ _ h => h) (Or.inl ⟨by rfl, ?_⟩) hS ?_
  rotate_left
  · (intro w' hSw; skip; go_simp; (try with_reducible rfl))
  try simp only [Act.put, List.setIfInBounds_toArray, List.set_cons_zero, List.set_cons_succ]
  refine anyG_take0 (i := 5) (oi := ⟨_, _, _, _, _, _⟩) (v := ?_) rfl (by kernel_rfl) (by kernel_rfl) (by kernel_rfl) (by kernel_rfl) (fun _ _ _ h => h) (Or.inl ⟨by rfl, ?_⟩) hS ?_
  rotate_left
  · (intro w' hSw; skip; go_simp; (try with_reducible rfl))
  try simp only [Act.put, List.setIfInBounds_toArray, List.set_cons_zero, List.set_cons_succ]
  refine anyG_all (rs := [6]) (by kernel_rfl) (by simp) (List.forall_mem_singleton.2 ?_)
  refine wpOp_step (o := ⟨_, _, _, _, _, _⟩) rfl (fun K' hK => ?_)
  have HK := Lib.hid hK
  clear hK
  rw [if_pos (by rfl)]
  go_simp
  have hS : Fr [lp] w9 (w9.setCell ⟨lp, 2, none⟩ (.int .i64 (long' : Int))).drew := ((Fr.refl [lp] w9).put lp 2 _ (.inl (by simp))).drew
  have t10 : (w9.setCell ⟨lp, 2, none⟩ (.int .i64 (long' : Int))).drew.heap[lp]? = some (.cells (logC dp name long' ct vt er) 54) := setCell_heap (w := w9) (j := 2) _ TH.out
  generalize (w9.setCell ⟨lp, 2, none⟩ (.int .i64 (long' : Int))).drew = w10 at hS t10 ⊢
  have q3 : w10.cell? ⟨lp, 3, none⟩ = some (.int .i64 (ct : Int)) := cell_of (j := 3) t10 rfl
  have fq3 : w10.frozen? ⟨lp, 3, none⟩ = false := free_of t10 3
  refine HK.out _ _ ⟨fun _ => hS, ?_⟩
  clear HK
  try simp only [Act.put, List.setIfInBounds_toArray, List.set_cons_zero, List.set_cons_succ]
  refine anyG_take0 (i := 7) (oi := ⟨_, _, _, _, _, _⟩) (v := ?_) rfl (by kernel_rfl) (by kernel_rfl) (by kernel_rfl) (by kernel_rfl) (fun _ _ _ h => h) (Or.inl ⟨by rfl, ?_⟩) hS ?_
  rotate_left
  · (intro w' hSw; skip; go_simp; (try with_reducible rfl))
  try simp only [Act.put, List.setIfInBounds_toArray, List.set_cons_zero, List.set_cons_succ]
  refine anyG_take0 (i := 8) (oi := ⟨_, _, _, _, _, _⟩) (v := ?_) rfl (by kernel_rfl) (by kernel_rfl) (by kernel_rfl) (by kernel_rfl) (fun _ _ _ h => h) (Or.inl ⟨by rfl, ?_⟩) hS ?_
  rotate_left
  · (intro w' hSw; skip; go_simp; (try with_reducible rfl))
  try simp only [Act.put, List.setIfInBounds_toArray, List.set_cons_zero, List.set_cons_succ]
  refine anyG_all (rs := [9]) (by kernel_rfl) (by simp) (List.forall_mem_singleton.2 ?_)
  refine wpOp_step (o := ⟨_, _, _, _, _, _⟩) rfl (fun K' hK => ?_)
  have HK := Lib.hid hK
  clear hK
  rw [if_pos (by rfl)]
  go_simp
  have hS : Fr [lp] w9 (w10.setCell ⟨lp, 3, none⟩ (.int .i64 (cn : Int))) := hS.put lp 3 _ (.inl (by simp))
  have t11 : (w10.setCell ⟨lp, 3, none⟩ (.int .i64 (cn : Int))).heap[lp]? = some (.cells (logC dp name long' cn vt er) 54) := setCell_heap (j := 3) _ t10
  generalize w10.setCell ⟨lp, 3, none⟩ (.int .i64 (cn : Int)) = w11 at hS t11 ⊢
  refine HK.out _ _ ⟨fun _ => hS, ?_⟩
  clear HK
  try simp only [Act.put, List.setIfInBounds_toArray, List.set_cons_zero, List.set_cons_succ]
  refine anyG_done (by kernel_rfl) ?_
  refine NoPanic.normal ?_
  exact KH.out _ t11 hS
set_option maxRecDepth 1000000 in
set_option maxHeartbeats 2000000 in
theorem app_reg19 {B L1 bb lp dp long' cn gb bl cb q rq : Nat} {name : ByteArray} {vt : Value} {er : Int} {b : List UInt8} {w9 : World} {Q : Exit → Act → World → Prop} (s0 s1 s3 s4 s6 s7 s9 s10 s11 s12 s13 s14 s15 s16 s17 s18 s19 s20 s21 s22 s23 s24 s25 s26 s27 s28 s29 s30 s31 s32 s33 s34 s35 s36 s37 s38 s39 s40 s41 s42 s43 s44 s45 s46 s47 s48 s49 s50 s51 s52 s53 s54 s55 s56 s57 s58 s59 s60 s61 s62 s63 s64 s65 s66 s67 s68 s69 s70 s71 s72 s73 s74 s75 s76 s77 s78 s79 s80 s81 s82 s83 s84 s85 s86 s87 s88 s89 s90 s91 s92 s93 s94 s95 s96 s97 s98 s99 s100 s101 s102 s103 s104 s105 s106 s107 s108 s109 s110 s111 s112 s113 s114 s115 s116 s117 : Value) (T9 : w9.heap[lp]? = some (.cells (logC dp name long' cn vt er) 54)) (z0 : w9.cell? ⟨B, 0, none⟩ = some (.pointer (some ⟨lp, 0, none⟩)))
    (z1 : w9.cell? ⟨L1, 0, none⟩ = some (.int .i64 (long' : Int))) (z2 : w9.cell? ⟨bb, 0, none⟩ = some (.slice (some ⟨gb, 0, none⟩) bl cb)) (hB : B ≠ lp) (hL1 : L1 ≠ lp) (hbb : bb ≠ lp) (hbl : b.length = bl) (hcb : bl ≤ cb) (hcbl : bl ≤ 1000000000) (hll : long' ≤ 1000000000) (hq : q + long' % 256 = bl) (hrq : q + rq = bl) (hb : Cells w9 (some ⟨gb, 0, none⟩) (bv b))
    (K : ∀ (u108 u109 u110 u111 : Value) w', LogAt w' lp dp name long' cn (b.drop q) er → Fr [lp] w9 w' → Q .normal ⟨List.toArray (s0 :: s1 :: (.pointer (some ⟨B, 0, none⟩)) :: s3 :: s4 :: (.pointer (some ⟨bb, 0, none⟩)) :: s6 :: s7 :: (.pointer (some ⟨L1, 0, none⟩)) :: s9 :: s10 :: s11 :: s12 :: s13 :: s14 :: s15 :: s16 :: s17 :: s18 :: s19 :: s20 :: s21 :: s22 :: s23 :: s24 :: s25 :: s26 :: s27 :: s28 :: s29 :: s30 :: s31 :: s32 :: s33 :: s34 :: s35 :: s36 :: s37 :: s38 :: s39 :: s40 :: s41 :: s42 :: s43 :: s44 :: s45 :: s46 :: s47 :: s48 :: s49 :: s50 :: s51 :: s52 :: s53 :: s54 :: s55 :: s56 :: s57 :: s58 :: s59 :: s60 :: s61 :: s62 :: s63 :: s64 :: s65 :: s66 :: s67 :: s68 :: s69 :: s70 :: s71 :: s72 :: s73 :: s74 :: s75 :: s76 :: s77 :: s78 :: s79 :: s80 :: s81 :: s82 :: s83 :: s84 :: s85 :: s86 :: s87 :: s88 :: s89 :: s90 :: s91 :: s92 :: s93 :: s94 :: s95 :: s96 :: s97 :: s98 :: s99 :: s100 :: s101 :: s102 :: (.pointer (some ⟨lp, 0, none⟩)) :: (.slice (some ⟨gb, 0, none⟩) bl cb) :: (.slice (some ⟨gb, 0, none⟩) bl cb) :: (.int .i64 (bl : Int)) :: (.int .i64 (long' : Int)) :: u108 :: u109 :: u110 :: u111 :: (.pointer (some ⟨lp, 0, none⟩)) :: (.pointer (some ⟨lp, 4, none⟩)) :: s114 :: s115 :: s116 :: s117 :: []), []⟩ w') : (appReg 19).wp Try.prog Q ⟨List.toArray (s0 :: s1 :: (.pointer (some ⟨B, 0, none⟩)) :: s3 :: s4 :: (.pointer (some ⟨bb, 0, none⟩)) :: s6 :: s7 :: (.pointer (some ⟨L1, 0, none⟩)) :: s9 :: s10 :: s11 :: s12 :: s13 :: s14 :: s15 :: s16 :: s17 :: s18 :: s19 :: s20 :: s21 :: s22 :: s23 :: s24 :: s25 :: s26 :: s27 :: s28 :: s29 :: s30 :: s31 :: s32 :: s33 :: s34 :: s35 :: s36 :: s37 :: s38 :: s39 :: s40 :: s41 :: s42 :: s43 :: s44 :: s45 :: s46 :: s47 :: s48 :: s49 :: s50 :: s51 :: s52 :: s53 :: s54 :: s55 :: s56 :: s57 :: s58 :: s59 :: s60 :: s61 :: s62 :: s63 :: s64 :: s65 :: s66 :: s67 :: s68 :: s69 :: s70 :: s71 :: s72 :: s73 :: s74 :: s75 :: s76 :: s77 :: s78 :: s79 :: s80 :: s81 :: s82 :: s83 :: s84 :: s85 :: s86 :: s87 :: s88 :: s89 :: s90 :: s91 :: s92 :: s93 :: s94 :: s95 :: s96 :: s97 :: s98 :: s99 :: s100 :: s101 :: s102 :: s103 :: s104 :: s105 :: s106 :: s107 :: s108 :: s109 :: s110 :: s111 :: s112 :: s113 :: s114 :: s115 :: s116 :: s117 :: []), []⟩ w9 := by
  have KH := Lib.hid K
  have TH := Lib.hid T9
  have hqi : ((bl : Int) - ((long' % 256 : Nat) : Int)) = (q : Int) := by omega
  have hqi2 : ((bl : Int) - (long' : Int) % 256) = (q : Int) := by omega
  have hqm : Int.tmod (long' : Int) 256 = ((long' % 256 : Nat) : Int) := by rw [Int.tmod_eq_emod_of_nonneg (by omega)]; omega
  have hql : q ≤ bl := by omega
  have hqc : q ≤ cb := by omega
  have hqr : bl - q = rq := by omega
  have hwq : IntKind.i64.wrap (q : Int) = (q : Int) := IntWalk.i64_in _ (by omega)
  have hq0 : (0 : Int) ≤ (q : Int) := by omega
  have hqb : (q : Int) ≤ (bl : Int) := by omega
  have HLQ := Lib.hid (show (b.drop q).length = rq from by rw [List.length_drop, hbl]; exact hqr)
  have HQB := Lib.hid (show bv (b.drop q) = (bv b).drop q from by unfold bv; rw [List.map_drop])
  clear K T9 hq hrq hbl
  by_cases hcq : cb = q
  · have hr0 : rq = 0 := by omega
    have HCQ := Lib.hid (show Cells w9 (some ⟨gb, 0, none⟩) ((bv b).drop q) from by
      rw [← HQB.out, List.eq_nil_of_length_eq_zero (HLQ.out.trans hr0)]
      exact fun h => absurd h (by simp [bv]))
    clear hb
    obtain rfl : q = cb := hcq.symm
    subst hr0
    conv => arg 2; whnf
    refine wp_region_noPanic ?_
    refine wp_region_any (by kernel_rfl) (anyG_any (S := fun V : World => Fr [lp] w9 V) (n := 12) _ _ _ _ ?_)
    have hS : Fr [lp] w9 w9.drew := (Fr.refl _ _).drew
    change AnyG _ _ _ _ _ _ 12 (Array.replicate 12 false) _ w9.drew
    refine anyG_take0 (i := 0) (oi := ⟨_, _, _, _, _, _⟩) (v := ?_) rfl (by kernel_rfl) (by kernel_rfl) (by kernel_rfl) (by kernel_rfl) (fun _ _ _ h => h) (Or.inl ⟨by rfl, ?_⟩) hS ?_
    rotate_left
    · (intro w' hSw; have s0 := hSw.cellKept (show B ∉ [lp] by simpa using hB) z0; have s1 := hSw.cellKept (show L1 ∉ [lp] by simpa using hL1) z1; have s2 := hSw.cellKept (show bb ∉ [lp] by simpa using hbb) z2; go_simp; (try with_reducible rfl))
    try simp only [Act.put, List.setIfInBounds_toArray, List.set_cons_zero, List.set_cons_succ]
    refine anyG_take0 (i := 1) (oi := ⟨_, _, _, _, _, _⟩) (v := ?_) rfl (by kernel_rfl) (by kernel_rfl) (by kernel_rfl) (by kernel_rfl) (fun _ _ _ h => h) (Or.inl ⟨by rfl, ?_⟩) hS ?_
    rotate_left
    · (intro w' hSw; have s0 := hSw.cellKept (show B ∉ [lp] by simpa using hB) z0; have s1 := hSw.cellKept (show L1 ∉ [lp] by simpa using hL1) z1; have s2 := hSw.cellKept (show bb ∉ [lp] by simpa using hbb) z2; go_simp; (try with_reducible rfl))
    try simp only [Act.put, List.setIfInBounds_toArray, List.set_cons_zero, List.set_cons_succ]
    refine anyG_take0 (i := 2) (oi := ⟨_, _, _, _, _, _⟩) (v := ?_) rfl (by kernel_rfl) (by kernel_rfl) (by kernel_rfl) (by kernel_rfl) (fun _ _ _ h => h) (Or.inl ⟨by rfl, ?_⟩) hS ?_
    rotate_left
    · (intro w' hSw; have s0 := hSw.cellKept (show B ∉ [lp] by simpa using hB) z0; have s1 := hSw.cellKept (show L1 ∉ [lp] by simpa using hL1) z1; have s2 := hSw.cellKept (show bb ∉ [lp] by simpa using hbb) z2; go_simp; (try with_reducible rfl))
    try simp only [Act.put, List.setIfInBounds_toArray, List.set_cons_zero, List.set_cons_succ]
    refine anyG_take0 (i := 3) (oi := ⟨_, _, _, _, _, _⟩) (v := ?_) rfl (by kernel_rfl) (by kernel_rfl) (by kernel_rfl) (by kernel_rfl) (fun _ _ _ h => h) (Or.inl ⟨by rfl, ?_⟩) hS ?_
    rotate_left
    · (intro w' hSw; skip; go_simp; (try with_reducible rfl))
    try simp only [Act.put, List.setIfInBounds_toArray, List.set_cons_zero, List.set_cons_succ]
    refine anyG_take0 (i := 4) (oi := ⟨_, _, _, _, _, _⟩) (v := ?_) rfl (by kernel_rfl) (by kernel_rfl) (by kernel_rfl) (by kernel_rfl) (fun _ _ _ h => h) (Or.inl ⟨by rfl, ?_⟩) hS ?_
    rotate_left
    · (intro w' hSw; have s0 := hSw.cellKept (show B ∉ [lp] by simpa using hB) z0; have s1 := hSw.cellKept (show L1 ∉ [lp] by simpa using hL1) z1; have s2 := hSw.cellKept (show bb ∉ [lp] by simpa using hbb) z2; go_simp; (try with_reducible rfl))
    try simp only [Act.put, List.setIfInBounds_toArray, List.set_cons_zero, List.set_cons_succ]
    refine anyG_take0 (i := 5) (oi := ⟨_, _, _, _, _, _⟩) (v := ?_) rfl (by kernel_rfl) (by kernel_rfl) (by kernel_rfl) (by kernel_rfl) (fun _ _ _ h => h) (Or.inl ⟨by rfl, ?_⟩) hS ?_
    rotate_left
    · (intro w' hSw; skip; go_simp; (try with_reducible rfl))
    try simp only [Act.put, List.setIfInBounds_toArray, List.set_cons_zero, List.set_cons_succ]
    refine anyG_take0 (i := 6) (oi := ⟨_, _, _, _, _, _⟩) (v := ?_) rfl (by kernel_rfl) (by kernel_rfl) (by kernel_rfl) (by kernel_rfl) (fun _ _ _ h => h) (Or.inl ⟨by rfl, ?_⟩) hS ?_
    rotate_left
    · (intro w' hSw; skip; go_simp; (try with_reducible rfl))
    try simp only [Act.put, List.setIfInBounds_toArray, List.set_cons_zero, List.set_cons_succ]
    refine anyG_take0 (i := 7) (oi := ⟨_, _, _, _, _, _⟩) (v := ?_) rfl (by kernel_rfl) (by kernel_rfl) (by kernel_rfl) (by kernel_rfl) (fun _ _ _ h => h) (Or.inl ⟨by rfl, ?_⟩) hS ?_
    rotate_left
    · (intro w' hSw; skip; go_simp; (try with_reducible rfl))
    try simp only [Act.put, List.setIfInBounds_toArray, List.set_cons_zero, List.set_cons_succ]
    refine anyG_all (rs := [8]) (by kernel_rfl) (by simp) (List.forall_mem_singleton.2 ?_)
    refine wpOp_step (o := ⟨_, _, _, _, _, _⟩) rfl (fun K' hK => ?_)
    have HK := Lib.hid hK
    clear hK
    rw [if_pos (by rfl)]
    go_simp
    refine (cloneB_any (b.drop q) (some ⟨gb, 0, none⟩) 0 0 w9.drew HLQ.out (by omega) (by rw [HQB.out]; exact HCQ.out.drew)).mono ?_
    rintro e w10 ⟨v', rfl, hcp⟩
    obtain ⟨A3, c3, hv3, hc3, -⟩ := own_shape hcp.own
    rw [HLQ.out] at hv3 hc3
    subst hv3
    have hS : Fr [lp] w9 w10 := (Fr.refl [lp] w9).drew.and (Fr.below hcp.below)
    have hU : U8Kept w9 w10 := U8Kept.below (w := w9) ((Below.refl _ _).drew.trans hcp.below)
    have t10 := hcp.below.block lp (lt_of_block (show w9.drew.heap[lp]? = _ from TH.out))
    have t11 : w10.heap[lp]? = some (.cells (logC dp name long' cn vt er) 54) := t10.trans TH.out
    have q4 : w10.cell? ⟨lp, 4, none⟩ = some vt := cell_of (j := 4) t11 rfl
    have fq4 : w10.frozen? ⟨lp, 4, none⟩ = false := free_of t11 4
    have HCPE := Lib.hid hcp
    have HT11 := Lib.hid t11
    have HUU := Lib.hid hU
    have HC3 := Lib.hid hc3
    clear hcp t10 t11 hU hc3
    go_wp2_with fail
    refine HK.out _ _ ⟨fun _ => hS, ?_⟩
    clear HK
    try simp only [Act.put, List.setIfInBounds_toArray, List.set_cons_zero, List.set_cons_succ]
    refine anyG_take0 (i := 9) (oi := ⟨_, _, _, _, _, _⟩) (v := ?_) rfl (by kernel_rfl) (by kernel_rfl) (by kernel_rfl) (by kernel_rfl) (fun _ _ _ h => h) (Or.inl ⟨by rfl, ?_⟩) hS ?_
    rotate_left
    · (intro w' hSw; skip; go_simp; (try with_reducible rfl))
    try simp only [Act.put, List.setIfInBounds_toArray, List.set_cons_zero, List.set_cons_succ]
    refine anyG_take0 (i := 10) (oi := ⟨_, _, _, _, _, _⟩) (v := ?_) rfl (by kernel_rfl) (by kernel_rfl) (by kernel_rfl) (by kernel_rfl) (fun _ _ _ h => h) (Or.inl ⟨by rfl, ?_⟩) hS ?_
    rotate_left
    · (intro w' hSw; skip; go_simp; (try with_reducible rfl))
    try simp only [Act.put, List.setIfInBounds_toArray, List.set_cons_zero, List.set_cons_succ]
    refine anyG_all (rs := [11]) (by kernel_rfl) (by simp) (List.forall_mem_singleton.2 ?_)
    refine wpOp_step (o := ⟨_, _, _, _, _, _⟩) rfl (fun K' hK => ?_)
    have HK := Lib.hid hK
    clear hK
    rw [if_pos (by rfl)]
    go_simp
    have hS : Fr [lp] w9 (w10.setCell ⟨lp, 4, none⟩ (.slice A3 0 c3)) := hS.put lp 4 _ (.inl (by simp))
    have t12 := setCell_heap (j := 4) (.slice A3 0 c3) HT11.out
    have hu2 : U8Kept w10 (w10.setCell ⟨lp, 4, none⟩ (.slice A3 0 c3)) := U8Kept.fr ((Fr.refl [lp] w10).put lp 4 (.slice A3 0 c3) (.inl (by simp))) fun i hi cur fr he => by
      simp only [List.mem_singleton] at hi
      subst hi
      rw [HT11.out] at he
      cases he
    have hf : LogAt (w10.setCell ⟨lp, 4, none⟩ (.slice A3 0 c3)) lp dp name long' cn (b.drop q) er := ⟨A3, c3, by rw [HLQ.out]; exact t12, by rw [HLQ.out]; exact HC3.out, (BytesAt.own (n := 0) (c := c3) (by have h1 := HCPE.out.own; rw [HLQ.out] at h1; exact h1)).kept hu2⟩
    generalize w10.setCell ⟨lp, 4, none⟩ (.slice A3 0 c3) = w11 at hS hf ⊢
    refine HK.out _ _ ⟨fun _ => hS, ?_⟩
    clear HK
    try simp only [Act.put, List.setIfInBounds_toArray, List.set_cons_zero, List.set_cons_succ]
    refine anyG_done (by kernel_rfl) ?_
    refine NoPanic.normal ?_
    exact KH.out _ _ _ _ _ hf hS
  · have HCQ := Lib.hid (show Cells w9 (some ⟨gb, q, none⟩) ((bv b).drop q) from by
      have h1 := cells_drop hb q
      rw [Go.WideShapes.add_plain, Nat.zero_add] at h1
      exact h1)
    clear hb
    conv => arg 2; whnf
    refine wp_region_noPanic ?_
    refine wp_region_any (by kernel_rfl) (anyG_any (S := fun V : World => Fr [lp] w9 V) (n := 12) _ _ _ _ ?_)
    have hS : Fr [lp] w9 w9.drew := (Fr.refl _ _).drew
    change AnyG _ _ _ _ _ _ 12 (Array.replicate 12 false) _ w9.drew
    refine anyG_take0 (i := 0) (oi := ⟨_, _, _, _, _, _⟩) (v := ?_) rfl (by kernel_rfl) (by kernel_rfl) (by kernel_rfl) (by kernel_rfl) (fun _ _ _ h => h) (Or.inl ⟨by rfl, ?_⟩) hS ?_
    rotate_left
    · (intro w' hSw; have s0 := hSw.cellKept (show B ∉ [lp] by simpa using hB) z0; have s1 := hSw.cellKept (show L1 ∉ [lp] by simpa using hL1) z1; have s2 := hSw.cellKept (show bb ∉ [lp] by simpa using hbb) z2; go_simp; (try with_reducible rfl))
    try simp only [Act.put, List.setIfInBounds_toArray, List.set_cons_zero, List.set_cons_succ]
    refine anyG_take0 (i := 1) (oi := ⟨_, _, _, _, _, _⟩) (v := ?_) rfl (by kernel_rfl) (by kernel_rfl) (by kernel_rfl) (by kernel_rfl) (fun _ _ _ h => h) (Or.inl ⟨by rfl, ?_⟩) hS ?_
    rotate_left
    · (intro w' hSw; have s0 := hSw.cellKept (show B ∉ [lp] by simpa using hB) z0; have s1 := hSw.cellKept (show L1 ∉ [lp] by simpa using hL1) z1; have s2 := hSw.cellKept (show bb ∉ [lp] by simpa using hbb) z2; go_simp; (try with_reducible rfl))
    try simp only [Act.put, List.setIfInBounds_toArray, List.set_cons_zero, List.set_cons_succ]
    refine anyG_take0 (i := 2) (oi := ⟨_, _, _, _, _, _⟩) (v := ?_) rfl (by kernel_rfl) (by kernel_rfl) (by kernel_rfl) (by kernel_rfl) (fun _ _ _ h => h) (Or.inl ⟨by rfl, ?_⟩) hS ?_
    rotate_left
    · (intro w' hSw; have s0 := hSw.cellKept (show B ∉ [lp] by simpa using hB) z0; have s1 := hSw.cellKept (show L1 ∉ [lp] by simpa using hL1) z1; have s2 := hSw.cellKept (show bb ∉ [lp] by simpa using hbb) z2; go_simp; (try with_reducible rfl))
    try simp only [Act.put, List.setIfInBounds_toArray, List.set_cons_zero, List.set_cons_succ]
    refine anyG_take0 (i := 3) (oi := ⟨_, _, _, _, _, _⟩) (v := ?_) rfl (by kernel_rfl) (by kernel_rfl) (by kernel_rfl) (by kernel_rfl) (fun _ _ _ h => h) (Or.inl ⟨by rfl, ?_⟩) hS ?_
    rotate_left
    · (intro w' hSw; skip; go_simp; (try with_reducible rfl))
    try simp only [Act.put, List.setIfInBounds_toArray, List.set_cons_zero, List.set_cons_succ]
    refine anyG_take0 (i := 4) (oi := ⟨_, _, _, _, _, _⟩) (v := ?_) rfl (by kernel_rfl) (by kernel_rfl) (by kernel_rfl) (by kernel_rfl) (fun _ _ _ h => h) (Or.inl ⟨by rfl, ?_⟩) hS ?_
    rotate_left
    · (intro w' hSw; have s0 := hSw.cellKept (show B ∉ [lp] by simpa using hB) z0; have s1 := hSw.cellKept (show L1 ∉ [lp] by simpa using hL1) z1; have s2 := hSw.cellKept (show bb ∉ [lp] by simpa using hbb) z2; go_simp; (try with_reducible rfl))
    try simp only [Act.put, List.setIfInBounds_toArray, List.set_cons_zero, List.set_cons_succ]
    refine anyG_take0 (i := 5) (oi := ⟨_, _, _, _, _, _⟩) (v := ?_) rfl (by kernel_rfl) (by kernel_rfl) (by kernel_rfl) (by kernel_rfl) (fun _ _ _ h => h) (Or.inl ⟨by rfl, ?_⟩) hS ?_
    rotate_left
    · (intro w' hSw; skip; go_simp; (try with_reducible rfl))
    try simp only [Act.put, List.setIfInBounds_toArray, List.set_cons_zero, List.set_cons_succ]
    refine anyG_take0 (i := 6) (oi := ⟨_, _, _, _, _, _⟩) (v := ?_) rfl (by kernel_rfl) (by kernel_rfl) (by kernel_rfl) (by kernel_rfl) (fun _ _ _ h => h) (Or.inl ⟨by rfl, ?_⟩) hS ?_
    rotate_left
    · (intro w' hSw; skip; go_simp; (try with_reducible rfl))
    try simp only [Act.put, List.setIfInBounds_toArray, List.set_cons_zero, List.set_cons_succ]
    refine anyG_take0 (i := 7) (oi := ⟨_, _, _, _, _, _⟩) (v := ?_) rfl (by kernel_rfl) (by kernel_rfl) (by kernel_rfl) (by kernel_rfl) (fun _ _ _ h => h) (Or.inl ⟨by rfl, ?_⟩) hS ?_
    rotate_left
    · (intro w' hSw; skip; go_simp; (try with_reducible rfl))
    try simp only [Act.put, List.setIfInBounds_toArray, List.set_cons_zero, List.set_cons_succ]
    refine anyG_all (rs := [8]) (by kernel_rfl) (by simp) (List.forall_mem_singleton.2 ?_)
    refine wpOp_step (o := ⟨_, _, _, _, _, _⟩) rfl (fun K' hK => ?_)
    have HK := Lib.hid hK
    clear hK
    rw [if_pos (by rfl)]
    go_simp
    refine (cloneB_any (b.drop q) (some ⟨gb, q, none⟩) rq (cb - q) w9.drew HLQ.out (by omega) (by rw [HQB.out]; exact HCQ.out.drew)).mono ?_
    rintro e w10 ⟨v', rfl, hcp⟩
    obtain ⟨A3, c3, hv3, hc3, -⟩ := own_shape hcp.own
    rw [HLQ.out] at hv3 hc3
    subst hv3
    have hS : Fr [lp] w9 w10 := (Fr.refl [lp] w9).drew.and (Fr.below hcp.below)
    have hU : U8Kept w9 w10 := U8Kept.below (w := w9) ((Below.refl _ _).drew.trans hcp.below)
    have t10 := hcp.below.block lp (lt_of_block (show w9.drew.heap[lp]? = _ from TH.out))
    have t11 : w10.heap[lp]? = some (.cells (logC dp name long' cn vt er) 54) := t10.trans TH.out
    have q4 : w10.cell? ⟨lp, 4, none⟩ = some vt := cell_of (j := 4) t11 rfl
    have fq4 : w10.frozen? ⟨lp, 4, none⟩ = false := free_of t11 4
    have HCPE := Lib.hid hcp
    have HT11 := Lib.hid t11
    have HUU := Lib.hid hU
    have HC3 := Lib.hid hc3
    clear hcp t10 t11 hU hc3
    go_wp2_with fail
    refine HK.out _ _ ⟨fun _ => hS, ?_⟩
    clear HK
    try simp only [Act.put, List.setIfInBounds_toArray, List.set_cons_zero, List.set_cons_succ]
    refine anyG_take0 (i := 9) (oi := ⟨_, _, _, _, _, _⟩) (v := ?_) rfl (by kernel_rfl) (by kernel_rfl) (by kernel_rfl) (by kernel_rfl) (fun _ _ _ h => h) (Or.inl ⟨by rfl, ?_⟩) hS ?_
    rotate_left
    · (intro w' hSw; skip; go_simp; (try with_reducible rfl))
    try simp only [Act.put, List.setIfInBounds_toArray, List.set_cons_zero, List.set_cons_succ]
    refine anyG_take0 (i := 10) (oi := ⟨_, _, _, _, _, _⟩) (v := ?_) rfl (by kernel_rfl) (by kernel_rfl) (by kernel_rfl) (by kernel_rfl) (fun _ _ _ h => h) (Or.inl ⟨by rfl, ?_⟩) hS ?_
    rotate_left
    · (intro w' hSw; skip; go_simp; (try with_reducible rfl))
    try simp only [Act.put, List.setIfInBounds_toArray, List.set_cons_zero, List.set_cons_succ]
    refine anyG_all (rs := [11]) (by kernel_rfl) (by simp) (List.forall_mem_singleton.2 ?_)
    refine wpOp_step (o := ⟨_, _, _, _, _, _⟩) rfl (fun K' hK => ?_)
    have HK := Lib.hid hK
    clear hK
    rw [if_pos (by rfl)]
    go_simp
    have hS : Fr [lp] w9 (w10.setCell ⟨lp, 4, none⟩ (.slice A3 rq c3)) := hS.put lp 4 _ (.inl (by simp))
    have t12 := setCell_heap (j := 4) (.slice A3 rq c3) HT11.out
    have hu2 : U8Kept w10 (w10.setCell ⟨lp, 4, none⟩ (.slice A3 rq c3)) := U8Kept.fr ((Fr.refl [lp] w10).put lp 4 (.slice A3 rq c3) (.inl (by simp))) fun i hi cur fr he => by
      simp only [List.mem_singleton] at hi
      subst hi
      rw [HT11.out] at he
      cases he
    have hf : LogAt (w10.setCell ⟨lp, 4, none⟩ (.slice A3 rq c3)) lp dp name long' cn (b.drop q) er := ⟨A3, c3, by rw [HLQ.out]; exact t12, by rw [HLQ.out]; exact HC3.out, (BytesAt.own (n := rq) (c := c3) (by have h1 := HCPE.out.own; rw [HLQ.out] at h1; exact h1)).kept hu2⟩
    generalize w10.setCell ⟨lp, 4, none⟩ (.slice A3 rq c3) = w11 at hS hf ⊢
    refine HK.out _ _ ⟨fun _ => hS, ?_⟩
    clear HK
    try simp only [Act.put, List.setIfInBounds_toArray, List.set_cons_zero, List.set_cons_succ]
    refine anyG_done (by kernel_rfl) ?_
    refine NoPanic.normal ?_
    exact KH.out _ _ _ _ _ hf hS
set_option maxRecDepth 1000000 in
set_option maxHeartbeats 2000000 in
theorem app_reg16 {B bb L1 L2 lp dp lg ct long' cn gb bl cb : Nat} {F : List Nat} {d : DiskT} {name : ByteArray} {vt : Value} {b : List UInt8} {r : Int × DiskT} {w6 : World} {Q : Exit → Act → World → Prop} (s0 s1 s3 s4 s6 s7 s11 s12 s13 s14 s15 s16 s17 s18 s19 s20 s21 s22 s23 s24 s25 s26 s27 s28 s29 s30 s31 s32 s33 s34 s35 s36 s37 s38 s39 s40 s41 s42 s43 s44 s45 s46 s47 s48 s49 s50 s51 s52 s53 s54 s55 s56 s57 s58 s59 s60 s61 s62 s63 s64 s65 s66 s67 s68 s69 s70 s71 s72 s73 s74 s75 s76 s77 s78 s79 s80 s81 s82 s83 s84 s85 s86 s87 s88 s89 s90 s91 s92 s93 s94 s95 s96 s97 s98 s99 s100 s101 s102 s103 s104 s105 s106 s107 s108 s109 s110 s111 s112 s113 s114 s115 s116 s117 : Value) (hst : d.steps ≤ 1000000000) (y0 : w6.cell? ⟨B, 0, none⟩ = some (.pointer (some ⟨lp, 0, none⟩))) (y1 : w6.cell? ⟨bb, 0, none⟩ = some (.slice (some ⟨gb, 0, none⟩) bl cb))
    (y2 : w6.cell? ⟨L1, 0, none⟩ = some (.int .i64 (long' : Int))) (y3 : w6.cell? ⟨L2, 0, none⟩ = some (.int .i64 (cn : Int))) (y4 : w6.heap[lp]? = some (.cells (logC dp name lg ct vt 0) 54)) (y5 : Cells w6 (some ⟨gb, 0, none⟩) (bv b)) (y6 : DkO w6 dp F d)
    (hB : B ∉ lp :: F) (hbb : bb ∉ F) (hL1 : L1 ∉ F) (hL2 : L2 ∉ F) (hgb : gb ∉ F) (hlp : lp ∉ F) (hbl : b.length = bl) (hcb : bl ≤ cb) (hbls : bl ≤ 1000000000) (hlg : lg ≤ 1000000000) (hll : long' ≤ 1000000000) (hcn : cn ≤ 1000000000) (hr : allL d name lg b long' cn = r)
    (K : ∀ (u82 u83 u84 u85 u86 : Value) w8 F2, LeftO w6 dp F r.2 F2 w8 → U8Kept w6 w8 → w8.heap[lp]? = some (.cells (logC dp name lg ct vt 0) 54) → Q .normal ⟨List.toArray (s0 :: s1 :: (.pointer (some ⟨B, 0, none⟩)) :: s3 :: s4 :: (.pointer (some ⟨bb, 0, none⟩)) :: s6 :: s7 :: (.pointer (some ⟨L1, 0, none⟩)) :: (.pointer (some ⟨L2, 0, none⟩)) :: (.func (.func 28) #[] #[.pointer (some ⟨B, 0, none⟩)]) :: s11 :: s12 :: s13 :: s14 :: s15 :: s16 :: s17 :: s18 :: s19 :: s20 :: s21 :: s22 :: s23 :: s24 :: s25 :: s26 :: s27 :: s28 :: s29 :: s30 :: s31 :: s32 :: s33 :: s34 :: s35 :: s36 :: s37 :: s38 :: s39 :: s40 :: s41 :: s42 :: s43 :: s44 :: s45 :: s46 :: s47 :: s48 :: s49 :: s50 :: s51 :: s52 :: s53 :: s54 :: s55 :: s56 :: s57 :: s58 :: s59 :: s60 :: s61 :: s62 :: s63 :: s64 :: s65 :: s66 :: s67 :: s68 :: s69 :: s70 :: s71 :: s72 :: s73 :: s74 :: s75 :: s76 :: s77 :: s78 :: s79 :: s80 :: (.pointer (some ⟨lp, 0, none⟩)) :: u82 :: u83 :: u84 :: u85 :: u86 :: (.int .i64 r.1) :: (.pointer (some ⟨lp, 0, none⟩)) :: (.pointer (some ⟨lp, 5, none⟩)) :: s90 :: s91 :: s92 :: s93 :: s94 :: s95 :: s96 :: s97 :: s98 :: s99 :: s100 :: s101 :: s102 :: s103 :: s104 :: s105 :: s106 :: s107 :: s108 :: s109 :: s110 :: s111 :: s112 :: s113 :: s114 :: s115 :: s116 :: s117 :: []), []⟩ (w8.setCell ⟨lp, 5, none⟩ (.int .i64 r.1))) : (appReg 16).wp Try.prog Q ⟨List.toArray (s0 :: s1 :: (.pointer (some ⟨B, 0, none⟩)) :: s3 :: s4 :: (.pointer (some ⟨bb, 0, none⟩)) :: s6 :: s7 :: (.pointer (some ⟨L1, 0, none⟩)) :: (.pointer (some ⟨L2, 0, none⟩)) :: (.func (.func 28) #[] #[.pointer (some ⟨B, 0, none⟩)]) :: s11 :: s12 :: s13 :: s14 :: s15 :: s16 :: s17 :: s18 :: s19 :: s20 :: s21 :: s22 :: s23 :: s24 :: s25 :: s26 :: s27 :: s28 :: s29 :: s30 :: s31 :: s32 :: s33 :: s34 :: s35 :: s36 :: s37 :: s38 :: s39 :: s40 :: s41 :: s42 :: s43 :: s44 :: s45 :: s46 :: s47 :: s48 :: s49 :: s50 :: s51 :: s52 :: s53 :: s54 :: s55 :: s56 :: s57 :: s58 :: s59 :: s60 :: s61 :: s62 :: s63 :: s64 :: s65 :: s66 :: s67 :: s68 :: s69 :: s70 :: s71 :: s72 :: s73 :: s74 :: s75 :: s76 :: s77 :: s78 :: s79 :: s80 :: s81 :: s82 :: s83 :: s84 :: s85 :: s86 :: s87 :: s88 :: s89 :: s90 :: s91 :: s92 :: s93 :: s94 :: s95 :: s96 :: s97 :: s98 :: s99 :: s100 :: s101 :: s102 :: s103 :: s104 :: s105 :: s106 :: s107 :: s108 :: s109 :: s110 :: s111 :: s112 :: s113 :: s114 :: s115 :: s116 :: s117 :: []), []⟩ w6 := by
  have KH := Lib.hid K
  have Y := Lib.hid (And.intro y1 (And.intro y2 (And.intro y3 (And.intro y4 (And.intro y5 y6)))))
  have HF := Lib.hid (show w6.heap.size ∉ F from fun hi => by have := y6.lt _ hi; omega)
  have HBF := Lib.hid (show B ∉ F from fun h => hB (List.mem_cons_of_mem _ h))
  clear K y1 y2 y3 y4 y5 y6
  conv => arg 2; whnf
  refine wp_region_noPanic ?_
  refine wp_region_any (by kernel_rfl) (anyG_any (S := fun V : World => Fr (lp :: F) w6 V) (n := 10) _ _ _ _ ?_)
  have hS : Fr (lp :: F) w6 w6.drew := (Fr.refl _ _).drew
  change AnyG _ _ _ _ _ _ 10 (Array.replicate 10 false) _ w6.drew
  refine anyG_take0 (i := 0) (oi := ⟨_, _, _, _, _, _⟩) (v := ?_) rfl (by kernel_rfl) (by kernel_rfl) (by kernel_rfl) (by kernel_rfl) (fun _ _ _ h => h) (Or.inl ⟨by rfl, ?_⟩) hS ?_
  rotate_left
  · (intro w' hSw; have s0 := hSw.cellKept hB y0; go_simp; (try with_reducible rfl))
  try simp only [Act.put, List.setIfInBounds_toArray, List.set_cons_zero, List.set_cons_succ]
  refine anyG_take0 (i := 1) (oi := ⟨_, _, _, _, _, _⟩) (v := ?_) rfl (by kernel_rfl) (by kernel_rfl) (by kernel_rfl) (by kernel_rfl) (fun _ _ _ h => h) (Or.inl ⟨by rfl, ?_⟩) hS ?_
  rotate_left
  · (intro w' hSw; skip; go_simp; (try with_reducible rfl))
  try simp only [Act.put, List.setIfInBounds_toArray, List.set_cons_zero, List.set_cons_succ]
  refine anyG_take0 (i := 2) (oi := ⟨_, _, _, _, _, _⟩) (v := ?_) rfl (by kernel_rfl) (by kernel_rfl) (by kernel_rfl) (by kernel_rfl) (fun _ _ _ h => h) (Or.inl ⟨by rfl, ?_⟩) hS ?_
  rotate_left
  · (intro w' hSw; skip; go_simp; (try with_reducible rfl))
  try simp only [Act.put, List.setIfInBounds_toArray, List.set_cons_zero, List.set_cons_succ]
  refine anyG_take0 (i := 3) (oi := ⟨_, _, _, _, _, _⟩) (v := ?_) rfl (by kernel_rfl) (by kernel_rfl) (by kernel_rfl) (by kernel_rfl) (fun _ _ _ h => h) (Or.inl ⟨by rfl, ?_⟩) hS ?_
  rotate_left
  · (intro w' hSw; skip; go_simp; (try with_reducible rfl))
  try simp only [Act.put, List.setIfInBounds_toArray, List.set_cons_zero, List.set_cons_succ]
  refine anyG_take0 (i := 4) (oi := ⟨_, _, _, _, _, _⟩) (v := ?_) rfl (by kernel_rfl) (by kernel_rfl) (by kernel_rfl) (by kernel_rfl) (fun _ _ _ h => h) (Or.inl ⟨by rfl, ?_⟩) hS ?_
  rotate_left
  · (intro w' hSw; skip; go_simp; (try with_reducible rfl))
  try simp only [Act.put, List.setIfInBounds_toArray, List.set_cons_zero, List.set_cons_succ]
  refine anyG_all (rs := [5]) (by kernel_rfl) (by simp) (List.forall_mem_singleton.2 ?_)
  refine wpOp_step (o := ⟨_, _, _, _, _, _⟩) rfl (fun K' hK => ?_)
  have HK := Lib.hid hK
  clear hK
  rw [if_pos (by rfl)]
  go_simp
  have hS : Fr (lp :: F) w6 (w6.drew.alloc (.cells #[.func (.func 29) #[] #[.pointer (some ⟨B, 0, none⟩), .pointer (some ⟨bb, 0, none⟩)], .func (.func 28) #[] #[.pointer (some ⟨B, 0, none⟩)], .func (.func 31) #[] #[.pointer (some ⟨B, 0, none⟩), .pointer (some ⟨L1, 0, none⟩), .pointer (some ⟨L2, 0, none⟩)], .func (.func 28) #[] #[.pointer (some ⟨B, 0, none⟩)]] 52)) := (Fr.refl _ _).drew.alloc _
  refine HK.out _ _ ⟨fun _ => hS, ?_⟩
  clear HK
  try simp only [Act.put, List.setIfInBounds_toArray, List.set_cons_zero, List.set_cons_succ]
  refine anyG_all (rs := [6]) (by kernel_rfl) (by simp) (List.forall_mem_singleton.2 ?_)
  refine wpOp_step (o := ⟨_, _, _, _, _, _⟩) rfl (fun K' hK => ?_)
  have HK := Lib.hid hK
  clear hK
  rw [if_pos (by rfl)]
  go_simp
  have hb7 : Below w6.heap.size w6 (w6.drew.alloc (.cells #[.func (.func 29) #[] #[.pointer (some ⟨B, 0, none⟩), .pointer (some ⟨bb, 0, none⟩)], .func (.func 28) #[] #[.pointer (some ⟨B, 0, none⟩)], .func (.func 31) #[] #[.pointer (some ⟨B, 0, none⟩), .pointer (some ⟨L1, 0, none⟩), .pointer (some ⟨L2, 0, none⟩)], .func (.func 28) #[] #[.pointer (some ⟨B, 0, none⟩)]] 52)) := (Below.refl _ _).drew.alloc (Nat.le_refl _) _
  have hn7 := Go.heap_alloc_new w6.drew (.cells #[.func (.func 29) #[] #[.pointer (some ⟨B, 0, none⟩), .pointer (some ⟨bb, 0, none⟩)], .func (.func 28) #[] #[.pointer (some ⟨B, 0, none⟩)], .func (.func 31) #[] #[.pointer (some ⟨B, 0, none⟩), .pointer (some ⟨L1, 0, none⟩), .pointer (some ⟨L2, 0, none⟩)], .func (.func 28) #[] #[.pointer (some ⟨B, 0, none⟩)]] 52)
  refine (firstAppend_any (dp := dp) (F := F) (d := d) (name := name) (bl := B) (bb := bb) (b1 := L1) (b2 := L2) (lp := lp) (n := bl) (cb := cb) (long := lg) (long' := long') (count' := cn) (ad := ⟨gb, 0, none⟩) (b := b) (Y.out.2.2.2.2.2.below hb7) hst (cell_below hb7 y0) (cell_below hb7 Y.out.1)
    (cell_below hb7 (cell_of (j := 0) Y.out.2.2.2.1 rfl)) (cell_below hb7 (cell_of (j := 1) Y.out.2.2.2.1 rfl)) (cell_below hb7 (cell_of (j := 2) Y.out.2.2.2.1 rfl)) (cell_below hb7 Y.out.2.1) (cell_below hb7 Y.out.2.2.1) (Y.out.2.2.2.2.1.below hb7) hbl hbls hcb hlg (by omega) (by omega)
    (cell_of (j := 0) hn7 rfl) (cell_of (j := 1) hn7 rfl) (cell_of (j := 2) hn7 rfl) (cell_of (j := 3) hn7 rfl) HBF.out hbb hlp hL1 hL2 HF.out hgb).mono ?_
  rintro e w8 ⟨rfl, F2, hL⟩
  rw [hr] at hL ⊢
  have HU8 := Lib.hid ((U8Kept.below hb7).trans ((Y.out.2.2.2.2.2.below hb7).u8 hL.fr))
  have HL8 := Lib.hid (LeftO.start hb7 hL)
  have hS : Fr (lp :: F) w6 w8 := HL8.out.fr.mono fun i hi _ => List.mem_cons_of_mem _ hi
  have hl8 : w8.heap[lp]? = some (.cells (logC dp name lg ct vt 0) 54) := HL8.out.fr.kept hlp Y.out.2.2.2.1
  have HL8B := Lib.hid hl8
  have x5 : w8.cell? ⟨lp, 5, none⟩ = some (.int .i64 0) := cell_of (j := 5) hl8 rfl
  have fx5 : w8.frozen? ⟨lp, 5, none⟩ = false := free_of hl8 5
  clear hb7 hn7 hL hl8
  go_wp2_with fail
  refine HK.out _ _ ⟨fun _ => hS, ?_⟩
  clear HK
  try simp only [Act.put, List.setIfInBounds_toArray, List.set_cons_zero, List.set_cons_succ]
  refine anyG_take0 (i := 7) (oi := ⟨_, _, _, _, _, _⟩) (v := ?_) rfl (by kernel_rfl) (by kernel_rfl) (by kernel_rfl) (by kernel_rfl) (fun _ _ _ h => h) (Or.inl ⟨by rfl, ?_⟩) hS ?_
  rotate_left
  · (intro w' hSw; skip; go_simp; (try with_reducible rfl))
  try simp only [Act.put, List.setIfInBounds_toArray, List.set_cons_zero, List.set_cons_succ]
  refine anyG_take0 (i := 8) (oi := ⟨_, _, _, _, _, _⟩) (v := ?_) rfl (by kernel_rfl) (by kernel_rfl) (by kernel_rfl) (by kernel_rfl) (fun _ _ _ h => h) (Or.inl ⟨by rfl, ?_⟩) hS ?_
  rotate_left
  · (intro w' hSw; skip; go_simp; (try with_reducible rfl))
  try simp only [Act.put, List.setIfInBounds_toArray, List.set_cons_zero, List.set_cons_succ]
  refine anyG_all (rs := [9]) (by kernel_rfl) (by simp) (List.forall_mem_singleton.2 ?_)
  refine wpOp_step (o := ⟨_, _, _, _, _, _⟩) rfl (fun K' hK => ?_)
  have HK := Lib.hid hK
  clear hK
  rw [if_pos (by rfl)]
  go_simp
  have hS : Fr (lp :: F) w6 (w8.setCell ⟨lp, 5, none⟩ (.int .i64 r.1)) := hS.and (((Fr.refl [lp] w8).put lp 5 _ (.inl (by simp))).mono fun i hi _ => List.mem_cons.2 (.inl (by simpa using hi)))
  refine HK.out _ _ ⟨fun _ => hS, ?_⟩
  clear HK
  try simp only [Act.put, List.setIfInBounds_toArray, List.set_cons_zero, List.set_cons_succ]
  refine anyG_done (by kernel_rfl) ?_
  refine NoPanic.normal ?_
  exact KH.out _ _ _ _ _ w8 F2 HL8.out HU8.out HL8B.out
end Go.Proofs.Ytladknjmoahdoaa

set_option linter.all false
namespace Go.Proofs.Ytladknjmoahdoaa
open Go.RowKit Go

/-- Entries, as they lie at this moment. -/
structure EntC (w : World) (vs : List Value) (es : List (List UInt8)) : Prop where
  len : vs.length = es.length
  at_ : ∀ k (hk : k < es.length), ∃ A c, vs[k]? = some (.slice A es[k].length c) ∧ es[k].length ≤ c ∧ Cells w A (bv es[k])
theorem EntVs.c {w : World} {vs : List Value} {es : List (List UInt8)} (h : EntVs w vs es) : EntC w vs es := ⟨h.len, fun k hk => by obtain ⟨A, c, h1, h2, h3⟩ := h.at_ k hk; exact ⟨A, c, h1, h2, h3.cells⟩⟩
theorem EntC.below {w w' : World} {vs : List Value} {es : List (List UInt8)} (h : EntC w vs es) (hb : Below w.heap.size w w') : EntC w' vs es := ⟨h.len, fun k hk => by obtain ⟨A, c, h1, h2, h3⟩ := h.at_ k hk; exact ⟨A, c, h1, h2, h3.below hb⟩⟩
theorem EntC.append {w : World} {vs us : List Value} {es fs : List (List UInt8)} (h : EntC w vs es) (k : EntC w us fs) : EntC w (vs ++ us) (es ++ fs) := by
  refine ⟨by rw [List.length_append, List.length_append, h.len, k.len], fun j hj => ?_⟩
  rw [List.length_append] at hj
  by_cases hl : j < es.length
  · obtain ⟨A, c, h1, h2, h3⟩ := h.at_ j hl
    refine ⟨A, c, ?_, ?_, ?_⟩
    · rw [List.getElem?_append_left (by rw [h.len]; exact hl), List.getElem_append_left hl]; exact h1
    · rw [List.getElem_append_left hl]; exact h2
    · rw [List.getElem_append_left hl]; exact h3
  · obtain ⟨A, c, h1, h2, h3⟩ := k.at_ (j - es.length) (by omega)
    refine ⟨A, c, ?_, ?_, ?_⟩
    · rw [List.getElem?_append_right (by rw [h.len]; omega), List.getElem_append_right (by omega), h.len]; exact h1
    · rw [List.getElem_append_right (by omega)]; exact h2
    · rw [List.getElem_append_right (by omega)]; exact h3
theorem EntC.one {w : World} {vs : List Value} {es : List (List UInt8)} (h : EntC w vs es) : ∀ u ∈ vs, u.oneCell' = true := fun u hu => by
  obtain ⟨k, hk, rfl⟩ := List.getElem_of_mem hu
  obtain ⟨A, c, h1, -, -⟩ := h.at_ k (by rw [← h.len]; exact hk)
  rw [List.getElem?_eq_getElem hk] at h1
  injection h1 with h1
  rw [h1]; rfl
/-- What Append leaves. -/
def AppLeft (w : World) (lp dp : Nat) (F : List Nat) (name : ByteArray) (d' : DiskT) (l' : LogT) (w' : World) : Prop :=
  ∃ F', DkO w' dp F' d' ∧ Fr (lp :: F) w w' ∧ NewFp w.heap.size F F' ∧ lp ∉ F' ∧ LogAt w' lp dp name l'.long l'.count l'.tail l'.broken
theorem box_apart {w : World} {bb base n : Nat} {x v : Value} {xs : List Value} (h : w.heap[bb]? = some (.cells #[x] 30)) (ho : w.ownsRow base 5 1 v n xs) : bb ∉ v.ownBlock.toList := fun hi => by
  obtain ⟨c, hc⟩ := row_kind ho (g := bb) (by simpa using hi)
  rw [hc] at h
  cases h
theorem row_take {es : List (List UInt8)} {k : Nat} (hk : k < es.length) : rowL (es.take (k + 1)) = rowL (es.take k) ++ (numL es[k].length 4 ++ es[k]) := by
  rw [← List.take_append_getElem hk, rowL_append]
  congr 1
  show (numL es[k].length 4 ++ es[k]) ++ [] = _
  rw [List.append_nil]
theorem row_take_len {es : List (List UInt8)} : ∀ k, k ≤ es.length → (rowL (es.take k)).length ≤ (rowL es).length := fun k _ => by
  conv => rhs; rw [← List.take_append_drop k es, rowL_append, List.length_append]
  omega
theorem row_elem {es : List (List UInt8)} {k : Nat} (hk : k < es.length) : (rowL (es.take k)).length + 4 + es[k].length ≤ (rowL es).length := by
  have h := row_take_len (es := es) (k + 1) hk
  rw [row_take hk, List.length_append, List.length_append, numL_len] at h
  omega
theorem row_big {es : List (List UInt8)} : es.length * 4 ≤ (rowL es).length := by
  have key : ∀ k, k ≤ es.length → k * 4 ≤ (rowL (es.take k)).length := by
    intro k
    induction k with
    | zero => intro _; omega
    | succ k ih =>
      intro hk
      have h1 := ih (by omega)
      rw [row_take (by omega), List.length_append, List.length_append, numL_len]
      omega
  have h := key es.length (Nat.le_refl _)
  rw [List.take_length] at h
  exact h
theorem append_stop {d : DiskT} {name : ByteArray} {l : LogT} {es : List (List UInt8)} (h : l.broken ≠ 0 ∨ es = []) : appendL d name l es = (l.broken, d, l) := by unfold appendL; rw [if_pos h]
theorem append_many {d : DiskT} {name : ByteArray} {l : LogT} {es : List (List UInt8)} (h : ¬ (l.broken ≠ 0 ∨ es = [])) (h2 : tooBig es = true ∨ 65536 < l.count + es.length) : appendL d name l es = (3, d, l) := by unfold appendL; rw [if_neg h, if_pos h2]
theorem append_ok {d : DiskT} {name : ByteArray} {l : LogT} {es : List (List UInt8)} (h : ¬ (l.broken ≠ 0 ∨ es = [])) (h2 : ¬ (tooBig es = true ∨ 65536 < l.count + es.length)) {b : List UInt8} {long' : Nat} {r : Int × DiskT} (hb : l.tail ++ rowL es = b) (hl : l.long - l.tail.length + b.length = long') (hr : allL d name l.long b long' (l.count + es.length) = r) (h3 : r.1 = 0) :
    appendL d name l es = (0, r.2, ⟨long', l.count + es.length, b.drop (b.length - long' % 256), 0⟩) := by
  unfold appendL
  rw [if_neg h, if_neg h2]
  dsimp only
  rw [hb, hl, hr, if_pos h3]
theorem append_fell {d : DiskT} {name : ByteArray} {l : LogT} {es : List (List UInt8)} (h : ¬ (l.broken ≠ 0 ∨ es = [])) (h2 : ¬ (tooBig es = true ∨ 65536 < l.count + es.length)) {b : List UInt8} {long' : Nat} {r : Int × DiskT} (hb : l.tail ++ rowL es = b) (hl : l.long - l.tail.length + b.length = long') (hr : allL d name l.long b long' (l.count + es.length) = r) (h3 : r.1 ≠ 0) :
    appendL d name l es = (r.1, r.2, { l with broken := r.1 }) := by
  unfold appendL
  rw [if_neg h, if_neg h2]
  dsimp only
  rw [hb, hl, hr, if_neg h3]
set_option maxRecDepth 100000 in
set_option maxHeartbeats 16000000 in
theorem append_any {lp dp n c : Nat} {F : List Nat} {d : DiskT} {name : ByteArray} {w : World} {l : LogT} {es : List (List UInt8)} {vs : List Value} {A : Option Addr} (hd : DkO w dp F d) (hst : d.steps ≤ 900000000) (hl : LogAt w lp dp name l.long l.count l.tail l.broken) (hlp : lp ∉ F)
    (htl : l.tail.length = l.long % 256) (hlong : l.long ≤ 100000000) (hcount : l.count ≤ 65536) (hA : Cells w A vs) (hv : EntC w vs es) (hn : es.length = n) (hsz : (rowL es).length ≤ 100000000) :
    Calls Try.prog 8 #[.pointer (some ⟨lp, 0, none⟩), .slice A n c] w fun e w' => e = .returned (.int .i64 (appendL d name l es).1) ∧ AppLeft w lp dp F name (appendL d name l es).2.1 (appendL d name l es).2.2 w' := by
  have hnl : n ≤ 25000000 := by have := row_big (es := es); omega
  have hkeep : l.broken ≠ 0 ∨ es = [] → appendL d name l es = (l.broken, d, l) := append_stop
  have hmany : ¬ (l.broken ≠ 0 ∨ es = []) → (tooBig es = true ∨ 65536 < l.count + es.length) → appendL d name l es = (3, d, l) := append_many
  have hsame : ∀ w', Below w.heap.size w w' → AppLeft w lp dp F name d l w' := fun w' hb => ⟨F, hd.below hb, Fr.below hb, NewFp.refl _ _, hlp, hl.below hb⟩
  obtain ⟨At, tc, hblk, htc, hta⟩ := hl.at_
  obtain ⟨lg, hlg⟩ : ∃ lg, l.long = lg := ⟨_, rfl⟩
  obtain ⟨ct, hct⟩ : ∃ ct, l.count = ct := ⟨_, rfl⟩
  obtain ⟨br, hbr⟩ : ∃ br, l.broken = br := ⟨_, rfl⟩
  obtain ⟨tl, htll⟩ : ∃ tl, l.tail.length = tl := ⟨_, rfl⟩
  have HOKR := Lib.hid (fun (h : ¬ (l.broken ≠ 0 ∨ es = [])) (h2 : ¬ (tooBig es = true ∨ 65536 < l.count + es.length)) => @append_ok d name l es h h2)
  have HFELL := Lib.hid (fun (h : ¬ (l.broken ≠ 0 ∨ es = [])) (h2 : ¬ (tooBig es = true ∨ 65536 < l.count + es.length)) => @append_fell d name l es h h2)
  rw [hlg, hct, hbr, htll] at hblk
  rw [htll] at htc htl
  rw [hlg] at hlong htl
  rw [hct] at hcount
  have HEMP := Lib.hid (show es = [] ↔ n = 0 from ⟨fun h => by rw [← hn, h]; rfl, fun h => List.eq_nil_of_length_eq_zero (hn.trans h)⟩)
  have HB := Lib.hid (containsE_any es vs A n c)
  have HD := Lib.hid hd
  have HST := Lib.hid hst
  have HLP := Lib.hid hlp
  have HA := Lib.hid hA
  have HV := Lib.hid hv
  have HN := Lib.hid hn
  have HTA := Lib.hid hta
  have HBLK := Lib.hid hblk
  have HKEEP := Lib.hid hkeep
  have HMANY := Lib.hid hmany
  have HSAME := Lib.hid hsame
  have HSZ := Lib.hid hsz
  have HEQ := Lib.hid (And.intro hlg (And.intro hct (And.intro hbr htll)))
  have c2 := fun o => cell_below (one_below w o) (show w.cell? ⟨lp, 2, none⟩ = some (.int .i64 (lg : Int)) from cell_of (j := 2) hblk rfl)
  have c3 := fun o => cell_below (one_below w o) (show w.cell? ⟨lp, 3, none⟩ = some (.int .i64 (ct : Int)) from cell_of (j := 3) hblk rfl)
  have c4 := fun o => cell_below (one_below w o) (show w.cell? ⟨lp, 4, none⟩ = some (.slice At tl tc) from cell_of (j := 4) hblk rfl)
  have c5 := fun o => cell_below (one_below w o) (show w.cell? ⟨lp, 5, none⟩ = some (.int .i64 br) from cell_of (j := 5) hblk rfl)
  have HTL := Lib.hid htl
  have htlb : tl ≤ 255 := by omega
  have hlv : LenVs vs es := ⟨hv.len, fun k hk => by obtain ⟨A', c', h1, -, -⟩ := hv.at_ k hk; exact ⟨A', c', h1⟩⟩
  have hsl : ∀ e ∈ es, e.length ≤ 1000000000 := fun e he => by
    obtain ⟨k, hk, rfl⟩ := List.getElem_of_mem he
    have := row_elem hk
    omega
  have HCON := Lib.hid (fun V (hV : Below w.heap.size w V) => containsE_any es vs A n c V hn (by omega) hlv (hA.below hV) hsl)
  clear hd hst hl hlp hA hv hn hta hblk hkeep hmany hsame hsz hlg hct hbr htll HB hlv hsl htl
  go_enter Try.func8, Try.ntmps8
  by_cases hb0 : br = 0
  · by_cases hn0 : n = 0
    · have HK := Lib.hid (HKEEP.out (.inr (HEMP.out.2 hn0)))
      subst hb0
      subst hn0
      go_wp2_with fail
      go_ret
      rw [HK.out]
      exact ⟨(congrArg (fun x => Ending.returned (.int .i64 x)) HEQ.out.2.2.1).symm, HSAME.out _ (one_below _ _)⟩
    · have hns : ¬ (l.broken ≠ 0 ∨ es = []) := fun h => h.elim (fun h => h (HEQ.out.2.2.1.trans hb0)) fun h => hn0 (HEMP.out.1 h)
      have HNS := Lib.hid hns
      subst hb0
      clear hns
      have hn0i : ¬ ((n : Int) = 0) := by omega
      go_wp2_with fail
      refine (HCON.out _ (one_below _ _)).mono ?_
      rintro e w1 ⟨rfl, hw1⟩
      have HW1 := Lib.hid (show Below w.heap.size w w1 from by rw [← hw1]; exact one_below _ _)
      have hw1b := Go.heap_alloc_new w (.cells #[.pointer (some ⟨lp, 0, none⟩)] 24)
      have hw1s : (w.alloc (.cells #[.pointer (some ⟨lp, 0, none⟩)] 24)).heap.size = w.heap.size + 1 := by simp
      have k2 := c2 (.cells #[.pointer (some ⟨lp, 0, none⟩)] 24)
      have k3 := c3 (.cells #[.pointer (some ⟨lp, 0, none⟩)] 24)
      have k4 := c4 (.cells #[.pointer (some ⟨lp, 0, none⟩)] 24)
      rw [hw1] at hw1b hw1s k2 k3 k4
      clear hw1 c2 c3 c4 c5
      obtain ⟨B, hB⟩ : ∃ B, w.heap.size = B := ⟨_, rfl⟩
      rw [hB] at hw1b hw1s
      simp only [hB]
      have b0 : w1.cell? ⟨B, 0, none⟩ = some (.pointer (some ⟨lp, 0, none⟩)) := cell_of (j := 0) hw1b rfl
      have HSB := Lib.hid hB
      have HBOX := Lib.hid hw1b
      have HS1 := Lib.hid hw1s
      clear hw1b hw1s hB HCON
      obtain ⟨tb, htb⟩ : ∃ tb, tooBig es = tb := ⟨_, rfl⟩
      rw [htb]
      have HTB := Lib.hid htb
      clear htb
      cases tb with
      | true =>
        have HK := Lib.hid (HMANY.out HNS.out (.inl HTB.out))
        go_wp2_with fail
        go_ret
        rw [HK.out]
        exact ⟨rfl, HSAME.out _ HW1.out⟩
      | false =>
        by_cases hcb : 65536 < ct + n
        · have hci : ((ct : Int) + (n : Int) > 65536) := by omega
          have HK := Lib.hid (HMANY.out HNS.out (.inr (by rw [HEQ.out.2.1, HN.out]; exact hcb)))
          go_wp2_with fail
          go_ret
          rw [HK.out]
          exact ⟨rfl, HSAME.out _ HW1.out⟩
        · have hci : ¬ ((ct : Int) + (n : Int) > 65536) := by omega
          have HNB := Lib.hid (show ¬ (tooBig es = true ∨ 65536 < l.count + es.length) from fun h => h.elim (fun h => by rw [HTB.out] at h; cases h) fun h => hcb (by rw [HEQ.out.2.1, HN.out] at h; exact h))
          go_wp2_with fail
          refine (cloneB_any l.tail At tl tc w1 HEQ.out.2.2.2 (by omega) (HTA.out.cells.below HW1.out)).mono ?_
          rintro e w2 ⟨v2, rfl, hcp⟩
          obtain ⟨A2, c2, hv2, -, -⟩ := own_shape hcp.own
          rw [HEQ.out.2.2.2] at hv2
          subst hv2
          have HCP := Lib.hid hcp
          clear hcp
          go_wp2_with fail
          obtain ⟨bb, hbb⟩ : ∃ bb, w2.heap.size = bb := ⟨_, rfl⟩
          have hO : (w2.alloc (.cells #[.slice A2 tl c2] 30)).heap[bb]? = some (.cells #[.slice A2 tl c2] 30) := by rw [← hbb]; exact Go.heap_alloc_new _ _
          have hR : (w2.alloc (.cells #[.slice A2 tl c2] 30)).ownsRow w1.heap.size 5 1 (.slice A2 tl c2) l.tail.length (bv l.tail) := own_below HCP.out.own (one_below _ _)
          have hB3 : Below w1.heap.size w1 (w2.alloc (.cells #[.slice A2 tl c2] 30)) := HCP.out.below.trans ((one_below _ _).mono HCP.out.below.size)
          have hbs : w1.heap.size ≤ bb := by rw [← hbb]; exact HCP.out.below.size
          have hbl : bb < (w2.alloc (.cells #[.slice A2 tl c2] 30)).heap.size := lt_of_block hO
          simp only [hbb]
          generalize w2.alloc (.cells #[.slice A2 tl c2] 30) = w3 at hO hR hB3 hbl ⊢
          have HO3 := Lib.hid hO
          have HR3 := Lib.hid hR
          have HB3 := Lib.hid hB3
          have HBS := Lib.hid (And.intro hbs hbl)
          clear hO hR hB3 hbb hbs hbl k2 k3 k4
          go_loopw [49] (fun i wr => ∃ (k : Nat) (v : Value), k ≤ n ∧ i = .int .i64 k ∧ wr.heap[bb]? = some (.cells #[v] 30) ∧ wr.ownsRow w1.heap.size 5 1 v (tl + (rowL (es.take k)).length) (bv (l.tail ++ rowL (es.take k))) ∧ Below w1.heap.size w1 wr ∧ w3.heap.size ≤ wr.heap.size) (fun i _ => n - (intOf i).toNat)
          case atStart => exact ⟨0, .slice A2 tl c2, Nat.zero_le _, rfl, HO3.out, by have h1 := HR3.out; rw [HEQ.out.2.2.2] at h1; simpa [rowL] using h1, HB3.out, Nat.le_refl _⟩
          case round =>
            obtain ⟨k, v, hk, rfl, hbx, hrow, hbw, hsw⟩ := hrel
            have HBX := Lib.hid hbx
            have HROW := Lib.hid hrow
            have HBW := Lib.hid hbw
            have HSW := Lib.hid hsw
            have b0 : wr.cell? ⟨B, 0, none⟩ = some (.pointer (some ⟨lp, 0, none⟩)) := cell_of (j := 0) ((hbw.block B (by rw [HS1.out]; omega)).trans HBOX.out) rfl
            have b1 : wr.cell? ⟨bb, 0, none⟩ = some v := cell_of (j := 0) hbx rfl
            clear hbx hrow hbw hsw
            by_cases hlt : k < n
            · have hkb : k < es.length := by rw [HN.out]; exact hlt
              obtain ⟨Ax, cx, hvx, hcx, hbx⟩ := HV.out.at_ k hkb
              obtain ⟨ad, rfl, hcA⟩ := HA.out (by rw [HV.out.len, HN.out]; omega)
              have hel := row_elem hkb
              have e1 : wr.cell? (ad.add k) = some (.slice Ax es[k].length cx) := cell_below (HW1.out.trans (HBW.out.mono HW1.out.size)) (hcA k _ hvx)
              have hrk := row_take hkb
              obtain ⟨x, hx⟩ : ∃ x, es[k] = x := ⟨_, rfl⟩
              rw [hx] at hrk hel e1 hcx
              obtain ⟨xl, hxl⟩ : ∃ xl, x.length = xl := ⟨_, rfl⟩
              rw [hxl] at hrk hel e1 hcx
              rw [hx] at hbx
              have HX0 := Lib.hid hbx
              obtain ⟨rk, hrkv⟩ : ∃ rk, rowL (es.take k) = rk := ⟨_, rfl⟩
              have hrow := HROW.out
              rw [hrkv] at hrk hel hrow
              obtain ⟨rl, hrl⟩ : ∃ rl, tl + rk.length = rl := ⟨_, rfl⟩
              rw [hrl] at hrow
              have hszz := HSZ.out
              have htl2 := HTL.out
              have hrls : rl ≤ 200000000 := by omega
              have hxls : xl ≤ 100000000 := by omega
              have HROW2 := Lib.hid hrow
              have HRK := Lib.hid hrk
              have HXL := Lib.hid hxl
              have HRL := Lib.hid hrl
              have HNUM := Lib.hid (number_any HROW2.out (by omega) HBW.out.size xl 4 (by omega) (by decide))
              clear hrk hel hrow hrl hxl hx hbx hvx hcA hszz htl2 hrkv
              go_wp2_with fail
              refine HNUM.out.mono ?_
              rintro e V1 ⟨v1, rfl, hg⟩
              obtain ⟨A1, cc1, hv1, -, -⟩ := own_shape hg.own
              subst hv1
              have HG := Lib.hid hg
              have hbw1 : Below w1.heap.size w1 V1 := HBW.out.trans (hg.fr.toBelowOf HBW.out.size fun i hi => (World.ownsRow.lt HROW2.out i (by simpa using hi)).1)
              have hbx1 : V1.heap[bb]? = some (.cells #[v] 30) := hg.fr.kept (box_apart HBX.out HROW2.out) HBX.out
              have HBW1 := Lib.hid hbw1
              have HBX1 := Lib.hid hbx1
              have hsrc : Cells V1 Ax (bv x) := HX0.out.below (HW1.out.trans (hbw1.mono HW1.out.size))
              have HSRC := Lib.hid hsrc
              have hxb : (bv x).length = xl * 1 := by rw [bv_length, HXL.out, Nat.mul_one]
              have HXB := Lib.hid hxb
              have HSV := Lib.hid hbw1.size
              have hrl4 : rl + 4 ≤ 300000000 := by omega
              clear hg hbw1 hbx1 hsrc HNUM b1 hxb
              go_wp2_with (at_builtin; go_must (refine wpList_appk slU8 rfl _ _ rfl w1.heap.size (.slice A1 (rl + 4) cc1) (rl + 4) _ rfl HG.out.own Ax xl cx (bv x) rfl HXB.out HSRC.out (bv_one _) (by omega) (by omega) HSV.out ?_); intro v3 V3 hown3 hg3 hb3 hat3; obtain ⟨A3, c3, hv3, -, -⟩ := own_shape hown3; subst hv3; have hbx3 := (Fr.grown (F := (Value.slice A1 (rl + 4) cc1).ownBlock.toList) hg3 (fun k hk _ => by rw [hk]; simp)).kept (box_apart HBX1.out HG.out.own) HBX1.out; have b3 : V3.cell? ⟨bb, 0, none⟩ = some v := cell_of (j := 0) hbx3 rfl; have f3 : V3.frozen? ⟨bb, 0, none⟩ = false := free_of hbx3 0)
              have t0 := setCell_heap (j := 0) (.slice A3 (rl + 4 + xl) c3) hbx3
              have hps : Fr [bb] V3 (V3.setCell ⟨bb, 0, none⟩ (.slice A3 (rl + 4 + xl) c3)) := (Fr.refl [bb] V3).put bb 0 _ (.inl (by simp))
              have T0 := Lib.hid t0
              have HSS := Lib.hid (show wr.heap.size ≤ (V3.setCell ⟨bb, 0, none⟩ (.slice A3 (rl + 4 + xl) c3)).heap.size from Nat.le_trans HG.out.fr.size (Nat.le_trans hg3.size hps.size))
              have HPS := Lib.hid hps
              have HO3 := Lib.hid (own_fr hown3 hps fun g hg hi => by
                have h1 := box_apart hbx3 hown3
                simp only [List.mem_singleton] at hi
                subst hi
                exact h1 (by rw [hg]; simp))
              have HB4 := Lib.hid ((HBW1.out.trans hb3).trans (hps.toBelowOf (by have := hb3.size; have := HSV.out; omega) fun i hi => by simp only [List.mem_singleton] at hi; subst hi; exact HBS.out.1))
              clear hown3 hg3 hb3 hat3 hbx3 b3 f3 t0 hps
              go_roundw
              case rel =>
                refine ⟨k + 1, .slice A3 (rl + 4 + xl) c3, hlt, by go_num, T0.out, ?_, HB4.out, ?_⟩
                · have h1 := HO3.out
                  rw [HRK.out, List.length_append, List.length_append, numL_len, HXL.out, ← List.append_assoc, ← List.append_assoc]
                  rw [show tl + (rk.length + (4 + xl)) = rl + 4 + xl by have := HRL.out; omega]
                  unfold bv at h1 ⊢
                  simp only [List.map_append] at h1 ⊢
                  simpa only [List.append_assoc] using h1
                · exact Nat.le_trans HSW.out HSS.out
              case measure => simp [intOf]; omega
            · obtain rfl : k = n := by omega
              have htk : es.take k = es := List.take_of_length_le (by rw [HN.out]; exact Nat.le_refl _)
              have hrow := HROW.out
              rw [htk] at hrow
              obtain ⟨b, hb⟩ : ∃ b, l.tail ++ rowL es = b := ⟨_, rfl⟩
              obtain ⟨bl, hbl⟩ : ∃ bl, b.length = bl := ⟨_, rfl⟩
              have hbl2 : tl + (rowL es).length = bl := by rw [← hbl, ← hb, List.length_append, HEQ.out.2.2.2]
              rw [hb, hbl2] at hrow
              have hbig : 4 ≤ bl := by have := row_big (es := es); have := HN.out; omega
              have hbls : bl ≤ 200000000 := by have := HSZ.out; omega
              obtain ⟨gb, cb, hvb, hcb2⟩ := own_nil hrow (by omega)
              subst hvb
              obtain ⟨long', hlong'⟩ : ∃ long', lg - tl + bl = long' := ⟨_, rfl⟩
              have htl2 := HTL.out
              have hli : ((lg : Int) - (tl : Int) + (bl : Int)) = (long' : Int) := by omega
              have hll : long' ≤ 400000000 := by omega
              have HLM := Lib.hid (show long' % 256 = bl % 256 from by omega)
              have HROWB := Lib.hid hrow
              have HBE := Lib.hid (And.intro hb hbl)
              have HLO := Lib.hid (show l.long - l.tail.length + b.length = long' from by rw [HEQ.out.1, HEQ.out.2.2.2, hbl]; exact hlong')
              have hlr : wr.heap[lp]? = some (.cells (logC dp name lg ct (.slice At tl tc) 0) 54) := ((HW1.out.trans (HBW.out.mono HW1.out.size)).block lp (lt_of_block HBLK.out)).trans HBLK.out
              have HLR := Lib.hid hlr
              have k2 : wr.cell? ⟨lp, 2, none⟩ = some (.int .i64 (lg : Int)) := cell_of (j := 2) hlr rfl
              have k4 : wr.cell? ⟨lp, 4, none⟩ = some (.slice At tl tc) := cell_of (j := 4) hlr rfl
              clear htk hrow hb hbl hbl2 hlong' htl2 hlr
              have a0 := fun o => cell_below (one_below wr o) b0
              have a1 := fun o => cell_below (one_below wr o) b1
              have a2 := fun o => cell_below (one_below wr o) k2
              have a4 := fun o => cell_below (one_below wr o) k4
              go_wp2_with fail
              go_region
              obtain ⟨w5, hw5⟩ : ∃ w5, (wr.alloc (.cells #[.int .i64 (long' : Int)] 3)).drew = w5 := ⟨_, rfl⟩
              have hb5 : Below wr.heap.size wr w5 := by rw [← hw5]; exact (one_below _ _).drew
              have hs5 : w5.heap.size = wr.heap.size + 1 := by rw [← hw5]; simp
              have ho5 : w5.heap[wr.heap.size]? = some (.cells #[.int .i64 (long' : Int)] 3) := by rw [← hw5]; exact Go.heap_alloc_new _ _
              rw [hw5]
              clear hw5 a0 a1 a2 a4
              obtain ⟨L1, hL1⟩ : ∃ L1, wr.heap.size = L1 := ⟨_, rfl⟩
              rw [hL1] at ho5 hs5
              simp only [hL1]
              have hwL1 : w3.heap.size ≤ L1 := by rw [← hL1]; exact HSW.out
              have z0 := cell_below hb5 b0
              have z3 : w5.cell? ⟨lp, 3, none⟩ = some (.int .i64 (ct : Int)) := cell_below hb5 (cell_of (j := 3) HLR.out rfl)
              obtain ⟨cn, hcn⟩ : ∃ cn, ct + k = cn := ⟨_, rfl⟩
              have hcni : ((ct : Int) + (k : Int)) = (cn : Int) := by omega
              have hcnl : cn ≤ 65536 := by omega
              have HCN := Lib.hid hcn
              have HB5 := Lib.hid hb5
              have HO5 := Lib.hid ho5
              have HL1 := Lib.hid (And.intro hL1 (And.intro hwL1 hs5))
              clear hcn hb5 ho5 hL1 hwL1 hs5 k2 k4 b1 b0
              go_wp2_with fail
              obtain ⟨w6, hw6⟩ : ∃ w6, w5.alloc (.cells #[.int .i64 (cn : Int)] 3) = w6 := ⟨_, rfl⟩
              have hb6 : Below w5.heap.size w5 w6 := by rw [← hw6]; exact one_below _ _
              have ho6 : w6.heap[w5.heap.size]? = some (.cells #[.int .i64 (cn : Int)] 3) := by rw [← hw6]; exact Go.heap_alloc_new _ _
              rw [hw6]
              clear hw6 z0 z3
              obtain ⟨L2, hL2⟩ : ∃ L2, w5.heap.size = L2 := ⟨_, rfl⟩
              rw [hL2] at ho6
              simp only [hL2]
              have hws := HW1.out.size
              have hws2 := HBW.out.size
              have hws3 := HB5.out.size
              have hwf : Below w.heap.size w w6 := (HW1.out.trans (HBW.out.mono hws)).trans ((HB5.out.mono (Nat.le_trans hws hws2)).trans (hb6.mono (Nat.le_trans (Nat.le_trans hws hws2) hws3)))
              have hrf : Below wr.heap.size wr w6 := HB5.out.trans (hb6.mono hws3)
              have HWF := Lib.hid hwf
              have hFl : ∀ i ∈ F, i < B := fun i hi => by rw [← HSB.out]; exact HD.out.lt i hi
              have hlpl : lp < B := by rw [← HSB.out]; exact lt_of_block HBLK.out
              have h1s := HS1.out
              have hbs := HBS.out.1
              have hbs2 := HBS.out.2
              have hL1s := HL1.out.2
              have nB : ∀ i, B ≤ i → i ∉ lp :: F := fun i hi hm => by
                rcases List.mem_cons.1 hm with h | h
                · omega
                · have := hFl i h; omega
              have nF : ∀ i, B ≤ i → i ∉ F := fun i hi hm => by have := hFl i hm; omega
              have nL : ∀ i, B ≤ i → i ≠ lp := fun i hi hm => by omega
              have hgb := (World.ownsRow.lt HROWB.out gb rfl).1
              have NB := Lib.hid nB
              have NF := Lib.hid nF
              have NL := Lib.hid nL
              have HGE := Lib.hid (And.intro (show B ≤ bb by omega) (And.intro (show B ≤ L1 by omega) (And.intro (show B ≤ L2 by omega) (show B ≤ gb by omega))))
              have y0 : w6.cell? ⟨B, 0, none⟩ = some (.pointer (some ⟨lp, 0, none⟩)) := cell_below hrf (cell_of (j := 0) ((HBW.out.block B (by omega)).trans HBOX.out) rfl)
              have y1 : w6.cell? ⟨bb, 0, none⟩ = some (.slice (some ⟨gb, 0, none⟩) bl cb) := cell_below hrf (cell_of (j := 0) HBX.out rfl)
              have y2 : w6.cell? ⟨L1, 0, none⟩ = some (.int .i64 (long' : Int)) := cell_below hb6 (cell_of (j := 0) HO5.out rfl)
              have y3 : w6.cell? ⟨L2, 0, none⟩ = some (.int .i64 (cn : Int)) := cell_of (j := 0) ho6 rfl
              have y4 : w6.heap[lp]? = some (.cells (logC dp name lg ct (.slice At tl tc) 0) 54) := (hwf.block lp (lt_of_block HBLK.out)).trans HBLK.out
              have y5 : Cells w6 (some ⟨gb, 0, none⟩) (bv b) := by
                obtain ⟨A', c', he, -, hcc⟩ := own_shape HROWB.out
                injection he with he
                subst he
                exact hcc.below hrf
              have y6 : DkO w6 dp F d := HD.out.below hwf
              have Y := Lib.hid (And.intro y0 (And.intro y1 (And.intro y2 (And.intro y3 (And.intro y4 (And.intro y5 y6))))))
              clear hb6 ho6 hws hws2 hws3 hwf hrf hFl h1s hbs hbs2 hL1s nB nF nL hgb y0 y1 y2 y3 y4 y5 y6
              obtain ⟨r, hr⟩ : ∃ r, allL d name lg b long' cn = r := ⟨_, rfl⟩
              refine app_reg16 (F := F) (d := d) (dp := dp) (name := name) (lg := lg) (ct := ct) (vt := .slice At tl tc) (b := b) (r := r) (gb := gb) (bl := bl) (cb := cb) (long' := long') (cn := cn) (B := B) (bb := bb) (L1 := L1) (L2 := L2) (lp := lp) _ _ _ _ _ _ _ _ _ _ _ _ _ _ _ _ _ _ _ _ _ _ _ _ _ _ _ _ _ _ _ _ _ _ _ _ _ _ _ _ _ _ _ _ _ _ _ _ _ _ _ _ _ _ _ _ _ _ _ _ _ _ _ _ _ _ _ _ _ _ _ _ _ _ _ _ _ _ _ _ _ _ _ _ _ _ _ _ _ _ _ _ _ _ _ _ _ _ _ _ _ _ _ _ _ _ _ _ _ _ _ _ _ (Nat.le_trans HST.out (by decide)) Y.out.1 Y.out.2.1 Y.out.2.2.1 Y.out.2.2.2.1 Y.out.2.2.2.2.1 Y.out.2.2.2.2.2.1 Y.out.2.2.2.2.2.2 (NB.out B (Nat.le_refl _)) (NF.out _ HGE.out.1) (NF.out _ HGE.out.2.1) (NF.out _ HGE.out.2.2.1) (NF.out _ HGE.out.2.2.2) HLP.out HBE.out.2 hcb2 (by omega) (by omega) (by omega) (by omega) hr ?_
              intro u82 u83 u84 u85 u86 w8 F2 hL hu8 hl8
              have HR := Lib.hid (show allL d name l.long b long' (l.count + es.length) = r from by rw [HEQ.out.1, HEQ.out.2.1, HN.out, HCN.out]; exact hr)
              have HL8 := Lib.hid hL
              have HL8B := Lib.hid hl8
              have HU8 := Lib.hid hu8
              obtain ⟨er, her⟩ : ∃ er, r.1 = er := ⟨_, rfl⟩
              rw [her]
              have HER := Lib.hid her
              have t9 := setCell_heap (j := 5) (.int .i64 er) HL8B.out
              have hf9 : Fr [lp] w8 (w8.setCell ⟨lp, 5, none⟩ (.int .i64 er)) := (Fr.refl [lp] w8).put lp 5 _ (.inl (by simp))
              have hS : Fr (lp :: F) w6 (w8.setCell ⟨lp, 5, none⟩ (.int .i64 er)) := (HL8.out.fr.mono fun i hi _ => List.mem_cons_of_mem _ hi).and (hf9.mono fun i hi _ => List.mem_cons.2 (.inl (by simpa using hi)))
              obtain ⟨w9, hw9⟩ : ∃ w9, w8.setCell ⟨lp, 5, none⟩ (.int .i64 er) = w9 := ⟨_, rfl⟩
              rw [hw9] at t9 hf9 hS ⊢
              have z0 : w9.cell? ⟨B, 0, none⟩ = some (.pointer (some ⟨lp, 0, none⟩)) := hS.cellKept (NB.out B (Nat.le_refl _)) Y.out.1
              have z5 : w9.cell? ⟨lp, 5, none⟩ = some (.int .i64 er) := cell_of (j := 5) t9 rfl
              have T9 := Lib.hid (show w9.heap[lp]? = some (.cells (logC dp name lg ct (.slice At tl tc) er) 54) from t9)
              have HZ9 := Lib.hid hS
              have HS9 := Lib.hid (show Fr (lp :: F) w w9 from (Fr.below HWF.out).and hS)
              have HU9 := Lib.hid (HU8.out.trans (U8Kept.fr hf9 fun i hi cur fr he => by
                simp only [List.mem_singleton] at hi
                subst hi
                rw [HL8B.out] at he
                cases he))
              have hlpF2 : lp ∉ F2 := (HL8.out.new).out HLP.out (lt_of_block Y.out.2.2.2.2.1)
              have HD9 := Lib.hid (HL8.out.at_.fr hf9 fun i hi hm => hlpF2 (by simp only [List.mem_singleton] at hm; rw [← hm]; exact hi))
              have HLF2 := Lib.hid hlpF2
              have HNEW := Lib.hid (show NewFp w.heap.size F F2 from fun i hi => by
                rcases HL8.out.new i hi with h | h
                · exact .inl h
                · exact .inr (Nat.le_trans HWF.out.size h))
              clear hS t9 hf9 her hw9 hlpF2 hL hu8 hl8 hr
              by_cases hz : er = 0
              · subst hz
                have HF := Lib.hid (HOKR.out HNS.out HNB.out HBE.out.1 HLO.out HR.out HER.out)
                go_wp2_with fail
                refine app_reg18 (lg := lg) (ct := ct) (vt := .slice At tl tc) (er := 0) (dp := dp) (name := name) (long' := long') (cn := cn) (B := B) (L1 := L1) (L2 := L2) (lp := lp) _ _ _ _ _ _ _ _ _ _ _ _ _ _ _ _ _ _ _ _ _ _ _ _ _ _ _ _ _ _ _ _ _ _ _ _ _ _ _ _ _ _ _ _ _ _ _ _ _ _ _ _ _ _ _ _ _ _ _ _ _ _ _ _ _ _ _ _ _ _ _ _ _ _ _ _ _ _ _ _ _ _ _ _ _ _ _ _ _ _ _ _ _ _ _ _ _ _ _ _ _ _ _ _ _ _ _ _ _ _ _ _ _ _ _ T9.out z0 (HZ9.out.cellKept (NB.out _ HGE.out.2.1) Y.out.2.2.1) (HZ9.out.cellKept (NB.out _ HGE.out.2.2.1) Y.out.2.2.2.1) (NL.out _ (Nat.le_refl _)) (NL.out _ HGE.out.2.1) (NL.out _ HGE.out.2.2.1) ?_
                intro w10 t10 hf10
                have T10 := Lib.hid t10
                have HF10 := Lib.hid hf10
                clear z0 z5 t10 hf10
                go_wp2_with fail
                have hm := HLM.out
                obtain ⟨q, hq⟩ : ∃ q, q + long' % 256 = bl := ⟨bl - long' % 256, by omega⟩
                have hS := HZ9.out.trans HF10.out fun i hi _ => List.mem_cons.2 (.inl (by simpa using hi))
                refine app_reg19 (vt := .slice At tl tc) (er := 0) (dp := dp) (name := name) (long' := long') (cn := cn) (B := B) (L1 := L1) (bb := bb) (gb := gb) (bl := bl) (cb := cb) (q := q) (rq := long' % 256) (b := b) (lp := lp) _ _ _ _ _ _ _ _ _ _ _ _ _ _ _ _ _ _ _ _ _ _ _ _ _ _ _ _ _ _ _ _ _ _ _ _ _ _ _ _ _ _ _ _ _ _ _ _ _ _ _ _ _ _ _ _ _ _ _ _ _ _ _ _ _ _ _ _ _ _ _ _ _ _ _ _ _ _ _ _ _ _ _ _ _ _ _ _ _ _ _ _ _ _ _ _ _ _ _ _ _ _ _ _ _ _ _ _ _ _ _ _ _ _ _ T10.out (hS.cellKept (NB.out _ (Nat.le_refl _)) Y.out.1) (hS.cellKept (NB.out _ HGE.out.2.1) Y.out.2.2.1) (hS.cellKept (NB.out _ HGE.out.1) Y.out.2.1) (NL.out _ (Nat.le_refl _)) (NL.out _ HGE.out.2.1) (NL.out _ HGE.out.1) HBE.out.2 hcb2 (by omega) (by omega) hq hq
                  (cells_fr Y.out.2.2.2.2.2.1 hS (NB.out _ HGE.out.2.2.2)) ?_
                intro u108 u109 u110 u111 w11 hla hf11
                have HQ := Lib.hid (show q = b.length - long' % 256 from by rw [HBE.out.2]; omega)
                have HLA := Lib.hid hla
                have HF11 := Lib.hid hf11
                have v0 : w11.cell? ⟨B, 0, none⟩ = some (.pointer (some ⟨lp, 0, none⟩)) := hf11.cellKept (show B ∉ [lp] from fun h => NL.out _ (Nat.le_refl _) (by simpa using h)) (hS.cellKept (NB.out _ (Nat.le_refl _)) Y.out.1)
                have v5 : w11.cell? ⟨lp, 5, none⟩ = some (.int .i64 0) := by
                  obtain ⟨A', c', h1, -, -⟩ := hla.at_
                  exact cell_of (j := 5) h1 rfl
                have hdd := (HD9.out.fr HF10.out fun i hi hm => HLF2.out (by simp only [List.mem_singleton] at hm; rw [← hm]; exact hi)).fr hf11 fun i hi hm => HLF2.out (by simp only [List.mem_singleton] at hm; rw [← hm]; exact hi)
                have HDD := Lib.hid hdd
                have HFF := Lib.hid ((HS9.out.trans HF10.out fun i hi _ => List.mem_cons.2 (.inl (by simpa using hi))).trans hf11 fun i hi _ => List.mem_cons.2 (.inl (by simpa using hi)))
                clear hla hf11 hS hm hq hdd
                go_wp2_with fail
                go_ret
                rw [HF.out]
                refine ⟨rfl, F2, HDD.out, HFF.out, HNEW.out, HLF2.out, ?_⟩
                dsimp only
                rw [HEQ.out.2.1, HN.out, HCN.out, ← HQ.out]
                exact HLA.out
              · have HF := Lib.hid (HFELL.out HNS.out HNB.out HBE.out.1 HLO.out HR.out (by rw [HER.out]; exact hz))
                go_wp2_with fail
                go_ret
                rw [HF.out]
                refine ⟨congrArg (fun x => Ending.returned (.int .i64 x)) HER.out.symm, F2, HD9.out, HS9.out, HNEW.out, HLF2.out, ?_⟩
                dsimp only
                rw [HER.out, HEQ.out.1, HEQ.out.2.1]
                exact ⟨At, tc, by rw [HEQ.out.2.2.2]; exact T9.out, by rw [HEQ.out.2.2.2]; exact htc, (HTA.out.kept (U8Kept.below HWF.out)).kept HU9.out⟩
  · have HK := Lib.hid (HKEEP.out (.inl (by rw [HEQ.out.2.2.1]; exact hb0)))
    go_wp2_with fail
    go_ret
    rw [HK.out]
    exact ⟨(congrArg (fun x => Ending.returned (.int .i64 x)) HEQ.out.2.2.1).symm, HSAME.out _ (one_below _ _)⟩
end Go.Proofs.Ytladknjmoahdoaa
